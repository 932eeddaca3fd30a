/- monoid.Build's answer in plain terms; what it leaves in memory; loads out of a list of transformations. -/
import Derived.Test.YtcnnlddjnmkioaaHSt
set_option linter.unusedVariables false
set_option linter.unusedSimpArgs false
namespace Go.Proofs.Ytcnnlddjnmkioaa.HMon
open Go Go.RowKit Go.Proofs.Ytcnnlddjnmkioaa.HPack Go.Proofs.Ytcnnlddjnmkioaa.HTable Go.Proofs.Ytcnnlddjnmkioaa.HPut Go.Proofs.Ytcnnlddjnmkioaa.HRows Go.Proofs.Ytcnnlddjnmkioaa.HSt Go.Proofs.YtcnnlddjnmkioaaW.PrintWords Go.Proofs.YtcnnlddjnmkioaaW.PrintLast Go.Proofs.YtcnnlddjnmkioaaW.PrintMore

/-- One after the other. -/
def comp (n : Nat) (p q : List Nat) : List Nat := (List.range n).map (fun i => im q (im p i))
def lt (nx : List Int) (k n l : Nat) : List Nat := (List.range n).map (fun s => (nx.getD (s * k + l) 0).toNat)
def chrB (l : Nat) : ByteArray := ⟨#[UInt8.ofNat (97 + l)]⟩
abbrev B := List (List Nat) × List ByteArray × List Int
def stepB (n : Nat) (Ls : List (List Nat)) (i l : Nat) (b : B) : Option B :=
  if comp n (b.1.getD i []) (Ls.getD l []) ∈ b.1 then some (b.1, b.2.1, b.2.2 ++ [(b.1.idxOf (comp n (b.1.getD i []) (Ls.getD l [])) : Int)])
  else if 512 ≤ b.1.length then none else some (b.1 ++ [comp n (b.1.getD i []) (Ls.getD l [])], b.2.1 ++ [b.2.1.getD i ⟨#[]⟩ ++ chrB l], b.2.2 ++ [(b.1.length : Int)])
def rowB (n : Nat) (Ls : List (List Nat)) (i : Nat) : Nat → Nat → B → Option B
  | 0, _, b => some b
  | m + 1, l, b => (stepB n Ls i l b).bind (rowB n Ls i m (l + 1))
def allB (n k : Nat) (Ls : List (List Nat)) : Nat → Nat → B → Option B
  | 0, _, b => some b
  | f + 1, i, b => if i < b.1.length then (rowB n Ls i k 0 b).bind (allB n k Ls f (i + 1)) else some b
def built (n k : Nat) (Ls : List (List Nat)) : Option B := allB n k Ls 513 0 ([List.range n], [⟨#[]⟩], [])
def fnd (T : List (List Nat)) (t : List Nat) : Int := if t ∈ T then (T.idxOf t : Int) else 0
def lefts (n k : Nat) (Ls T : List (List Nat)) (m : Nat) : List Int := (List.range m).map (fun j => fnd T (comp n (Ls.getD (j % k) []) (T.getD (j / k) [])))
def letters (nx : List Int) (k n : Nat) : List (List Nat) := (List.range k).map (lt nx k n)

theorem lefts_succ (n k : Nat) (Ls T : List (List Nat)) (i l : Nat) (h : l < k) : lefts n k Ls T (i * k + (l + 1)) = lefts n k Ls T (i * k + l) ++ [fnd T (comp n (Ls.getD l []) (T.getD i []))] := by
  unfold lefts
  rw [show i * k + (l + 1) = i * k + l + 1 from rfl, List.range_succ, List.map_append, List.map_singleton]
  rw [show (i * k + l) % k = l by rw [Nat.add_comm, Nat.add_mul_mod_self_right, Nat.mod_eq_of_lt h], show (i * k + l) / k = i by rw [Nat.add_comm, Nat.add_mul_div_right _ _ (by omega), Nat.div_eq_of_lt h, Nat.zero_add]]
theorem lefts_len (n k : Nat) (Ls T : List (List Nat)) (m : Nat) : (lefts n k Ls T m).length = m := by simp [lefts]
theorem im_map (n : Nat) (f : Nat → Nat) (i : Nat) (h : i < n) : im ((List.range n).map f) i = f i := by
  unfold im
  rw [List.getD_eq_getElem?_getD, List.getElem?_map, List.getElem?_range h]
  rfl
theorem pk_congr (p q : Nat → Nat) (n : Nat) (h : ∀ i, i < n → p i = q i) : pk p n n = pk q n n := by
  have hd : ∀ (r : Nat) (f g : Nat → Nat), (∀ i, i < r → f i = g i) → dig f r = dig g r := by
    intro r
    induction r with
    | zero => intro _ _ _; rfl
    | succ r ih =>
      intro f g hfg
      show dig f r + f r * _ = dig g r + g r * _
      rw [ih f g (fun i hi => hfg i (by omega)), hfg r (by omega)]
  have hw : ∀ j, wrd p n j = wrd q n j := fun j => hd _ _ _ (fun i hi => h _ (by omega))
  rw [pk_open, pk_open]
  simp only [hw]
theorem pk_comp (n : Nat) (p q : List Nat) : pk (fun i => im q (im p i)) n n = pk (im (comp n p q)) n n :=
  pk_congr _ _ n (fun i hi => (im_map n (fun i => im q (im p i)) i hi).symm)
theorem good_comp {n : Nat} {p q : List Nat} (hp : HTable.Good n p) (hq : HTable.Good n q) : HTable.Good n (comp n p q) := by
  refine ⟨by simp [comp], fun x hx => ?_⟩
  simp only [comp, List.mem_map, List.mem_range] at hx
  obtain ⟨i, hi, rfl⟩ := hx
  exact hq.im _ (hp.im _ hi)
theorem good_id (n : Nat) : HTable.Good n (List.range n) := ⟨by simp, fun x hx => List.mem_range.1 hx⟩
theorem pk_id (n : Nat) : pk (fun i => i) n n = pk (im (List.range n)) n n := pk_congr _ _ n (fun i hi => by
  have := im_map n (fun i => i) i hi
  rw [List.map_id'] at this
  exact this.symm)

/-! ### loads out of a list -/
theorem M_pk {W : World} {b n : Nat} {ok : Nat → Prop} {l : List Nat} {cs : List Value} (h : kT.M W b ok (tup n l) cs) : cs = (pk (im l) n n).toList := by
  obtain ⟨c1, r1, e1, m1, c2, r2, e2, m2, c3, r3, e3, m3, c4, r4, e4, m4, c5, r5, e5, m5, c6, r6, e6, m6, c7, r7, e7, m7, m8⟩ := h
  cases m1; cases m2; cases m3; cases m4; cases m5; cases m6; cases m7; cases m8
  subst e7 e6 e5 e4 e3 e2 e1
  rfl
theorem range_row {W : World} {base g N cap n : Nat} {ok : Nat → Prop} {T : List (List Nat)} (h : Kd.R kT 57 W base ok (.slice (some ⟨g, 0, none⟩) N cap) (T.map (tup n))) (i : Nat) (hi : i < T.length) : W.rangeAt g (i * 8) (pk (im (T.getD i [])) n n).toList := by
  have hN := (Kd.R_reads' h).1
  rw [List.length_map] at hN
  obtain ⟨c, hl, hM, hc⟩ := Kd.R_get h (tup n []) (i : Int) (by omega) (by omega)
  have hx : (T.map (tup n)).getD (i : Int).toNat (tup n []) = tup n (T.getD i []) := by
    simp [List.getD_eq_getElem?_getD, List.getElem?_map]
  rw [hx] at hM
  have := M_pk hM
  subst this
  intro j v hj
  have := hc j v hj
  rw [Addr.add_mid] at this
  rw [show (i : Int).toNat * kT.sz = i * 8 by simp [show kT.sz = 8 from rfl]] at this
  simpa using this
set_option maxRecDepth 100000 in
theorem exec_loadR {op : Oper} {a : Act} {W : World} {base g N cap n : Nat} {ok : Nat → Prop} {T : List (List Nat)} {x : Operand} (i : Nat) (h : Kd.R kT 57 W base ok (.slice (some ⟨g, 0, none⟩) N cap) (T.map (tup n))) (hi : i < T.length) (ho : op.op = .load 57 x) (hx : a.eval x = .pointer (some ⟨g, i * 8, none⟩)) :
    (execOp a.eval op).run Try.prog W = .ok (.value (.agg (pk (im (T.getD i [])) n n))) W := by
  unfold execOp
  simp only [ho, hx, Sem.run_bind, run_loadAt_mid W g (i * 8) 57 _ _ (range_row h i hi) Try.underlying57 rfl (by kernel_rfl), Sem.run_pure, Result.andThen_ok]
/-- What monoid.Build leaves: a monoid's cells and rows. -/
def Mon (W : World) (base g k n : Nat) (nx : List Int) (ac : List Bool) (T : List (List Nat)) (Ws : List ByteArray) (Rs Fs : List Int) : Prop :=
  ∃ (A3 A4 A5 A6 A7 A8 : Option Addr) (c3 c4 c5 c6 c7 c8 gR gF cR cF : Nat), base ≤ g ∧
    W.heap[g]? = some (.cells #[.int .i64 k, .slice A3 nx.length c3, .slice A4 ac.length c4, .bool true, .slice A5 T.length c5, .slice A6 Ws.length c6, .slice A7 T.length c7, .slice A8 T.length c8] 84 (0, 0)) ∧
    Kd.R (Kd.int .i64) 3 W base (fun _ => True) (.slice A3 nx.length c3) nx ∧ Kd.R Kd.bool 4 W base (fun _ => True) (.slice A4 ac.length c4) ac ∧ Kd.R kT 57 W base (fun _ => True) (.slice A5 T.length c5) (T.map (tup n)) ∧
    Kd.R Kd.string 9 W base (fun _ => True) (.slice A6 Ws.length c6) Ws ∧ Kd.R (kS gR k) 22 W base (fun _ => True) (.slice A7 T.length c7) (List.range T.length) ∧ Kd.R (kS gF k) 22 W base (fun _ => True) (.slice A8 T.length c8) (List.range T.length) ∧
    Kd.R (Kd.int .i64) 3 W base (fun _ => True) (.slice (some ⟨gR, 0, none⟩) Rs.length cR) Rs ∧ Kd.R (Kd.int .i64) 3 W base (fun _ => True) (.slice (some ⟨gF, 0, none⟩) Fs.length cF) Fs
theorem mon_fin {w0 W : World} {ba gm bt bm k n N M M2 : Nat} {A1 : Option Addr} {c1 : Nat} {nx : List Int} {A2 : Option Addr} {c2 : Nat} {ac : List Bool} {v vL : Value} {A3 A4 A5 A6 A7 A8 : Option Addr} {c3 c4 c5 c6 c7 c8 : Nat} {gR gF cR cF : Nat} {T Ls : List (List Nat)} {Ws : List ByteArray} {Rs Fs : List Int}
    (h : St w0 W ba gm bt bm k n A1 c1 nx A2 c2 ac (.slice A3 nx.length c3) (.slice A4 ac.length c4) v (.slice A5 N c5) (.slice A6 N c6) vL (.slice (some ⟨gR, 0, none⟩) M cR) (.slice (some ⟨gF, 0, none⟩) M2 cF) (.slice A7 N c7) (.slice A5 N c5) (.slice A6 N c6) (.slice A7 N c7) gR T.length T T Ls Ws Rs Fs)
    (hN : N = T.length) (hW : Ws.length = N) (hM : M = Rs.length) (hM2 : M2 = Fs.length) (hy : Kd.R (kS gF k) 22 W w0.heap.size (fun _ => True) (.slice A8 N c8) (List.range T.length)) : Mon (W.setCell ⟨gm, 7, none⟩ (.slice A8 N c8)) w0.heap.size gm k n nx ac T Ws Rs Fs ∧ Below w0.heap.size w0 (W.setCell ⟨gm, 7, none⟩ (.slice A8 N c8)) := by
  have K : Kept W (W.setCell ⟨gm, 7, none⟩ (.slice A8 N c8)) (fun k => k = gm) := ⟨by simp [World.setCell], fun k _ hk => setCells_far [.slice A8 N c8] 7 k hk⟩
  subst hN hM hM2
  refine ⟨⟨A3, A4, A5, A6, A7, A8, c3, c4, c5, c6, c7, c8, gR, gF, cR, cF, h.lm, ?_, row_keep (flat_scalar _ _) h.nxs K (fun k q c => row_ne h.nxs h.mon (by decide) (c ▸ q)), row_keep (flat_scalar _ _) h.acs K (fun k q c => row_ne h.acs h.mon (by decide) (c ▸ q)), row_keep flat_kT h.trs K (fun k q c => row_ne h.trs h.mon (by decide) (c ▸ q)), ?_, row_keep (flat_scalar _ _) h.rrs K (fun k q c => row_ne h.rrs h.mon (by decide) (c ▸ q)), row_keep (flat_scalar _ _) hy K (fun k q c => row_ne hy h.mon (by decide) (c ▸ q)), row_keep (flat_scalar _ _) h.rts K (fun k q c => row_ne h.rts h.mon (by decide) (c ▸ q)), row_keep (flat_scalar _ _) h.fts K (fun k q c => row_ne h.fts h.mon (by decide) (c ▸ q))⟩, below_set h.below h.lm⟩
  · rw [hW]
    exact blk_put h.mon 7 _ rfl
  · rw [hW]
    exact row_keep (flat_scalar _ _) h.wds K (fun k q c => row_ne h.wds h.mon (by decide) (c ▸ q))
theorem Mon.below {W W2 : World} {base g k n : Nat} {nx : List Int} {ac : List Bool} {T : List (List Nat)} {Ws : List ByteArray} {Rs Fs : List Int} (h : Mon W base g k n nx ac T Ws Rs Fs) (hb : Below W.heap.size W W2) : Mon W2 base g k n nx ac T Ws Rs Fs := by
  obtain ⟨A3, A4, A5, A6, A7, A8, c3, c4, c5, c6, c7, c8, gR, gF, cR, cF, h0, h1, h2, h3, h4, h5, h6, h7, h8, h9⟩ := h
  exact ⟨A3, A4, A5, A6, A7, A8, c3, c4, c5, c6, c7, c8, gR, gF, cR, cF, h0, blk_below h1 hb, Kd.R_below h2 hb, Kd.R_below h3 hb, Kd.R_below h4 hb, Kd.R_below h5 hb, Kd.R_below h6 hb, Kd.R_below h7 hb, Kd.R_below h8 hb, Kd.R_below h9 hb⟩
end Go.Proofs.Ytcnnlddjnmkioaa.HMon
