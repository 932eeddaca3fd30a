/- What monoid.Build's walk keeps of the memory, and how its writes leave it. Printed by stgen.py. -/
import Derived.Test.YtcnnlddjnmkioaaHRows
set_option linter.unusedVariables false
set_option linter.unusedSimpArgs false
namespace Go.Proofs.Ytcnnlddjnmkioaa.HSt
open Go Go.RowKit Go.Proofs.Ytcnnlddjnmkioaa.HPack Go.Proofs.Ytcnnlddjnmkioaa.HTable Go.Proofs.Ytcnnlddjnmkioaa.HPut Go.Proofs.Ytcnnlddjnmkioaa.HRows Go.Proofs.YtcnnlddjnmkioaaW.PrintWords Go.Proofs.YtcnnlddjnmkioaaW.PrintLast Go.Proofs.YtcnnlddjnmkioaaW.PrintMore

section
variable {α β : Type} {d : Kd α} {d2 : Kd β} {e e2 base : Nat} {W W2 : World} {ok ok2 : Nat → Prop} {v v2 : Value} {xs : List α} {ys : List β} {S : Nat → Prop}
def Flat (d : Kd α) : Prop := ∀ w base ok ok' x cs, d.M w base ok x cs = d.M w base ok' x cs
theorem flat_scalar (enc : α → Value) (h1 : ∀ x, (enc x).oneCell' = true) : Flat (Kd.scalar enc h1) := fun _ _ _ _ _ _ => rfl
theorem flat_kT : Flat kT := fun _ _ _ _ _ _ => rfl
/-- A row of cells alone stays where its block is not written. -/
theorem row_keep (hM : Flat d) (h : d.R e W base ok v xs) (K : Kept W W2 S) (hS : ∀ k, v.ownBlock = some k → ¬ S k) : d.R e W2 base (fun _ => True) v xs := by
  have h2 : d.R e W base (fun k => v.ownBlock = some k) v xs := ⟨fun _ hk => hk, h.2.imp_ (fun _ _ hp => (hM _ _ _ _ _ _) ▸ hp)⟩
  exact Kd.R_mono (Kd.R_step h2 (fun k hk hlt => K.2 k hlt (hS k hk))) (fun _ _ => trivial)
theorem row_top (h : d.R e W base ok v xs) : d.R e W base (fun _ => True) v xs := Kd.R_mono h (fun _ _ => trivial)
theorem row_typed (h : d.R e W base ok v xs) : ∀ k, v.ownBlock = some k → ∃ cs, W.heap[k]? = some (.cells cs e (0, 0)) := by
  intro k hk
  obtain ⟨_, inner, ho, _⟩ := h
  exact own_typed ho k hk
theorem row_ne (h : d.R e W base ok v xs) {g t : Nat} {cs : Array Value} (hb : W.heap[g]? = some (.cells cs t (0, 0))) (ht : e ≠ t) : v.ownBlock ≠ some g := fun q => Kd.R_ne h hb ht q.symm
theorem ne_types (h : d.R e W base ok v xs) (h2 : d2.R e2 W base ok2 v2 ys) (ht : e ≠ e2) : NeRow v v2 := by
  intro k hk hk2
  obtain ⟨cs, hc⟩ := row_typed h2 k hk2
  exact row_ne h hc ht hk
theorem row_nomap (h : d.R e W base ok v xs) {bm m : Nat} {D : DataW Unit} {R : Value → Option (DataW Unit × List MemPlace)} (hm : W.ownsMap Try.prog 57 R bm m D) : v.ownBlock ≠ some bm := fun q => by
  obtain ⟨cs, hc⟩ := row_typed h bm q
  exact map_ne hc hm rfl
theorem ne_grown {v' : Value} (h : NeRow v v2) (hat : v'.ownBlock = v.ownBlock ∨ ∃ b, v'.ownBlock = some b ∧ W.heap.size ≤ b) (h2 : d2.R e2 W base ok2 v2 ys) : NeRow v' v2 := by
  intro k hk hk2
  rcases hat with q | ⟨b, hb, hle⟩
  · exact h k (q ▸ hk) hk2
  · have := Kd.R_lt h2 k hk2
    rw [hb] at hk
    injection hk with hk
    omega
/-- A literal of one. -/
theorem row_one {α : Type} {d : Kd α} {e base b : Nat} {W : World} {x : α} {cs : List Value} (hM : d.M W base (fun k => True ∧ some k ≠ (Value.slice (some ⟨b, 0, none⟩) 1 1).ownBlock) x cs) (hb : W.heap[b]? = some (.cells cs.toArray e (0, 0))) (hbase : base ≤ b) : d.R e W base (fun _ => True) (.slice (some ⟨b, 0, none⟩) 1 1) [x] := by
  have hsz : cs.length = d.sz := d.K_len (d.K_of_M hM)
  refine ⟨fun _ _ => trivial, cs, ⟨by simp [hsz], .inr ⟨b, 1, cs.toArray, rfl, hbase, hb, Nat.le_refl _, by decide, by simp [hsz], by simp [← hsz]⟩⟩, by simp [hsz], fun j p hj => ?_⟩
  match j with
  | 0 =>
    simp at hj
    subst hj
    rw [Nat.zero_mul, List.drop_zero, ← hsz, List.take_length]
    exact hM
  | j + 1 => simp at hj
end
theorem row_some {α : Type} {d : Kd α} {e base n c : Nat} {W : World} {ok : Nat → Prop} {A : Option Addr} {xs : List α} (h : d.R e W base ok (.slice A n c) xs) (hp : 0 < xs.length) : ∃ g, A = some ⟨g, 0, none⟩ := by
  obtain ⟨_, inner, ho, _⟩ := h
  rcases ho.2 with ⟨_, h0⟩ | ⟨g, _, _, hv, _⟩
  · omega
  · injection hv with hv
    exact ⟨g, hv⟩
theorem tab_lower {W : World} {base base' bt bm n : Nat} {v : Value} {L : List (List Nat)} (h : Tab W base bt bm v n L) (hb : base' ≤ base) : Tab W base' bt bm v n L := ⟨h.cells, h.map, Kd.R_lower h.row hb, Nat.le_trans hb h.lt, Nat.le_trans hb h.lm, h.good, h.nodup⟩
theorem tab_keep {W W2 : World} {base bt bm n : Nat} {v : Value} {L : List (List Nat)} {S : Nat → Prop} (h : Tab W base bt bm v n L) (K : Kept W W2 S) (h1 : ¬ S bt) (h2 : ¬ S bm) (h3 : ∀ k, v.ownBlock = some k → ¬ S k) : Tab W2 base bt bm v n L := by
  refine ⟨(K.2 bt (blk_lt h.cells) h1).trans h.cells, ?_, row_keep flat_kT h.row K h3, h.lt, h.lm, h.good, h.nodup⟩
  obtain ⟨es, clock, hb, rest⟩ := h.map
  exact ⟨es, clock, (K.2 bm (blk_lt hb) h2).trans hb, rest⟩

structure St (w0 W : World) (ba gm bt bm k n : Nat) (A1 : Option Addr) (c1 : Nat) (nx : List Int) (A2 : Option Addr) (c2 : Nat) (ac : List Bool) (vN vC v vT vW vL vR vF vr uT uW ur : Value) (gR Nr : Nat) (T1 T2 Ls : List (List Nat)) (Ws : List ByteArray) (Rs Fs : List Int) : Prop where
  below : Below w0.heap.size w0 W
  lm : w0.heap.size ≤ gm
  box : W.heap[ba]? = some (.cells #[.int .i64 k, .slice A1 nx.length c1, .slice A2 ac.length c2] 25 (0, 0))
  mon : W.heap[gm]? = some (.cells #[.int .i64 k, vN, vC, .bool true, uT, uW, ur, .slice none 0 0] 84 (0, 0))
  tab : Tab W w0.heap.size bt bm v n T1
  trs : Kd.R kT 57 W w0.heap.size (fun _ => True) vT (T2.map (tup n))
  lts : Kd.R kT 57 W w0.heap.size (fun _ => True) vL (Ls.map (tup n))
  wds : Kd.R Kd.string 9 W w0.heap.size (fun _ => True) vW Ws
  rts : Kd.R (Kd.int .i64) 3 W w0.heap.size (fun _ => True) vR Rs
  fts : Kd.R (Kd.int .i64) 3 W w0.heap.size (fun _ => True) vF Fs
  nxs : Kd.R (Kd.int .i64) 3 W w0.heap.size (fun _ => True) vN nx
  acs : Kd.R Kd.bool 4 W w0.heap.size (fun _ => True) vC ac
  rrs : Kd.R (kS gR k) 22 W w0.heap.size (fun _ => True) vr (List.range Nr)
  e0 : NeRow v vT
  e1 : NeRow v vL
  e2 : NeRow vT vL
  e3 : NeRow vR vN
  e4 : NeRow vF vN
  e5 : NeRow vR vF

theorem St.step {w0 W : World} {ba gm bt bm k n : Nat} {A1 : Option Addr} {c1 : Nat} {nx : List Int} {A2 : Option Addr} {c2 : Nat} {ac : List Bool} {vN vC v vT vW vL vR vF vr uT uW ur : Value} {gR Nr : Nat} {T1 T2 Ls : List (List Nat)} {Ws : List ByteArray} {Rs Fs : List Int} {W' : World} (h : St w0 W ba gm bt bm k n A1 c1 nx A2 c2 ac vN vC v vT vW vL vR vF vr uT uW ur gR Nr T1 T2 Ls Ws Rs Fs) (hb : Below W.heap.size W W') : St w0 W' ba gm bt bm k n A1 c1 nx A2 c2 ac vN vC v vT vW vL vR vF vr uT uW ur gR Nr T1 T2 Ls Ws Rs Fs :=
  ⟨below_then h.below h.below.size hb, h.lm, blk_below h.box hb, blk_below h.mon hb, h.tab.below hb, Kd.R_below h.trs hb, Kd.R_below h.lts hb, Kd.R_below h.wds hb, Kd.R_below h.rts hb, Kd.R_below h.fts hb, Kd.R_below h.nxs hb, Kd.R_below h.acs hb, Kd.R_below h.rrs hb, h.e0, h.e1, h.e2, h.e3, h.e4, h.e5⟩
theorem St.setT {w0 W : World} {ba gm bt bm k n : Nat} {A1 : Option Addr} {c1 : Nat} {nx : List Int} {A2 : Option Addr} {c2 : Nat} {ac : List Bool} {vN vC v vT vW vL vR vF vr uT uW ur : Value} {gR Nr : Nat} {T1 T2 Ls : List (List Nat)} {Ws : List ByteArray} {Rs Fs : List Int} (y : Value) (h : St w0 W ba gm bt bm k n A1 c1 nx A2 c2 ac vN vC v vT vW vL vR vF vr uT uW ur gR Nr T1 T2 Ls Ws Rs Fs) : St w0 (W.setCells gm 4 [y]) ba gm bt bm k n A1 c1 nx A2 c2 ac vN vC v vT vW vL vR vF vr y uW ur gR Nr T1 T2 Ls Ws Rs Fs := by
  have K : Kept W (W.setCells gm 4 [y]) (fun k => k = gm) := ⟨by simp [World.setCells, World.setCell], fun k _ hk => setCells_far _ _ k hk⟩
  have hne : ∀ k, k = gm → ∀ {t : Nat} {cs : Array Value}, W.heap[k]? = some (.cells cs t (0, 0)) → t = 84 := by
    rintro k rfl t cs hk
    rw [h.mon] at hk
    injection hk with hk
    injection hk with _ hk
    exact hk.symm
  refine ⟨below_set h.below h.lm, h.lm, (K.2 _ (blk_lt h.box) (fun q => absurd (hne _ q h.box) (by decide))).trans h.box, blk_put h.mon 4 y rfl, tab_keep h.tab K (fun q => absurd (hne _ q h.tab.cells) (by decide)) (fun q => map_ne h.mon h.tab.map q.symm) (fun k q c => row_ne h.tab.row h.mon (by decide) (c ▸ q)), row_keep flat_kT h.trs K (fun k q c => row_ne h.trs h.mon (by decide) (c ▸ q)), row_keep flat_kT h.lts K (fun k q c => row_ne h.lts h.mon (by decide) (c ▸ q)), row_keep (flat_scalar _ _) h.wds K (fun k q c => row_ne h.wds h.mon (by decide) (c ▸ q)), row_keep (flat_scalar _ _) h.rts K (fun k q c => row_ne h.rts h.mon (by decide) (c ▸ q)), row_keep (flat_scalar _ _) h.fts K (fun k q c => row_ne h.fts h.mon (by decide) (c ▸ q)), row_keep (flat_scalar _ _) h.nxs K (fun k q c => row_ne h.nxs h.mon (by decide) (c ▸ q)), row_keep (flat_scalar _ _) h.acs K (fun k q c => row_ne h.acs h.mon (by decide) (c ▸ q)), row_keep (flat_scalar _ _) h.rrs K (fun k q c => row_ne h.rrs h.mon (by decide) (c ▸ q)), h.e0, h.e1, h.e2, h.e3, h.e4, h.e5⟩
theorem St.setW {w0 W : World} {ba gm bt bm k n : Nat} {A1 : Option Addr} {c1 : Nat} {nx : List Int} {A2 : Option Addr} {c2 : Nat} {ac : List Bool} {vN vC v vT vW vL vR vF vr uT uW ur : Value} {gR Nr : Nat} {T1 T2 Ls : List (List Nat)} {Ws : List ByteArray} {Rs Fs : List Int} (y : Value) (h : St w0 W ba gm bt bm k n A1 c1 nx A2 c2 ac vN vC v vT vW vL vR vF vr uT uW ur gR Nr T1 T2 Ls Ws Rs Fs) : St w0 (W.setCells gm 5 [y]) ba gm bt bm k n A1 c1 nx A2 c2 ac vN vC v vT vW vL vR vF vr uT y ur gR Nr T1 T2 Ls Ws Rs Fs := by
  have K : Kept W (W.setCells gm 5 [y]) (fun k => k = gm) := ⟨by simp [World.setCells, World.setCell], fun k _ hk => setCells_far _ _ k hk⟩
  have hne : ∀ k, k = gm → ∀ {t : Nat} {cs : Array Value}, W.heap[k]? = some (.cells cs t (0, 0)) → t = 84 := by
    rintro k rfl t cs hk
    rw [h.mon] at hk
    injection hk with hk
    injection hk with _ hk
    exact hk.symm
  refine ⟨below_set h.below h.lm, h.lm, (K.2 _ (blk_lt h.box) (fun q => absurd (hne _ q h.box) (by decide))).trans h.box, blk_put h.mon 5 y rfl, tab_keep h.tab K (fun q => absurd (hne _ q h.tab.cells) (by decide)) (fun q => map_ne h.mon h.tab.map q.symm) (fun k q c => row_ne h.tab.row h.mon (by decide) (c ▸ q)), row_keep flat_kT h.trs K (fun k q c => row_ne h.trs h.mon (by decide) (c ▸ q)), row_keep flat_kT h.lts K (fun k q c => row_ne h.lts h.mon (by decide) (c ▸ q)), row_keep (flat_scalar _ _) h.wds K (fun k q c => row_ne h.wds h.mon (by decide) (c ▸ q)), row_keep (flat_scalar _ _) h.rts K (fun k q c => row_ne h.rts h.mon (by decide) (c ▸ q)), row_keep (flat_scalar _ _) h.fts K (fun k q c => row_ne h.fts h.mon (by decide) (c ▸ q)), row_keep (flat_scalar _ _) h.nxs K (fun k q c => row_ne h.nxs h.mon (by decide) (c ▸ q)), row_keep (flat_scalar _ _) h.acs K (fun k q c => row_ne h.acs h.mon (by decide) (c ▸ q)), row_keep (flat_scalar _ _) h.rrs K (fun k q c => row_ne h.rrs h.mon (by decide) (c ▸ q)), h.e0, h.e1, h.e2, h.e3, h.e4, h.e5⟩
theorem St.setr {w0 W : World} {ba gm bt bm k n : Nat} {A1 : Option Addr} {c1 : Nat} {nx : List Int} {A2 : Option Addr} {c2 : Nat} {ac : List Bool} {vN vC v vT vW vL vR vF vr uT uW ur : Value} {gR Nr : Nat} {T1 T2 Ls : List (List Nat)} {Ws : List ByteArray} {Rs Fs : List Int} (y : Value) (h : St w0 W ba gm bt bm k n A1 c1 nx A2 c2 ac vN vC v vT vW vL vR vF vr uT uW ur gR Nr T1 T2 Ls Ws Rs Fs) : St w0 (W.setCells gm 6 [y]) ba gm bt bm k n A1 c1 nx A2 c2 ac vN vC v vT vW vL vR vF vr uT uW y gR Nr T1 T2 Ls Ws Rs Fs := by
  have K : Kept W (W.setCells gm 6 [y]) (fun k => k = gm) := ⟨by simp [World.setCells, World.setCell], fun k _ hk => setCells_far _ _ k hk⟩
  have hne : ∀ k, k = gm → ∀ {t : Nat} {cs : Array Value}, W.heap[k]? = some (.cells cs t (0, 0)) → t = 84 := by
    rintro k rfl t cs hk
    rw [h.mon] at hk
    injection hk with hk
    injection hk with _ hk
    exact hk.symm
  refine ⟨below_set h.below h.lm, h.lm, (K.2 _ (blk_lt h.box) (fun q => absurd (hne _ q h.box) (by decide))).trans h.box, blk_put h.mon 6 y rfl, tab_keep h.tab K (fun q => absurd (hne _ q h.tab.cells) (by decide)) (fun q => map_ne h.mon h.tab.map q.symm) (fun k q c => row_ne h.tab.row h.mon (by decide) (c ▸ q)), row_keep flat_kT h.trs K (fun k q c => row_ne h.trs h.mon (by decide) (c ▸ q)), row_keep flat_kT h.lts K (fun k q c => row_ne h.lts h.mon (by decide) (c ▸ q)), row_keep (flat_scalar _ _) h.wds K (fun k q c => row_ne h.wds h.mon (by decide) (c ▸ q)), row_keep (flat_scalar _ _) h.rts K (fun k q c => row_ne h.rts h.mon (by decide) (c ▸ q)), row_keep (flat_scalar _ _) h.fts K (fun k q c => row_ne h.fts h.mon (by decide) (c ▸ q)), row_keep (flat_scalar _ _) h.nxs K (fun k q c => row_ne h.nxs h.mon (by decide) (c ▸ q)), row_keep (flat_scalar _ _) h.acs K (fun k q c => row_ne h.acs h.mon (by decide) (c ▸ q)), row_keep (flat_scalar _ _) h.rrs K (fun k q c => row_ne h.rrs h.mon (by decide) (c ▸ q)), h.e0, h.e1, h.e2, h.e3, h.e4, h.e5⟩
theorem St.addT {w0 W : World} {ba gm bt bm k n : Nat} {A1 : Option Addr} {c1 : Nat} {nx : List Int} {A2 : Option Addr} {c2 : Nat} {ac : List Bool} {vN vC v vT vW vL vR vF vr uT uW ur : Value} {gR Nr : Nat} {T1 T2 Ls : List (List Nat)} {Ws : List ByteArray} {Rs Fs : List Int} {W' : World} {y : Value} {ys : List (List Nat)} (h : St w0 W ba gm bt bm k n A1 c1 nx A2 c2 ac vN vC v vT vW vL vR vF vr uT uW ur gR Nr T1 T2 Ls Ws Rs Fs) (hr : Kd.R kT 57 W' w0.heap.size (fun _ => True) y (ys.map (tup n))) (hb : Below w0.heap.size w0 W') (hg : W.grownBy W' vT.ownBlock) (hat : y.ownBlock = vT.ownBlock ∨ ∃ b, y.ownBlock = some b ∧ W.heap.size ≤ b) : St w0 W' ba gm bt bm k n A1 c1 nx A2 c2 ac vN vC v y vW vL vR vF vr uT uW ur gR Nr T1 ys Ls Ws Rs Fs := by
  have K : Kept W W' (fun k => vT.ownBlock = some k) := ⟨hg.size, fun k hk hn => hg.block k hk (fun q => hn q.symm)⟩
  refine ⟨hb, h.lm, (K.2 _ (blk_lt h.box) (row_ne h.trs h.box (by decide))).trans h.box, (K.2 _ (blk_lt h.mon) (row_ne h.trs h.mon (by decide))).trans h.mon, tab_keep h.tab K (row_ne h.trs h.tab.cells (by decide)) (row_nomap h.trs h.tab.map) (fun k q c => (ne_symm h.e0) k c q), hr, row_keep flat_kT h.lts K (fun k q c => h.e2 k c q), row_keep (flat_scalar _ _) h.wds K (fun k q c => (ne_types h.trs h.wds (by decide)) k c q), row_keep (flat_scalar _ _) h.rts K (fun k q c => (ne_types h.trs h.rts (by decide)) k c q), row_keep (flat_scalar _ _) h.fts K (fun k q c => (ne_types h.trs h.fts (by decide)) k c q), row_keep (flat_scalar _ _) h.nxs K (fun k q c => (ne_types h.trs h.nxs (by decide)) k c q), row_keep (flat_scalar _ _) h.acs K (fun k q c => (ne_types h.trs h.acs (by decide)) k c q), row_keep (flat_scalar _ _) h.rrs K (fun k q c => (ne_types h.trs h.rrs (by decide)) k c q), ne_symm (ne_grown (ne_symm h.e0) hat h.tab.row), h.e1, ne_grown h.e2 hat h.lts, h.e3, h.e4, h.e5⟩
theorem St.addL {w0 W : World} {ba gm bt bm k n : Nat} {A1 : Option Addr} {c1 : Nat} {nx : List Int} {A2 : Option Addr} {c2 : Nat} {ac : List Bool} {vN vC v vT vW vL vR vF vr uT uW ur : Value} {gR Nr : Nat} {T1 T2 Ls : List (List Nat)} {Ws : List ByteArray} {Rs Fs : List Int} {W' : World} {y : Value} {ys : List (List Nat)} (h : St w0 W ba gm bt bm k n A1 c1 nx A2 c2 ac vN vC v vT vW vL vR vF vr uT uW ur gR Nr T1 T2 Ls Ws Rs Fs) (hr : Kd.R kT 57 W' w0.heap.size (fun _ => True) y (ys.map (tup n))) (hb : Below w0.heap.size w0 W') (hg : W.grownBy W' vL.ownBlock) (hat : y.ownBlock = vL.ownBlock ∨ ∃ b, y.ownBlock = some b ∧ W.heap.size ≤ b) : St w0 W' ba gm bt bm k n A1 c1 nx A2 c2 ac vN vC v vT vW y vR vF vr uT uW ur gR Nr T1 T2 ys Ws Rs Fs := by
  have K : Kept W W' (fun k => vL.ownBlock = some k) := ⟨hg.size, fun k hk hn => hg.block k hk (fun q => hn q.symm)⟩
  refine ⟨hb, h.lm, (K.2 _ (blk_lt h.box) (row_ne h.lts h.box (by decide))).trans h.box, (K.2 _ (blk_lt h.mon) (row_ne h.lts h.mon (by decide))).trans h.mon, tab_keep h.tab K (row_ne h.lts h.tab.cells (by decide)) (row_nomap h.lts h.tab.map) (fun k q c => (ne_symm h.e1) k c q), row_keep flat_kT h.trs K (fun k q c => (ne_symm h.e2) k c q), hr, row_keep (flat_scalar _ _) h.wds K (fun k q c => (ne_types h.lts h.wds (by decide)) k c q), row_keep (flat_scalar _ _) h.rts K (fun k q c => (ne_types h.lts h.rts (by decide)) k c q), row_keep (flat_scalar _ _) h.fts K (fun k q c => (ne_types h.lts h.fts (by decide)) k c q), row_keep (flat_scalar _ _) h.nxs K (fun k q c => (ne_types h.lts h.nxs (by decide)) k c q), row_keep (flat_scalar _ _) h.acs K (fun k q c => (ne_types h.lts h.acs (by decide)) k c q), row_keep (flat_scalar _ _) h.rrs K (fun k q c => (ne_types h.lts h.rrs (by decide)) k c q), h.e0, ne_symm (ne_grown (ne_symm h.e1) hat h.tab.row), ne_symm (ne_grown (ne_symm h.e2) hat h.trs), h.e3, h.e4, h.e5⟩
theorem St.addW {w0 W : World} {ba gm bt bm k n : Nat} {A1 : Option Addr} {c1 : Nat} {nx : List Int} {A2 : Option Addr} {c2 : Nat} {ac : List Bool} {vN vC v vT vW vL vR vF vr uT uW ur : Value} {gR Nr : Nat} {T1 T2 Ls : List (List Nat)} {Ws : List ByteArray} {Rs Fs : List Int} {W' : World} {y : Value} {ys : List ByteArray} (h : St w0 W ba gm bt bm k n A1 c1 nx A2 c2 ac vN vC v vT vW vL vR vF vr uT uW ur gR Nr T1 T2 Ls Ws Rs Fs) (hr : Kd.R Kd.string 9 W' w0.heap.size (fun _ => True) y ys) (hb : Below w0.heap.size w0 W') (hg : W.grownBy W' vW.ownBlock) (hat : y.ownBlock = vW.ownBlock ∨ ∃ b, y.ownBlock = some b ∧ W.heap.size ≤ b) : St w0 W' ba gm bt bm k n A1 c1 nx A2 c2 ac vN vC v vT y vL vR vF vr uT uW ur gR Nr T1 T2 Ls ys Rs Fs := by
  have K : Kept W W' (fun k => vW.ownBlock = some k) := ⟨hg.size, fun k hk hn => hg.block k hk (fun q => hn q.symm)⟩
  refine ⟨hb, h.lm, (K.2 _ (blk_lt h.box) (row_ne h.wds h.box (by decide))).trans h.box, (K.2 _ (blk_lt h.mon) (row_ne h.wds h.mon (by decide))).trans h.mon, tab_keep h.tab K (row_ne h.wds h.tab.cells (by decide)) (row_nomap h.wds h.tab.map) (fun k q c => (ne_types h.wds h.tab.row (by decide)) k c q), row_keep flat_kT h.trs K (fun k q c => (ne_types h.wds h.trs (by decide)) k c q), row_keep flat_kT h.lts K (fun k q c => (ne_types h.wds h.lts (by decide)) k c q), hr, row_keep (flat_scalar _ _) h.rts K (fun k q c => (ne_types h.wds h.rts (by decide)) k c q), row_keep (flat_scalar _ _) h.fts K (fun k q c => (ne_types h.wds h.fts (by decide)) k c q), row_keep (flat_scalar _ _) h.nxs K (fun k q c => (ne_types h.wds h.nxs (by decide)) k c q), row_keep (flat_scalar _ _) h.acs K (fun k q c => (ne_types h.wds h.acs (by decide)) k c q), row_keep (flat_scalar _ _) h.rrs K (fun k q c => (ne_types h.wds h.rrs (by decide)) k c q), h.e0, h.e1, h.e2, h.e3, h.e4, h.e5⟩
theorem St.addR {w0 W : World} {ba gm bt bm k n : Nat} {A1 : Option Addr} {c1 : Nat} {nx : List Int} {A2 : Option Addr} {c2 : Nat} {ac : List Bool} {vN vC v vT vW vL vR vF vr uT uW ur : Value} {gR Nr : Nat} {T1 T2 Ls : List (List Nat)} {Ws : List ByteArray} {Rs Fs : List Int} {W' : World} {y : Value} {ys : List Int} (h : St w0 W ba gm bt bm k n A1 c1 nx A2 c2 ac vN vC v vT vW vL vR vF vr uT uW ur gR Nr T1 T2 Ls Ws Rs Fs) (hr : Kd.R (Kd.int .i64) 3 W' w0.heap.size (fun _ => True) y ys) (hb : Below w0.heap.size w0 W') (hg : W.grownBy W' vR.ownBlock) (hat : y.ownBlock = vR.ownBlock ∨ ∃ b, y.ownBlock = some b ∧ W.heap.size ≤ b) : St w0 W' ba gm bt bm k n A1 c1 nx A2 c2 ac vN vC v vT vW vL y vF vr uT uW ur gR Nr T1 T2 Ls Ws ys Fs := by
  have K : Kept W W' (fun k => vR.ownBlock = some k) := ⟨hg.size, fun k hk hn => hg.block k hk (fun q => hn q.symm)⟩
  refine ⟨hb, h.lm, (K.2 _ (blk_lt h.box) (row_ne h.rts h.box (by decide))).trans h.box, (K.2 _ (blk_lt h.mon) (row_ne h.rts h.mon (by decide))).trans h.mon, tab_keep h.tab K (row_ne h.rts h.tab.cells (by decide)) (row_nomap h.rts h.tab.map) (fun k q c => (ne_types h.rts h.tab.row (by decide)) k c q), row_keep flat_kT h.trs K (fun k q c => (ne_types h.rts h.trs (by decide)) k c q), row_keep flat_kT h.lts K (fun k q c => (ne_types h.rts h.lts (by decide)) k c q), row_keep (flat_scalar _ _) h.wds K (fun k q c => (ne_types h.rts h.wds (by decide)) k c q), hr, row_keep (flat_scalar _ _) h.fts K (fun k q c => h.e5 k c q), row_keep (flat_scalar _ _) h.nxs K (fun k q c => h.e3 k c q), row_keep (flat_scalar _ _) h.acs K (fun k q c => (ne_types h.rts h.acs (by decide)) k c q), row_keep (flat_scalar _ _) h.rrs K (fun k q c => (ne_types h.rts h.rrs (by decide)) k c q), h.e0, h.e1, h.e2, ne_grown h.e3 hat h.nxs, h.e4, ne_grown h.e5 hat h.fts⟩
theorem St.addF {w0 W : World} {ba gm bt bm k n : Nat} {A1 : Option Addr} {c1 : Nat} {nx : List Int} {A2 : Option Addr} {c2 : Nat} {ac : List Bool} {vN vC v vT vW vL vR vF vr uT uW ur : Value} {gR Nr : Nat} {T1 T2 Ls : List (List Nat)} {Ws : List ByteArray} {Rs Fs : List Int} {W' : World} {y : Value} {ys : List Int} (h : St w0 W ba gm bt bm k n A1 c1 nx A2 c2 ac vN vC v vT vW vL vR vF vr uT uW ur gR Nr T1 T2 Ls Ws Rs Fs) (hr : Kd.R (Kd.int .i64) 3 W' w0.heap.size (fun _ => True) y ys) (hb : Below w0.heap.size w0 W') (hg : W.grownBy W' vF.ownBlock) (hat : y.ownBlock = vF.ownBlock ∨ ∃ b, y.ownBlock = some b ∧ W.heap.size ≤ b) : St w0 W' ba gm bt bm k n A1 c1 nx A2 c2 ac vN vC v vT vW vL vR y vr uT uW ur gR Nr T1 T2 Ls Ws Rs ys := by
  have K : Kept W W' (fun k => vF.ownBlock = some k) := ⟨hg.size, fun k hk hn => hg.block k hk (fun q => hn q.symm)⟩
  refine ⟨hb, h.lm, (K.2 _ (blk_lt h.box) (row_ne h.fts h.box (by decide))).trans h.box, (K.2 _ (blk_lt h.mon) (row_ne h.fts h.mon (by decide))).trans h.mon, tab_keep h.tab K (row_ne h.fts h.tab.cells (by decide)) (row_nomap h.fts h.tab.map) (fun k q c => (ne_types h.fts h.tab.row (by decide)) k c q), row_keep flat_kT h.trs K (fun k q c => (ne_types h.fts h.trs (by decide)) k c q), row_keep flat_kT h.lts K (fun k q c => (ne_types h.fts h.lts (by decide)) k c q), row_keep (flat_scalar _ _) h.wds K (fun k q c => (ne_types h.fts h.wds (by decide)) k c q), row_keep (flat_scalar _ _) h.rts K (fun k q c => (ne_symm h.e5) k c q), hr, row_keep (flat_scalar _ _) h.nxs K (fun k q c => h.e4 k c q), row_keep (flat_scalar _ _) h.acs K (fun k q c => (ne_types h.fts h.acs (by decide)) k c q), row_keep (flat_scalar _ _) h.rrs K (fun k q c => (ne_types h.fts h.rrs (by decide)) k c q), h.e0, h.e1, h.e2, h.e3, ne_grown h.e4 hat h.nxs, ne_symm (ne_grown (ne_symm h.e5) hat h.rts)⟩
theorem St.put {w0 W : World} {ba gm bt bm k n : Nat} {A1 : Option Addr} {c1 : Nat} {nx : List Int} {A2 : Option Addr} {c2 : Nat} {ac : List Bool} {vN vC v vT vW vL vR vF vr uT uW ur : Value} {gR Nr : Nat} {T1 T2 Ls : List (List Nat)} {Ws : List ByteArray} {Rs Fs : List Int} {W' : World} {y : Value} {ys : List (List Nat)} (h : St w0 W ba gm bt bm k n A1 c1 nx A2 c2 ac vN vC v vT vW vL vR vF vr uT uW ur gR Nr T1 T2 Ls Ws Rs Fs) (ht : Tab W' w0.heap.size bt bm y n ys) (hk : Kept W W' (fun k => k = bt ∨ k = bm ∨ some k = v.ownBlock)) (hat : y.ownBlock = v.ownBlock ∨ ∃ b, y.ownBlock = some b ∧ W.heap.size ≤ b) (hb : Below w0.heap.size W W') : St w0 W' ba gm bt bm k n A1 c1 nx A2 c2 ac vN vC y vT vW vL vR vF vr uT uW ur gR Nr ys T2 Ls Ws Rs Fs := by
  have hb := h.below.trans hb
  have hbk : ∀ {g t : Nat} {cs : Array Value}, W.heap[g]? = some (.cells cs t (0, 0)) → t ≠ 134 → t ≠ 57 → W'.heap[g]? = some (.cells cs t (0, 0)) := by
    intro g t cs hg h1 h2
    refine (hk.2 g (blk_lt hg) ?_).trans hg
    rintro (q | q | q)
    · subst q
      rw [h.tab.cells] at hg
      injection hg with hg
      injection hg with _ hg
      exact h1 hg.symm
    · exact map_ne hg h.tab.map q
    · exact row_ne h.tab.row hg (fun z => h2 z.symm) q.symm
  exact ⟨hb, h.lm, hbk h.box (by decide) (by decide), hbk h.mon (by decide) (by decide), ht, row_keep flat_kT h.trs hk (fun k q c => by
    rcases c with rfl | rfl | c
    · exact row_ne h.trs h.tab.cells (by decide) q
    · exact row_nomap h.trs h.tab.map q
    · exact h.e0 k c.symm q), row_keep flat_kT h.lts hk (fun k q c => by
    rcases c with rfl | rfl | c
    · exact row_ne h.lts h.tab.cells (by decide) q
    · exact row_nomap h.lts h.tab.map q
    · exact h.e1 k c.symm q), row_keep (flat_scalar _ _) h.wds hk (fun k q c => by
    rcases c with rfl | rfl | c
    · exact row_ne h.wds h.tab.cells (by decide) q
    · exact row_nomap h.wds h.tab.map q
    · exact (ne_types h.tab.row h.wds (by decide)) k c.symm q), row_keep (flat_scalar _ _) h.rts hk (fun k q c => by
    rcases c with rfl | rfl | c
    · exact row_ne h.rts h.tab.cells (by decide) q
    · exact row_nomap h.rts h.tab.map q
    · exact (ne_types h.tab.row h.rts (by decide)) k c.symm q), row_keep (flat_scalar _ _) h.fts hk (fun k q c => by
    rcases c with rfl | rfl | c
    · exact row_ne h.fts h.tab.cells (by decide) q
    · exact row_nomap h.fts h.tab.map q
    · exact (ne_types h.tab.row h.fts (by decide)) k c.symm q), row_keep (flat_scalar _ _) h.nxs hk (fun k q c => by
    rcases c with rfl | rfl | c
    · exact row_ne h.nxs h.tab.cells (by decide) q
    · exact row_nomap h.nxs h.tab.map q
    · exact (ne_types h.tab.row h.nxs (by decide)) k c.symm q), row_keep (flat_scalar _ _) h.acs hk (fun k q c => by
    rcases c with rfl | rfl | c
    · exact row_ne h.acs h.tab.cells (by decide) q
    · exact row_nomap h.acs h.tab.map q
    · exact (ne_types h.tab.row h.acs (by decide)) k c.symm q), row_keep (flat_scalar _ _) h.rrs hk (fun k q c => by
    rcases c with rfl | rfl | c
    · exact row_ne h.rrs h.tab.cells (by decide) q
    · exact row_nomap h.rrs h.tab.map q
    · exact (ne_types h.tab.row h.rrs (by decide)) k c.symm q), ne_grown h.e0 hat h.trs, ne_grown h.e1 hat h.lts, h.e2, h.e3, h.e4, h.e5⟩
theorem st_init {w0 W : World} {ba gm bt bm k n : Nat} {A1 : Option Addr} {c1 : Nat} {nx : List Int} {A2 : Option Addr} {c2 : Nat} {ac : List Bool} {vN vC : Value} (h1 : Below w0.heap.size w0 W) (h2 : w0.heap.size ≤ gm) (h3 : W.heap[ba]? = some (.cells #[.int .i64 k, .slice A1 nx.length c1, .slice A2 ac.length c2] 25 (0, 0)))
    (h4 : W.heap[gm]? = some (.cells #[.int .i64 k, vN, vC, .bool true, .slice none 0 0, .slice none 0 0, .slice none 0 0, .slice none 0 0] 84 (0, 0))) (h5 : Tab W w0.heap.size bt bm (.slice none 0 0) n [])
    (h6 : Kd.R (Kd.int .i64) 3 W w0.heap.size (fun _ => True) vN nx) (h7 : Kd.R Kd.bool 4 W w0.heap.size (fun _ => True) vC ac) : St w0 W ba gm bt bm k n A1 c1 nx A2 c2 ac vN vC (.slice none 0 0) (.slice none 0 0) (.slice none 0 0) (.slice none 0 0) (.slice none 0 0) (.slice none 0 0) (.slice none 0 0) (.slice none 0 0) (.slice none 0 0) (.slice none 0 0) 0 0 [] [] [] [] [] [] :=
  ⟨h1, h2, h3, h4, h5, Kd.R_nil _ _ _ _ _, Kd.R_nil _ _ _ _ _, Kd.R_nil _ _ _ _ _, Kd.R_nil _ _ _ _ _, Kd.R_nil _ _ _ _ _, h6, h7, Kd.R_nil _ _ _ _ _, ne_nil _, ne_nil _, ne_nil _, ne_nil _, ne_nil _, ne_nil _⟩
theorem St.far {w0 W : World} {ba gm bt bm k n : Nat} {A1 : Option Addr} {c1 : Nat} {nx : List Int} {A2 : Option Addr} {c2 : Nat} {ac : List Bool} {vN vC v vT vW vL vR vF vr uT uW ur : Value} {gR Nr : Nat} {T1 T2 Ls : List (List Nat)} {Ws : List ByteArray} {Rs Fs : List Int} {W' : World} {b t : Nat} {cs : Array Value} (h : St w0 W ba gm bt bm k n A1 c1 nx A2 c2 ac vN vC v vT vW vL vR vF vr uT uW ur gR Nr T1 T2 Ls Ws Rs Fs) (hk : Kept W W' (fun k => k = bt ∨ k = bm ∨ some k = v.ownBlock)) (hb : W.heap[b]? = some (.cells cs t (0, 0))) (h1 : t ≠ 134) (h2 : v.ownBlock ≠ some b) : W'.heap[b]? = some (.cells cs t (0, 0)) := by
  refine (hk.2 b (blk_lt hb) ?_).trans hb
  rintro (q | q | q)
  · subst q
    rw [h.tab.cells] at hb
    injection hb with hb
    injection hb with _ hb
    exact h1 hb.symm
  · exact map_ne hb h.tab.map q
  · exact h2 q.symm
end Go.Proofs.Ytcnnlddjnmkioaa.HSt
