/- trans.Table's Put: contract. -/
import Derived.Test.YtcnnlddjnmkioaaHTable
set_option linter.unusedVariables false
set_option linter.unusedSimpArgs false
namespace Go.Proofs.Ytcnnlddjnmkioaa.HPut
open Go Go.RowKit Go.Proofs.Ytcnnlddjnmkioaa.HReads Go.Proofs.Ytcnnlddjnmkioaa.HArr Go.Proofs.Ytcnnlddjnmkioaa.HPack Go.Proofs.Ytcnnlddjnmkioaa.HTkey Go.Proofs.Ytcnnlddjnmkioaa.HTopen Go.Proofs.Ytcnnlddjnmkioaa.HTrans Go.Proofs.Ytcnnlddjnmkioaa.HTable Go.Proofs.YtcnnlddjnmkioaaW.PrintWords Go.Proofs.YtcnnlddjnmkioaaW.PrintLast Go.Proofs.YtcnnlddjnmkioaaW.PrintMore

def pNum (L : List (List Nat)) (q : List Nat) : Int := if q ∈ L then (L.idxOf q : Int) else if 512 ≤ L.length then 0 else L.length
def pNew (L : List (List Nat)) (q : List Nat) : Bool := if q ∈ L then false else if 512 ≤ L.length then false else true
def pErr (L : List (List Nat)) (q : List Nat) : Int := if q ∈ L then 0 else if 512 ≤ L.length then 2 else 0
def pList (L : List (List Nat)) (q : List Nat) : List (List Nat) := if q ∈ L then L else if 512 ≤ L.length then L else L ++ [q]
theorem kT_mkM (w : World) (base : Nat) (ok : Nat → Prop) (n : Nat) (l : List Nat) : kT.M w base ok (tup n l) (pk (im l) n n).toList :=
  ⟨[.int .i64 n], [.int .u64 (wrd (im l) n 0), .int .u64 (wrd (im l) n 1), .int .u64 (wrd (im l) n 2), .int .u64 (wrd (im l) n 3), .int .u64 (wrd (im l) n 4), .int .u64 (wrd (im l) n 5), .int .u64 (wrd (im l) n 6)], rfl, rfl,
    [.int .u64 (wrd (im l) n 0)], [.int .u64 (wrd (im l) n 1), .int .u64 (wrd (im l) n 2), .int .u64 (wrd (im l) n 3), .int .u64 (wrd (im l) n 4), .int .u64 (wrd (im l) n 5), .int .u64 (wrd (im l) n 6)], rfl, rfl,
    [.int .u64 (wrd (im l) n 1)], [.int .u64 (wrd (im l) n 2), .int .u64 (wrd (im l) n 3), .int .u64 (wrd (im l) n 4), .int .u64 (wrd (im l) n 5), .int .u64 (wrd (im l) n 6)], rfl, rfl,
    [.int .u64 (wrd (im l) n 2)], [.int .u64 (wrd (im l) n 3), .int .u64 (wrd (im l) n 4), .int .u64 (wrd (im l) n 5), .int .u64 (wrd (im l) n 6)], rfl, rfl,
    [.int .u64 (wrd (im l) n 3)], [.int .u64 (wrd (im l) n 4), .int .u64 (wrd (im l) n 5), .int .u64 (wrd (im l) n 6)], rfl, rfl,
    [.int .u64 (wrd (im l) n 4)], [.int .u64 (wrd (im l) n 5), .int .u64 (wrd (im l) n 6)], rfl, rfl,
    [.int .u64 (wrd (im l) n 5)], [.int .u64 (wrd (im l) n 6)], rfl, rfl, rfl⟩

theorem blk_grown {W z : World} {g : Nat} {t : TypeId} {cs : Array Value} {row : Option Nat} (h : W.heap[g]? = some (.cells cs t (0, 0))) (hg : W.grownBy z row) (hne : some g ≠ row) : z.heap[g]? = some (.cells cs t (0, 0)) := (hg.block g (blk_lt h) hne).trans h
theorem map_ne {W : World} {g bm m : Nat} {t : TypeId} {cs : Array Value} {D : DataW Unit} {R : Value → Option (DataW Unit × List MemPlace)} (h : W.heap[g]? = some (.cells cs t (0, 0))) (hm : W.ownsMap Try.prog 57 R bm m D) : g ≠ bm := by
  rintro rfl
  obtain ⟨es, clock, hb, _⟩ := hm
  rw [h] at hb
  cases hb
theorem pk_open (p : Nat → Nat) (n : Nat) : pk p n n = #[.int .i64 n, .int .u64 (wrd p n 0), .int .u64 (wrd p n 1), .int .u64 (wrd p n 2), .int .u64 (wrd p n 3), .int .u64 (wrd p n 4), .int .u64 (wrd p n 5), .int .u64 (wrd p n 6)] := rfl
abbrev zeroT : Value := .agg #[.int .i64 0, .int .u64 0, .int .u64 0, .int .u64 0, .int .u64 0, .int .u64 0, .int .u64 0, .int .u64 0]
theorem infoT : (Try.prog.info? 57).map (fun i => (i.zero, i.size, i.bytes)) = some (some zeroT, 8, 64) := by kernel_rfl
theorem sizeL : (Try.prog.info? 81).map (·.size) = some 1 := by kernel_rfl
/-- A table's list, its cells; its map apart. -/
def Row (W : World) (base bt bm : Nat) (v : Value) (n : Nat) (L : List (List Nat)) : Prop :=
  W.heap[bt]? = some (.cells #[.int .i64 n, .map (some bm), v] 134 (0, 0)) ∧ Kd.R kT 57 W base (fun _ => True) v (L.map (tup n)) ∧ (∀ k, v.ownBlock = some k → k ≠ bt ∧ k ≠ bm) ∧ bt ≠ bm
theorem kE : kT.E = [] := rfl
theorem own_ne {W : World} {base bt bm n : Nat} {v : Value} {L : List (List Nat)} (h : Tab W base bt bm v n L) : ∀ k, v.ownBlock = some k → k ≠ bt ∧ k ≠ bm := by
  intro k hk
  obtain ⟨_, _, _, q, hq, cells, hc⟩ := (Kd.R_bound h.row).1 k hk
  refine ⟨?_, map_ne hc h.map⟩
  rintro rfl
  have := hc.symm.trans h.cells
  injection this with e
  injection e with _ e2
  rw [kE] at hq
  simp at hq
  rw [hq] at e2
  exact absurd e2 (by decide)
theorem tab_upd {W z : World} {base bt bm n : Nat} {v : Value} {L : List (List Nat)} (h : Tab W base bt bm v n L) (hg : W.grownBy z (some bm)) : Row z base bt bm v n L :=
  ⟨blk_grown h.cells hg (fun e => map_ne h.cells h.map (by injection e)), Kd.R_mono (Kd.R_step (Kd.R_bound h.row) (fun k hk hlt => hg.block k hlt (fun e => by
    obtain ⟨_, _, _, q, _, cells, hc⟩ := hk
    exact map_ne hc h.map (by injection e)))) (fun _ _ => trivial), own_ne h, map_ne h.cells h.map⟩
theorem row_below {W W' : World} {base bt bm n : Nat} {v : Value} {L : List (List Nat)} (h : Row W base bt bm v n L) (hb : Below W.heap.size W W') : Row W' base bt bm v n L := ⟨blk_below h.1 hb, Kd.R_below h.2.1 hb, h.2.2⟩
theorem wf64 (i : Int) (h0 : 0 ≤ i) (h1 : i < 9223372036854775808) : (Lit.int .i64 i).wf = true := by
  have a : IntKind.i64.min = -9223372036854775808 := by decide
  have b : IntKind.i64.max = 9223372036854775807 := by decide
  simp [Lit.wf, a, b]
  omega
theorem exec_mput {op : Oper} {a : Act} {w : World} {m x y : Operand} {bm n : Nat} {L : List (List Nat)} {q : List Nat} (h2 : n ≤ 64) (hq : HTable.Good n q)
    (ho : op.op = .mapUpdate 132 m x y) (hm : a.eval m = .map (some bm)) (hx : a.eval x = .agg (pk (im q) n n)) (hy : a.eval y = .int .i64 L.length) (hown : w.ownsMap Try.prog 57 (plainElem Try.prog 3) bm L.length (dat n L)) (hl : L.length < 512) :
    ∃ w', (execOp a.eval op).run Try.prog w = .ok .skip w' ∧ w'.ownsMap Try.prog 57 (plainElem Try.prog 3) bm (L.length + 1) (dat n (L ++ [q])) ∧ w.grownBy w' (some bm) := by
  obtain ⟨w', hrun, ho', hg⟩ := hown.update law Try.underlying132 (Nat.lt_trans hl (by decide)) (key h2 hq) (val := .int .i64 L.length) (d := .lit (.int .i64 L.length)) (ps := []) (plainElem_int Try.underlying3 (wf64 _ (by omega) (by omega)))
  refine ⟨w', ?_, ?_, hg⟩
  · unfold execOp
    simp only [ho, hm, hx, hy, Sem.run_bind, hrun, Sem.run_pure, Result.andThen_ok]
  · rw [dat_snoc]
    exact ho'
theorem mput_step {ops : Array Oper} {oi : Oper} {a : Act} {w : World} {K : Act → World → Prop} {Q : Exit → Act → World → Prop} {bm n : Nat} {L : List (List Nat)} {q : List Nat} (m x y : Operand) (h2 : n ≤ 64) (hq : HTable.Good n q)
    (hown : w.ownsMap Try.prog 57 (plainElem Try.prog 3) bm L.length (dat n L)) (hl : L.length < 512) (hw : Region.wanted oi (yielded ops a.tmps) = true) (hN : oi.dst = none)
    (ho : oi.op = .mapUpdate 132 m x y) (hm : a.eval m = .map (some bm)) (hx : a.eval x = .agg (pk (im q) n n)) (hy : a.eval y = .int .i64 L.length)
    (h : ∀ z3, z3.ownsMap Try.prog 57 (plainElem Try.prog 3) bm (L.length + 1) (dat n (L ++ [q])) → w.grownBy z3 (some bm) → K a z3) :
    if Region.wanted oi (yielded ops a.tmps) = true then Oper.wp Try.prog oi a w K Q else K (a.put none undef) w := by
  obtain ⟨z3, hrun, hown, hg⟩ := exec_mput (a := a) h2 hq ho hm hx hy hown hl
  exact skip_ hw hN hrun (h z3 hown hg)
theorem tab_last {w5 : World} {base bt bm n c5 : Nat} {A5 : Option Addr} {L : List (List Nat)} {q : List Nat} {v : Value} (X : w5.heap[bt]? = some (.cells #[.int .i64 n, .map (some bm), v] 134 (0, 0))) (M : w5.ownsMap Try.prog 57 (plainElem Try.prog 3) bm (L.length + 1) (dat n (L ++ [q])))
    (V : Kd.R kT 57 w5 base (fun _ => True) (.slice A5 (L.length + 1) c5) (L.map (tup n) ++ [tup n q])) (h1 : base ≤ bt) (h2 : base ≤ bm) (hg : ∀ l ∈ L, HTable.Good n l) (hd : L.Nodup) (hq : HTable.Good n q) (hx : q ∉ L) :
    Tab (w5.setCells bt 2 [.slice A5 (L.length + 1) c5]) base bt bm (.slice A5 (L.length + 1) c5) n (L ++ [q]) := by
  refine ⟨blk_put (cs := #[.int .i64 n, .map (some bm), v]) X 2 _ rfl, ?_, ?_, h1, h2, ?_, ?_⟩
  · rw [show (L ++ [q]).length = L.length + 1 by simp]
    exact M.setCell (a := ⟨bt, 2, none⟩) (fun e => map_ne X M e.symm) _
  · rw [show (L ++ [q]).map (tup n) = L.map (tup n) ++ [tup n q] by simp]
    refine Kd.R_mono (Kd.R_step (Kd.R_bound V) (fun k hk hlt => Below.heap_setCell w5 ⟨bt, 2, none⟩ _ k ?_)) (fun _ _ => trivial)
    rintro rfl
    obtain ⟨_, _, _, q', hq', cells, hc⟩ := hk
    have := hc.symm.trans X
    injection this with e
    injection e with _ e2
    rw [kE] at hq'
    simp at hq'
    rw [hq'] at e2
    exact absurd e2 (by decide)
  · intro l hl
    rcases List.mem_append.1 hl with h | h
    · exact hg l h
    · simp at h
      subst h
      exact hq
  · rw [List.nodup_append]
    exact ⟨hd, by simp, fun a ha b hb => by simp at hb; subst hb; rintro rfl; exact hx ha⟩

set_option maxHeartbeats 4000000 in
set_option maxRecDepth 100000 in
theorem calls (w : World) (base bt bm n : Nat) (v : Value) (L : List (List Nat)) (q : List Nat) (h1 : 1 ≤ n) (h2 : n ≤ 64) (hT : Tab w base bt bm v n L) (hq : HTable.Good n q) (hl : L.length ≤ 512) (hbs : base ≤ w.heap.size) :
    Calls Try.prog 77 #[.pointer (some ⟨bt, 0, none⟩), .agg (pk (im q) n n)] w fun e w' => ∃ v', e = .returned (.tuple #[.int .i64 (pNum L q), .bool (pNew L q), .int .i64 (pErr L q)]) ∧
      Tab w' base bt bm v' n (pList L q) ∧ Kept w w' (fun k => k = bt ∨ k = bm ∨ some k = v.ownBlock) ∧ (v'.ownBlock = v.ownBlock ∨ ∃ b, v'.ownBlock = some b ∧ w.heap.size ≤ b) ∧ Below base w w' := by
  obtain ⟨A, cap, hv⟩ := Kd.R_slice hT.row
  rw [List.length_map] at hv
  subst hv
  have HT := Aside0.mk hT
  have HQ := Aside0.mk hq
  clear hT hq
  obtain ⟨c, hc⟩ : ∃ c : Int, c = (if q ∈ L then (L.idxOf q : Int) else 0) := ⟨_, rfl⟩
  obtain ⟨bb, hbb⟩ : ∃ b : Bool, b = L.contains q := ⟨_, rfl⟩
  have HC := Aside0.mk hc
  have HBB := Aside0.mk hbb
  clear hc hbb
  have X0 := Aside0.mk (blk_new w (.cells (pk (im q) n n) 57))
  have B0 := Aside0.mk (below_alloc (Below.refl w.heap.size w) (.cells (pk (im q) n n) 57))
  have T0 := Aside0.mk (HT.out.below B0.out)
  go_enter Try.func77, Try.ntmps77
  go_upto_region 1 with fail
  generalize w.alloc (.cells (pk (im q) n n) 57) = w0 at *
  go_upto_region 3 with (go_at_call 91; refine (good_calls w0 bt bm n _ T0.out.cells).mono ?_; rintro e w1 ⟨rfl, hw1⟩; obtain rfl : w0 = w1 := hw1.symm)
  --P3
  refine start_ (n := 12) (S := fun w' => w'.heap[w.heap.size]? = some (.cells (pk (im q) n n) 57 (0, 0)) ∧ w'.heap[bt]? = some (.cells #[.int .i64 n, .map (some bm), .slice A L.length cap] 134 (0, 0))) (ds := []) #[false, false, false, false, false, false, false, false, false, false, false, false] (by kernel_rfl) rfl rfl ⟨X0.out, T0.out.cells⟩ (fun hHeld => ?_)
  have TD : Aside0 (Tab w0.drew base bt bm (.slice A L.length cap) n L) := ⟨T0.out.below (below_drew1 (Below.refl _ _))⟩
  have BD := Aside0.mk (below_drew1 B0.out)
  generalize w0.drew = y0 at *
  refine take_ (i := 0) (N := (some 13)) (v := .agg (pk (im q) n n)) (a' := ?_) #[true, false, false, false, false, false, false, false, false, false, false, false] rfl rfl (by kernel_rfl) (fun _ _ _ h => h) (Or.inl ⟨by rfl, ?_⟩) hHeld ?_ ?_
  · rintro w' ⟨s0, s1⟩
    exact exec_loadT (op := _) (a := _) (x := .tmp 3) rfl rfl rfl s0
  rotate_left
  · simp only [Act.put, List.setIfInBounds_toArray, List.set_cons_zero, List.set_cons_succ, i64_w, i32_w]
    rfl
  refine one_ (i := 1) (N := (some 14)) #[true, true, false, false, false, false, false, false, false, false, false, false] rfl rfl (by kernel_rfl) (by decide) (fun K hK => ?_)
  refine call_ 92 #[.agg (pk (im q) n n)] (by rfl) rfl (by go_simp) ?_
  refine (HTrans.check_calls y0 (im q) n h1 h2 HQ.out.im).mono ?_
  rintro e y1 ⟨rfl, hb⟩
  refine ⟨_, rfl, ?_⟩
  have T1 := Aside0.mk (TD.out.below hb)
  have X1 := Aside0.mk (blk_below hHeld.1 hb)
  have B1 := Aside0.mk (below_then BD.out BD.out.size hb)
  clear hb
  refine hK.out _ _ (⟨X1.out, T1.out.cells⟩) (fun hHeld => ?_)
  clear hK K
  refine norm_ (a' := ?_) ?_ ?_
  rotate_left
  · show Act.put _ (some 14) _ = _
    simp only [Act.put, List.setIfInBounds_toArray, List.set_cons_zero, List.set_cons_succ, i64_w, i32_w]
    rfl
  refine pure_ (i := 2) (N := (some 15)) (v := ?_) (a' := ?_) #[true, true, true, false, false, false, false, false, false, false, false, false] rfl rfl (by kernel_rfl) (fun _ _ _ h => h) (Or.inl ⟨by rfl, ?_⟩) ?_ ?_
  rotate_left
  · intro w'
    go_simp
    with_reducible rfl
  rotate_left
  · simp only [Act.put, List.setIfInBounds_toArray, List.set_cons_zero, List.set_cons_succ, i64_w, i32_w]
    rfl
  refine pure_ (i := 3) (N := (some 16)) (v := ?_) (a' := ?_) #[true, true, true, true, false, false, false, false, false, false, false, false] rfl rfl (by kernel_rfl) (fun _ _ _ h => h) (Or.inl ⟨by rfl, ?_⟩) ?_ ?_
  rotate_left
  · intro w'
    go_simp
    with_reducible rfl
  rotate_left
  · simp only [Act.put, List.setIfInBounds_toArray, List.set_cons_zero, List.set_cons_succ, i64_w, i32_w]
    rfl
  refine pure_ (i := 4) (N := (some 17)) (v := ?_) (a' := ?_) #[true, true, true, true, true, false, false, false, false, false, false, false] rfl rfl (by kernel_rfl) (fun _ _ _ h => h) (Or.inl ⟨by rfl, ?_⟩) ?_ ?_
  rotate_left
  · intro w'
    go_simp
    with_reducible rfl
  rotate_left
  · simp only [Act.put, List.setIfInBounds_toArray, List.set_cons_zero, List.set_cons_succ, i64_w, i32_w]
    rfl
  refine pure_ (i := 6) (N := (some 19)) (v := ?_) (a' := ?_) #[true, true, true, true, true, false, true, false, false, false, false, false] rfl rfl (by kernel_rfl) (fun _ _ _ h => h) (Or.inl ⟨by rfl, ?_⟩) ?_ ?_
  rotate_left
  · intro w'
    go_simp
    with_reducible rfl
  rotate_left
  · simp only [Act.put, List.setIfInBounds_toArray, List.set_cons_zero, List.set_cons_succ, i64_w, i32_w]
    rfl
  refine pure_ (i := 7) (N := (some 20)) (v := ?_) (a' := ?_) #[true, true, true, true, true, false, true, true, false, false, false, false] rfl rfl (by kernel_rfl) (fun _ _ _ h => h) (Or.inl ⟨by rfl, ?_⟩) ?_ ?_
  rotate_left
  · intro w'
    go_simp
    with_reducible rfl
  rotate_left
  · simp only [Act.put, List.setIfInBounds_toArray, List.set_cons_zero, List.set_cons_succ, i64_w, i32_w]
    rfl
  refine pure_ (i := 8) (N := (some 21)) (v := ?_) (a' := ?_) #[true, true, true, true, true, false, true, true, true, false, false, false] rfl rfl (by kernel_rfl) (fun _ _ _ h => h) (Or.inl ⟨by rfl, ?_⟩) ?_ ?_
  rotate_left
  · intro w'
    go_simp
    with_reducible rfl
  rotate_left
  · simp only [Act.put, List.setIfInBounds_toArray, List.set_cons_zero, List.set_cons_succ, i64_w, i32_w]
    rfl
  refine take_ (i := 5) (N := (some 18)) (v := ?_) (a' := ?_) #[true, true, true, true, true, true, true, true, true, false, false, false] rfl rfl (by kernel_rfl) (fun _ _ _ h => h) (Or.inl ⟨by rfl, ?_⟩) hHeld ?_ ?_
  rotate_left
  · rintro w' ⟨s0, s1⟩
    have s3 := (blk_cell s0 0).trans (show (pk (im q) n n)[0]? = some (.int .i64 n) from rfl)
    go_simp
    with_reducible rfl
  rotate_left
  · simp only [Act.put, List.setIfInBounds_toArray, List.set_cons_zero, List.set_cons_succ, i64_w, i32_w]
    rfl
  refine take_ (i := 9) (N := (some 22)) (v := ?_) (a' := ?_) #[true, true, true, true, true, true, true, true, true, true, false, false] rfl rfl (by kernel_rfl) (fun _ _ _ h => h) (Or.inl ⟨by rfl, ?_⟩) hHeld ?_ ?_
  rotate_left
  · rintro w' ⟨s0, s1⟩
    have s3 := (blk_cell s1 0).trans rfl
    go_simp
    with_reducible rfl
  rotate_left
  · simp only [Act.put, List.setIfInBounds_toArray, List.set_cons_zero, List.set_cons_succ, i64_w, i32_w]
    rfl
  refine pure_ (i := 10) (N := (some 23)) (v := ?_) (a' := ?_) #[true, true, true, true, true, true, true, true, true, true, true, false] rfl rfl (by kernel_rfl) (fun _ _ _ h => h) (Or.inl ⟨by rfl, ?_⟩) ?_ ?_
  rotate_left
  · intro w'
    go_simp
    with_reducible rfl
  rotate_left
  · simp only [Act.put, List.setIfInBounds_toArray, List.set_cons_zero, List.set_cons_succ, i64_w, i32_w]
    rfl
  refine pure_ (i := 11) (N := (some 24)) (v := ?_) (a' := ?_) #[true, true, true, true, true, true, true, true, true, true, true, true] rfl rfl (by kernel_rfl) (fun _ _ _ h => h) (Or.inl ⟨by rfl, ?_⟩) ?_ ?_
  rotate_left
  · intro w'
    go_simp
    with_reducible rfl
  rotate_left
  · simp only [Act.put, List.setIfInBounds_toArray, List.set_cons_zero, List.set_cons_succ, i64_w, i32_w]
    rfl
  refine done_ (by kernel_rfl) ?_
  --ENDP3
  go_upto_region 5 with fail
  --P5
  refine start_ (n := 11) (S := fun w' => w'.heap[w.heap.size]? = some (.cells (pk (im q) n n) 57 (0, 0)) ∧ w'.heap[bt]? = some (.cells #[.int .i64 n, .map (some bm), .slice A L.length cap] 134 (0, 0)) ∧ w'.ownsMap Try.prog 57 (plainElem Try.prog 3) bm L.length (dat n L)) (ds := []) #[false, false, false, false, false, false, false, false, false, false, false] (by kernel_rfl) rfl rfl ⟨X1.out, T1.out.cells, T1.out.map⟩ (fun hHeld => ?_)
  have T2 : Aside0 (Tab y1.drew base bt bm (.slice A L.length cap) n L) := ⟨T1.out.below (below_drew1 (Below.refl _ _))⟩
  have B2 := Aside0.mk (below_drew1 B1.out)
  have X2 : Aside0 (y1.drew.heap[w.heap.size]? = some (.cells (pk (im q) n n) 57 (0, 0))) := ⟨X1.out⟩
  clear X1 T1 B1 TD BD
  generalize y1.drew = y2 at *
  refine pure_ (i := 0) (N := (some 26)) (v := ?_) (a' := ?_) #[true, false, false, false, false, false, false, false, false, false, false] rfl rfl (by kernel_rfl) (fun _ _ _ h => h) (Or.inl ⟨by rfl, ?_⟩) ?_ ?_
  rotate_left
  · intro w'
    go_simp
    with_reducible rfl
  rotate_left
  · simp only [Act.put, List.setIfInBounds_toArray, List.set_cons_zero, List.set_cons_succ, i64_w, i32_w]
    rfl
  refine pure_ (i := 1) (N := (some 27)) (v := ?_) (a' := ?_) #[true, true, false, false, false, false, false, false, false, false, false] rfl rfl (by kernel_rfl) (fun _ _ _ h => h) (Or.inl ⟨by rfl, ?_⟩) ?_ ?_
  rotate_left
  · intro w'
    go_simp
    with_reducible rfl
  rotate_left
  · simp only [Act.put, List.setIfInBounds_toArray, List.set_cons_zero, List.set_cons_succ, i64_w, i32_w]
    rfl
  refine pure_ (i := 2) (N := (some 28)) (v := ?_) (a' := ?_) #[true, true, true, false, false, false, false, false, false, false, false] rfl rfl (by kernel_rfl) (fun _ _ _ h => h) (Or.inl ⟨by rfl, ?_⟩) ?_ ?_
  rotate_left
  · intro w'
    go_simp
    with_reducible rfl
  rotate_left
  · simp only [Act.put, List.setIfInBounds_toArray, List.set_cons_zero, List.set_cons_succ, i64_w, i32_w]
    rfl
  refine take_ (i := 3) (N := (some 29)) (v := ?_) (a' := ?_) #[true, true, true, true, false, false, false, false, false, false, false] rfl rfl (by kernel_rfl) (fun _ _ _ h => h) (Or.inl ⟨by rfl, ?_⟩) hHeld ?_ ?_
  rotate_left
  · rintro w' ⟨s0, s1, s2⟩
    have s3 := (blk_cell s1 1).trans rfl
    go_simp
    with_reducible rfl
  rotate_left
  · simp only [Act.put, List.setIfInBounds_toArray, List.set_cons_zero, List.set_cons_succ, i64_w, i32_w]
    rfl
  refine take_ (i := 4) (N := (some 30)) (v := .agg (pk (im q) n n)) (a' := ?_) #[true, true, true, true, true, false, false, false, false, false, false] rfl rfl (by kernel_rfl) (fun _ _ _ h => h) (Or.inl ⟨by rfl, ?_⟩) hHeld ?_ ?_
  · rintro w' ⟨s0, s1, s2⟩
    exact exec_loadT (op := _) (a := _) (x := .tmp 3) rfl rfl rfl s0
  rotate_left
  · simp only [Act.put, List.setIfInBounds_toArray, List.set_cons_zero, List.set_cons_succ, i64_w, i32_w]
    rfl
  refine take_ (i := 5) (N := (some 31)) (v := .tuple #[.int .i64 c, .bool bb]) (a' := ?_) #[true, true, true, true, true, true, false, false, false, false, false] rfl rfl (by kernel_rfl) (fun _ _ _ h => h) (Or.inl ⟨by rfl, ?_⟩) hHeld ?_ ?_
  · rintro w' ⟨s0, s1, s2⟩
    rw [HC.out, HBB.out]
    exact exec_look (op := _) (a := _) (m := .tmp 29) (x := .tmp 30) h2 HQ.out HT.out.good HT.out.nodup rfl rfl rfl s2
  rotate_left
  · simp only [Act.put, List.setIfInBounds_toArray, List.set_cons_zero, List.set_cons_succ, i64_w, i32_w]
    rfl
  refine pure_ (i := 6) (N := (some 25)) (v := ?_) (a' := ?_) #[true, true, true, true, true, true, true, false, false, false, false] rfl rfl (by kernel_rfl) (fun _ _ _ h => h) (Or.inl ⟨by rfl, ?_⟩) ?_ ?_
  rotate_left
  · intro w'
    go_simp
    with_reducible rfl
  rotate_left
  · simp only [Act.put, List.setIfInBounds_toArray, List.set_cons_zero, List.set_cons_succ, i64_w, i32_w]
    rfl
  refine pure_ (i := 7) (N := (some 32)) (v := ?_) (a' := ?_) #[true, true, true, true, true, true, true, true, false, false, false] rfl rfl (by kernel_rfl) (fun _ _ _ h => h) (Or.inl ⟨by rfl, ?_⟩) ?_ ?_
  rotate_left
  · intro w'
    go_simp
    with_reducible rfl
  rotate_left
  · simp only [Act.put, List.setIfInBounds_toArray, List.set_cons_zero, List.set_cons_succ, i64_w, i32_w]
    rfl
  refine pure_ (i := 8) (N := (some 33)) (v := ?_) (a' := ?_) #[true, true, true, true, true, true, true, true, true, false, false] rfl rfl (by kernel_rfl) (fun _ _ _ h => h) (Or.inl ⟨by rfl, ?_⟩) ?_ ?_
  rotate_left
  · intro w'
    go_simp
    with_reducible rfl
  rotate_left
  · simp only [Act.put, List.setIfInBounds_toArray, List.set_cons_zero, List.set_cons_succ, i64_w, i32_w]
    rfl
  refine pure_ (i := 9) (N := (some 7)) (v := ?_) (a' := ?_) #[true, true, true, true, true, true, true, true, true, true, false] rfl rfl (by kernel_rfl) (fun _ _ _ h => h) (Or.inl ⟨by rfl, ?_⟩) ?_ ?_
  rotate_left
  · intro w'
    go_simp
    with_reducible rfl
  rotate_left
  · simp only [Act.put, List.setIfInBounds_toArray, List.set_cons_zero, List.set_cons_succ, i64_w, i32_w]
    rfl
  refine pure_ (i := 10) (N := (some 8)) (v := ?_) (a' := ?_) #[true, true, true, true, true, true, true, true, true, true, true] rfl rfl (by kernel_rfl) (fun _ _ _ h => h) (Or.inl ⟨by rfl, ?_⟩) ?_ ?_
  rotate_left
  · intro w'
    go_simp
    with_reducible rfl
  rotate_left
  · simp only [Act.put, List.setIfInBounds_toArray, List.set_cons_zero, List.set_cons_succ, i64_w, i32_w]
    rfl
  refine done_ (by kernel_rfl) ?_
  --ENDP5
  by_cases hx : q ∈ L
  · have hb : bb = true := by rw [HBB.out]; simpa using hx
    subst hb
    have hc : c = (L.idxOf q : Int) := by rw [HC.out, if_pos hx]
    subst hc
    go_wp2_with fail
    refine bodyPost_ret (results_list (rs := [.tmp 4, .tmp 5, .tmp 6]) rfl (by simp) (.tmp (.tmp (.tmp .nil)))) rfl ?_
    refine ⟨.slice A L.length cap, ?_, ?_, Kept.of_below B2.out _, Or.inl rfl, B2.out.mono hbs⟩
    · unfold pNum pNew pErr
      rw [if_pos hx, if_pos hx, if_pos hx]
      rfl
    · unfold pList
      rw [if_pos hx]
      exact T2.out
  · have hb : bb = false := by rw [HBB.out]; simpa using hx
    subst hb
    have c2 : y2.cell? ⟨bt, 2, none⟩ = some (.slice A L.length cap) := (blk_cell T2.out.cells 2).trans rfl
    by_cases h5 : 512 ≤ L.length
    · have g5 : decide (512 ≤ L.length) = true := decide_eq_true h5
      have g6 : decide ((512 : Int) ≤ (L.length : Int)) = true := decide_eq_true (by omega)
      go_wp2_with fail
      refine bodyPost_ret (results_list (rs := [.tmp 4, .tmp 5, .tmp 6]) rfl (by simp) (.tmp (.tmp (.tmp .nil)))) rfl ?_
      refine ⟨.slice A L.length cap, ?_, ?_, Kept.of_below B2.out _, Or.inl rfl, B2.out.mono hbs⟩
      · unfold pNum pNew pErr
        rw [if_neg hx, if_neg hx, if_neg hx, if_pos h5, if_pos h5, if_pos h5]
        rfl
      · unfold pList
        rw [if_neg hx, if_pos h5]
        exact T2.out
    · have g5 : decide (512 ≤ L.length) = false := decide_eq_false h5
      have g6 : decide ((512 : Int) ≤ (L.length : Int)) = false := decide_eq_false (by omega)
      go_upto_region 11 with fail
      --P11
      refine start_ (n := 7) (S := fun w' => w'.heap[w.heap.size]? = some (.cells (pk (im q) n n) 57 (0, 0)) ∧ w'.heap[bt]? = some (.cells #[.int .i64 n, .map (some bm), .slice A L.length cap] 134 (0, 0))) (ds := [6]) #[false, false, false, false, false, false, false] (by kernel_rfl) rfl rfl ⟨X2.out, T2.out.cells⟩ (fun hHeld => ?_)
      have T3 : Aside0 (Tab y2.drew base bt bm (.slice A L.length cap) n L) := ⟨T2.out.below (below_drew1 (Below.refl _ _))⟩
      have B3 := Aside0.mk (below_drew1 B2.out)
      have X3 : Aside0 (y2.drew.heap[w.heap.size]? = some (.cells (pk (im q) n n) 57 (0, 0))) := ⟨X2.out⟩
      clear X2 T2 B2
      generalize y2.drew = y3 at *
      refine pure_ (i := 0) (N := (some 43)) (v := ?_) (a' := ?_) #[true, false, false, false, false, false, false] rfl rfl (by kernel_rfl) (fun _ _ _ h => h) (Or.inl ⟨by rfl, ?_⟩) ?_ ?_
      rotate_left
      · intro w'
        go_simp
        with_reducible rfl
      rotate_left
      · simp only [Act.put, List.setIfInBounds_toArray, List.set_cons_zero, List.set_cons_succ, i64_w, i32_w]
        rfl
      refine pure_ (i := 1) (N := (some 44)) (v := ?_) (a' := ?_) #[true, true, false, false, false, false, false] rfl rfl (by kernel_rfl) (fun _ _ _ h => h) (Or.inl ⟨by rfl, ?_⟩) ?_ ?_
      rotate_left
      · intro w'
        go_simp
        with_reducible rfl
      rotate_left
      · simp only [Act.put, List.setIfInBounds_toArray, List.set_cons_zero, List.set_cons_succ, i64_w, i32_w]
        rfl
      refine pure_ (i := 2) (N := (some 45)) (v := ?_) (a' := ?_) #[true, true, true, false, false, false, false] rfl rfl (by kernel_rfl) (fun _ _ _ h => h) (Or.inl ⟨by rfl, ?_⟩) ?_ ?_
      rotate_left
      · intro w'
        go_simp
        with_reducible rfl
      rotate_left
      · simp only [Act.put, List.setIfInBounds_toArray, List.set_cons_zero, List.set_cons_succ, i64_w, i32_w]
        rfl
      refine pure_ (i := 5) (N := (some 48)) (v := ?_) (a' := ?_) #[true, true, true, false, false, true, false] rfl rfl (by kernel_rfl) (fun _ _ _ h => h) (Or.inl ⟨by rfl, ?_⟩) ?_ ?_
      rotate_left
      · intro w'
        go_simp
        with_reducible rfl
      rotate_left
      · simp only [Act.put, List.setIfInBounds_toArray, List.set_cons_zero, List.set_cons_succ, i64_w, i32_w]
        rfl
      refine take_ (i := 3) (N := (some 46)) (v := ?_) (a' := ?_) #[true, true, true, true, false, true, false] rfl rfl (by kernel_rfl) (fun _ _ _ h => h) (Or.inl ⟨by rfl, ?_⟩) hHeld ?_ ?_
      rotate_left
      · rintro w' ⟨s0, s1⟩
        have s3 := (blk_cell s1 1).trans rfl
        go_simp
        with_reducible rfl
      rotate_left
      · simp only [Act.put, List.setIfInBounds_toArray, List.set_cons_zero, List.set_cons_succ, i64_w, i32_w]
        rfl
      refine take_ (i := 4) (N := (some 47)) (v := .agg (pk (im q) n n)) (a' := ?_) #[true, true, true, true, true, true, false] rfl rfl (by kernel_rfl) (fun _ _ _ h => h) (Or.inl ⟨by rfl, ?_⟩) hHeld ?_ ?_
      · rintro w' ⟨s0, s1⟩
        exact exec_loadT (op := _) (a := _) (x := .tmp 3) rfl rfl rfl s0
      rotate_left
      · simp only [Act.put, List.setIfInBounds_toArray, List.set_cons_zero, List.set_cons_succ, i64_w, i32_w]
        rfl
      refine last_ (i := 6) (N := none) #[true, true, true, true, true, true, true] rfl rfl (by kernel_rfl) (by decide) (fun K hK => ?_)
      refine mput_step (.tmp 46) (.tmp 47) (.tmp 48) h2 HQ.out T3.out.map (by omega) (by rfl) rfl rfl rfl rfl rfl ?_
      intro z3 hown hg
      have T4 := tab_upd T3.out hg
      have X4 : Aside0 (z3.heap[w.heap.size]? = some (.cells (pk (im q) n n) 57 (0, 0))) := ⟨blk_grown X3.out hg (fun e => map_ne X3.out T3.out.map (by injection e))⟩
      have K4 := Aside0.mk (Kept.of_grown (S := fun k => k = bt ∨ k = bm ∨ some k = (Value.slice A L.length cap).ownBlock) hg (Kept.of_below B3.out _) (fun k hk => .inl (.inr (.inl (by injection hk with hk; exact hk.symm)))))
      have M4 := Aside0.mk hown
      have Z4 := Aside0.mk hg.size
      have Q4 := Aside0.mk (pw_below_grown (B3.out.mono hbs) (some bm) (by have := B3.out.size; omega) hg (fun k hk => by injection hk with hk; exact hk ▸ HT.out.lm))
      clear hg hown
      refine hK.out _ _ ?_
      clear hK K
      refine done_ (by kernel_rfl) ?_
      --ENDP11
      go_upto_region 12 with fail
      --P12
      refine start_ (n := 11) (S := fun w' => w'.heap[w.heap.size]? = some (.cells (pk (im q) n n) 57 (0, 0)) ∧ w'.heap[bt]? = some (.cells #[.int .i64 n, .map (some bm), .slice A L.length cap] 134 (0, 0))) (ds := [7, 10]) #[false, false, false, false, false, false, false, false, false, false, false] (by kernel_rfl) rfl rfl ⟨X4.out, T4.1⟩ (fun hHeld => ?_)
      have T5 : Aside0 (Row z3.drew base bt bm (.slice A L.length cap) n L) := ⟨row_below T4 (below_drew1 (Below.refl _ _))⟩
      have X5 : Aside0 (z3.drew.heap[w.heap.size]? = some (.cells (pk (im q) n n) 57 (0, 0))) := ⟨X4.out⟩
      have K5 : Aside0 (Kept w z3.drew (fun k => k = bt ∨ k = bm ∨ some k = (Value.slice A L.length cap).ownBlock)) := ⟨K4.out.below (below_drew1 (Below.refl _ _))⟩
      have M5 : Aside0 (z3.drew.ownsMap Try.prog 57 (plainElem Try.prog 3) bm (L.length + 1) (dat n (L ++ [q]))) := ⟨M4.out.drew⟩
      have Q5 : Aside0 (Below base w z3.drew) := ⟨Q4.out.drew⟩
      have Z5 : Aside0 (base ≤ z3.drew.heap.size) := ⟨by have := B3.out.size; have := Z4.out; show base ≤ z3.heap.size; omega⟩
      clear X4 T4 K4 M4 Z4 Q4
      generalize z3.drew = z4 at *
      refine pure_ (i := 0) (N := (some 49)) (v := ?_) (a' := ?_) #[true, false, false, false, false, false, false, false, false, false, false] rfl rfl (by kernel_rfl) (fun _ _ _ h => h) (Or.inl ⟨by rfl, ?_⟩) ?_ ?_
      rotate_left
      · intro w'
        go_simp
        with_reducible rfl
      rotate_left
      · simp only [Act.put, List.setIfInBounds_toArray, List.set_cons_zero, List.set_cons_succ, i64_w, i32_w]
        rfl
      refine pure_ (i := 1) (N := (some 50)) (v := ?_) (a' := ?_) #[true, true, false, false, false, false, false, false, false, false, false] rfl rfl (by kernel_rfl) (fun _ _ _ h => h) (Or.inl ⟨by rfl, ?_⟩) ?_ ?_
      rotate_left
      · intro w'
        go_simp
        with_reducible rfl
      rotate_left
      · simp only [Act.put, List.setIfInBounds_toArray, List.set_cons_zero, List.set_cons_succ, i64_w, i32_w]
        rfl
      refine pure_ (i := 2) (N := (some 51)) (v := ?_) (a' := ?_) #[true, true, true, false, false, false, false, false, false, false, false] rfl rfl (by kernel_rfl) (fun _ _ _ h => h) (Or.inl ⟨by rfl, ?_⟩) ?_ ?_
      rotate_left
      · intro w'
        go_simp
        with_reducible rfl
      rotate_left
      · simp only [Act.put, List.setIfInBounds_toArray, List.set_cons_zero, List.set_cons_succ, i64_w, i32_w]
        rfl
      refine pure_ (i := 3) (N := (some 52)) (v := ?_) (a' := ?_) #[true, true, true, true, false, false, false, false, false, false, false] rfl rfl (by kernel_rfl) (fun _ _ _ h => h) (Or.inl ⟨by rfl, ?_⟩) ?_ ?_
      rotate_left
      · intro w'
        go_simp
        with_reducible rfl
      rotate_left
      · simp only [Act.put, List.setIfInBounds_toArray, List.set_cons_zero, List.set_cons_succ, i64_w, i32_w]
        rfl
      refine take_ (i := 4) (N := (some 53)) (v := ?_) (a' := ?_) #[true, true, true, true, true, false, false, false, false, false, false] rfl rfl (by kernel_rfl) (fun _ _ _ h => h) (Or.inl ⟨by rfl, ?_⟩) hHeld ?_ ?_
      rotate_left
      · rintro w' ⟨s0, s1⟩
        have s3 := (blk_cell s1 2).trans rfl
        go_simp
        with_reducible rfl
      rotate_left
      · simp only [Act.put, List.setIfInBounds_toArray, List.set_cons_zero, List.set_cons_succ, i64_w, i32_w]
        rfl
      refine take_ (i := 5) (N := (some 54)) (v := .agg (pk (im q) n n)) (a' := ?_) #[true, true, true, true, true, true, false, false, false, false, false] rfl rfl (by kernel_rfl) (fun _ _ _ h => h) (Or.inl ⟨by rfl, ?_⟩) hHeld ?_ ?_
      · rintro w' ⟨s0, s1⟩
        exact exec_loadT (op := _) (a := _) (x := .tmp 3) rfl rfl rfl s0
      rotate_left
      · simp only [Act.put, List.setIfInBounds_toArray, List.set_cons_zero, List.set_cons_succ, i64_w, i32_w]
        rfl
      refine one_ (i := 6) (N := (some 55)) #[true, true, true, true, true, true, true, false, false, false, false] rfl rfl (by kernel_rfl) (by decide) (fun K hK => ?_)
      refine value_ (v := .slice (some ⟨z4.heap.size, 0, none⟩) 1 1) (w1 := z4.alloc (.cells (pk (im q) n n).toList.toArray 57)) (by rfl) rfl (by simp only [pk_open]; go_simp) ?_
      refine hK.out _ _ (⟨blk_alloc X5.out _, blk_alloc T5.out.1 _⟩) (fun hHeld => ?_)
      clear hK K
      refine norm_ (a' := ?_) ?_ ?_
      rotate_left
      · show Act.put _ (some 55) _ = _
        simp only [Act.put, List.setIfInBounds_toArray, List.set_cons_zero, List.set_cons_succ, i64_w, i32_w]
        rfl
      refine last_ (i := 7) (N := (some 56)) #[true, true, true, true, true, true, true, true, false, false, false] rfl rfl (by kernel_rfl) (by decide) (fun K hK => ?_)
      refine Kd.R_append_step kT (w0 := w) base (by rfl) (.tmp 53) (.tmp 55) 81 57 zeroT 64 rfl Try.underlying81 infoT rfl (by decide) (by omega) (.slice A L.length cap) (L.map (tup n)) (tup n q) (pk (im q) n n).toList (fun _ => True) (fun _ => False) rfl rfl (kT_mkM _ _ _ _ _) (fun _ hk => hk.elim) (fun _ _ => trivial) T5.out.2.1 Q5.out (by have := Z5.out; omega) (by rw [List.length_map]; omega) ?_
      intro v5 w5 ho5 hb5 hg5 hat5
      obtain ⟨A5, c5, hv5⟩ := Kd.R_slice ho5
      have e5 : (L.map (tup n) ++ [tup n q]).length = L.length + 1 := by simp
      rw [e5] at hv5
      subst hv5
      have X6 := blk_grown T5.out.1 hg5 (fun e => (T5.out.2.2.1 bt e.symm).1 rfl)
      have V6 := Aside0.mk ho5
      have G6 := Aside0.mk hg5
      have A6 := Aside0.mk hat5
      have Q6 := Aside0.mk hb5
      clear ho5 hb5 hg5 hat5
      refine hK.out _ _ ?_
      clear hK K
      refine norm_ (a' := ?_) ?_ ?_
      rotate_left
      · show Act.put _ (some 56) _ = _
        simp only [Act.put, List.setIfInBounds_toArray, List.set_cons_zero, List.set_cons_succ, i64_w, i32_w]
        rfl
      refine pure_ (i := 8) (N := (some 57)) (v := ?_) (a' := ?_) #[true, true, true, true, true, true, true, true, true, false, false] rfl rfl (by kernel_rfl) (fun _ _ _ h => h) (Or.inl ⟨by rfl, ?_⟩) ?_ ?_
      rotate_left
      · intro w'
        go_simp
        with_reducible rfl
      rotate_left
      · simp only [Act.put, List.setIfInBounds_toArray, List.set_cons_zero, List.set_cons_succ, i64_w, i32_w]
        rfl
      refine pure_ (i := 9) (N := (some 58)) (v := ?_) (a' := ?_) #[true, true, true, true, true, true, true, true, true, true, false] rfl rfl (by kernel_rfl) (fun _ _ _ h => h) (Or.inl ⟨by rfl, ?_⟩) ?_ ?_
      rotate_left
      · intro w'
        go_simp
        with_reducible rfl
      rotate_left
      · simp only [Act.put, List.setIfInBounds_toArray, List.set_cons_zero, List.set_cons_succ, i64_w, i32_w]
        rfl
      refine last_ (i := 10) (N := none) #[true, true, true, true, true, true, true, true, true, true, true] rfl rfl (by kernel_rfl) (by decide) (fun K hK => ?_)
      refine skip_ (w1 := w5.setCells bt 2 [.slice A5 (L.length + 1) c5]) (by rfl) rfl ?_ ?_
      · have hrun := run_store_run (P := Try.prog) (o := 2) 81 (.slice A5 (L.length + 1) c5) [.slice A5 (L.length + 1) c5] X6 rfl sizeL (by simp) (by intro q hq; simp at hq; subst hq; rfl)
        simp [execOp, Act.eval, hrun]
      refine hK.out _ _ ?_
      clear hK K
      refine done_ (by kernel_rfl) ?_
      --ENDP12
      go_wp2_with fail
      refine bodyPost_ret (results_list (rs := [.tmp 4, .tmp 5, .tmp 6]) rfl (by simp) (.tmp (.tmp (.tmp .nil)))) rfl ?_
      refine ⟨.slice A5 (L.length + 1) c5, ?_, ?_, ?_, ?_, ?_⟩
      · unfold pNum pNew pErr
        rw [if_neg hx, if_neg hx, if_neg hx, if_neg h5, if_neg h5, if_neg h5]
        rfl
      · unfold pList
        rw [if_neg hx, if_neg h5]
        exact tab_last X6 (M5.out.kept G6.out (fun e => (T5.out.2.2.1 bm e.symm).2 rfl)) V6.out HT.out.lt HT.out.lm HT.out.good HT.out.nodup HQ.out hx
      · exact (K5.out.of_grown G6.out (fun k hk => .inl (.inr (.inr hk.symm)))).setCell (p := ⟨bt, 2, none⟩) (.inl (.inl rfl)) _
      · rcases A6.out with h | ⟨b, h, hb⟩
        · exact .inl h
        · exact .inr ⟨b, h, Nat.le_trans K5.out.1 hb⟩
      · exact Q6.out.setCell HT.out.lt _
end Go.Proofs.Ytcnnlddjnmkioaa.HPut
