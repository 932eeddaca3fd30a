/- trans.Table: its map as a list of transformations; New, good, Find: contracts. -/
import Derived.Test.YtcnnlddjnmkioaaHTrans
import Derived.Maps.OwnSet
import Derived.Laws.Cover3
import Derived.DeepKeys4
set_option linter.unusedVariables false
set_option linter.unusedSimpArgs false
namespace Go.Proofs.Ytcnnlddjnmkioaa.HTable
open Go Go.RowKit Go.Proofs.Ytcnnlddjnmkioaa.HReads Go.Proofs.Ytcnnlddjnmkioaa.HArr Go.Proofs.Ytcnnlddjnmkioaa.HPack Go.Proofs.Ytcnnlddjnmkioaa.HTkey Go.Proofs.Ytcnnlddjnmkioaa.HTopen Go.Proofs.Ytcnnlddjnmkioaa.HTrans Go.Proofs.YtcnnlddjnmkioaaW.PrintWords Go.Proofs.YtcnnlddjnmkioaaW.PrintLast Go.Proofs.YtcnnlddjnmkioaaW.PrintMore
open Go.Maps (Keyed)

theorem laidOut : laidOutB Try.prog = true := by kernel_rfl
theorem law : Keyed Try.prog 57 := Keyed.of_law (deep_law_laid laidOut (m := 3) (by omega) (of_decide_eq_true (by kernel_rfl)) (by kernel_rfl) (by rw [Try.underlying57]))
theorem zeroE (w : World) : (zeroValue 3).run Try.prog w = .ok (.int .i64 0) w := by kernel_rfl

/-- A transformation as the list of its images. -/
def im (l : List Nat) : Nat → Nat := fun i => l.getD i 0
def Good (n : Nat) (l : List Nat) : Prop := l.length = n ∧ ∀ x ∈ l, x < n
theorem Good.im {n : Nat} {l : List Nat} (h : Good n l) (i : Nat) (hi : i < n) : im l i < n := by
  have hl : i < l.length := by rw [h.1]; exact hi
  unfold HTable.im
  rw [List.getD_eq_getElem?_getD, List.getElem?_eq_getElem hl]
  exact h.2 _ (List.getElem_mem hl)
theorem key {n : Nat} {l : List Nat} (h2 : n ≤ 64) (h : Good n l) : keyOf Try.prog 57 (.agg (pk (im l) n n)) = some (keyT (im l) n) := key_pk _ n h2 (fun k hk => by have := h.im k hk; omega)
theorem key_inj {n : Nat} {l m : List Nat} (h2 : n ≤ 64) (hl : Good n l) (hm : Good n m) (h : keyT (im l) n = keyT (im m) n) : l = m := by
  have e := law.inj (key h2 hl) (h ▸ key h2 hm)
  have e2 : pk (im l) n n = pk (im m) n n := by injection e
  have hw : ∀ j, j < 7 → wrd (im l) n j = wrd (im m) n j := fun j hj => by
    have a := pk_get (im l) n n j hj
    have b := pk_get (im m) n n j hj
    rw [e2, b] at a
    injection a with a
    injection a with _ a
    omega
  refine List.ext_getElem (by rw [hl.1, hm.1]) (fun i hi1 hi2 => ?_)
  have hi : i < n := by rw [← hl.1]; exact hi1
  have a := wrd_get (im l) n i hi (fun k hk => by have := hl.im k hk; omega)
  have b := wrd_get (im m) n i hi (fun k hk => by have := hm.im k hk; omega)
  rw [hw (i / 10) (by omega), b] at a
  unfold im at a
  rw [List.getD_eq_getElem?_getD, List.getD_eq_getElem?_getD, List.getElem?_eq_getElem hi1, List.getElem?_eq_getElem hi2] at a
  exact a.symm

/-- The map of the transformations L, by their places. -/
def dat (n : Nat) (L : List (List Nat)) : DataW Unit := ((L.zipIdx).foldl (fun D x => D.put (keyT (im x.1) n) (.lit (.int .i64 (x.2 : Int)))) (.map []))
theorem dat_snoc (n : Nat) (L : List (List Nat)) (l : List Nat) : dat n (L ++ [l]) = (dat n L).put (keyT (im l) n) (.lit (.int .i64 (L.length : Int))) := by
  unfold dat
  rw [List.zipIdx_append, List.foldl_append]
  simp
theorem isKey {n : Nat} {l : List Nat} (h2 : n ≤ 64) (h : Good n l) : WideAt.IsKeyLit (keyT (im l) n) := law.key (key h2 h)
theorem dat_isMap (n : Nat) (L : List (List Nat)) : Maps.IsMap (dat n L) := by
  unfold dat
  generalize L.zipIdx = Z
  suffices h : ∀ (Z : List (List Nat × Nat)) (D : DataW Unit), Maps.IsMap D → Maps.IsMap (Z.foldl (fun D x => D.put (keyT (im x.1) n) (.lit (.int .i64 (x.2 : Int)))) D) from h Z _ Maps.isMap_empty
  intro Z
  induction Z with
  | nil => exact fun D h => h
  | cons z Z ih => exact fun D h => ih _ (h.put _ _)
theorem rev_ind {α : Type} {C : List α → Prop} (h0 : C []) (h1 : ∀ l a, C l → C (l ++ [a])) : ∀ l, C l := by
  intro l
  rw [← List.reverse_reverse l]
  induction l.reverse with
  | nil => exact h0
  | cons a l ih => rw [List.reverse_cons]; exact h1 _ _ ih
theorem dat_has (n : Nat) (h2 : n ≤ 64) (q : List Nat) (hq : Good n q) : ∀ L : List (List Nat), (∀ l ∈ L, Good n l) → Maps.has (dat n L) (keyT (im q) n) = L.contains q := by
  refine rev_ind (fun _ => rfl) (fun L l ih h => ?_)
  have hl := h l (by simp)
  rw [dat_snoc]
  by_cases e : q = l
  · subst e
    rw [Maps.has_put_same (dat_isMap n L) (isKey h2 hq)]
    simp
  · rw [Maps.has_put_other (fun x => e (key_inj h2 hq hl x)), ih (fun m hm => h m (by simp [hm]))]
    simp [e]
theorem dat_at (n : Nat) (h2 : n ≤ 64) (q : List Nat) (hq : Good n q) : ∀ L : List (List Nat), (∀ l ∈ L, Good n l) → L.Nodup → (dat n L).atKey (keyT (im q) n) (.lit (.int .i64 0)) = .lit (.int .i64 (if q ∈ L then (L.idxOf q : Int) else 0)) := by
  refine rev_ind (fun _ _ => by rw [if_neg (by simp)]; exact Maps.atKey_of_not_has rfl _) (fun L l ih h hd => ?_)
  have hl := h l (by simp)
  have hd' : L.Nodup ∧ l ∉ L := by
    rw [List.nodup_append] at hd
    exact ⟨hd.1, fun hx => hd.2.2 l hx l (by simp) rfl⟩
  rw [dat_snoc]
  by_cases e : q = l
  · subst e
    rw [Maps.atKey_put_same (dat_isMap n L) (isKey h2 hq), if_pos (by simp), List.idxOf_append, if_neg hd'.2]
    simp
  · rw [Maps.atKey_put_other (fun x => e (key_inj h2 hq hl x)), ih (fun m hm => h m (by simp [hm])) hd'.1]
    by_cases hx : q ∈ L
    · rw [if_pos hx, if_pos (by simp [hx]), List.idxOf_append, if_pos hx]
    · rw [if_neg hx, if_neg (by simp [hx, e])]

/-- The cells of one in a list. -/
def kT : Kd (Int × Int × Int × Int × Int × Int × Int × Int) := Kd.pair (Kd.int .i64) (Kd.pair (Kd.int .u64) (Kd.pair (Kd.int .u64) (Kd.pair (Kd.int .u64) (Kd.pair (Kd.int .u64) (Kd.pair (Kd.int .u64) (Kd.pair (Kd.int .u64) (Kd.int .u64)))))))
def tup (n : Nat) (l : List Nat) : Int × Int × Int × Int × Int × Int × Int × Int := (n, wrd (im l) n 0, wrd (im l) n 1, wrd (im l) n 2, wrd (im l) n 3, wrd (im l) n 4, wrd (im l) n 5, wrd (im l) n 6)

/-- A table at block bt, its map at block bm, its list v. -/
structure Tab (W : World) (base bt bm : Nat) (v : Value) (n : Nat) (L : List (List Nat)) : Prop where
  cells : W.heap[bt]? = some (.cells #[.int .i64 n, .map (some bm), v] 134 (0, 0))
  map : W.ownsMap Try.prog 57 (plainElem Try.prog 3) bm L.length (dat n L)
  row : Kd.R kT 57 W base (fun _ => True) v (L.map (tup n))
  lt : base ≤ bt
  lm : base ≤ bm
  good : ∀ l ∈ L, Good n l
  nodup : L.Nodup

set_option maxHeartbeats 1000000 in
set_option maxRecDepth 100000 in
theorem new_calls (w : World) (n : Nat) (h1 : 1 ≤ n) (h2 : n ≤ 64) :
    Calls Try.prog 75 #[.int .i64 n] w fun e w' => ∃ bt bm, e = .returned (.tuple #[.pointer (some ⟨bt, 0, none⟩), .int .i64 0]) ∧ Tab w' w.heap.size bt bm (.slice none 0 0) n [] ∧ Below w.heap.size w w' := by
  have g1 : decide ((n : Int) < 1) = false := decide_eq_false (by omega)
  have g2 : decide (64 < (n : Int)) = false := decide_eq_false (by omega)
  have hmm := @run_makeMap Try.prog
  go_enter Try.func75, Try.ntmps75
  go_wp2_with fail
  refine bodyPost_ret (results_list (rs := [.tmp 2, .tmp 3]) rfl (by simp) (.tmp (.tmp .nil))) rfl ?_
  have e1 : (w.alloc (.map #[] 0)).heap.size = w.heap.size + 1 := by show (w.heap.push _).size = _; simp
  have C1 := blk_new (w.alloc (.map #[] 0)) (.cells #[.int .i64 n, .map (some w.heap.size), .slice none 0 0] 134)
  rw [e1] at C1
  refine ⟨w.heap.size + 1, w.heap.size, rfl, ⟨C1, (World.ownsMap_made w _ _ _).alloc _, ?_, by omega, Nat.le_refl _, by simp, List.nodup_nil⟩, below_alloc (below_alloc (Below.refl _ _) _) _⟩
  exact Kd.R_nil _ _ _ _ _

theorem Tab.below {W W' : World} {base bt bm n : Nat} {v : Value} {L : List (List Nat)} (h : Tab W base bt bm v n L) (hb : Below W.heap.size W W') : Tab W' base bt bm v n L :=
  ⟨blk_below h.cells hb, h.map.kept (grown_of_below hb none) (by simp), Kd.R_below h.row hb, h.lt, h.lm, h.good, h.nodup⟩
theorem Tab.drewN {W : World} {base bt bm n : Nat} {v : Value} {L : List (List Nat)} (h : Tab W base bt bm v n L) (m : Nat) : Tab (W.drewN m) base bt bm v n L := h.below (pw_below_drewN (Below.refl _ _) m)

set_option maxHeartbeats 1000000 in
set_option maxRecDepth 100000 in
theorem good_calls (w : World) (bt bm n : Nat) (v : Value) (hc : w.heap[bt]? = some (.cells #[.int .i64 n, .map (some bm), v] 134 (0, 0))) :
    Calls Try.prog 91 #[.pointer (some ⟨bt, 0, none⟩)] w fun e w' => e = .returned (.bool true) ∧ w' = w := by
  have c1 : w.cell? ⟨bt, 1, none⟩ = some (.map (some bm)) := (blk_cell hc 1).trans rfl
  have hne : ∀ w : World, (binOp .neq 132 (.map (some bm)) (.map none)).run Try.prog w = .ok (.bool true) w := fun w => run_neq_map_nil w 132 57 3 (some bm) Try.underlying132
  go_enter Try.func91, Try.ntmps91
  go_wp2_with fail
  refine bodyPost_ret (results_tmp rfl _ _ _) rfl ?_
  exact ⟨rfl, rfl⟩

/-- A look-up in a table's map. -/
theorem exec_look {op : Oper} {a : Act} {w : World} {m x : Operand} {bm n : Nat} {L : List (List Nat)} {q : List Nat} (h2 : n ≤ 64) (hq : Good n q) (hg : ∀ l ∈ L, Good n l) (hd : L.Nodup)
    (ho : op.op = .lookup 132 m x true) (hm : a.eval m = .map (some bm)) (hx : a.eval x = .agg (pk (im q) n n)) (hown : w.ownsMap Try.prog 57 (plainElem Try.prog 3) bm L.length (dat n L)) :
    (execOp a.eval op).run Try.prog w = .ok (.value (.tuple #[.int .i64 (if q ∈ L then (L.idxOf q : Int) else 0), .bool (L.contains q)])) w := by
  obtain ⟨v, ps, hrun, hv⟩ := hown.look_ok law Try.underlying132 (zeroE w) (plainElem_int Try.underlying3 (by decide)) (key h2 hq)
  rw [dat_has n h2 q hq L hg] at hrun
  rw [dat_at n h2 q hq L hg hd] at hv
  obtain ⟨c, rfl, hc, _⟩ := plainElem_int_inv Try.underlying3 hv
  have e : (if q ∈ L then (L.idxOf q : Int) else 0) = c := by
    have := congrArg Prod.fst hc
    simpa using this
  unfold execOp
  simp only [ho, hm, hx, Sem.run_bind, hrun, Sem.run_pure, Result.andThen_ok]
  rw [e]

set_option maxHeartbeats 2000000 in
set_option maxRecDepth 100000 in
theorem find_calls (w : World) (base bt bm n : Nat) (v : Value) (L : List (List Nat)) (q : List Nat) (h2 : n ≤ 64) (hT : Tab w base bt bm v n L) (hq : Good n q) :
    Calls Try.prog 80 #[.pointer (some ⟨bt, 0, none⟩), .agg (pk (im q) n n)] w fun e w' => e = .returned (.tuple #[.int .i64 (if q ∈ L then (L.idxOf q : Int) else 0), .bool (L.contains q)]) ∧ Below w.heap.size w w' := by
  have HT := Aside0.mk hT
  have HQ := Aside0.mk hq
  clear hT hq
  obtain ⟨c, hc⟩ : ∃ c : Int, c = (if q ∈ L then (L.idxOf q : Int) else 0) := ⟨_, rfl⟩
  obtain ⟨bb, hbb⟩ : ∃ b : Bool, b = L.contains q := ⟨_, rfl⟩
  rw [← hc, ← hbb]
  have HC := Aside0.mk hc
  have HBB := Aside0.mk hbb
  clear hc hbb
  have X0 := Aside0.mk (blk_new w (.cells (pk (im q) n n) 57))
  have B0 := Aside0.mk (below_alloc (Below.refl w.heap.size w) (.cells (pk (im q) n n) 57))
  have T0 := Aside0.mk (HT.out.below B0.out)
  go_enter Try.func80, Try.ntmps80
  go_upto_region 1 with fail
  generalize w.alloc (.cells (pk (im q) n n) 57) = w0 at *
  go_upto_region 3 with (go_at_call 91; refine (good_calls w0 bt bm n v T0.out.cells).mono ?_; rintro e w1 ⟨rfl, hw1⟩; obtain rfl : w0 = w1 := hw1.symm)
  --R3
  refine start_ (n := 11) (S := fun w' => w'.cell? ⟨bt, 1, none⟩ = some (.map (some bm)) ∧ w'.heap[w.heap.size]? = some (.cells (pk (im q) n n) 57 (0, 0)) ∧ w'.ownsMap Try.prog 57 (plainElem Try.prog 3) bm L.length (dat n L)) (ds := []) #[false, false, false, false, false, false, false, false, false, false, false] (by kernel_rfl) rfl rfl ⟨(blk_cell T0.out.cells 1).trans rfl, X0.out, T0.out.map⟩ (fun hHeld => ?_)
  have B1 := Aside0.mk (below_drew1 B0.out)
  generalize w0.drew = y0 at *
  refine pure_ (i := 0) (N := (some 12)) (v := ?_) (a' := ?_) #[true, false, false, false, false, false, false, false, false, false, false] rfl rfl (by kernel_rfl) (fun _ _ _ h => h) (Or.inl ⟨by rfl, ?_⟩) ?_ ?_
  rotate_left
  · intro w'
    go_simp
    with_reducible rfl
  rotate_left
  · simp only [Act.put, List.setIfInBounds_toArray, List.set_cons_zero, List.set_cons_succ, i64_w, i32_w]
    rfl
  refine pure_ (i := 1) (N := (some 13)) (v := ?_) (a' := ?_) #[true, true, false, false, false, false, false, false, false, false, false] rfl rfl (by kernel_rfl) (fun _ _ _ h => h) (Or.inl ⟨by rfl, ?_⟩) ?_ ?_
  rotate_left
  · intro w'
    go_simp
    with_reducible rfl
  rotate_left
  · simp only [Act.put, List.setIfInBounds_toArray, List.set_cons_zero, List.set_cons_succ, i64_w, i32_w]
    rfl
  refine pure_ (i := 2) (N := (some 14)) (v := ?_) (a' := ?_) #[true, true, true, false, false, false, false, false, false, false, false] rfl rfl (by kernel_rfl) (fun _ _ _ h => h) (Or.inl ⟨by rfl, ?_⟩) ?_ ?_
  rotate_left
  · intro w'
    go_simp
    with_reducible rfl
  rotate_left
  · simp only [Act.put, List.setIfInBounds_toArray, List.set_cons_zero, List.set_cons_succ, i64_w, i32_w]
    rfl
  refine take_ (i := 3) (N := (some 15)) (v := ?_) (a' := ?_) #[true, true, true, true, false, false, false, false, false, false, false] rfl rfl (by kernel_rfl) (fun _ _ _ h => h) (Or.inl ⟨by rfl, ?_⟩) hHeld ?_ ?_
  rotate_left
  · rintro w' ⟨s0, s1, s2⟩
    go_simp
    with_reducible rfl
  rotate_left
  · simp only [Act.put, List.setIfInBounds_toArray, List.set_cons_zero, List.set_cons_succ, i64_w, i32_w]
    rfl
  refine take_ (i := 4) (N := (some 16)) (v := .agg (pk (im q) n n)) (a' := ?_) #[true, true, true, true, true, false, false, false, false, false, false] rfl rfl (by kernel_rfl) (fun _ _ _ h => h) (Or.inl ⟨by rfl, ?_⟩) hHeld ?_ ?_
  · rintro w' ⟨s0, s1, s2⟩
    exact exec_loadT (op := _) (a := _) (x := .tmp 3) rfl rfl rfl s1
  rotate_left
  · simp only [Act.put, List.setIfInBounds_toArray, List.set_cons_zero, List.set_cons_succ, i64_w, i32_w]
    rfl
  refine take_ (i := 5) (N := (some 17)) (v := .tuple #[.int .i64 c, .bool bb]) (a' := ?_) #[true, true, true, true, true, true, false, false, false, false, false] rfl rfl (by kernel_rfl) (fun _ _ _ h => h) (Or.inl ⟨by rfl, ?_⟩) hHeld ?_ ?_
  · rintro w' ⟨s0, s1, s2⟩
    rw [HC.out, HBB.out]
    exact exec_look (op := _) (a := _) (m := .tmp 15) (x := .tmp 16) h2 HQ.out HT.out.good HT.out.nodup rfl rfl rfl s2
  rotate_left
  · simp only [Act.put, List.setIfInBounds_toArray, List.set_cons_zero, List.set_cons_succ, i64_w, i32_w]
    rfl
  refine pure_ (i := 6) (N := (some 11)) (v := ?_) (a' := ?_) #[true, true, true, true, true, true, true, false, false, false, false] rfl rfl (by kernel_rfl) (fun _ _ _ h => h) (Or.inl ⟨by rfl, ?_⟩) ?_ ?_
  rotate_left
  · intro w'
    go_simp
    with_reducible rfl
  rotate_left
  · simp only [Act.put, List.setIfInBounds_toArray, List.set_cons_zero, List.set_cons_succ, i64_w, i32_w]
    rfl
  refine pure_ (i := 7) (N := (some 18)) (v := ?_) (a' := ?_) #[true, true, true, true, true, true, true, true, false, false, false] rfl rfl (by kernel_rfl) (fun _ _ _ h => h) (Or.inl ⟨by rfl, ?_⟩) ?_ ?_
  rotate_left
  · intro w'
    go_simp
    with_reducible rfl
  rotate_left
  · simp only [Act.put, List.setIfInBounds_toArray, List.set_cons_zero, List.set_cons_succ, i64_w, i32_w]
    rfl
  refine pure_ (i := 8) (N := (some 19)) (v := ?_) (a' := ?_) #[true, true, true, true, true, true, true, true, true, false, false] rfl rfl (by kernel_rfl) (fun _ _ _ h => h) (Or.inl ⟨by rfl, ?_⟩) ?_ ?_
  rotate_left
  · intro w'
    go_simp
    with_reducible rfl
  rotate_left
  · simp only [Act.put, List.setIfInBounds_toArray, List.set_cons_zero, List.set_cons_succ, i64_w, i32_w]
    rfl
  refine pure_ (i := 9) (N := (some 6)) (v := ?_) (a' := ?_) #[true, true, true, true, true, true, true, true, true, true, false] rfl rfl (by kernel_rfl) (fun _ _ _ h => h) (Or.inl ⟨by rfl, ?_⟩) ?_ ?_
  rotate_left
  · intro w'
    go_simp
    with_reducible rfl
  rotate_left
  · simp only [Act.put, List.setIfInBounds_toArray, List.set_cons_zero, List.set_cons_succ, i64_w, i32_w]
    rfl
  refine pure_ (i := 10) (N := (some 7)) (v := ?_) (a' := ?_) #[true, true, true, true, true, true, true, true, true, true, true] rfl rfl (by kernel_rfl) (fun _ _ _ h => h) (Or.inl ⟨by rfl, ?_⟩) ?_ ?_
  rotate_left
  · intro w'
    go_simp
    with_reducible rfl
  rotate_left
  · simp only [Act.put, List.setIfInBounds_toArray, List.set_cons_zero, List.set_cons_succ, i64_w, i32_w]
    rfl
  refine done_ (by kernel_rfl) ?_
  go_wp2_with fail
  refine bodyPost_ret (results_list (rs := [.tmp 4, .tmp 5]) rfl (by simp) (.tmp (.tmp .nil))) rfl ?_
  exact ⟨rfl, B1.out⟩
  --ENDR3
end Go.Proofs.Ytcnnlddjnmkioaa.HTable
