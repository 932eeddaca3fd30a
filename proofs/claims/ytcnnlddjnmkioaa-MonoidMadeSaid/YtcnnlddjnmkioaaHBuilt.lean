/- monoid.Build of any automaton: contract. -/
import Derived.Test.YtcnnlddjnmkioaaHBuild
import Derived.Test.YtcnnlddjnmkioaaHAuto
import Derived.Test.YtcnnlddjnmkioaaPureMon
set_option linter.unusedVariables false
set_option linter.unusedSimpArgs false
namespace Go.Proofs.Ytcnnlddjnmkioaa.HBuilt
open Go Go.RowKit Go.Proofs.Ytcnnlddjnmkioaa.MA Go.Proofs.Ytcnnlddjnmkioaa.HReads Go.Proofs.Ytcnnlddjnmkioaa.HArr Go.Proofs.Ytcnnlddjnmkioaa.HPack Go.Proofs.Ytcnnlddjnmkioaa.HTable Go.Proofs.Ytcnnlddjnmkioaa.HTrans Go.Proofs.Ytcnnlddjnmkioaa.HPut Go.Proofs.Ytcnnlddjnmkioaa.HRows Go.Proofs.Ytcnnlddjnmkioaa.HSt Go.Proofs.Ytcnnlddjnmkioaa.HMon Go.Proofs.Ytcnnlddjnmkioaa.HBuild Go.Proofs.Ytcnnlddjnmkioaa.HAuto Go.Proofs.YtcnnlddjnmkioaaW.PrintWords Go.Proofs.YtcnnlddjnmkioaaW.PrintLast Go.Proofs.YtcnnlddjnmkioaaW.PrintMore

theorem fit_of (k : Nat) (nx : List Int) (ac : List Bool) (h : Ok k nx ac) (h64 : ac.length ≤ 64) : Fit k nx ac where
  k1 := by have := h.1; omega
  k8 := by have := h.2.1; omega
  n1 := h.2.2.1
  n64 := h64
  len := by
    have : ((nx.length : Nat) : Int) = ((ac.length * k : Nat) : Int) := by rw [h.2.2.2.2.1]; simp
    exact Int.ofNat.inj this
  chk := ⟨_, check_ok k nx ac h _ (Nat.le_refl _)⟩
  run := fun i hi l hl => run_one k nx ac h i l hi hl
  good := fun l hl => good_lt k nx ac h l hl
set_option maxHeartbeats 1000000 in
set_option maxRecDepth 100000 in
theorem bad_calls (w : World) (k : Int) (A1 : Option Addr) (c1 : Nat) (nx : List Int) (A2 : Option Addr) (c2 : Nat) (ac : List Bool)
    (hn : Kd.C (Kd.int .i64) w A1 nx.length nx) (hc1 : nx.length ≤ c1) (ha : Kd.C Kd.bool w A2 ac.length ac) (hc2 : ac.length ≤ c2) (hB : ¬ Ok k nx ac) :
    Calls Try.prog 49 #[.agg #[.int .i64 k, .slice A1 nx.length c1, .slice A2 ac.length c2]] w fun e w' => Below w.heap.size w w' ∧ e = .returned (.tuple #[.pointer none, .int .i64 80]) := by
  have HN := Aside0.mk hn
  have HA := Aside0.mk ha
  have HC := Aside0.mk (check_bad k nx ac hB 40000 (Nat.le_refl _))
  clear hn ha hB
  have B0 := Aside0.mk (below_alloc (Below.refl w.heap.size w) (.cells #[.int .i64 k, .slice A1 nx.length c1, .slice A2 ac.length c2] 25))
  have X0 := Aside0.mk (blk_new w (.cells #[.int .i64 k, .slice A1 nx.length c1, .slice A2 ac.length c2] 25))
  go_enter Try.func49, Try.ntmps49
  go_upto_region 1 with fail
  generalize w.alloc (.cells #[.int .i64 k, .slice A1 nx.length c1, .slice A2 ac.length c2] 25) = w0 at *
  have x0 : w0.cell? ⟨w.heap.size, 0, none⟩ = some (.int .i64 k) := (blk_cell X0.out 0).trans rfl
  have x1 : w0.cell? ⟨w.heap.size, 1, none⟩ = some (.slice A1 nx.length c1) := (blk_cell X0.out 1).trans rfl
  have x2 : w0.cell? ⟨w.heap.size, 2, none⟩ = some (.slice A2 ac.length c2) := (blk_cell X0.out 2).trans rfl
  go_wp2_with (go_at_call 73; refine (auto_Check.calls _ k A1 c1 nx A2 c2 ac 80 w0 (Kd.C_below HN.out B0.out) hc1 (Kd.C_below HA.out B0.out) hc2 HC.out).mono ?_; rintro e w1 ⟨rfl, hb1⟩)
  go_ret2
  exact ⟨below_then B0.out B0.out.size hb1, rfl⟩
set_option maxHeartbeats 1000000 in
set_option maxRecDepth 100000 in
theorem big_calls (w : World) (k : Int) (A1 : Option Addr) (c1 : Nat) (nx : List Int) (A2 : Option Addr) (c2 : Nat) (ac : List Bool)
    (hn : Kd.C (Kd.int .i64) w A1 nx.length nx) (hc1 : nx.length ≤ c1) (ha : Kd.C Kd.bool w A2 ac.length ac) (hc2 : ac.length ≤ c2) (hB : Ok k nx ac) (h64 : 64 < ac.length) :
    Calls Try.prog 49 #[.agg #[.int .i64 k, .slice A1 nx.length c1, .slice A2 ac.length c2]] w fun e w' => Below w.heap.size w w' ∧ e = .returned (.tuple #[.pointer none, .int .i64 81]) := by
  have HN := Aside0.mk hn
  have HA := Aside0.mk ha
  have HC := Aside0.mk (check_ok k nx ac hB _ (Nat.le_refl _))
  clear hn ha hB
  have g1 : decide (64 < (ac.length : Int)) = true := decide_eq_true (by omega)
  have B0 := Aside0.mk (below_alloc (Below.refl w.heap.size w) (.cells #[.int .i64 k, .slice A1 nx.length c1, .slice A2 ac.length c2] 25))
  have X0 := Aside0.mk (blk_new w (.cells #[.int .i64 k, .slice A1 nx.length c1, .slice A2 ac.length c2] 25))
  go_enter Try.func49, Try.ntmps49
  go_upto_region 1 with fail
  generalize w.alloc (.cells #[.int .i64 k, .slice A1 nx.length c1, .slice A2 ac.length c2] 25) = w0 at *
  have x0 : w0.cell? ⟨w.heap.size, 0, none⟩ = some (.int .i64 k) := (blk_cell X0.out 0).trans rfl
  have x1 : w0.cell? ⟨w.heap.size, 1, none⟩ = some (.slice A1 nx.length c1) := (blk_cell X0.out 1).trans rfl
  have x2 : w0.cell? ⟨w.heap.size, 2, none⟩ = some (.slice A2 ac.length c2) := (blk_cell X0.out 2).trans rfl
  go_upto_region 2 with (go_at_call 73; refine (auto_Check.calls _ k A1 c1 nx A2 c2 ac 0 w0 (Kd.C_below HN.out B0.out) hc1 (Kd.C_below HA.out B0.out) hc2 HC.out).mono ?_; rintro e w1 ⟨rfl, hb1⟩)
  have X1 := Aside0.mk (blk_below X0.out hb1)
  have B1 := Aside0.mk (below_then B0.out B0.out.size hb1)
  clear hb1 x0 x1 x2 X0 B0
  have x0 : w1.cell? ⟨w.heap.size, 0, none⟩ = some (.int .i64 k) := (blk_cell X1.out 0).trans rfl
  have x1 : w1.cell? ⟨w.heap.size, 1, none⟩ = some (.slice A1 nx.length c1) := (blk_cell X1.out 1).trans rfl
  have x2 : w1.cell? ⟨w.heap.size, 2, none⟩ = some (.slice A2 ac.length c2) := (blk_cell X1.out 2).trans rfl
  go_upto_region 4 with fail
  refine start_ (n := 7) (S := fun w' => w'.heap[w.heap.size]? = some (.cells #[.int .i64 k, .slice A1 nx.length c1, .slice A2 ac.length c2] 25 (0, 0))) (ds := []) #[false, false, false, false, false, false, false] (by kernel_rfl) rfl rfl X1.out (fun hHeld => ?_)
  have X2 : Aside0 (w1.drew.heap[w.heap.size]? = _) := ⟨X1.out⟩
  have B2 := Aside0.mk (below_drew1 B1.out)
  clear X1 B1 x0 x1 x2
  generalize w1.drew = w2 at *
  refine pure_ (i := 0) (N := (some 36)) (v := ?_) (a' := ?_) #[true, false, false, false, false, false, false] rfl rfl (by kernel_rfl) (fun _ _ _ h => h) (Or.inl ⟨by rfl, ?_⟩) ?_ ?_
  rotate_left
  · intro w'
    go_simp
    with_reducible rfl
  rotate_left
  · simp only [Act.put, List.setIfInBounds_toArray, List.set_cons_zero, List.set_cons_succ, i64_w, i32_w]
    rfl
  refine pure_ (i := 3) (N := (some 39)) (v := ?_) (a' := ?_) #[true, false, false, true, false, false, false] rfl rfl (by kernel_rfl) (fun _ _ _ h => h) (Or.inl ⟨by rfl, ?_⟩) ?_ ?_
  rotate_left
  · intro w'
    go_simp
    with_reducible rfl
  rotate_left
  · simp only [Act.put, List.setIfInBounds_toArray, List.set_cons_zero, List.set_cons_succ, i64_w, i32_w]
    rfl
  refine take_ (i := 1) (N := (some 37)) (v := ?_) (a' := ?_) #[true, true, false, true, false, false, false] rfl rfl (by kernel_rfl) (fun _ _ _ h => h) (Or.inl ⟨by rfl, ?_⟩) hHeld ?_ ?_
  rotate_left
  · rintro w' s0
    have s3 := (blk_cell s0 2).trans rfl
    go_simp
    with_reducible rfl
  rotate_left
  · simp only [Act.put, List.setIfInBounds_toArray, List.set_cons_zero, List.set_cons_succ, i64_w, i32_w]
    rfl
  refine pure_ (i := 2) (N := (some 38)) (v := ?_) (a' := ?_) #[true, true, true, true, false, false, false] rfl rfl (by kernel_rfl) (fun _ _ _ h => h) (Or.inl ⟨by rfl, ?_⟩) ?_ ?_
  rotate_left
  · intro w'
    go_simp
    with_reducible rfl
  rotate_left
  · simp only [Act.put, List.setIfInBounds_toArray, List.set_cons_zero, List.set_cons_succ, i64_w, i32_w]
    rfl
  refine pure_ (i := 5) (N := (some 5)) (v := ?_) (a' := ?_) #[true, true, true, true, false, true, false] rfl rfl (by kernel_rfl) (fun _ _ _ h => h) (Or.inl ⟨by rfl, ?_⟩) ?_ ?_
  rotate_left
  · intro w'
    go_simp
    with_reducible rfl
  rotate_left
  · simp only [Act.put, List.setIfInBounds_toArray, List.set_cons_zero, List.set_cons_succ, i64_w, i32_w]
    rfl
  refine take_ (i := 4) (N := (some 40)) (v := ?_) (a' := ?_) #[true, true, true, true, true, true, false] rfl rfl (by kernel_rfl) (fun _ _ _ h => h) (Or.inl ⟨by rfl, ?_⟩) hHeld ?_ ?_
  rotate_left
  · rintro w' s0
    have s3 := (blk_cell s0 0).trans rfl
    go_simp
    with_reducible rfl
  rotate_left
  · simp only [Act.put, List.setIfInBounds_toArray, List.set_cons_zero, List.set_cons_succ, i64_w, i32_w]
    rfl
  refine pure_ (i := 6) (N := (some 6)) (v := ?_) (a' := ?_) #[true, true, true, true, true, true, true] rfl rfl (by kernel_rfl) (fun _ _ _ h => h) (Or.inl ⟨by rfl, ?_⟩) ?_ ?_
  rotate_left
  · intro w'
    go_simp
    with_reducible rfl
  rotate_left
  · simp only [Act.put, List.setIfInBounds_toArray, List.set_cons_zero, List.set_cons_succ, i64_w, i32_w]
    rfl
  refine done_ (by kernel_rfl) ?_
  have x0 : w2.cell? ⟨w.heap.size, 0, none⟩ = some (.int .i64 k) := (blk_cell X2.out 0).trans rfl
  have x1 : w2.cell? ⟨w.heap.size, 1, none⟩ = some (.slice A1 nx.length c1) := (blk_cell X2.out 1).trans rfl
  have x2 : w2.cell? ⟨w.heap.size, 2, none⟩ = some (.slice A2 ac.length c2) := (blk_cell X2.out 2).trans rfl
  go_wp2_with fail
  go_ret2
  exact ⟨B2.out, rfl⟩

/-- What an automaton's monoid is. -/
def Yes (W : World) (base g k : Nat) (nx : List Int) (ac : List Bool) (T : List (List Nat)) (Ws : List ByteArray) (Rs : List Int) : Prop := Mon W base g k ac.length nx ac T Ws Rs (lefts ac.length k (letters nx k ac.length) T (T.length * k))
theorem calls (w : World) (k : Int) (A1 : Option Addr) (c1 : Nat) (nx : List Int) (A2 : Option Addr) (c2 : Nat) (ac : List Bool)
    (hn : Kd.C (Kd.int .i64) w A1 nx.length nx) (hc1 : nx.length ≤ c1) (ha : Kd.C Kd.bool w A2 ac.length ac) (hc2 : ac.length ≤ c2) :
    Calls Try.prog 49 #[.agg #[.int .i64 k, .slice A1 nx.length c1, .slice A2 ac.length c2]] w fun e w' => Below w.heap.size w w' ∧
      ((¬ Ok k nx ac ∧ e = .returned (.tuple #[.pointer none, .int .i64 80])) ∨ (Ok k nx ac ∧ 64 < ac.length ∧ e = .returned (.tuple #[.pointer none, .int .i64 81])) ∨
       (∃ kn : Nat, k = kn ∧ Fit kn nx ac ∧ ((built ac.length kn (letters nx kn ac.length) = none ∧ e = .returned (.tuple #[.pointer none, .int .i64 140])) ∨
         ∃ T Ws Rs g, built ac.length kn (letters nx kn ac.length) = some (T, Ws, Rs) ∧ e = .returned (.tuple #[.pointer (some ⟨g, 0, none⟩), .int .i64 0]) ∧ Yes w' w.heap.size g kn nx ac T Ws Rs))) := by
  by_cases hO : Ok k nx ac
  · by_cases h64 : 64 < ac.length
    · exact (big_calls w k A1 c1 nx A2 c2 ac hn hc1 ha hc2 hO h64).mono fun e w' h => ⟨h.1, .inr (.inl ⟨hO, h64, h.2⟩)⟩
    · obtain ⟨kn, rfl⟩ : ∃ kn : Nat, k = kn := ⟨k.toNat, by have := hO.1; omega⟩
      have hF := fit_of kn nx ac hO (by omega)
      exact (good_calls w kn A1 c1 nx A2 c2 ac _ hn hc1 ha hc2 hF rfl).mono fun e w' h => ⟨h.1, .inr (.inr ⟨kn, rfl, hF, h.2⟩)⟩
  · exact (bad_calls w k A1 c1 nx A2 c2 ac hn hc1 ha hc2 hO).mono fun e w' h => ⟨h.1, .inl ⟨hO, h.2⟩⟩
theorem lets_len (nx : List Int) (k n : Nat) : (letters nx k n).length = k := by simp [letters]
theorem lets_get (nx : List Int) (k n l : Nat) (h : l < k) : (letters nx k n).getD l [] = lt nx k n l := by simp [letters, List.getD_eq_getElem?_getD, List.getElem?_map, List.getElem?_range h]
theorem full {k : Nat} {nx : List Int} {ac : List Bool} (hF : Fit k nx ac) {T : List (List Nat)} {Ws : List ByteArray} {Rs : List Int} (h : built ac.length k (letters nx k ac.length) = some (T, Ws, Rs)) : ∃ us, PureMon.Full ac.length k (letters nx k ac.length) T Ws Rs us := by
  have hL : ∀ l, l < k → HTable.Good ac.length ((letters nx k ac.length).getD l []) := fun l hl => by rw [lets_get _ _ _ _ hl]; exact hF.good l hl
  obtain ⟨us, hI⟩ := PureMon.built_inv hL h
  exact ⟨us, hL, hI⟩
end Go.Proofs.Ytcnnlddjnmkioaa.HBuilt
