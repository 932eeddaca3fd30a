/- trans.open: contract, of a transformation that pack made: its images, and true. -/
import Derived.Test.YtcnnlddjnmkioaaHTkey
set_option linter.unusedVariables false
set_option linter.unusedSimpArgs false
namespace Go.Proofs.Ytcnnlddjnmkioaa.HTopen
open Go Go.RowKit Go.Proofs.Ytcnnlddjnmkioaa.HReads Go.Proofs.Ytcnnlddjnmkioaa.HArr Go.Proofs.Ytcnnlddjnmkioaa.HPack Go.Proofs.Ytcnnlddjnmkioaa.HTkey Go.Proofs.YtcnnlddjnmkioaaW.PrintWords Go.Proofs.YtcnnlddjnmkioaaW.PrintLast Go.Proofs.YtcnnlddjnmkioaaW.PrintMore

/-! ### Digits taken out again -/
theorem dig_get (q : Nat → Nat) : ∀ (n r : Nat), r < n → (∀ i, i < n → q i < 64) → dig q n / 64 ^ r % 64 = q r
  | 0, r, h, _ => by omega
  | n + 1, r, h, hq => by
    have hp : 0 < 64 ^ r := Nat.pow_pos (by omega)
    show (dig q n + q n * 64 ^ n) / 64 ^ r % 64 = q r
    by_cases e : r = n
    · subst e
      have hl := dig_lt q r (fun i hi => hq i (by omega))
      rw [Nat.add_mul_div_right _ _ hp, Nat.div_eq_of_lt hl, Nat.zero_add, Nat.mod_eq_of_lt (hq r (by omega))]
    · obtain ⟨k, rfl⟩ : ∃ k, n = r + 1 + k := ⟨n - r - 1, by omega⟩
      have e2 : q (r + 1 + k) * 64 ^ (r + 1 + k) = (q (r + 1 + k) * 64 ^ k * 64) * 64 ^ r := by
        rw [Nat.pow_add, Nat.pow_add, Nat.pow_one]
        simp only [Nat.mul_assoc, Nat.mul_comm, Nat.mul_left_comm]
      rw [e2, Nat.add_mul_div_right _ _ hp, Nat.add_mul_mod_self_right]
      exact dig_get q (r + 1 + k) r (by omega) (fun i hi => hq i (by omega))
theorem wrd_get (p : Nat → Nat) (n i : Nat) (hi : i < n) (hp : ∀ k, k < n → p k < 64) : wrd p n (i / 10) / 64 ^ (i % 10) % 64 = p i := by
  unfold wrd
  rw [dig_get (fun r => p (10 * (i / 10) + r)) _ (i % 10) (by omega) (fun r hr => hp _ (by omega))]
  show p (10 * (i / 10) + i % 10) = p i
  rw [show 10 * (i / 10) + i % 10 = i by omega]

set_option maxHeartbeats 2000000 in
set_option maxRecDepth 100000 in
theorem calls (w : World) (p : Nat → Nat) (n : Nat) (h1 : 1 ≤ n) (h2 : n ≤ 64) (hp : ∀ i, i < n → p i < n) :
    Calls Try.prog 66 #[.agg (pk p n n)] w fun e w' => e = .returned (.tuple #[.agg (arr (fun i => if i < n then (p i : Int) else 0)), .bool true]) ∧ Below w.heap.size w w' := by
  have HP := Aside0.mk hp
  clear hp
  have g1 : decide ((n : Int) < 1) = false := decide_eq_false (by omega)
  have g2 : decide (64 < (n : Int)) = false := decide_eq_false (by omega)
  unfold pk
  go_enter Try.func66, Try.ntmps66
  go_wp2_with fail
  go_loopw [17] (fun v17 wr => ∃ i : Nat, v17 = .int .i64 i ∧ i ≤ n ∧ Aside0 (wr.heap[w.heap.size]? = some (.cells (pk p n n) 57 (0, 0))) ∧ Aside0 (wr.heap[w.heap.size + 1]? = some (.cells (arr (fun _ => 0)) 103 (0, 0))) ∧ Aside0 (wr.heap[w.heap.size + 1 + 1]? = some (.cells (arr (fun k => if k < i then (p k : Int) else 0)) 103 (0, 0))) ∧ Aside0 (Below w.heap.size w wr)) (fun v17 _ => n - (intOf v17).toNat)
  case atStart =>
    have e0 : arr (fun _ => 0) = arr (fun k => if k < 0 then (p k : Int) else 0) := arr_congr _ _ (fun _ _ => by simp)
    refine ⟨0, rfl, Nat.zero_le _, ⟨?_⟩, ⟨?_⟩, ⟨?_⟩, ⟨below_alloc (below_alloc (below_alloc (Below.refl _ _) _) _) _⟩⟩
    · exact blk_alloc (blk_alloc (blk_new w _) _) _
    · have := blk_alloc (blk_new (w.alloc (.cells (pk p n n) 57)) (.cells (arr (fun _ => 0)) 103)) (.cells (arr (fun _ => 0)) 103)
      rw [show (w.alloc (.cells (pk p n n) 57)).heap.size = w.heap.size + 1 by show (w.heap.push _).size = _; simp] at this
      exact this
    · rw [← e0]
      have := blk_new ((w.alloc (.cells (pk p n n) 57)).alloc (.cells (arr (fun _ => 0)) 103)) (.cells (arr (fun _ => 0)) 103)
      rw [show ((w.alloc (.cells (pk p n n) 57)).alloc (.cells (arr (fun _ => 0)) 103)).heap.size = w.heap.size + 1 + 1 by show ((w.heap.push _).push _).size = _; simp] at this
      exact this
  case round =>
    obtain ⟨i, rfl, hi, H1, H2, H3, HB⟩ := hrel
    by_cases hlt : i < n
    · have p1 : (0 ≤ (i : Int) / 10) = True := eq_true (by omega)
      have q1 : ((i : Int) / 10 < 7) = True := eq_true (by omega)
      have t1 : ((i : Int) / 10).toNat = i / 10 := by omega
      have hw1 : IntKind.i64.wrap ((i : Int) / 10) = (i : Int) / 10 := IntWalk.i64_in _ (by omega)
      obtain ⟨r, hr, hr2, hr3⟩ : ∃ r : Nat, (i : Int).tmod 10 = (r : Int) ∧ r < 10 ∧ i % 10 = r := ⟨i % 10, by rw [Int.tmod_eq_emod_of_nonneg (by omega)]; omega, by omega, rfl⟩
      have hw2 : IntKind.i64.wrap (r : Int) = (r : Int) := IntWalk.i64_in _ (by omega)
      have hw3 : IntKind.i64.wrap (6 * (r : Int)) = 6 * (r : Int) := IntWalk.i64_in _ (by omega)
      have p2 : (0 ≤ (i : Int)) = True := eq_true (by omega)
      have q2 : ((i : Int) < 64) = True := eq_true (by omega)
      have rT : wr.cell? ⟨w.heap.size, 1 + i / 10, none⟩ = some (.int .u64 (wrd p n (i / 10))) := (blk_cell H1.out (1 + i / 10)).trans (pk_get p n n (i / 10) (by omega))
      have rL : wr.cell? ⟨w.heap.size + 1 + 1, i, none⟩ = some (.int .i64 0) := (blk_cell H3.out i).trans ((arr_get _ i (by omega)).trans (by simp))
      have zL := blk_frozen H3.out i
      have rN : wr.cell? ⟨w.heap.size, 0, none⟩ = some (.int .i64 n) := (blk_cell H1.out 0).trans rfl
      have g3 : decide (n ≤ p i) = false := decide_eq_false (by have := HP.out i hlt; omega)
      have g4 : decide ((n : Int) ≤ (p i : Int)) = false := decide_eq_false (by have := HP.out i hlt; omega)
      have hv : wrap64 (bits .and .u64 (((wrd p n (i / 10) : Nat) : Int) / 2 ^ (6 * r)) 63) = ((p i : Nat) : Int) := by
        have hg := wrd_get p n i hlt (fun k hk => by have := HP.out k hk; omega)
        rw [hr3] at hg
        have hl := wrd_le p n (i / 10) (fun k hk => by have := HP.out k hk; omega)
        have e : (64 : Nat) ^ r = 2 ^ (6 * r) := by rw [Nat.pow_mul]
        have e2 : (((wrd p n (i / 10) : Nat) : Int) / 2 ^ (6 * r)) = ((wrd p n (i / 10) / 64 ^ r : Nat) : Int) := by
          rw [e]
          push_cast
          rfl
        have hd : wrd p n (i / 10) / 64 ^ r ≤ wrd p n (i / 10) := Nat.div_le_self _ _
        rw [e2, show (63 : Int) = ((63 : Nat) : Int) from rfl, and_val _ _ (by omega) (by omega)]
        have h63 : wrd p n (i / 10) / 64 ^ r &&& 63 = wrd p n (i / 10) / 64 ^ r % 64 := Nat.and_two_pow_sub_one_eq_mod _ 6
        rw [h63, hg]
        have := HP.out i hlt
        unfold wrap64
        omega
      have Z2 := Aside0.mk (blk_put H3.out i (.int .i64 ((p i : Nat) : Int)) rfl)
      have Z1 : Aside0 ((wr.setCell ⟨w.heap.size + 1 + 1, i, none⟩ (.int .i64 ((p i : Nat) : Int))).heap[w.heap.size]? = some (.cells (pk p n n) 57 (0, 0))) := ⟨(Below.heap_setCell _ _ _ _ (by first | omega | (simp; done) | (simp; omega))).trans H1.out⟩
      have Z3 : Aside0 ((wr.setCell ⟨w.heap.size + 1 + 1, i, none⟩ (.int .i64 ((p i : Nat) : Int))).heap[w.heap.size + 1]? = some (.cells (arr (fun _ => 0)) 103 (0, 0))) := ⟨(Below.heap_setCell _ _ _ _ (by first | omega | (simp; done) | (simp; omega))).trans H2.out⟩
      have ZB : Aside0 (Below w.heap.size w (wr.setCell ⟨w.heap.size + 1 + 1, i, none⟩ (.int .i64 ((p i : Nat) : Int)))) := ⟨below_set HB.out (by omega)⟩
      have e1 : (arr (fun k => if k < i then (p k : Int) else 0)).setIfInBounds i (.int .i64 ((p i : Nat) : Int)) = arr (fun k => if k < i + 1 then (p k : Int) else 0) := by
        rw [arr_set _ i _ (by omega)]
        refine arr_congr _ _ (fun k _ => ?_)
        by_cases h1 : k = i
        · subst h1; simp
        · by_cases h2 : k < i
          · rw [if_neg h1, if_pos h2, if_pos (by omega)]
          · rw [if_neg h1, if_neg h2, if_neg (by omega)]
      have Z2' : Aside0 ((wr.setCell ⟨w.heap.size + 1 + 1, i, none⟩ (.int .i64 ((p i : Nat) : Int))).heap[w.heap.size + 1 + 1]? = some (.cells (arr (fun k => if k < i + 1 then (p k : Int) else 0)) 103 (0, 0))) := ⟨by rw [← e1]; exact Z2.out⟩
      clear e1 Z2
      have rI : (wr.setCell ⟨w.heap.size + 1 + 1, i, none⟩ (.int .i64 ((p i : Nat) : Int))).cell? ⟨w.heap.size + 1 + 1, i, none⟩ = some (.int .i64 ((p i : Nat) : Int)) := (blk_cell Z2'.out i).trans ((arr_get _ i (by omega)).trans (by simp))
      have rM : (wr.setCell ⟨w.heap.size + 1 + 1, i, none⟩ (.int .i64 ((p i : Nat) : Int))).cell? ⟨w.heap.size, 0, none⟩ = some (.int .i64 n) := (blk_cell Z1.out 0).trans rfl
      go_wp2_with fail
      generalize wr.setCell ⟨w.heap.size + 1 + 1, i, none⟩ (.int .i64 ((p i : Nat) : Int)) = w2 at *
      go_quiet (fail)
      go_wp2_with fail
      refine ⟨⟨i + 1, by go_num, by omega, ⟨blk_drewN Z1.out _⟩, ⟨blk_drewN Z3.out _⟩, ⟨blk_drewN Z2'.out _⟩, ⟨pw_below_drewN ZB.out _⟩⟩, ?_⟩
      simp [intOf]; omega
    · have hx : i = n := by omega
      subst hx
      have H1' : Aside0 (wr.drew.heap[w.heap.size]? = some (.cells (pk p i i) 57 (0, 0))) := ⟨H1.out⟩
      have H2' : Aside0 (wr.drew.heap[w.heap.size + 1]? = some (.cells (arr (fun _ => 0)) 103 (0, 0))) := ⟨H2.out⟩
      have H3' : Aside0 (wr.drew.heap[w.heap.size + 1 + 1]? = some (.cells (arr (fun k => if k < i then (p k : Int) else 0)) 103 (0, 0))) := ⟨H3.out⟩
      go_wp2_with fail
      --R11
      refine start_ (n := 9) (S := fun w' => w'.heap[w.heap.size]? = some (.cells (pk p i i) 57 (0, 0)) ∧ w'.heap[w.heap.size + 1 + 1]? = some (.cells (arr (fun k => if k < i then (p k : Int) else 0)) 103 (0, 0))) (ds := []) #[false, false, false, false, false, false, false, false, false] (by kernel_rfl) rfl rfl ⟨H1'.out, H3'.out⟩ (fun hHeld => ?_)
      have T0 := Aside0.mk (below_drew1 HB.out)
      generalize wr.drew = y0 at *
      refine pure_ (i := 1) (N := (some 42)) (v := ?_) (a' := ?_) #[false, true, false, false, false, false, false, false, false] rfl rfl (by kernel_rfl) (fun _ _ _ h => h) (Or.inl ⟨by rfl, ?_⟩) ?_ ?_
      rotate_left
      · intro w'
        go_simp
        with_reducible rfl
      rotate_left
      · simp only [Act.put, List.setIfInBounds_toArray, List.set_cons_zero, List.set_cons_succ, i64_w, i32_w]
        rfl
      refine take_ (i := 0) (N := (some 41)) (v := .agg (arr (fun k => if k < i then (p k : Int) else 0))) (a' := ?_) #[true, true, false, false, false, false, false, false, false] rfl rfl (by kernel_rfl) (fun _ _ _ h => h) (Or.inl ⟨by rfl, ?_⟩) hHeld ?_ ?_
      · rintro w' ⟨s0, s1⟩
        exact exec_load64 (op := _) (a := _) (x := .tmp 4) rfl rfl s1
      rotate_left
      · simp only [Act.put, List.setIfInBounds_toArray, List.set_cons_zero, List.set_cons_succ, i64_w, i32_w]
        rfl
      refine take_ (i := 2) (N := (some 43)) (v := ?_) (a' := ?_) #[true, true, true, false, false, false, false, false, false] rfl rfl (by kernel_rfl) (fun _ _ _ h => h) (Or.inl ⟨by rfl, ?_⟩) hHeld ?_ ?_
      rotate_left
      · rintro w' ⟨s0, s1⟩
        have s3 := (blk_cell s0 0).trans (show (pk p i i)[0]? = some (.int .i64 i) from rfl)
        go_simp
        with_reducible rfl
      rotate_left
      · simp only [Act.put, List.setIfInBounds_toArray, List.set_cons_zero, List.set_cons_succ, i64_w, i32_w]
        rfl
      refine take_ (i := 3) (N := (some 44)) (v := .agg (arr (fun k => if k < i then (p k : Int) else 0))) (a' := ?_) #[true, true, true, true, false, false, false, false, false] rfl rfl (by kernel_rfl) (fun _ _ _ h => h) (Or.inl ⟨by rfl, ?_⟩) hHeld ?_ ?_
      · rintro w' ⟨s0, s1⟩
        exact exec_load64 (op := _) (a := _) (x := .tmp 4) rfl rfl s1
      rotate_left
      · simp only [Act.put, List.setIfInBounds_toArray, List.set_cons_zero, List.set_cons_succ, i64_w, i32_w]
        rfl
      refine take_ (i := 5) (N := (some 46)) (v := .agg (pk p i i)) (a' := ?_) #[true, true, true, true, false, true, false, false, false] rfl rfl (by kernel_rfl) (fun _ _ _ h => h) (Or.inl ⟨by rfl, ?_⟩) hHeld ?_ ?_
      · rintro w' ⟨s0, s1⟩
        exact exec_loadT (op := _) (a := _) (x := .tmp 1) rfl rfl rfl s0
      rotate_left
      · simp only [Act.put, List.setIfInBounds_toArray, List.set_cons_zero, List.set_cons_succ, i64_w, i32_w]
        rfl
      refine one_ (i := 4) (N := (some 45)) #[true, true, true, true, true, true, false, false, false] rfl rfl (by kernel_rfl) (by decide) (fun K hK => ?_)
      refine call_ 67 #[.int .i64 i, .agg (arr (fun k => if k < i then (p k : Int) else 0))] (by rfl) rfl (by go_simp) ?_
      refine (HPack.calls y0 (fun k => if k < i then (p k : Int) else 0) p i h1 h2 (fun k hk => by rw [if_pos hk]) (fun k hk => by have := HP.out k hk; omega)).mono ?_
      rintro e y1 ⟨rfl, hb⟩
      refine ⟨_, rfl, ?_⟩
      have T1 := Aside0.mk (below_then T0.out T0.out.size hb)
      have G0 := Aside0.mk (blk_below hHeld.1 hb)
      have G1 := Aside0.mk (blk_below H2'.out hb)
      have G2 := Aside0.mk (blk_below hHeld.2 hb)
      clear hb
      refine hK.out _ _ (⟨G0.out, G2.out⟩) (fun hHeld => ?_)
      clear hK K
      refine norm_ (a' := ?_) ?_ ?_
      rotate_left
      · show Act.put _ (some 45) _ = _
        simp only [Act.put, List.setIfInBounds_toArray, List.set_cons_zero, List.set_cons_succ, i64_w, i32_w]
        rfl
      refine pure_ (i := 6) (N := (some 47)) (v := .bool true) (a' := ?_) #[true, true, true, true, true, true, true, false, false] rfl rfl (by kernel_rfl) (fun _ _ _ h => h) (Or.inl ⟨by rfl, ?_⟩) ?_ ?_
      · intro w'
        exact exec_eqT (p := p) (n := i) h2 (fun k hk => by have := HP.out k hk; omega) (op := _) (a := _) (x := .tmp 45) (y := .tmp 46) rfl rfl rfl
      rotate_left
      · simp only [Act.put, List.setIfInBounds_toArray, List.set_cons_zero, List.set_cons_succ, i64_w, i32_w]
        rfl
      refine one_ (i := 7) (N := none) #[true, true, true, true, true, true, true, true, false] rfl rfl (by kernel_rfl) (by decide) (fun K hK => ?_)
      refine skip_ (w1 := y1.setRow (w.heap.size + 1) (arr (fun k => if k < i then (p k : Int) else 0))) (by rfl) rfl (exec_store64 (op := _) (a := _) (x := .tmp 2) (y := .tmp 41) rfl rfl rfl G1.out) ?_
      have T2 := Aside0.mk (below_setRow T1.out (show w.heap.size ≤ w.heap.size + 1 by omega) (arr (fun k => if k < i then (p k : Int) else 0)))
      have F1 := Aside0.mk (setRow_heap y1 (w.heap.size + 1) _ (arr (fun k => if k < i then (p k : Int) else 0)) _ _ G1.out)
      refine hK.out _ _ (⟨(setRow_other y1 _ _ _ (by omega)).trans hHeld.1, (setRow_other y1 _ _ _ (by omega)).trans hHeld.2⟩) (fun hHeld => ?_)
      clear hK K
      refine pure_ (i := 8) (N := (some 3)) (v := ?_) (a' := ?_) #[true, true, true, true, true, true, true, true, true] rfl rfl (by kernel_rfl) (fun _ _ _ h => h) (Or.inl ⟨by rfl, ?_⟩) ?_ ?_
      rotate_left
      · intro w'
        go_simp
        with_reducible rfl
      rotate_left
      · simp only [Act.put, List.setIfInBounds_toArray, List.set_cons_zero, List.set_cons_succ, i64_w, i32_w]
        rfl
      refine done_ (by kernel_rfl) ?_
      go_wp2_with fail
      refine bodyPost_ret (results_list (rs := [.cell 2 103, .tmp 3]) rfl (by simp) (.cell (w.heap.size + 1) 103 (arr (fun k => if k < i then (p k : Int) else 0)) (0, 0) _ rfl F1.out Try.underlying103 rfl (by rw [arr_size]; exact info64) (.tmp .nil))) rfl ?_
      exact ⟨rfl, T2.out⟩
      --ENDR11
end Go.Proofs.Ytcnnlddjnmkioaa.HTopen
