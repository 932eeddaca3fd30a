/- monoid.clone, monoid.rows: contracts. -/
import Derived.Test.YtcnnlddjnmkioaaHPut
import Derived.Deep.MidRow
set_option linter.unusedVariables false
set_option linter.unusedSimpArgs false
namespace Go.Proofs.Ytcnnlddjnmkioaa.HRows
open Go Go.RowKit Go.Proofs.Ytcnnlddjnmkioaa.HReads Go.Proofs.Ytcnnlddjnmkioaa.HArr Go.Proofs.Ytcnnlddjnmkioaa.HPack Go.Proofs.YtcnnlddjnmkioaaW.PrintWords Go.Proofs.YtcnnlddjnmkioaaW.PrintLast Go.Proofs.YtcnnlddjnmkioaaW.PrintMore

theorem infoI : (Try.prog.info? 3).map (fun i => (i.zero, i.size, i.bytes)) = some (some (.int .i64 0), 1, 8) := by kernel_rfl
theorem infoB : (Try.prog.info? 4).map (fun i => (i.zero, i.size, i.bytes)) = some (some (.bool false), 1, 1) := by kernel_rfl
theorem infoSI : (Try.prog.info? 22).map (fun i => (i.zero, i.size, i.bytes)) = some (some (.slice none 0 0), 1, 24) := by kernel_rfl
theorem sizeA : (Try.prog.info? 25).map (·.size) = some 3 := by kernel_rfl
/-- A row beside a block of another type, whatever is written there. -/
theorem row_other {α : Type} {d : Kd α} {e base g t : Nat} {W W2 : World} {ok : Nat → Prop} {v : Value} {xs : List α} {cs : Array Value} (h : d.R e W base ok v xs) (hb : W.heap[g]? = some (.cells cs t (0, 0))) (ht : ∀ q, q ∈ e :: d.E → q ≠ t) (hm : ∀ k, k < W.heap.size → k ≠ g → W2.heap[k]? = W.heap[k]?) : d.R e W2 base ok v xs :=
  Kd.R_mono (Kd.R_step (Kd.R_types h hb ht) (fun k hk hlt => hm k hlt hk.2)) (fun _ hk => hk.1)
set_option maxHeartbeats 1000000 in
set_option maxRecDepth 100000 in
theorem clone_calls (w : World) (k : Int) (A1 : Option Addr) (c1 : Nat) (nx : List Int) (A2 : Option Addr) (c2 : Nat) (ac : List Bool)
    (hn : Kd.C (Kd.int .i64) w A1 nx.length nx) (hc1 : nx.length ≤ c1) (ha : Kd.C Kd.bool w A2 ac.length ac) (hc2 : ac.length ≤ c2) (l1 : nx.length ≤ 4096) (l2 : ac.length ≤ 4096) :
    Calls Try.prog 72 #[.agg #[.int .i64 k, .slice A1 nx.length c1, .slice A2 ac.length c2]] w fun e w' => ∃ A3 c3 A4 c4, e = .returned (.agg #[.int .i64 k, .slice A3 nx.length c3, .slice A4 ac.length c4]) ∧
      Kd.R (Kd.int .i64) 3 w' w.heap.size (fun _ => True) (.slice A3 nx.length c3) nx ∧ Kd.R Kd.bool 4 w' w.heap.size (fun _ => True) (.slice A4 ac.length c4) ac ∧ Below w.heap.size w w' := by
  have HN := Aside0.mk hn
  have HA := Aside0.mk ha
  clear hn ha
  have X0 := Aside0.mk (blk_alloc (blk_new w (.cells #[.int .i64 k, .slice A1 nx.length c1, .slice A2 ac.length c2] 25)) (.cells #[.int .i64 0, .slice none 0 0, .slice none 0 0] 25))
  have Y0 := Aside0.mk (blk_new (w.alloc (.cells #[.int .i64 k, .slice A1 nx.length c1, .slice A2 ac.length c2] 25)) (.cells #[.int .i64 0, .slice none 0 0, .slice none 0 0] 25))
  have B0 := Aside0.mk (below_alloc (below_alloc (Below.refl w.heap.size w) (.cells #[.int .i64 k, .slice A1 nx.length c1, .slice A2 ac.length c2] 25)) (.cells #[.int .i64 0, .slice none 0 0, .slice none 0 0] 25))
  rw [show (w.alloc (.cells #[.int .i64 k, .slice A1 nx.length c1, .slice A2 ac.length c2] 25)).heap.size = w.heap.size + 1 by show (w.heap.push _).size = _; simp] at Y0
  go_enter Try.func72, Try.ntmps72
  go_upto_region 1 with fail
  generalize (w.alloc (.cells #[.int .i64 k, .slice A1 nx.length c1, .slice A2 ac.length c2] 25)).alloc (.cells #[.int .i64 0, .slice none 0 0, .slice none 0 0] 25) = w0 at *
  --P1
  refine start_ (n := 10) (S := fun w' => w'.heap[w.heap.size]? = some (.cells #[.int .i64 k, .slice A1 nx.length c1, .slice A2 ac.length c2] 25 (0, 0))) (ds := [9]) #[false, false, false, false, false, false, false, false, false, false] (by kernel_rfl) rfl rfl X0.out (fun hHeld => ?_)
  have X1 : Aside0 (w0.drew.heap[w.heap.size]? = _) := ⟨X0.out⟩
  have Y1 : Aside0 (w0.drew.heap[w.heap.size + 1]? = _) := ⟨Y0.out⟩
  have B1 := Aside0.mk (below_drew1 B0.out)
  clear X0 Y0 B0
  generalize w0.drew = w1 at *
  refine pure_ (i := 0) (N := (some 3)) (v := ?_) (a' := ?_) #[true, false, false, false, false, false, false, false, false, false] rfl rfl (by kernel_rfl) (fun _ _ _ h => h) (Or.inl ⟨by rfl, ?_⟩) ?_ ?_
  rotate_left
  · intro w'
    go_simp
    with_reducible rfl
  rotate_left
  · simp only [Act.put, List.setIfInBounds_toArray, List.set_cons_zero, List.set_cons_succ, i64_w, i32_w]
    rfl
  refine pure_ (i := 2) (N := (some 5)) (v := ?_) (a' := ?_) #[true, false, true, false, false, false, false, false, false, false] rfl rfl (by kernel_rfl) (fun _ _ _ h => h) (Or.inl ⟨by rfl, ?_⟩) ?_ ?_
  rotate_left
  · intro w'
    go_simp
    with_reducible rfl
  rotate_left
  · simp only [Act.put, List.setIfInBounds_toArray, List.set_cons_zero, List.set_cons_succ, i64_w, i32_w]
    rfl
  refine pure_ (i := 5) (N := (some 8)) (v := ?_) (a' := ?_) #[true, false, true, false, false, true, false, false, false, false] rfl rfl (by kernel_rfl) (fun _ _ _ h => h) (Or.inl ⟨by rfl, ?_⟩) ?_ ?_
  rotate_left
  · intro w'
    go_simp
    with_reducible rfl
  rotate_left
  · simp only [Act.put, List.setIfInBounds_toArray, List.set_cons_zero, List.set_cons_succ, i64_w, i32_w]
    rfl
  refine take_ (i := 1) (N := (some 4)) (v := ?_) (a' := ?_) #[true, true, true, false, false, true, false, false, false, false] rfl rfl (by kernel_rfl) (fun _ _ _ h => h) (Or.inl ⟨by rfl, ?_⟩) hHeld ?_ ?_
  rotate_left
  · rintro w' s0
    have s3 := (blk_cell s0 0).trans rfl
    go_simp
    with_reducible rfl
  rotate_left
  · simp only [Act.put, List.setIfInBounds_toArray, List.set_cons_zero, List.set_cons_succ, i64_w, i32_w]
    rfl
  refine take_ (i := 3) (N := (some 6)) (v := ?_) (a' := ?_) #[true, true, true, true, false, true, false, false, false, false] rfl rfl (by kernel_rfl) (fun _ _ _ h => h) (Or.inl ⟨by rfl, ?_⟩) hHeld ?_ ?_
  rotate_left
  · rintro w' s0
    have s3 := (blk_cell s0 1).trans rfl
    go_simp
    with_reducible rfl
  rotate_left
  · simp only [Act.put, List.setIfInBounds_toArray, List.set_cons_zero, List.set_cons_succ, i64_w, i32_w]
    rfl
  refine take_ (i := 6) (N := (some 9)) (v := ?_) (a' := ?_) #[true, true, true, true, false, true, true, false, false, false] rfl rfl (by kernel_rfl) (fun _ _ _ h => h) (Or.inl ⟨by rfl, ?_⟩) hHeld ?_ ?_
  rotate_left
  · rintro w' s0
    have s3 := (blk_cell s0 2).trans rfl
    go_simp
    with_reducible rfl
  rotate_left
  · simp only [Act.put, List.setIfInBounds_toArray, List.set_cons_zero, List.set_cons_succ, i64_w, i32_w]
    rfl
  refine one_ (i := 4) (N := (some 7)) #[true, true, true, true, true, true, true, false, false, false] rfl rfl (by kernel_rfl) (by decide) (fun K hK => ?_)
  refine Kd.R_append_rows_step (Kd.int .i64) (w0 := w) w.heap.size (by rfl) (.const (.slice none 0 0)) (.tmp 6) 22 3 (.int .i64 0) 8 rfl Try.underlying22 infoI rfl (by decide) (by omega) (.slice none 0 0) [] nx A1 _ _ (fun _ => True) (fun _ => False) rfl rfl (Kd.R_nil _ _ _ _ _) (Kd.C_below HN.out B1.out) (fun _ _ h => h) (fun _ hk => hk.elim) (fun _ _ => trivial) B1.out B1.out.size (by simp; omega) ?_
  intro v3 w3 ho hb hg hat
  obtain ⟨A3, c3, hv⟩ := Kd.R_slice ho
  rw [List.nil_append] at ho hv
  subst hv
  have R3 := Aside0.mk ho
  have B3 := Aside0.mk hb
  have X3 := Aside0.mk (HPut.blk_grown X1.out hg (by simp [Value.ownBlock]))
  have Y3 := Aside0.mk (HPut.blk_grown Y1.out hg (by simp [Value.ownBlock]))
  clear ho hb hg hat
  refine hK.out _ _ (X3.out) (fun hHeld => ?_)
  clear hK K
  refine norm_ (a' := ?_) ?_ ?_
  rotate_left
  · show Act.put _ (some 7) _ = _
    simp only [Act.put, List.setIfInBounds_toArray, List.set_cons_zero, List.set_cons_succ, i64_w, i32_w]
    rfl
  refine one_ (i := 7) (N := (some 10)) #[true, true, true, true, true, true, true, true, false, false] rfl rfl (by kernel_rfl) (by decide) (fun K hK => ?_)
  refine Kd.R_append_rows_step (Kd.bool) (w0 := w) w.heap.size (by rfl) (.const (.slice none 0 0)) (.tmp 9) 23 4 (.bool false) 1 rfl Try.underlying23 infoB rfl (by decide) (by omega) (.slice none 0 0) [] ac A2 _ _ (fun _ => True) (fun _ => False) rfl rfl (Kd.R_nil _ _ _ _ _) (Kd.C_below HA.out B3.out) (fun _ _ h => h) (fun _ hk => hk.elim) (fun _ _ => trivial) B3.out B3.out.size (by simp; omega) ?_
  intro v4 w4 ho hb hg hat
  obtain ⟨A4, c4, hv⟩ := Kd.R_slice ho
  rw [List.nil_append] at ho hv
  subst hv
  have R4 := Aside0.mk ho
  have R3' := Aside0.mk (Kd.R_step R3.out (fun k _ hlt => hg.block k hlt (by simp [Value.ownBlock])))
  have B4 := Aside0.mk hb
  have X4 := Aside0.mk (HPut.blk_grown X3.out hg (by simp [Value.ownBlock]))
  have Y4 := Aside0.mk (HPut.blk_grown Y3.out hg (by simp [Value.ownBlock]))
  clear ho hb hg hat
  refine hK.out _ _ (X4.out) (fun hHeld => ?_)
  clear hK K
  refine norm_ (a' := ?_) ?_ ?_
  rotate_left
  · show Act.put _ (some 10) _ = _
    simp only [Act.put, List.setIfInBounds_toArray, List.set_cons_zero, List.set_cons_succ, i64_w, i32_w]
    rfl
  refine pure_ (i := 8) (N := (some 11)) (v := ?_) (a' := ?_) #[true, true, true, true, true, true, true, true, true, false] rfl rfl (by kernel_rfl) (fun _ _ _ h => h) (Or.inl ⟨by rfl, ?_⟩) ?_ ?_
  rotate_left
  · intro w'
    go_simp
    with_reducible rfl
  rotate_left
  · simp only [Act.put, List.setIfInBounds_toArray, List.set_cons_zero, List.set_cons_succ, i64_w, i32_w]
    rfl
  refine last_ (i := 9) (N := none) #[true, true, true, true, true, true, true, true, true, true] rfl rfl (by kernel_rfl) (by decide) (fun K hK => ?_)
  refine skip_ (w1 := w4.setCells (w.heap.size + 1) 0 [.int .i64 k, .slice A3 nx.length c3, .slice A4 ac.length c4]) (by rfl) rfl ?_ ?_
  · have hrun := run_store_run (P := Try.prog) (o := 0) 25 (.agg #[.int .i64 k, .slice A3 nx.length c3, .slice A4 ac.length c4]) [.int .i64 k, .slice A3 nx.length c3, .slice A4 ac.length c4] Y4.out rfl sizeA (by simp) (by intro q hq; simp at hq; rcases hq with rfl | rfl | rfl <;> rfl)
    simp [execOp, Act.eval, hrun]
  have F1 := Aside0.mk (blk_put (blk_put (blk_put Y4.out 0 (.int .i64 k) rfl) 1 (.slice A3 nx.length c3) rfl) 2 (.slice A4 ac.length c4) rfl)
  have BZ : Aside0 (Below w.heap.size w (w4.setCells (w.heap.size + 1) 0 [.int .i64 k, .slice A3 nx.length c3, .slice A4 ac.length c4])) := Aside0.mk (below_set (below_set (below_set B4.out (Nat.le_succ _)) (Nat.le_succ _)) (Nat.le_succ _))
  refine hK.out _ _ ?_
  clear hK K
  refine done_ (by kernel_rfl) ?_
  --ENDP1
  go_wp2_with fail
  refine bodyPost_ret (results_cell_row rfl _ _ (w.heap.size + 1) 25 #[.int .i64 k, .slice A3 nx.length c3, .slice A4 ac.length c4] (0, 0) _ rfl F1.out Try.underlying25 rfl (by kernel_rfl)) rfl ?_
  have hm : ∀ j, j < w4.heap.size → j ≠ w.heap.size + 1 → (w4.setCells (w.heap.size + 1) 0 [.int .i64 k, .slice A3 nx.length c3, .slice A4 ac.length c4]).heap[j]? = w4.heap[j]? := fun j _ hj =>
    setCells_far _ _ j hj
  exact ⟨A3, c3, A4, c4, rfl, row_other R3'.out Y4.out (by decide) hm, row_other R4.out Y4.out (by decide) hm, BZ.out⟩

/-- Rows cut out of a list: by their numbers. -/
def kS (g k : Nat) : Kd Nat := Kd.scalar (fun i => .slice (some ⟨g, i * k, none⟩) k k) (fun _ => rfl)
set_option maxHeartbeats 1000000 in
set_option maxRecDepth 100000 in
theorem rows_calls (w : World) (g k N M cap : Nat) (h1 : 1 ≤ k) (h2 : k ≤ 8) (hN : N ≤ 512) (hM : M = N * k) (hc : M ≤ cap) :
    Calls Try.prog 79 #[.slice (some ⟨g, 0, none⟩) M cap, .int .i64 k] w fun e w' => ∃ A c, e = .returned (.slice A N c) ∧ Kd.R (kS g k) 22 w' w.heap.size (fun _ => True) (.slice A N c) (List.range N) ∧ Below w.heap.size w w' := by
  have hNk : M ≤ 4096 := by rw [hM]; exact Nat.le_trans (Nat.mul_le_mul hN h2) (by decide)
  have HM := Aside0.mk hM
  clear hM
  go_enter Try.func79, Try.ntmps79
  go_wp2_with fail
  go_loopw [5, 6] (fun v5 v6 wr => ∃ j m : Nat, v6 = .int .i64 (m : Int) ∧ j ≤ N ∧ Aside0 (m = j * k) ∧ Aside0 (Kd.R (kS g k) 22 wr w.heap.size (fun _ => True) v5 (List.range j)) ∧ Aside0 (Below w.heap.size w wr)) (fun _ v6 _ => M + k - (intOf v6).toNat)
  case atStart => exact ⟨0, 0, by simp, Nat.zero_le _, ⟨by simp⟩, ⟨Kd.R_nil _ _ _ _ _⟩, ⟨Below.refl _ _⟩⟩
  case round =>
    obtain ⟨j, m, rfl, hj, Hm, HR, HB⟩ := hrel
    by_cases hlt : j < N
    · have hle : m + k ≤ M := by rw [Hm.out, HM.out]; have := Nat.mul_le_mul_right k hlt; rw [Nat.succ_mul] at this; exact this
      have g1 : ((m : Int) + (k : Int) ≤ (M : Int)) = True := eq_true (by omega)
      obtain ⟨A5, c5, hv⟩ := Kd.R_slice HR.out
      rw [List.length_range] at hv
      subst hv
      have hp : ∀ (W : World) (b : Nat), (kS g k).M W b (fun _ => False) j [.slice (some ⟨g, m, none⟩) k k] := fun _ _ => by
        show _ = [_]
        rw [Hm.out]
      go_wp2_with ((with_reducible refine gate_builtin (b := .append) (xs := #[.tmp 16, .tmp 26]) rfl ?_); at_builtin; refine Kd.R_append (kS g k) (w0 := w) w.heap.size rfl (.tmp 16) (.tmp 26) 82 22 (.slice none 0 0) 24 rfl Try.underlying82 infoSI rfl Nat.one_pos (by omega) (.slice A5 j c5) (List.range j) j [.slice (some ⟨g, m, none⟩) k k] (fun _ => True) (fun _ => False) rfl rfl (hp _ _) (fun _ hk => hk.elim) (fun _ _ => trivial) HR.out HB.out HB.out.size (by rw [List.length_range]; omega) ?_; intro v7 w7 ho7 hb7 hg7 hat7)
      refine ⟨⟨j + 1, m + k, by go_num, by omega, ⟨by rw [Hm.out, Nat.succ_mul]⟩, ⟨by rw [List.range_succ]; exact ho7⟩, ⟨hb7⟩⟩, ?_⟩
      simp [intOf]; omega
    · have hx : j = N := by omega
      subst hx
      obtain rfl : m = M := by rw [Hm.out, HM.out]
      have g0 : m < m + k := by omega
      have g1 : decide ((m : Int) + (k : Int) ≤ (m : Int)) = false := decide_eq_false (by omega)
      obtain ⟨A5, c5, hv⟩ := Kd.R_slice HR.out
      rw [List.length_range] at hv
      subst hv
      go_wp2_with fail
      go_ret
      exact ⟨A5, c5, rfl, HR.out, HB.out⟩
end Go.Proofs.Ytcnnlddjnmkioaa.HRows
