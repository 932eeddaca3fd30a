/- A built monoid's methods: Right, Left. -/
import Derived.Test.YtcnnlddjnmkioaaHMeth
set_option linter.unusedVariables false
set_option linter.unusedSimpArgs false
namespace Go.Proofs.Ytcnnlddjnmkioaa.HSide2
open Go Go.RowKit Go.Proofs.Ytcnnlddjnmkioaa.HTable Go.Proofs.Ytcnnlddjnmkioaa.HMon Go.Proofs.Ytcnnlddjnmkioaa.HAuto Go.Proofs.Ytcnnlddjnmkioaa.PureMon Go.Proofs.Ytcnnlddjnmkioaa.HMeth Go.Proofs.YtcnnlddjnmkioaaW.PrintWords Go.Proofs.YtcnnlddjnmkioaaW.PrintLast Go.Proofs.YtcnnlddjnmkioaaW.PrintMore

section
variable (w : World) (g : Nat) (d : MD) (hd : d.Ok) (h : Hd w g d)
include h
set_option maxRecDepth 100000 in
omit h in
theorem r1_calls (A3 A4 : Option Addr) (c3 c4 g5 c5 g6 c6 g7 c7 g8 c8 gR gF : Nat) (V : Vw w g d A3 A4 c3 c4 g5 c5 g6 c6 g7 c7 g8 c8 gR gF) : Calls Try.prog 58 #[.pointer (some ⟨g, 0, none⟩)] w fun e w' => e = .returned (.slice (some ⟨g7, 0, none⟩) d.T.length c7) ∧ w' = w := by
  have x6 : w.cell? ⟨g, 6, none⟩ = some (.slice (some ⟨g7, 0, none⟩) d.T.length c7) := (blk_cell V.blk 6).trans rfl
  clear V
  go_enter Try.func58, Try.ntmps58
  go_wp2_with fail
  go_ret
  exact ⟨rfl, rfl⟩
set_option maxRecDepth 100000 in
omit h in
theorem l1_calls (A3 A4 : Option Addr) (c3 c4 g5 c5 g6 c6 g7 c7 g8 c8 gR gF : Nat) (V : Vw w g d A3 A4 c3 c4 g5 c5 g6 c6 g7 c7 g8 c8 gR gF) : Calls Try.prog 59 #[.pointer (some ⟨g, 0, none⟩)] w fun e w' => e = .returned (.slice (some ⟨g8, 0, none⟩) d.T.length c8) ∧ w' = w := by
  have x6 : w.cell? ⟨g, 7, none⟩ = some (.slice (some ⟨g8, 0, none⟩) d.T.length c8) := (blk_cell V.blk 7).trans rfl
  clear V
  go_enter Try.func59, Try.ntmps59
  go_wp2_with fail
  go_ret
  exact ⟨rfl, rfl⟩
set_option maxHeartbeats 1000000 in
set_option maxRecDepth 100000 in
include hd in
theorem beside_right (i l : Nat) (hi : i < d.T.length) (hl : l < d.k) (s : Nat) (hs : (d.Rs.getD (i * d.k + l) 0) = (s : Int)) : Calls Try.prog 57 #[.pointer (some ⟨g, 0, none⟩), .int .i64 i, .int .u8 (97 + l : Int), .func (.func 58) #[] #[]] w fun e w' => e = .returned (.tuple #[.int .i64 s, .int .i64 0]) ∧ Below w.heap.size w w' := by
  have k8 := hd.fit.k8
  have B0 := Aside0.mk (below_alloc (Below.refl w.heap.size w) (.cells #[.int .i64 i] 3))
  have H := Aside0.mk (h.below B0.out)
  have HX := Aside0.mk (one_C w i)
  have hchk := chk_in hi
  obtain ⟨A3, A4, c3, c4, g5, c5, g6, c6, g7, c7, g8, c8, gR, gF, V⟩ := H.out
  have x0 : (w.alloc (.cells #[.int .i64 i] 3)).cell? ⟨g, 0, none⟩ = some (.int .i64 d.k) := (blk_cell V.blk 0).trans rfl
  have x7 := V.rts i hi
  have x8 := V.rs _ (idx_lt hi hl)
  rw [hs] at x8
  have HV := Aside0.mk V
  clear V hs hd
  have q1 : decide ((97 : Int) + l < 97) = false := decide_eq_false (by omega)
  have q2 : IntKind.u8.wrap ((97 : Int) + l - 97) = (l : Int) := by
    rw [show (97 : Int) + l - 97 = l by omega]
    rcases (show l = 0 ∨ l = 1 ∨ l = 2 ∨ l = 3 ∨ l = 4 ∨ l = 5 ∨ l = 6 ∨ l = 7 by omega) with rfl | rfl | rfl | rfl | rfl | rfl | rfl | rfl <;> rfl
  have q3 : decide ((l : Int) ≥ (d.k : Int)) = false := decide_eq_false (by omega)
  have q4 : decide ((d.k : Int) ≤ (l : Int)) = false := decide_eq_false (by omega)
  generalize (97 : Int) + l = c at *
  generalize i * d.k = m at *
  go_enter Try.func57, Try.ntmps57
  go_wp2_with (first
    | (go_at_call 53; refine (check_calls _ g d H.out _ _ [(i : Int)] HX.out (by simp)).mono ?_; rintro e w1 ⟨rfl, hw1⟩; subst hw1; rw [hchk])
    | (go_at_call 58; refine (r1_calls _ g d _ _ _ _ _ _ _ _ _ _ _ _ _ _ HV.out).mono ?_; rintro e w1 ⟨rfl, hw1⟩; subst hw1))
  go_ret2
  exact ⟨rfl, B0.out⟩

set_option maxHeartbeats 1000000 in
set_option maxRecDepth 100000 in
include hd in
theorem beside_left (i l : Nat) (hi : i < d.T.length) (hl : l < d.k) (s : Nat) (hs : (d.Fs.getD (i * d.k + l) 0) = (s : Int)) : Calls Try.prog 57 #[.pointer (some ⟨g, 0, none⟩), .int .i64 i, .int .u8 (97 + l : Int), .func (.func 59) #[] #[]] w fun e w' => e = .returned (.tuple #[.int .i64 s, .int .i64 0]) ∧ Below w.heap.size w w' := by
  have k8 := hd.fit.k8
  have B0 := Aside0.mk (below_alloc (Below.refl w.heap.size w) (.cells #[.int .i64 i] 3))
  have H := Aside0.mk (h.below B0.out)
  have HX := Aside0.mk (one_C w i)
  have hchk := chk_in hi
  obtain ⟨A3, A4, c3, c4, g5, c5, g6, c6, g7, c7, g8, c8, gR, gF, V⟩ := H.out
  have x0 : (w.alloc (.cells #[.int .i64 i] 3)).cell? ⟨g, 0, none⟩ = some (.int .i64 d.k) := (blk_cell V.blk 0).trans rfl
  have x7 := V.fts i hi
  have x8 := V.fs _ (idx_lt hi hl)
  rw [hs] at x8
  have HV := Aside0.mk V
  clear V hs hd
  have q1 : decide ((97 : Int) + l < 97) = false := decide_eq_false (by omega)
  have q2 : IntKind.u8.wrap ((97 : Int) + l - 97) = (l : Int) := by
    rw [show (97 : Int) + l - 97 = l by omega]
    rcases (show l = 0 ∨ l = 1 ∨ l = 2 ∨ l = 3 ∨ l = 4 ∨ l = 5 ∨ l = 6 ∨ l = 7 by omega) with rfl | rfl | rfl | rfl | rfl | rfl | rfl | rfl <;> rfl
  have q3 : decide ((l : Int) ≥ (d.k : Int)) = false := decide_eq_false (by omega)
  have q4 : decide ((d.k : Int) ≤ (l : Int)) = false := decide_eq_false (by omega)
  generalize (97 : Int) + l = c at *
  generalize i * d.k = m at *
  go_enter Try.func57, Try.ntmps57
  go_wp2_with (first
    | (go_at_call 53; refine (check_calls _ g d H.out _ _ [(i : Int)] HX.out (by simp)).mono ?_; rintro e w1 ⟨rfl, hw1⟩; subst hw1; rw [hchk])
    | (go_at_call 59; refine (l1_calls _ g d _ _ _ _ _ _ _ _ _ _ _ _ _ _ HV.out).mono ?_; rintro e w1 ⟨rfl, hw1⟩; subst hw1))
  go_ret2
  exact ⟨rfl, B0.out⟩

set_option maxHeartbeats 1000000 in
set_option maxRecDepth 100000 in
include hd in
theorem right_calls (i l : Nat) (hi : i < d.T.length) (hl : l < d.k) : Calls Try.prog 21 #[.pointer (some ⟨g, 0, none⟩), .int .i64 i, .int .u8 (97 + l : Int)] w fun e w' => e = .returned (.tuple #[.int .i64 (fol d.k d.Rs i [l] : Nat), .int .i64 0]) ∧ Below w.heap.size w w' := by
  have H := Aside0.mk h
  have HD := Aside0.mk hd
  obtain ⟨s, _, hs, _, _⟩ := hd.full.step hi hl
  have e : fol d.k d.Rs i [l] = s := by
    rw [fol_cons, fol_nil, hs]
    rfl
  rw [e]
  clear e hd h
  go_enter Try.func21, Try.ntmps21
  go_wp2_with (go_at_call 57; refine (beside_right w g d HD.out H.out i l hi hl s hs).mono ?_; rintro e w1 ⟨rfl, hb1⟩)
  go_ret2
  exact ⟨rfl, hb1⟩
set_option maxHeartbeats 1000000 in
set_option maxRecDepth 100000 in
include hd in
theorem left_calls (i l : Nat) (hi : i < d.T.length) (hl : l < d.k) : Calls Try.prog 22 #[.pointer (some ⟨g, 0, none⟩), .int .i64 i, .int .u8 (97 + l : Int)] w fun e w' => e = .returned (.tuple #[.int .i64 (fol d.k d.Rs 0 (l :: d.us.getD i []) : Nat), .int .i64 0]) ∧ Below w.heap.size w w' := by
  have H := Aside0.mk h
  have HD := Aside0.mk hd
  obtain ⟨s, hs'⟩ : ∃ s, s = fol d.k d.Rs 0 (l :: d.us.getD i []) := ⟨_, rfl⟩
  have hs : d.Fs.getD (i * d.k + l) 0 = (s : Int) := by
    rw [hd.fs, hd.full.left hi hl, hs']
  rw [← hs']
  clear hs' hd h
  go_enter Try.func22, Try.ntmps22
  go_wp2_with (go_at_call 57; refine (beside_left w g d HD.out H.out i l hi hl s hs).mono ?_; rintro e w1 ⟨rfl, hb1⟩)
  go_ret2
  exact ⟨rfl, hb1⟩
end
end Go.Proofs.Ytcnnlddjnmkioaa.HSide2
