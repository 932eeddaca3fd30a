/- Contracts of Go functions, each with the walk through its code, written by a program of this session. -/
import Derived.Test.YtjkajepkeepelaaPWx0
import Derived.Test.YtjkajepkeepelaaPWx1
import Derived.Test.YtjkajepkeepelaaPWx2
namespace Go.Proofs.Ytjkajepkeepelaa.PW
open Go.RowKit Go.Proofs.YtjkajepkeepelaaW.PrintWords Go.Proofs.YtjkajepkeepelaaW.PrintLast Go.Proofs.YtjkajepkeepelaaW.PrintMore
attribute [local go_sem] max2_int min2_int max_two min_two max_three min_three max_four min_four   -- for this text's walks alone
open Go.Proofs.Ytjkajepkeepelaa.PA
set_option linter.unusedVariables false
set_option linter.unusedSimpArgs false

/-! ### eggboxlaw01_WordRoots: function 8 -/
mutual
def eggboxlaw01_WordRoots.j0 : Nat → Int → Int → ByteArray → ByteArray → Int → Bool → Option (Bool)
  | 0, _, _, _, _, _, _ => none
  | k + 1, x0, x2, x7, x8, x9, x43 => if x43 = true then (some false) else (if x7.toList = ([] : List UInt8) then (if x8.toList = ([] : List UInt8) then (some (x9 == 0)) else (some false)) else (if x8.toList = ([] : List UInt8) then (eggboxlaw01_WordRoots.j1 k x0 x2 x7 x8 x9 true) else (if x9 < 1 then (eggboxlaw01_WordRoots.j1 k x0 x2 x7 x8 x9 true) else (eggboxlaw01_WordRoots.j1 k x0 x2 x7 x8 x9 ((wrap64 (x9 * (x8.size : Int))) != (x7.size : Int))))))
def eggboxlaw01_WordRoots.j1 : Nat → Int → Int → ByteArray → ByteArray → Int → Bool → Option (Bool)
  | 0, _, _, _, _, _, _ => none
  | k + 1, x0, x2, x7, x8, x9, x66 => if x66 = true then (some false) else (eggboxlaw01_WordRoots.l0 k x0 x2 x7 x8 x9 0)
def eggboxlaw01_WordRoots.l0 : Nat → Int → Int → ByteArray → ByteArray → Int → Int → Option (Bool)
  | 0, _, _, _, _, _, _ => none
  | k + 1, x0, x2, x7, x8, x9, x11 => if x11 < (x7.size : Int) then (if 0 ≤ x11 then (if (x8.size : Int) = 0 then (none) else (if 0 ≤ (Int.tmod x11 (x8.size : Int)) then (if (Int.tmod x11 (x8.size : Int)) < (x8.size : Int) then (if (bt x7 x11) = (bt x8 (Int.tmod x11 (x8.size : Int))) then (eggboxlaw01_WordRoots.l0 k x0 x2 x7 x8 x9 (wrap64 (x11 + 1))) else (some false)) else (none)) else (none))) else (none)) else ((word_Root.f k x0 x8).bind fun bt189 => ((word_Power.f x0 x7 x2).bind fun bt192 => ((eggboxlaw01_num.f bt189.2.2).bind fun t194 => (if t194 = 0 then (if bt189.1.toList = x8.toList then (eggboxlaw01_WordRoots.j3 k x0 x2 x7 x8 x9 bt192.1 bt192.2 (bt189.2.1 != 1)) else (eggboxlaw01_WordRoots.j3 k x0 x2 x7 x8 x9 bt192.1 bt192.2 true)) else (eggboxlaw01_WordRoots.j3 k x0 x2 x7 x8 x9 bt192.1 bt192.2 true)))))
def eggboxlaw01_WordRoots.j3 : Nat → Int → Int → ByteArray → ByteArray → Int → ByteArray → Int → Bool → Option (Bool)
  | 0, _, _, _, _, _, _, _, _ => none
  | k + 1, x0, x2, x7, x8, x9, x15, x16, x108 => if x108 = true then (some false) else ((eggboxlaw01_num.f x16).bind fun t195 => (if t195 = 0 then ((word_Root.f k x0 x15).bind fun bt196 => ((eggboxlaw01_num.f bt196.2.2).bind fun t199 => (if t199 = 0 then (if bt196.1.toList = x8.toList then (if bt196.2.1 = (wrap64 (x9 * x2)) then (some ((x15.size : Int) == (wrap64 (x2 * (x7.size : Int))))) else (some false)) else (some false)) else (some false)))) else (if (wrap64 (x2 * (x7.size : Int))) > 4096 then (some (x15.toList == ([] : List UInt8))) else (some false))))
end
def eggboxlaw01_WordRoots.f (k : Nat) (a0 : Int) (a1 : ByteArray) (a2 : Int) : Option (Bool) := (eggboxlaw01_letters.f a0).bind fun t182 => ((eggboxlaw01_over.f k t182 a1).bind fun t183 => ((word_Root.f k t182 t183).bind fun bt184 => ((eggboxlaw01_num.f bt184.2.2).bind fun t187 => (if t187 = 0 then ((eggboxlaw01_knows.f k).bind fun t188 => (eggboxlaw01_WordRoots.j0 k t182 (wrap64 (1 + (Int.tmod (wrap64 ((Int.tmod a2 50) + 50)) 50))) t183 bt184.1 bt184.2.1 (!t188))) else (eggboxlaw01_WordRoots.j0 k t182 (wrap64 (1 + (Int.tmod (wrap64 ((Int.tmod a2 50) + 50)) 50))) t183 bt184.1 bt184.2.1 true)))))
theorem eggboxlaw01_WordRoots.mono_l : ∀ k, (∀ y0 y1 y2 y3 y4 y5, LeO (eggboxlaw01_WordRoots.j0 k y0 y1 y2 y3 y4 y5) (eggboxlaw01_WordRoots.j0 (k + 1) y0 y1 y2 y3 y4 y5)) ∧ (∀ y0 y1 y2 y3 y4 y5, LeO (eggboxlaw01_WordRoots.j1 k y0 y1 y2 y3 y4 y5) (eggboxlaw01_WordRoots.j1 (k + 1) y0 y1 y2 y3 y4 y5)) ∧ (∀ y0 y1 y2 y3 y4 y5, LeO (eggboxlaw01_WordRoots.l0 k y0 y1 y2 y3 y4 y5) (eggboxlaw01_WordRoots.l0 (k + 1) y0 y1 y2 y3 y4 y5)) ∧ (∀ y0 y1 y2 y3 y4 y5 y6 y7, LeO (eggboxlaw01_WordRoots.j3 k y0 y1 y2 y3 y4 y5 y6 y7) (eggboxlaw01_WordRoots.j3 (k + 1) y0 y1 y2 y3 y4 y5 y6 y7))
  | 0 => ⟨fun _ _ _ _ _ _ r h => by simp [eggboxlaw01_WordRoots.j0] at h, fun _ _ _ _ _ _ r h => by simp [eggboxlaw01_WordRoots.j1] at h, fun _ _ _ _ _ _ r h => by simp [eggboxlaw01_WordRoots.l0] at h, fun _ _ _ _ _ _ _ _ r h => by simp [eggboxlaw01_WordRoots.j3] at h⟩
  | k + 1 => by
    obtain ⟨ih0, ih1, ih2, ih3⟩ := eggboxlaw01_WordRoots.mono_l k
    refine ⟨?_, ?_, ?_, ?_⟩
    · intro y0 y1 y2 y3 y4 y5
      unfold eggboxlaw01_WordRoots.j0
      repeat' first
      | (with_reducible exact ih0 _ _ _ _ _ _)
      | (with_reducible exact ih1 _ _ _ _ _ _)
      | (with_reducible exact ih2 _ _ _ _ _ _)
      | (with_reducible exact ih3 _ _ _ _ _ _ _ _)
      | (with_reducible exact eggboxlaw01_knows.mono _)
      | (with_reducible exact eggboxlaw01_over.mono _ _ _)
      | (with_reducible exact word_Root.mono _ _ _)
      | (with_reducible exact LeO.refl _)
      | (with_reducible exact LeO.none _)
      | (with_reducible refine LeO.ite ?_ ?_)
      | (with_reducible refine LeO.bind ?_ (fun _ => ?_))
      | exact ih0 _ _ _ _ _ _
      | exact ih1 _ _ _ _ _ _
      | exact ih2 _ _ _ _ _ _
      | exact ih3 _ _ _ _ _ _ _ _
      | exact eggboxlaw01_knows.mono _
      | exact eggboxlaw01_over.mono _ _ _
      | exact word_Root.mono _ _ _
      | exact LeO.none _
      | refine LeO.ite ?_ ?_
      | refine LeO.bind ?_ (fun _ => ?_)
    · intro y0 y1 y2 y3 y4 y5
      unfold eggboxlaw01_WordRoots.j1
      repeat' first
      | (with_reducible exact ih0 _ _ _ _ _ _)
      | (with_reducible exact ih1 _ _ _ _ _ _)
      | (with_reducible exact ih2 _ _ _ _ _ _)
      | (with_reducible exact ih3 _ _ _ _ _ _ _ _)
      | (with_reducible exact eggboxlaw01_knows.mono _)
      | (with_reducible exact eggboxlaw01_over.mono _ _ _)
      | (with_reducible exact word_Root.mono _ _ _)
      | (with_reducible exact LeO.refl _)
      | (with_reducible exact LeO.none _)
      | (with_reducible refine LeO.ite ?_ ?_)
      | (with_reducible refine LeO.bind ?_ (fun _ => ?_))
      | exact ih0 _ _ _ _ _ _
      | exact ih1 _ _ _ _ _ _
      | exact ih2 _ _ _ _ _ _
      | exact ih3 _ _ _ _ _ _ _ _
      | exact eggboxlaw01_knows.mono _
      | exact eggboxlaw01_over.mono _ _ _
      | exact word_Root.mono _ _ _
      | exact LeO.none _
      | refine LeO.ite ?_ ?_
      | refine LeO.bind ?_ (fun _ => ?_)
    · intro y0 y1 y2 y3 y4 y5
      unfold eggboxlaw01_WordRoots.l0
      repeat' first
      | (with_reducible exact ih0 _ _ _ _ _ _)
      | (with_reducible exact ih1 _ _ _ _ _ _)
      | (with_reducible exact ih2 _ _ _ _ _ _)
      | (with_reducible exact ih3 _ _ _ _ _ _ _ _)
      | (with_reducible exact eggboxlaw01_knows.mono _)
      | (with_reducible exact eggboxlaw01_over.mono _ _ _)
      | (with_reducible exact word_Root.mono _ _ _)
      | (with_reducible exact LeO.refl _)
      | (with_reducible exact LeO.none _)
      | (with_reducible refine LeO.ite ?_ ?_)
      | (with_reducible refine LeO.bind ?_ (fun _ => ?_))
      | exact ih0 _ _ _ _ _ _
      | exact ih1 _ _ _ _ _ _
      | exact ih2 _ _ _ _ _ _
      | exact ih3 _ _ _ _ _ _ _ _
      | exact eggboxlaw01_knows.mono _
      | exact eggboxlaw01_over.mono _ _ _
      | exact word_Root.mono _ _ _
      | exact LeO.none _
      | refine LeO.ite ?_ ?_
      | refine LeO.bind ?_ (fun _ => ?_)
    · intro y0 y1 y2 y3 y4 y5 y6 y7
      unfold eggboxlaw01_WordRoots.j3
      repeat' first
      | (with_reducible exact ih0 _ _ _ _ _ _)
      | (with_reducible exact ih1 _ _ _ _ _ _)
      | (with_reducible exact ih2 _ _ _ _ _ _)
      | (with_reducible exact ih3 _ _ _ _ _ _ _ _)
      | (with_reducible exact eggboxlaw01_knows.mono _)
      | (with_reducible exact eggboxlaw01_over.mono _ _ _)
      | (with_reducible exact word_Root.mono _ _ _)
      | (with_reducible exact LeO.refl _)
      | (with_reducible exact LeO.none _)
      | (with_reducible refine LeO.ite ?_ ?_)
      | (with_reducible refine LeO.bind ?_ (fun _ => ?_))
      | exact ih0 _ _ _ _ _ _
      | exact ih1 _ _ _ _ _ _
      | exact ih2 _ _ _ _ _ _
      | exact ih3 _ _ _ _ _ _ _ _
      | exact eggboxlaw01_knows.mono _
      | exact eggboxlaw01_over.mono _ _ _
      | exact word_Root.mono _ _ _
      | exact LeO.none _
      | refine LeO.ite ?_ ?_
      | refine LeO.bind ?_ (fun _ => ?_)
theorem eggboxlaw01_WordRoots.mono : ∀ a0 a1 a2 k, LeO (eggboxlaw01_WordRoots.f k a0 a1 a2) (eggboxlaw01_WordRoots.f (k + 1) a0 a1 a2) := by
  intro a0 a1 a2 k
  obtain ⟨ih0, ih1, ih2, ih3⟩ := eggboxlaw01_WordRoots.mono_l k
  unfold eggboxlaw01_WordRoots.f
  repeat' first
      | (with_reducible exact ih0 _ _ _ _ _ _)
      | (with_reducible exact ih1 _ _ _ _ _ _)
      | (with_reducible exact ih2 _ _ _ _ _ _)
      | (with_reducible exact ih3 _ _ _ _ _ _ _ _)
      | (with_reducible exact eggboxlaw01_knows.mono _)
      | (with_reducible exact eggboxlaw01_over.mono _ _ _)
      | (with_reducible exact word_Root.mono _ _ _)
      | (with_reducible exact LeO.refl _)
      | (with_reducible exact LeO.none _)
      | (with_reducible refine LeO.ite ?_ ?_)
      | (with_reducible refine LeO.bind ?_ (fun _ => ?_))
      | exact ih0 _ _ _ _ _ _
      | exact ih1 _ _ _ _ _ _
      | exact ih2 _ _ _ _ _ _
      | exact ih3 _ _ _ _ _ _ _ _
      | exact eggboxlaw01_knows.mono _
      | exact eggboxlaw01_over.mono _ _ _
      | exact word_Root.mono _ _ _
      | exact LeO.none _
      | refine LeO.ite ?_ ?_
      | refine LeO.bind ?_ (fun _ => ?_)
set_option maxHeartbeats 8000000 in
set_option maxRecDepth 100000 in
theorem eggboxlaw01_WordRoots.calls (k : Nat) (a0 : Int) (a1 : ByteArray) (a2 : Int) (r : Bool) (w : World) (h : eggboxlaw01_WordRoots.f k a0 a1 a2 = some r) :
    Calls Try.prog 8 #[.int .i64 a0, .string a1, .int .i64 a2] w fun e w' => e = .returned (.bool r) ∧ Below w.heap.size w w' := by
  have HB := Aside0.mk (Below.refl w.heap.size w)
  have H : ((eggboxlaw01_letters.f a0).bind fun t182 => ((eggboxlaw01_over.f k t182 a1).bind fun t183 => ((word_Root.f k t182 t183).bind fun bt184 => ((eggboxlaw01_num.f bt184.2.2).bind fun t187 => (if t187 = 0 then ((eggboxlaw01_knows.f k).bind fun t188 => (eggboxlaw01_WordRoots.j0 k t182 (wrap64 (1 + (Int.tmod (wrap64 ((Int.tmod a2 50) + 50)) 50))) t183 bt184.1 bt184.2.1 (!t188))) else (eggboxlaw01_WordRoots.j0 k t182 (wrap64 (1 + (Int.tmod (wrap64 ((Int.tmod a2 50) + 50)) 50))) t183 bt184.1 bt184.2.1 true)))))) = some r := h
  clear h
  replace H := Option.bind_eq_some_iff.mp H
  obtain ⟨t182, A40, H⟩ := H
  replace H : ((eggboxlaw01_over.f k t182 a1).bind fun t183 => ((word_Root.f k t182 t183).bind fun bt184 => ((eggboxlaw01_num.f bt184.2.2).bind fun t187 => (if t187 = 0 then ((eggboxlaw01_knows.f k).bind fun t188 => (eggboxlaw01_WordRoots.j0 k t182 (wrap64 (1 + (Int.tmod (wrap64 ((Int.tmod a2 50) + 50)) 50))) t183 bt184.1 bt184.2.1 (!t188))) else (eggboxlaw01_WordRoots.j0 k t182 (wrap64 (1 + (Int.tmod (wrap64 ((Int.tmod a2 50) + 50)) 50))) t183 bt184.1 bt184.2.1 true))))) = some r := H
  have A4 := Aside0.mk A40
  clear A40
  replace H := Option.bind_eq_some_iff.mp H
  obtain ⟨t183, A50, H⟩ := H
  replace H : ((word_Root.f k t182 t183).bind fun bt184 => ((eggboxlaw01_num.f bt184.2.2).bind fun t187 => (if t187 = 0 then ((eggboxlaw01_knows.f k).bind fun t188 => (eggboxlaw01_WordRoots.j0 k t182 (wrap64 (1 + (Int.tmod (wrap64 ((Int.tmod a2 50) + 50)) 50))) t183 bt184.1 bt184.2.1 (!t188))) else (eggboxlaw01_WordRoots.j0 k t182 (wrap64 (1 + (Int.tmod (wrap64 ((Int.tmod a2 50) + 50)) 50))) t183 bt184.1 bt184.2.1 true)))) = some r := H
  have A5 := Aside0.mk A50
  clear A50
  replace H := Option.bind_eq_some_iff.mp H
  obtain ⟨⟨t184, t185, t186⟩, A60, H⟩ := H
  replace H : ((eggboxlaw01_num.f t186).bind fun t187 => (if t187 = 0 then ((eggboxlaw01_knows.f k).bind fun t188 => (eggboxlaw01_WordRoots.j0 k t182 (wrap64 (1 + (Int.tmod (wrap64 ((Int.tmod a2 50) + 50)) 50))) t183 t184 t185 (!t188))) else (eggboxlaw01_WordRoots.j0 k t182 (wrap64 (1 + (Int.tmod (wrap64 ((Int.tmod a2 50) + 50)) 50))) t183 t184 t185 true))) = some r := H
  have A6 := Aside0.mk A60
  clear A60
  have HC7 := Aside0.mk H
  clear H
  go_enter Try.func8, Try.ntmps8
  go_upto_region 5 with (first | (go_at_call 12; (with_reducible refine (eggboxlaw01_letters.calls a0 t182 _ A4.out).mono ?_); rintro e w' ⟨rfl, ⟨nd, rfl⟩⟩; (try first | exact ⟨rfl, _, World.drewN_drewN _ _ _⟩ | exact ⟨rfl, _, Eq.trans (World.drewN_drewN _ _ _) (congrArg (World.drewN _) (Nat.add_assoc _ _ _))⟩)) | (go_at_call 13; (with_reducible refine (eggboxlaw01_over.calls k t182 a1 t183 _ A5.out).mono ?_); rintro e w8 ⟨rfl, hb⟩; have n0_ := Aside0.mk (below_step (by repeat (first | (with_reducible first | exact HB.out | apply below_alloc | apply pw_below_drewN | apply below_drew1) | exact HB.out)) hb); clear HB; have HB := n0_; clear n0_; (try clear hb); (try clear hb2); (try clear hk); (try clear hi)) | (go_at_call 19; (with_reducible refine (word_Root.calls k t182 t183 t184 t185 t186 _ A6.out).mono ?_); rintro e w9 ⟨rfl, hb⟩; have n0_ := Aside0.mk (below_step (by repeat (first | (with_reducible first | exact HB.out | apply below_alloc | apply pw_below_drewN | apply below_drew1) | exact HB.out)) hb); clear HB; have HB := n0_; clear n0_; (try clear hb); (try clear hb2); (try clear hk); (try clear hi)))
  repeat (go_quiet (first | (go_at_call 12; (with_reducible refine (eggboxlaw01_letters.calls a0 t182 _ A4.out).mono ?_); rintro e w' ⟨rfl, ⟨nd, rfl⟩⟩; (try first | exact ⟨rfl, _, World.drewN_drewN _ _ _⟩ | exact ⟨rfl, _, Eq.trans (World.drewN_drewN _ _ _) (congrArg (World.drewN _) (Nat.add_assoc _ _ _))⟩)) | (go_at_call 13; (with_reducible refine (eggboxlaw01_over.calls k t182 a1 t183 _ A5.out).mono ?_); rintro e w8 ⟨rfl, hb⟩; have n0_ := Aside0.mk (below_step (by repeat (first | (with_reducible first | exact HB.out | apply below_alloc | apply pw_below_drewN | apply below_drew1) | exact HB.out)) hb); clear HB; have HB := n0_; clear n0_; (try clear hb); (try clear hb2); (try clear hk); (try clear hi)) | (go_at_call 19; (with_reducible refine (word_Root.calls k t182 t183 t184 t185 t186 _ A6.out).mono ?_); rintro e w9 ⟨rfl, hb⟩; have n0_ := Aside0.mk (below_step (by repeat (first | (with_reducible first | exact HB.out | apply below_alloc | apply pw_below_drewN | apply below_drew1) | exact HB.out)) hb); clear HB; have HB := n0_; clear n0_; (try clear hb); (try clear hb2); (try clear hk); (try clear hi))); go_upto_region 5 with (first | (go_at_call 12; (with_reducible refine (eggboxlaw01_letters.calls a0 t182 _ A4.out).mono ?_); rintro e w' ⟨rfl, ⟨nd, rfl⟩⟩; (try first | exact ⟨rfl, _, World.drewN_drewN _ _ _⟩ | exact ⟨rfl, _, Eq.trans (World.drewN_drewN _ _ _) (congrArg (World.drewN _) (Nat.add_assoc _ _ _))⟩)) | (go_at_call 13; (with_reducible refine (eggboxlaw01_over.calls k t182 a1 t183 _ A5.out).mono ?_); rintro e w8 ⟨rfl, hb⟩; have n0_ := Aside0.mk (below_step (by repeat (first | (with_reducible first | exact HB.out | apply below_alloc | apply pw_below_drewN | apply below_drew1) | exact HB.out)) hb); clear HB; have HB := n0_; clear n0_; (try clear hb); (try clear hb2); (try clear hk); (try clear hi)) | (go_at_call 19; (with_reducible refine (word_Root.calls k t182 t183 t184 t185 t186 _ A6.out).mono ?_); rintro e w9 ⟨rfl, hb⟩; have n0_ := Aside0.mk (below_step (by repeat (first | (with_reducible first | exact HB.out | apply below_alloc | apply pw_below_drewN | apply below_drew1) | exact HB.out)) hb); clear HB; have HB := n0_; clear n0_; (try clear hb); (try clear hb2); (try clear hk); (try clear hi))))
  (try simp only [Act.put, List.setIfInBounds_toArray, List.set_cons_zero, List.set_cons_succ])
  go_cut [43] (fun v43 wc => ∃ (kq : Nat) (x43_6 : Bool), v43 = .bool x43_6 ∧ Aside0 (eggboxlaw01_WordRoots.j0 kq t182 (wrap64 (1 + (Int.tmod (wrap64 ((Int.tmod a2 50) + 50)) 50))) t183 t184 t185 x43_6 = some r) ∧ Aside0 (kq ≤ k) ∧ Aside0 (Below w.heap.size w wc))
  case first =>
    have H := HC7.out
    clear HC7
    replace H := Option.bind_eq_some_iff.mp H
    obtain ⟨t187, A100, H⟩ := H
    replace H : (if t187 = 0 then ((eggboxlaw01_knows.f k).bind fun t188 => (eggboxlaw01_WordRoots.j0 k t182 (wrap64 (1 + (Int.tmod (wrap64 ((Int.tmod a2 50) + 50)) 50))) t183 t184 t185 (!t188))) else (eggboxlaw01_WordRoots.j0 k t182 (wrap64 (1 + (Int.tmod (wrap64 ((Int.tmod a2 50) + 50)) 50))) t183 t184 t185 true)) = some r := H
    have A10 := Aside0.mk A100
    clear A100
    by_cases c11 : t187 = 0
    · rw [if_pos c11] at H
      have c11b0 : (t187 == 0) = true := beq_iff_eq.mpr c11
      have c11b1 : (t187 != 0) = false := bne_eq_false_iff_eq.mpr c11
      clear c11
      (first | rw [c11b0] | (simp only [i64_w, i32_w]; rw [c11b0]) | skip)
      replace H := Option.bind_eq_some_iff.mp H
      obtain ⟨t188, A120, H⟩ := H
      replace H : (eggboxlaw01_WordRoots.j0 k t182 (wrap64 (1 + (Int.tmod (wrap64 ((Int.tmod a2 50) + 50)) 50))) t183 t184 t185 (!t188)) = some r := H
      have A12 := Aside0.mk A120
      clear A120
      have H' := Aside0.mk H
      clear H
      go_wp2_with (first | (go_at_call 15; (with_reducible refine (eggboxlaw01_num.calls t186 t187 _ A10.out).mono ?_); rintro e w' ⟨rfl, ⟨nd, rfl⟩⟩; (try first | exact ⟨rfl, _, World.drewN_drewN _ _ _⟩ | exact ⟨rfl, _, Eq.trans (World.drewN_drewN _ _ _) (congrArg (World.drewN _) (Nat.add_assoc _ _ _))⟩)) | (go_at_call 16; (with_reducible refine (eggboxlaw01_knows.calls k  t188 _ A12.out).mono ?_); rintro e w13 ⟨rfl, hb⟩; have n0_ := Aside0.mk (below_step (by repeat (first | (with_reducible first | exact HB.out | apply below_alloc | apply pw_below_drewN | apply below_drew1) | exact HB.out)) hb); clear HB; have HB := n0_; clear n0_; (try clear hb); (try clear hb2); (try clear hk); (try clear hi)))
      repeat (go_quiet (first | (go_at_call 15; (with_reducible refine (eggboxlaw01_num.calls t186 t187 _ A10.out).mono ?_); rintro e w' ⟨rfl, ⟨nd, rfl⟩⟩; (try first | exact ⟨rfl, _, World.drewN_drewN _ _ _⟩ | exact ⟨rfl, _, Eq.trans (World.drewN_drewN _ _ _) (congrArg (World.drewN _) (Nat.add_assoc _ _ _))⟩)) | (go_at_call 16; (with_reducible refine (eggboxlaw01_knows.calls k  t188 _ A12.out).mono ?_); rintro e w13 ⟨rfl, hb⟩; have n0_ := Aside0.mk (below_step (by repeat (first | (with_reducible first | exact HB.out | apply below_alloc | apply pw_below_drewN | apply below_drew1) | exact HB.out)) hb); clear HB; have HB := n0_; clear n0_; (try clear hb); (try clear hb2); (try clear hk); (try clear hi))); try go_wp2_with (first | (go_at_call 15; (with_reducible refine (eggboxlaw01_num.calls t186 t187 _ A10.out).mono ?_); rintro e w' ⟨rfl, ⟨nd, rfl⟩⟩; (try first | exact ⟨rfl, _, World.drewN_drewN _ _ _⟩ | exact ⟨rfl, _, Eq.trans (World.drewN_drewN _ _ _) (congrArg (World.drewN _) (Nat.add_assoc _ _ _))⟩)) | (go_at_call 16; (with_reducible refine (eggboxlaw01_knows.calls k  t188 _ A12.out).mono ?_); rintro e w13 ⟨rfl, hb⟩; have n0_ := Aside0.mk (below_step (by repeat (first | (with_reducible first | exact HB.out | apply below_alloc | apply pw_below_drewN | apply below_drew1) | exact HB.out)) hb); clear HB; have HB := n0_; clear n0_; (try clear hb); (try clear hb2); (try clear hk); (try clear hi))))
      go_meet
      case rel => exact ⟨_, (!t188), (by first | rfl | (simp; done) | (simp [*]; done)), H', ⟨by first | omega | exact Nat.le_refl _⟩, ⟨by repeat (first | (with_reducible first | exact HB.out | apply below_alloc | apply pw_below_drewN | apply below_drew1) | exact HB.out)⟩⟩
    · rw [if_neg c11] at H
      have c11b0 : (t187 == 0) = false := beq_eq_false_iff_ne.mpr c11
      have c11b1 : (t187 != 0) = true := bne_iff_ne.mpr c11
      (first | rw [c11b0] | (simp only [i64_w, i32_w]; rw [c11b0]) | skip)
      have H' := Aside0.mk H
      clear H
      go_wp2_with (first | (go_at_call 15; (with_reducible refine (eggboxlaw01_num.calls t186 t187 _ A10.out).mono ?_); rintro e w' ⟨rfl, ⟨nd, rfl⟩⟩; (try first | exact ⟨rfl, _, World.drewN_drewN _ _ _⟩ | exact ⟨rfl, _, Eq.trans (World.drewN_drewN _ _ _) (congrArg (World.drewN _) (Nat.add_assoc _ _ _))⟩)))
      repeat (go_quiet (first | (go_at_call 15; (with_reducible refine (eggboxlaw01_num.calls t186 t187 _ A10.out).mono ?_); rintro e w' ⟨rfl, ⟨nd, rfl⟩⟩; (try first | exact ⟨rfl, _, World.drewN_drewN _ _ _⟩ | exact ⟨rfl, _, Eq.trans (World.drewN_drewN _ _ _) (congrArg (World.drewN _) (Nat.add_assoc _ _ _))⟩))); try go_wp2_with (first | (go_at_call 15; (with_reducible refine (eggboxlaw01_num.calls t186 t187 _ A10.out).mono ?_); rintro e w' ⟨rfl, ⟨nd, rfl⟩⟩; (try first | exact ⟨rfl, _, World.drewN_drewN _ _ _⟩ | exact ⟨rfl, _, Eq.trans (World.drewN_drewN _ _ _) (congrArg (World.drewN _) (Nat.add_assoc _ _ _))⟩))))
      go_meet
      case rel => exact ⟨_, (true), (by first | rfl | (simp; done) | (simp [*]; done)), H', ⟨by first | omega | exact Nat.le_refl _⟩, ⟨by repeat (first | (with_reducible first | exact HB.out | apply below_alloc | apply pw_below_drewN | apply below_drew1) | exact HB.out)⟩⟩
  case rest =>
    clear HC7
    try clear c1
    try clear p2
    try clear p6
    try clear c8
    try clear c11
    try clear c11b0
    try clear c11b1
    obtain ⟨kq, x43_6, rfl, HA, HJ6, HB⟩ := hcut
    cases kq with
    | zero => exact absurd HA.out (by simp [eggboxlaw01_WordRoots.j0])
    | succ kj6 =>
      have H := HA.out
      clear HA
      simp only [eggboxlaw01_WordRoots.j0] at H
      by_cases c14 : x43_6 = true
      · subst c14
        have H1 : (some false) = some r := by rw [if_pos rfl] at H; exact H
        clear H
        have H := H1
        clear H1
        obtain rfl := Option.some.inj H
        go_wp2
        repeat (go_quiet (fail); try go_wp2)
        go_ret
        exact ⟨by first | rfl | (simp [errW_none, errW_some] <;> rfl) | (simp [*, errW_none, errW_some] <;> rfl), by repeat (first | (with_reducible first | exact HB.out | apply below_alloc | apply pw_below_drewN | apply below_drew1) | exact HB.out)⟩
      · replace c14 := Bool.eq_false_iff.mpr c14
        subst c14
        have H1 : (if t183.toList = ([] : List UInt8) then (if t184.toList = ([] : List UInt8) then (some (t185 == 0)) else (some false)) else (if t184.toList = ([] : List UInt8) then (eggboxlaw01_WordRoots.j1 kj6 t182 (wrap64 (1 + (Int.tmod (wrap64 ((Int.tmod a2 50) + 50)) 50))) t183 t184 t185 true) else (if t185 < 1 then (eggboxlaw01_WordRoots.j1 kj6 t182 (wrap64 (1 + (Int.tmod (wrap64 ((Int.tmod a2 50) + 50)) 50))) t183 t184 t185 true) else (eggboxlaw01_WordRoots.j1 kj6 t182 (wrap64 (1 + (Int.tmod (wrap64 ((Int.tmod a2 50) + 50)) 50))) t183 t184 t185 ((wrap64 (t185 * (t184.size : Int))) != (t183.size : Int)))))) = some r := by rw [if_neg (show ¬ (false = true) by decide)] at H; exact H
        clear H
        have H := H1
        clear H1
        by_cases c15 : t183.toList = ([] : List UInt8)
        · rw [if_pos c15] at H
          have c15b0 : (t183.toList == ([] : List UInt8)) = true := beq_iff_eq.mpr c15
          have c15b1 : (t183.toList != ([] : List UInt8)) = false := bne_eq_false_iff_eq.mpr c15
          clear c15
          by_cases c16 : t184.toList = ([] : List UInt8)
          · rw [if_pos c16] at H
            have c16b0 : (t184.toList == ([] : List UInt8)) = true := beq_iff_eq.mpr c16
            have c16b1 : (t184.toList != ([] : List UInt8)) = false := bne_eq_false_iff_eq.mpr c16
            clear c16
            obtain rfl := Option.some.inj H
            go_wp2
            repeat (go_quiet (fail); try go_wp2)
            go_ret
            exact ⟨by first | rfl | (simp [errW_none, errW_some] <;> rfl) | (simp [*, errW_none, errW_some] <;> rfl), by repeat (first | (with_reducible first | exact HB.out | apply below_alloc | apply pw_below_drewN | apply below_drew1) | exact HB.out)⟩
          · rw [if_neg c16] at H
            have c16b0 : (t184.toList == ([] : List UInt8)) = false := beq_eq_false_iff_ne.mpr c16
            have c16b1 : (t184.toList != ([] : List UInt8)) = true := bne_iff_ne.mpr c16
            obtain rfl := Option.some.inj H
            go_wp2
            repeat (go_quiet (fail); try go_wp2)
            go_ret
            exact ⟨by first | rfl | (simp [errW_none, errW_some] <;> rfl) | (simp [*, errW_none, errW_some] <;> rfl), by repeat (first | (with_reducible first | exact HB.out | apply below_alloc | apply pw_below_drewN | apply below_drew1) | exact HB.out)⟩
        · rw [if_neg c15] at H
          have c15b0 : (t183.toList == ([] : List UInt8)) = false := beq_eq_false_iff_ne.mpr c15
          have c15b1 : (t183.toList != ([] : List UInt8)) = true := bne_iff_ne.mpr c15
          have HC17 := Aside0.mk H
          clear H
          go_upto_region 9 with (fail)
          repeat (go_quiet (fail); go_upto_region 9 with (fail))
          go_cut [66] (fun v66 wc => ∃ (kq : Nat) (x66_16 : Bool), v66 = .bool x66_16 ∧ Aside0 (eggboxlaw01_WordRoots.j1 kq t182 (wrap64 (1 + (Int.tmod (wrap64 ((Int.tmod a2 50) + 50)) 50))) t183 t184 t185 x66_16 = some r) ∧ Aside0 (kq ≤ kj6) ∧ Aside0 (Below w.heap.size w wc))
          case first =>
            have H := HC17.out
            clear HC17
            by_cases c18 : t184.toList = ([] : List UInt8)
            · rw [if_pos c18] at H
              have c18b0 : (t184.toList == ([] : List UInt8)) = true := beq_iff_eq.mpr c18
              have c18b1 : (t184.toList != ([] : List UInt8)) = false := bne_eq_false_iff_eq.mpr c18
              clear c18
              (first | rw [c18b0] | (simp only [i64_w, i32_w]; rw [c18b0]) | skip)
              have H' := Aside0.mk H
              clear H
              go_wp2
              repeat (go_quiet (fail); try go_wp2)
              go_meet
              case rel => exact ⟨_, (true), (by first | rfl | (simp; done) | (simp [*]; done)), H', ⟨by have := HJ6.out; first | omega | exact Nat.le_refl _⟩, ⟨by repeat (first | (with_reducible first | exact HB.out | apply below_alloc | apply pw_below_drewN | apply below_drew1) | exact HB.out)⟩⟩
            · rw [if_neg c18] at H
              have c18b0 : (t184.toList == ([] : List UInt8)) = false := beq_eq_false_iff_ne.mpr c18
              have c18b1 : (t184.toList != ([] : List UInt8)) = true := bne_iff_ne.mpr c18
              (first | rw [c18b0] | (simp only [i64_w, i32_w]; rw [c18b0]) | skip)
              by_cases c19 : t185 < 1
              · rw [if_pos c19] at H
                have c19b0 : decide (t185 < 1) = true := decide_eq_true c19
                clear c19
                have H' := Aside0.mk H
                clear H
                go_wp2
                repeat (go_quiet (fail); try go_wp2)
                go_meet
                case rel => exact ⟨_, (true), (by first | rfl | (simp; done) | (simp [*]; done)), H', ⟨by have := HJ6.out; first | omega | exact Nat.le_refl _⟩, ⟨by repeat (first | (with_reducible first | exact HB.out | apply below_alloc | apply pw_below_drewN | apply below_drew1) | exact HB.out)⟩⟩
              · rw [if_neg c19] at H
                have c19b0 : decide (t185 < 1) = false := decide_eq_false c19
                clear c19
                have H' := Aside0.mk H
                clear H
                go_wp2
                repeat (go_quiet (fail); try go_wp2)
                go_meet
                case rel => exact ⟨_, (((wrap64 (t185 * (t184.size : Int))) != (t183.size : Int))), (by first | rfl | (simp; done) | (simp [*]; done)), H', ⟨by have := HJ6.out; first | omega | exact Nat.le_refl _⟩, ⟨by repeat (first | (with_reducible first | exact HB.out | apply below_alloc | apply pw_below_drewN | apply below_drew1) | exact HB.out)⟩⟩
          case rest =>
            clear HC17
            try clear c1
            try clear p2
            try clear p6
            try clear c8
            try clear c11
            try clear c11b0
            try clear c11b1
            try clear c14
            try clear c15
            try clear c15b0
            try clear c15b1
            try clear c16
            try clear c16b0
            try clear c16b1
            try clear c18
            try clear c18b0
            try clear c18b1
            try clear c19
            try clear c19b0
            try clear p2
            try clear p6
            obtain ⟨kq, x66_16, rfl, HA, HJ16, HB⟩ := hcut
            cases kq with
            | zero => exact absurd HA.out (by simp [eggboxlaw01_WordRoots.j1])
            | succ kj16 =>
              have H := HA.out
              clear HA
              simp only [eggboxlaw01_WordRoots.j1] at H
              by_cases c20 : x66_16 = true
              · subst c20
                have H1 : (some false) = some r := by rw [if_pos rfl] at H; exact H
                clear H
                have H := H1
                clear H1
                obtain rfl := Option.some.inj H
                go_wp2
                repeat (go_quiet (fail); try go_wp2)
                go_ret
                exact ⟨by first | rfl | (simp [errW_none, errW_some] <;> rfl) | (simp [*, errW_none, errW_some] <;> rfl), by repeat (first | (with_reducible first | exact HB.out | apply below_alloc | apply pw_below_drewN | apply below_drew1) | exact HB.out)⟩
              · replace c20 := Bool.eq_false_iff.mpr c20
                subst c20
                have H1 : (eggboxlaw01_WordRoots.l0 kj16 t182 (wrap64 (1 + (Int.tmod (wrap64 ((Int.tmod a2 50) + 50)) 50))) t183 t184 t185 0) = some r := by rw [if_neg (show ¬ (false = true) by decide)] at H; exact H
                clear H
                have H := H1
                clear H1
                have H' := Aside0.mk H
                clear H
                go_wp2
                repeat (go_quiet (fail); try go_wp2)
                go_loopg [11] kj16 (fun kq v11 w' => ∃ (x11_3 : Int), v11 = .int .i64 x11_3 ∧ Aside0 (eggboxlaw01_WordRoots.l0 kq t182 (wrap64 (1 + (Int.tmod (wrap64 ((Int.tmod a2 50) + 50)) 50))) t183 t184 t185 x11_3 = some r) ∧ Aside0 (kq ≤ kj16) ∧ Aside0 (Below w.heap.size w w'))
                case atStart => exact ⟨(0), (by first | rfl | (simp; done) | (simp [*]; done)), H', ⟨Nat.le_refl _⟩, ⟨by repeat (first | (with_reducible first | exact HB.out | apply below_alloc | apply pw_below_drewN | apply below_drew1) | exact HB.out)⟩⟩
                case round =>
                  clear H'
                  try clear c1
                  try clear c2
                  try clear p2
                  try clear p6
                  try clear c8
                  try clear c11
                  try clear c11b0
                  try clear c11b1
                  try clear c14
                  try clear c15
                  try clear c15b0
                  try clear c15b1
                  try clear c16
                  try clear c16b0
                  try clear c16b1
                  try clear c18
                  try clear c18b0
                  try clear c18b1
                  try clear c19
                  try clear c19b0
                  try clear c20
                  try clear p2
                  try clear p6
                  obtain ⟨x11_3, rfl, HA, HK3, HB⟩ := hrel
                  cases gk with
                  | zero => exact absurd HA.out (by simp [eggboxlaw01_WordRoots.l0])
                  | succ k3 =>
                    have H := HA.out
                    clear HA
                    simp only [eggboxlaw01_WordRoots.l0] at H
                    by_cases c21 : x11_3 < (t183.size : Int)
                    · rw [if_pos c21] at H
                      have c21b0 : decide (x11_3 < (t183.size : Int)) = true := decide_eq_true c21
                      clear c21
                      by_cases c22 : 0 ≤ x11_3
                      · rw [if_pos c22] at H
                        have c22b0 : decide (0 ≤ x11_3) = true := decide_eq_true c22
                        clear c22
                        by_cases c24 : (t184.size : Int) = 0
                        · rw [if_pos c24] at H
                          exact absurd H (by simp)
                        · rw [if_neg c24] at H
                          have c24b0 : ((t184.size : Int) == 0) = false := beq_eq_false_iff_ne.mpr c24
                          have c24b1 : ((t184.size : Int) != 0) = true := bne_iff_ne.mpr c24
                          obtain ⟨ji25, hji25⟩ : ∃ j_ : Int, (Int.tmod x11_3 (t184.size : Int)) = j_ := ⟨_, rfl⟩
                          replace H : (if 0 ≤ (ji25) then (if (ji25) < (t184.size : Int) then (if (bt t183 x11_3) = (bt t184 (ji25)) then (eggboxlaw01_WordRoots.l0 k3 t182 (wrap64 (1 + (Int.tmod (wrap64 ((Int.tmod a2 50) + 50)) 50))) t183 t184 t185 (wrap64 (x11_3 + 1))) else (some false)) else (none)) else (none)) = some r := by first | (rw [hji25] at H; exact H) | (simp only [hji25] at H ⊢; exact H)
                          by_cases c26 : 0 ≤ (ji25)
                          · rw [if_pos c26] at H
                            have c26b0 : decide (0 ≤ (ji25)) = true := decide_eq_true c26
                            clear c26
                            by_cases c27 : (ji25) < (t184.size : Int)
                            · rw [if_pos c27] at H
                              have c27b0 : decide ((ji25) < (t184.size : Int)) = true := decide_eq_true c27
                              clear c27
                              by_cases c29 : (bt t183 x11_3) = (bt t184 (ji25))
                              · rw [if_pos c29] at H
                                have c29b0 : ((bt t183 x11_3) == (bt t184 (ji25))) = true := beq_iff_eq.mpr c29
                                have c29b1 : ((bt t183 x11_3) != (bt t184 (ji25))) = false := bne_eq_false_iff_eq.mpr c29
                                clear c29
                                have H' := Aside0.mk H
                                clear H
                                have p23 : 0 ≤ (x11_3 : Int) := of_decide_eq_true (by first | (with_reducible assumption) | assumption)
                                have q23 : x11_3 < (t183.size : Int) := of_decide_eq_true (by first | (with_reducible assumption) | assumption)
                                have hx23 := bt_at t183 x11_3
                                replace p23 := eq_true p23
                                replace q23 := eq_true q23
                                have p28 : 0 ≤ ((ji25) : Int) := of_decide_eq_true (by first | (with_reducible assumption) | assumption)
                                have q28 : (ji25) < (t184.size : Int) := of_decide_eq_true (by first | (with_reducible assumption) | assumption)
                                have hx28 := bt_at t184 (ji25)
                                replace p28 := eq_true p28
                                replace q28 := eq_true q28
                                go_wp2
                                repeat (go_quiet (fail); try go_wp2)
                                go_roundg k3
                                case measure => have := HJ6.out; have := HJ16.out; have := HK3.out; omega
                                case rel => exact ⟨(wrap64 (x11_3 + 1)), (by first | rfl | (simp; done) | (simp [*]; done)), H', ⟨by have := HJ6.out; have := HJ16.out; have := HK3.out; omega⟩, ⟨by repeat (first | (with_reducible first | exact HB.out | apply below_alloc | apply pw_below_drewN | apply below_drew1) | exact HB.out)⟩⟩
                              · rw [if_neg c29] at H
                                have c29b0 : ((bt t183 x11_3) == (bt t184 (ji25))) = false := beq_eq_false_iff_ne.mpr c29
                                have c29b1 : ((bt t183 x11_3) != (bt t184 (ji25))) = true := bne_iff_ne.mpr c29
                                obtain rfl := Option.some.inj H
                                have p23 : 0 ≤ (x11_3 : Int) := of_decide_eq_true (by first | (with_reducible assumption) | assumption)
                                have q23 : x11_3 < (t183.size : Int) := of_decide_eq_true (by first | (with_reducible assumption) | assumption)
                                have hx23 := bt_at t183 x11_3
                                replace p23 := eq_true p23
                                replace q23 := eq_true q23
                                have p28 : 0 ≤ ((ji25) : Int) := of_decide_eq_true (by first | (with_reducible assumption) | assumption)
                                have q28 : (ji25) < (t184.size : Int) := of_decide_eq_true (by first | (with_reducible assumption) | assumption)
                                have hx28 := bt_at t184 (ji25)
                                replace p28 := eq_true p28
                                replace q28 := eq_true q28
                                go_wp2
                                repeat (go_quiet (fail); try go_wp2)
                                go_ret
                                exact ⟨by first | rfl | (simp [errW_none, errW_some] <;> rfl) | (simp only [← hji25]; first | rfl | (simp [errW_none, errW_some] <;> rfl)) | (simp [*, errW_none, errW_some] <;> rfl), by repeat (first | (with_reducible first | exact HB.out | apply below_alloc | apply pw_below_drewN | apply below_drew1) | exact HB.out)⟩
                            · rw [if_neg c27] at H
                              exact absurd H (by simp)
                          · rw [if_neg c26] at H
                            exact absurd H (by simp)
                      · rw [if_neg c22] at H
                        exact absurd H (by simp)
                    · rw [if_neg c21] at H
                      have c21b0 : decide (x11_3 < (t183.size : Int)) = false := decide_eq_false c21
                      clear c21
                      replace H := Option.bind_eq_some_iff.mp H
                      obtain ⟨⟨t189, t190, t191⟩, A300, H⟩ := H
                      replace H : ((word_Power.f t182 t183 (wrap64 (1 + (Int.tmod (wrap64 ((Int.tmod a2 50) + 50)) 50)))).bind fun bt192 => ((eggboxlaw01_num.f t191).bind fun t194 => (if t194 = 0 then (if t189.toList = t184.toList then (eggboxlaw01_WordRoots.j3 k3 t182 (wrap64 (1 + (Int.tmod (wrap64 ((Int.tmod a2 50) + 50)) 50))) t183 t184 t185 bt192.1 bt192.2 (t190 != 1)) else (eggboxlaw01_WordRoots.j3 k3 t182 (wrap64 (1 + (Int.tmod (wrap64 ((Int.tmod a2 50) + 50)) 50))) t183 t184 t185 bt192.1 bt192.2 true)) else (eggboxlaw01_WordRoots.j3 k3 t182 (wrap64 (1 + (Int.tmod (wrap64 ((Int.tmod a2 50) + 50)) 50))) t183 t184 t185 bt192.1 bt192.2 true)))) = some r := H
                      have A30 := Aside0.mk A300
                      clear A300
                      replace H := Option.bind_eq_some_iff.mp H
                      obtain ⟨⟨t192, t193⟩, A310, H⟩ := H
                      replace H : ((eggboxlaw01_num.f t191).bind fun t194 => (if t194 = 0 then (if t189.toList = t184.toList then (eggboxlaw01_WordRoots.j3 k3 t182 (wrap64 (1 + (Int.tmod (wrap64 ((Int.tmod a2 50) + 50)) 50))) t183 t184 t185 t192 t193 (t190 != 1)) else (eggboxlaw01_WordRoots.j3 k3 t182 (wrap64 (1 + (Int.tmod (wrap64 ((Int.tmod a2 50) + 50)) 50))) t183 t184 t185 t192 t193 true)) else (eggboxlaw01_WordRoots.j3 k3 t182 (wrap64 (1 + (Int.tmod (wrap64 ((Int.tmod a2 50) + 50)) 50))) t183 t184 t185 t192 t193 true))) = some r := H
                      have A31 := Aside0.mk A310
                      clear A310
                      have HC32 := Aside0.mk H
                      clear H
                      go_upto_region 18 with (first | (go_at_call 19; (with_reducible refine (word_Root.calls k3 t182 t184 t189 t190 t191 _ A30.out).mono ?_); rintro e w33 ⟨rfl, hb⟩; have n0_ := Aside0.mk (below_step (by repeat (first | (with_reducible first | exact HB.out | apply below_alloc | apply pw_below_drewN | apply below_drew1) | exact HB.out)) hb); clear HB; have HB := n0_; clear n0_; (try clear hb); (try clear hb2); (try clear hk); (try clear hi)) | (go_at_call 29; (with_reducible refine (word_Power.calls t182 t183 (wrap64 (1 + (Int.tmod (wrap64 ((Int.tmod a2 50) + 50)) 50))) t192 t193 _ A31.out).mono ?_); rintro e w34 ⟨rfl, hb⟩; have n0_ := Aside0.mk (below_step (by repeat (first | (with_reducible first | exact HB.out | apply below_alloc | apply pw_below_drewN | apply below_drew1) | exact HB.out)) hb); clear HB; have HB := n0_; clear n0_; (try clear hb); (try clear hb2); (try clear hk); (try clear hi)))
                      repeat (go_quiet (first | (go_at_call 19; (with_reducible refine (word_Root.calls k3 t182 t184 t189 t190 t191 _ A30.out).mono ?_); rintro e w33 ⟨rfl, hb⟩; have n0_ := Aside0.mk (below_step (by repeat (first | (with_reducible first | exact HB.out | apply below_alloc | apply pw_below_drewN | apply below_drew1) | exact HB.out)) hb); clear HB; have HB := n0_; clear n0_; (try clear hb); (try clear hb2); (try clear hk); (try clear hi)) | (go_at_call 29; (with_reducible refine (word_Power.calls t182 t183 (wrap64 (1 + (Int.tmod (wrap64 ((Int.tmod a2 50) + 50)) 50))) t192 t193 _ A31.out).mono ?_); rintro e w34 ⟨rfl, hb⟩; have n0_ := Aside0.mk (below_step (by repeat (first | (with_reducible first | exact HB.out | apply below_alloc | apply pw_below_drewN | apply below_drew1) | exact HB.out)) hb); clear HB; have HB := n0_; clear n0_; (try clear hb); (try clear hb2); (try clear hk); (try clear hi))); go_upto_region 18 with (first | (go_at_call 19; (with_reducible refine (word_Root.calls k3 t182 t184 t189 t190 t191 _ A30.out).mono ?_); rintro e w33 ⟨rfl, hb⟩; have n0_ := Aside0.mk (below_step (by repeat (first | (with_reducible first | exact HB.out | apply below_alloc | apply pw_below_drewN | apply below_drew1) | exact HB.out)) hb); clear HB; have HB := n0_; clear n0_; (try clear hb); (try clear hb2); (try clear hk); (try clear hi)) | (go_at_call 29; (with_reducible refine (word_Power.calls t182 t183 (wrap64 (1 + (Int.tmod (wrap64 ((Int.tmod a2 50) + 50)) 50))) t192 t193 _ A31.out).mono ?_); rintro e w34 ⟨rfl, hb⟩; have n0_ := Aside0.mk (below_step (by repeat (first | (with_reducible first | exact HB.out | apply below_alloc | apply pw_below_drewN | apply below_drew1) | exact HB.out)) hb); clear HB; have HB := n0_; clear n0_; (try clear hb); (try clear hb2); (try clear hk); (try clear hi))))
                      (try simp only [Act.put, List.setIfInBounds_toArray, List.set_cons_zero, List.set_cons_succ])
                      go_cut [108] (fun v108 wc => ∃ (kq : Nat) (x108_31 : Bool), v108 = .bool x108_31 ∧ Aside0 (eggboxlaw01_WordRoots.j3 kq t182 (wrap64 (1 + (Int.tmod (wrap64 ((Int.tmod a2 50) + 50)) 50))) t183 t184 t185 t192 t193 x108_31 = some r) ∧ Aside0 (kq ≤ k3) ∧ Aside0 (Below w.heap.size w wc))
                      case first =>
                        have H := HC32.out
                        clear HC32
                        replace H := Option.bind_eq_some_iff.mp H
                        obtain ⟨t194, A350, H⟩ := H
                        replace H : (if t194 = 0 then (if t189.toList = t184.toList then (eggboxlaw01_WordRoots.j3 k3 t182 (wrap64 (1 + (Int.tmod (wrap64 ((Int.tmod a2 50) + 50)) 50))) t183 t184 t185 t192 t193 (t190 != 1)) else (eggboxlaw01_WordRoots.j3 k3 t182 (wrap64 (1 + (Int.tmod (wrap64 ((Int.tmod a2 50) + 50)) 50))) t183 t184 t185 t192 t193 true)) else (eggboxlaw01_WordRoots.j3 k3 t182 (wrap64 (1 + (Int.tmod (wrap64 ((Int.tmod a2 50) + 50)) 50))) t183 t184 t185 t192 t193 true)) = some r := H
                        have A35 := Aside0.mk A350
                        clear A350
                        by_cases c36 : t194 = 0
                        · rw [if_pos c36] at H
                          have c36b0 : (t194 == 0) = true := beq_iff_eq.mpr c36
                          have c36b1 : (t194 != 0) = false := bne_eq_false_iff_eq.mpr c36
                          clear c36
                          (first | rw [c36b0] | (simp only [i64_w, i32_w]; rw [c36b0]) | skip)
                          by_cases c37 : t189.toList = t184.toList
                          · rw [if_pos c37] at H
                            have c37b0 : (t189.toList == t184.toList) = true := beq_iff_eq.mpr c37
                            have c37b1 : (t189.toList != t184.toList) = false := bne_eq_false_iff_eq.mpr c37
                            clear c37
                            have H' := Aside0.mk H
                            clear H
                            go_wp2_with (first | (go_at_call 15; (with_reducible refine (eggboxlaw01_num.calls t191 t194 _ A35.out).mono ?_); rintro e w' ⟨rfl, ⟨nd, rfl⟩⟩; (try first | exact ⟨rfl, _, World.drewN_drewN _ _ _⟩ | exact ⟨rfl, _, Eq.trans (World.drewN_drewN _ _ _) (congrArg (World.drewN _) (Nat.add_assoc _ _ _))⟩)))
                            repeat (go_quiet (first | (go_at_call 15; (with_reducible refine (eggboxlaw01_num.calls t191 t194 _ A35.out).mono ?_); rintro e w' ⟨rfl, ⟨nd, rfl⟩⟩; (try first | exact ⟨rfl, _, World.drewN_drewN _ _ _⟩ | exact ⟨rfl, _, Eq.trans (World.drewN_drewN _ _ _) (congrArg (World.drewN _) (Nat.add_assoc _ _ _))⟩))); try go_wp2_with (first | (go_at_call 15; (with_reducible refine (eggboxlaw01_num.calls t191 t194 _ A35.out).mono ?_); rintro e w' ⟨rfl, ⟨nd, rfl⟩⟩; (try first | exact ⟨rfl, _, World.drewN_drewN _ _ _⟩ | exact ⟨rfl, _, Eq.trans (World.drewN_drewN _ _ _) (congrArg (World.drewN _) (Nat.add_assoc _ _ _))⟩))))
                            go_meet
                            case rel => exact ⟨_, ((t190 != 1)), (by first | rfl | (simp; done) | (simp [*]; done)), H', ⟨by have := HJ6.out; have := HJ16.out; have := HK3.out; first | omega | exact Nat.le_refl _⟩, ⟨by repeat (first | (with_reducible first | exact HB.out | apply below_alloc | apply pw_below_drewN | apply below_drew1) | exact HB.out)⟩⟩
                          · rw [if_neg c37] at H
                            have c37b0 : (t189.toList == t184.toList) = false := beq_eq_false_iff_ne.mpr c37
                            have c37b1 : (t189.toList != t184.toList) = true := bne_iff_ne.mpr c37
                            have H' := Aside0.mk H
                            clear H
                            go_wp2_with (first | (go_at_call 15; (with_reducible refine (eggboxlaw01_num.calls t191 t194 _ A35.out).mono ?_); rintro e w' ⟨rfl, ⟨nd, rfl⟩⟩; (try first | exact ⟨rfl, _, World.drewN_drewN _ _ _⟩ | exact ⟨rfl, _, Eq.trans (World.drewN_drewN _ _ _) (congrArg (World.drewN _) (Nat.add_assoc _ _ _))⟩)))
                            repeat (go_quiet (first | (go_at_call 15; (with_reducible refine (eggboxlaw01_num.calls t191 t194 _ A35.out).mono ?_); rintro e w' ⟨rfl, ⟨nd, rfl⟩⟩; (try first | exact ⟨rfl, _, World.drewN_drewN _ _ _⟩ | exact ⟨rfl, _, Eq.trans (World.drewN_drewN _ _ _) (congrArg (World.drewN _) (Nat.add_assoc _ _ _))⟩))); try go_wp2_with (first | (go_at_call 15; (with_reducible refine (eggboxlaw01_num.calls t191 t194 _ A35.out).mono ?_); rintro e w' ⟨rfl, ⟨nd, rfl⟩⟩; (try first | exact ⟨rfl, _, World.drewN_drewN _ _ _⟩ | exact ⟨rfl, _, Eq.trans (World.drewN_drewN _ _ _) (congrArg (World.drewN _) (Nat.add_assoc _ _ _))⟩))))
                            go_meet
                            case rel => exact ⟨_, (true), (by first | rfl | (simp; done) | (simp [*]; done)), H', ⟨by have := HJ6.out; have := HJ16.out; have := HK3.out; first | omega | exact Nat.le_refl _⟩, ⟨by repeat (first | (with_reducible first | exact HB.out | apply below_alloc | apply pw_below_drewN | apply below_drew1) | exact HB.out)⟩⟩
                        · rw [if_neg c36] at H
                          have c36b0 : (t194 == 0) = false := beq_eq_false_iff_ne.mpr c36
                          have c36b1 : (t194 != 0) = true := bne_iff_ne.mpr c36
                          (first | rw [c36b0] | (simp only [i64_w, i32_w]; rw [c36b0]) | skip)
                          have H' := Aside0.mk H
                          clear H
                          go_wp2_with (first | (go_at_call 15; (with_reducible refine (eggboxlaw01_num.calls t191 t194 _ A35.out).mono ?_); rintro e w' ⟨rfl, ⟨nd, rfl⟩⟩; (try first | exact ⟨rfl, _, World.drewN_drewN _ _ _⟩ | exact ⟨rfl, _, Eq.trans (World.drewN_drewN _ _ _) (congrArg (World.drewN _) (Nat.add_assoc _ _ _))⟩)))
                          repeat (go_quiet (first | (go_at_call 15; (with_reducible refine (eggboxlaw01_num.calls t191 t194 _ A35.out).mono ?_); rintro e w' ⟨rfl, ⟨nd, rfl⟩⟩; (try first | exact ⟨rfl, _, World.drewN_drewN _ _ _⟩ | exact ⟨rfl, _, Eq.trans (World.drewN_drewN _ _ _) (congrArg (World.drewN _) (Nat.add_assoc _ _ _))⟩))); try go_wp2_with (first | (go_at_call 15; (with_reducible refine (eggboxlaw01_num.calls t191 t194 _ A35.out).mono ?_); rintro e w' ⟨rfl, ⟨nd, rfl⟩⟩; (try first | exact ⟨rfl, _, World.drewN_drewN _ _ _⟩ | exact ⟨rfl, _, Eq.trans (World.drewN_drewN _ _ _) (congrArg (World.drewN _) (Nat.add_assoc _ _ _))⟩))))
                          go_meet
                          case rel => exact ⟨_, (true), (by first | rfl | (simp; done) | (simp [*]; done)), H', ⟨by have := HJ6.out; have := HJ16.out; have := HK3.out; first | omega | exact Nat.le_refl _⟩, ⟨by repeat (first | (with_reducible first | exact HB.out | apply below_alloc | apply pw_below_drewN | apply below_drew1) | exact HB.out)⟩⟩
                      case rest =>
                        clear HC32
                        try clear c1
                        try clear c2
                        try clear p2
                        try clear q2
                        try clear hx2
                        try clear c3
                        try clear p6
                        try clear c8
                        try clear c11
                        try clear c11b0
                        try clear c11b1
                        try clear c14
                        try clear c15
                        try clear c15b0
                        try clear c15b1
                        try clear c16
                        try clear c16b0
                        try clear c16b1
                        try clear c18
                        try clear c18b0
                        try clear c18b1
                        try clear c19
                        try clear c19b0
                        try clear c20
                        try clear c21
                        try clear c21b0
                        try clear c22
                        try clear c22b0
                        try clear p23
                        try clear q23
                        try clear hx23
                        try clear c24
                        try clear c24b0
                        try clear c24b1
                        try clear c26
                        try clear c26b0
                        try clear c27
                        try clear c27b0
                        try clear p28
                        try clear q28
                        try clear hx28
                        try clear c29
                        try clear c29b0
                        try clear c29b1
                        try clear c36
                        try clear c36b0
                        try clear c36b1
                        try clear c37
                        try clear c37b0
                        try clear c37b1
                        try clear p2
                        try clear p23
                        try clear p28
                        try clear p6
                        try clear q23
                        try clear q28
                        obtain ⟨kq, x108_31, rfl, HA, HJ31, HB⟩ := hcut
                        cases kq with
                        | zero => exact absurd HA.out (by simp [eggboxlaw01_WordRoots.j3])
                        | succ kj31 =>
                          have H := HA.out
                          clear HA
                          simp only [eggboxlaw01_WordRoots.j3] at H
                          by_cases c38 : x108_31 = true
                          · subst c38
                            have H1 : (some false) = some r := by rw [if_pos rfl] at H; exact H
                            clear H
                            have H := H1
                            clear H1
                            obtain rfl := Option.some.inj H
                            go_wp2
                            repeat (go_quiet (fail); try go_wp2)
                            go_ret
                            exact ⟨by first | rfl | (simp [errW_none, errW_some] <;> rfl) | (simp [*, errW_none, errW_some] <;> rfl), by repeat (first | (with_reducible first | exact HB.out | apply below_alloc | apply pw_below_drewN | apply below_drew1) | exact HB.out)⟩
                          · replace c38 := Bool.eq_false_iff.mpr c38
                            subst c38
                            have H1 : ((eggboxlaw01_num.f t193).bind fun t195 => (if t195 = 0 then ((word_Root.f kj31 t182 t192).bind fun bt196 => ((eggboxlaw01_num.f bt196.2.2).bind fun t199 => (if t199 = 0 then (if bt196.1.toList = t184.toList then (if bt196.2.1 = (wrap64 (t185 * (wrap64 (1 + (Int.tmod (wrap64 ((Int.tmod a2 50) + 50)) 50))))) then (some ((t192.size : Int) == (wrap64 ((wrap64 (1 + (Int.tmod (wrap64 ((Int.tmod a2 50) + 50)) 50))) * (t183.size : Int))))) else (some false)) else (some false)) else (some false)))) else (if (wrap64 ((wrap64 (1 + (Int.tmod (wrap64 ((Int.tmod a2 50) + 50)) 50))) * (t183.size : Int))) > 4096 then (some (t192.toList == ([] : List UInt8))) else (some false)))) = some r := by rw [if_neg (show ¬ (false = true) by decide)] at H; exact H
                            clear H
                            have H := H1
                            clear H1
                            replace H := Option.bind_eq_some_iff.mp H
                            obtain ⟨t195, A390, H⟩ := H
                            replace H : (if t195 = 0 then ((word_Root.f kj31 t182 t192).bind fun bt196 => ((eggboxlaw01_num.f bt196.2.2).bind fun t199 => (if t199 = 0 then (if bt196.1.toList = t184.toList then (if bt196.2.1 = (wrap64 (t185 * (wrap64 (1 + (Int.tmod (wrap64 ((Int.tmod a2 50) + 50)) 50))))) then (some ((t192.size : Int) == (wrap64 ((wrap64 (1 + (Int.tmod (wrap64 ((Int.tmod a2 50) + 50)) 50))) * (t183.size : Int))))) else (some false)) else (some false)) else (some false)))) else (if (wrap64 ((wrap64 (1 + (Int.tmod (wrap64 ((Int.tmod a2 50) + 50)) 50))) * (t183.size : Int))) > 4096 then (some (t192.toList == ([] : List UInt8))) else (some false))) = some r := H
                            have A39 := Aside0.mk A390
                            clear A390
                            by_cases c40 : t195 = 0
                            · rw [if_pos c40] at H
                              have c40b0 : (t195 == 0) = true := beq_iff_eq.mpr c40
                              have c40b1 : (t195 != 0) = false := bne_eq_false_iff_eq.mpr c40
                              clear c40
                              replace H := Option.bind_eq_some_iff.mp H
                              obtain ⟨⟨t196, t197, t198⟩, A410, H⟩ := H
                              replace H : ((eggboxlaw01_num.f t198).bind fun t199 => (if t199 = 0 then (if t196.toList = t184.toList then (if t197 = (wrap64 (t185 * (wrap64 (1 + (Int.tmod (wrap64 ((Int.tmod a2 50) + 50)) 50))))) then (some ((t192.size : Int) == (wrap64 ((wrap64 (1 + (Int.tmod (wrap64 ((Int.tmod a2 50) + 50)) 50))) * (t183.size : Int))))) else (some false)) else (some false)) else (some false))) = some r := H
                              have A41 := Aside0.mk A410
                              clear A410
                              replace H := Option.bind_eq_some_iff.mp H
                              obtain ⟨t199, A420, H⟩ := H
                              replace H : (if t199 = 0 then (if t196.toList = t184.toList then (if t197 = (wrap64 (t185 * (wrap64 (1 + (Int.tmod (wrap64 ((Int.tmod a2 50) + 50)) 50))))) then (some ((t192.size : Int) == (wrap64 ((wrap64 (1 + (Int.tmod (wrap64 ((Int.tmod a2 50) + 50)) 50))) * (t183.size : Int))))) else (some false)) else (some false)) else (some false)) = some r := H
                              have A42 := Aside0.mk A420
                              clear A420
                              by_cases c43 : t199 = 0
                              · rw [if_pos c43] at H
                                have c43b0 : (t199 == 0) = true := beq_iff_eq.mpr c43
                                have c43b1 : (t199 != 0) = false := bne_eq_false_iff_eq.mpr c43
                                clear c43
                                by_cases c44 : t196.toList = t184.toList
                                · rw [if_pos c44] at H
                                  have c44b0 : (t196.toList == t184.toList) = true := beq_iff_eq.mpr c44
                                  have c44b1 : (t196.toList != t184.toList) = false := bne_eq_false_iff_eq.mpr c44
                                  clear c44
                                  by_cases c45 : t197 = (wrap64 (t185 * (wrap64 (1 + (Int.tmod (wrap64 ((Int.tmod a2 50) + 50)) 50)))))
                                  · rw [if_pos c45] at H
                                    have c45b0 : (t197 == (wrap64 (t185 * (wrap64 (1 + (Int.tmod (wrap64 ((Int.tmod a2 50) + 50)) 50)))))) = true := beq_iff_eq.mpr c45
                                    have c45b1 : (t197 != (wrap64 (t185 * (wrap64 (1 + (Int.tmod (wrap64 ((Int.tmod a2 50) + 50)) 50)))))) = false := bne_eq_false_iff_eq.mpr c45
                                    clear c45
                                    obtain rfl := Option.some.inj H
                                    go_wp2_with (first | (go_at_call 15; (with_reducible refine (eggboxlaw01_num.calls t193 t195 _ A39.out).mono ?_); rintro e w' ⟨rfl, ⟨nd, rfl⟩⟩; (try first | exact ⟨rfl, _, World.drewN_drewN _ _ _⟩ | exact ⟨rfl, _, Eq.trans (World.drewN_drewN _ _ _) (congrArg (World.drewN _) (Nat.add_assoc _ _ _))⟩)) | (go_at_call 19; (with_reducible refine (word_Root.calls kj31 t182 t192 t196 t197 t198 _ A41.out).mono ?_); rintro e w46 ⟨rfl, hb⟩; have n0_ := Aside0.mk (below_step (by repeat (first | (with_reducible first | exact HB.out | apply below_alloc | apply pw_below_drewN | apply below_drew1) | exact HB.out)) hb); clear HB; have HB := n0_; clear n0_; (try clear hb); (try clear hb2); (try clear hk); (try clear hi)) | (go_at_call 15; (with_reducible refine (eggboxlaw01_num.calls t198 t199 _ A42.out).mono ?_); rintro e w' ⟨rfl, ⟨nd, rfl⟩⟩; (try first | exact ⟨rfl, _, World.drewN_drewN _ _ _⟩ | exact ⟨rfl, _, Eq.trans (World.drewN_drewN _ _ _) (congrArg (World.drewN _) (Nat.add_assoc _ _ _))⟩)))
                                    repeat (go_quiet (first | (go_at_call 15; (with_reducible refine (eggboxlaw01_num.calls t193 t195 _ A39.out).mono ?_); rintro e w' ⟨rfl, ⟨nd, rfl⟩⟩; (try first | exact ⟨rfl, _, World.drewN_drewN _ _ _⟩ | exact ⟨rfl, _, Eq.trans (World.drewN_drewN _ _ _) (congrArg (World.drewN _) (Nat.add_assoc _ _ _))⟩)) | (go_at_call 19; (with_reducible refine (word_Root.calls kj31 t182 t192 t196 t197 t198 _ A41.out).mono ?_); rintro e w46 ⟨rfl, hb⟩; have n0_ := Aside0.mk (below_step (by repeat (first | (with_reducible first | exact HB.out | apply below_alloc | apply pw_below_drewN | apply below_drew1) | exact HB.out)) hb); clear HB; have HB := n0_; clear n0_; (try clear hb); (try clear hb2); (try clear hk); (try clear hi)) | (go_at_call 15; (with_reducible refine (eggboxlaw01_num.calls t198 t199 _ A42.out).mono ?_); rintro e w' ⟨rfl, ⟨nd, rfl⟩⟩; (try first | exact ⟨rfl, _, World.drewN_drewN _ _ _⟩ | exact ⟨rfl, _, Eq.trans (World.drewN_drewN _ _ _) (congrArg (World.drewN _) (Nat.add_assoc _ _ _))⟩))); try go_wp2_with (first | (go_at_call 15; (with_reducible refine (eggboxlaw01_num.calls t193 t195 _ A39.out).mono ?_); rintro e w' ⟨rfl, ⟨nd, rfl⟩⟩; (try first | exact ⟨rfl, _, World.drewN_drewN _ _ _⟩ | exact ⟨rfl, _, Eq.trans (World.drewN_drewN _ _ _) (congrArg (World.drewN _) (Nat.add_assoc _ _ _))⟩)) | (go_at_call 19; (with_reducible refine (word_Root.calls kj31 t182 t192 t196 t197 t198 _ A41.out).mono ?_); rintro e w46 ⟨rfl, hb⟩; have n0_ := Aside0.mk (below_step (by repeat (first | (with_reducible first | exact HB.out | apply below_alloc | apply pw_below_drewN | apply below_drew1) | exact HB.out)) hb); clear HB; have HB := n0_; clear n0_; (try clear hb); (try clear hb2); (try clear hk); (try clear hi)) | (go_at_call 15; (with_reducible refine (eggboxlaw01_num.calls t198 t199 _ A42.out).mono ?_); rintro e w' ⟨rfl, ⟨nd, rfl⟩⟩; (try first | exact ⟨rfl, _, World.drewN_drewN _ _ _⟩ | exact ⟨rfl, _, Eq.trans (World.drewN_drewN _ _ _) (congrArg (World.drewN _) (Nat.add_assoc _ _ _))⟩))))
                                    go_ret
                                    exact ⟨by first | rfl | (simp [errW_none, errW_some] <;> rfl) | (simp [*, errW_none, errW_some] <;> rfl), by repeat (first | (with_reducible first | exact HB.out | apply below_alloc | apply pw_below_drewN | apply below_drew1) | exact HB.out)⟩
                                  · rw [if_neg c45] at H
                                    have c45b0 : (t197 == (wrap64 (t185 * (wrap64 (1 + (Int.tmod (wrap64 ((Int.tmod a2 50) + 50)) 50)))))) = false := beq_eq_false_iff_ne.mpr c45
                                    have c45b1 : (t197 != (wrap64 (t185 * (wrap64 (1 + (Int.tmod (wrap64 ((Int.tmod a2 50) + 50)) 50)))))) = true := bne_iff_ne.mpr c45
                                    obtain rfl := Option.some.inj H
                                    go_wp2_with (first | (go_at_call 15; (with_reducible refine (eggboxlaw01_num.calls t193 t195 _ A39.out).mono ?_); rintro e w' ⟨rfl, ⟨nd, rfl⟩⟩; (try first | exact ⟨rfl, _, World.drewN_drewN _ _ _⟩ | exact ⟨rfl, _, Eq.trans (World.drewN_drewN _ _ _) (congrArg (World.drewN _) (Nat.add_assoc _ _ _))⟩)) | (go_at_call 19; (with_reducible refine (word_Root.calls kj31 t182 t192 t196 t197 t198 _ A41.out).mono ?_); rintro e w47 ⟨rfl, hb⟩; have n0_ := Aside0.mk (below_step (by repeat (first | (with_reducible first | exact HB.out | apply below_alloc | apply pw_below_drewN | apply below_drew1) | exact HB.out)) hb); clear HB; have HB := n0_; clear n0_; (try clear hb); (try clear hb2); (try clear hk); (try clear hi)) | (go_at_call 15; (with_reducible refine (eggboxlaw01_num.calls t198 t199 _ A42.out).mono ?_); rintro e w' ⟨rfl, ⟨nd, rfl⟩⟩; (try first | exact ⟨rfl, _, World.drewN_drewN _ _ _⟩ | exact ⟨rfl, _, Eq.trans (World.drewN_drewN _ _ _) (congrArg (World.drewN _) (Nat.add_assoc _ _ _))⟩)))
                                    repeat (go_quiet (first | (go_at_call 15; (with_reducible refine (eggboxlaw01_num.calls t193 t195 _ A39.out).mono ?_); rintro e w' ⟨rfl, ⟨nd, rfl⟩⟩; (try first | exact ⟨rfl, _, World.drewN_drewN _ _ _⟩ | exact ⟨rfl, _, Eq.trans (World.drewN_drewN _ _ _) (congrArg (World.drewN _) (Nat.add_assoc _ _ _))⟩)) | (go_at_call 19; (with_reducible refine (word_Root.calls kj31 t182 t192 t196 t197 t198 _ A41.out).mono ?_); rintro e w47 ⟨rfl, hb⟩; have n0_ := Aside0.mk (below_step (by repeat (first | (with_reducible first | exact HB.out | apply below_alloc | apply pw_below_drewN | apply below_drew1) | exact HB.out)) hb); clear HB; have HB := n0_; clear n0_; (try clear hb); (try clear hb2); (try clear hk); (try clear hi)) | (go_at_call 15; (with_reducible refine (eggboxlaw01_num.calls t198 t199 _ A42.out).mono ?_); rintro e w' ⟨rfl, ⟨nd, rfl⟩⟩; (try first | exact ⟨rfl, _, World.drewN_drewN _ _ _⟩ | exact ⟨rfl, _, Eq.trans (World.drewN_drewN _ _ _) (congrArg (World.drewN _) (Nat.add_assoc _ _ _))⟩))); try go_wp2_with (first | (go_at_call 15; (with_reducible refine (eggboxlaw01_num.calls t193 t195 _ A39.out).mono ?_); rintro e w' ⟨rfl, ⟨nd, rfl⟩⟩; (try first | exact ⟨rfl, _, World.drewN_drewN _ _ _⟩ | exact ⟨rfl, _, Eq.trans (World.drewN_drewN _ _ _) (congrArg (World.drewN _) (Nat.add_assoc _ _ _))⟩)) | (go_at_call 19; (with_reducible refine (word_Root.calls kj31 t182 t192 t196 t197 t198 _ A41.out).mono ?_); rintro e w47 ⟨rfl, hb⟩; have n0_ := Aside0.mk (below_step (by repeat (first | (with_reducible first | exact HB.out | apply below_alloc | apply pw_below_drewN | apply below_drew1) | exact HB.out)) hb); clear HB; have HB := n0_; clear n0_; (try clear hb); (try clear hb2); (try clear hk); (try clear hi)) | (go_at_call 15; (with_reducible refine (eggboxlaw01_num.calls t198 t199 _ A42.out).mono ?_); rintro e w' ⟨rfl, ⟨nd, rfl⟩⟩; (try first | exact ⟨rfl, _, World.drewN_drewN _ _ _⟩ | exact ⟨rfl, _, Eq.trans (World.drewN_drewN _ _ _) (congrArg (World.drewN _) (Nat.add_assoc _ _ _))⟩))))
                                    go_ret
                                    exact ⟨by first | rfl | (simp [errW_none, errW_some] <;> rfl) | (simp [*, errW_none, errW_some] <;> rfl), by repeat (first | (with_reducible first | exact HB.out | apply below_alloc | apply pw_below_drewN | apply below_drew1) | exact HB.out)⟩
                                · rw [if_neg c44] at H
                                  have c44b0 : (t196.toList == t184.toList) = false := beq_eq_false_iff_ne.mpr c44
                                  have c44b1 : (t196.toList != t184.toList) = true := bne_iff_ne.mpr c44
                                  obtain rfl := Option.some.inj H
                                  go_wp2_with (first | (go_at_call 15; (with_reducible refine (eggboxlaw01_num.calls t193 t195 _ A39.out).mono ?_); rintro e w' ⟨rfl, ⟨nd, rfl⟩⟩; (try first | exact ⟨rfl, _, World.drewN_drewN _ _ _⟩ | exact ⟨rfl, _, Eq.trans (World.drewN_drewN _ _ _) (congrArg (World.drewN _) (Nat.add_assoc _ _ _))⟩)) | (go_at_call 19; (with_reducible refine (word_Root.calls kj31 t182 t192 t196 t197 t198 _ A41.out).mono ?_); rintro e w48 ⟨rfl, hb⟩; have n0_ := Aside0.mk (below_step (by repeat (first | (with_reducible first | exact HB.out | apply below_alloc | apply pw_below_drewN | apply below_drew1) | exact HB.out)) hb); clear HB; have HB := n0_; clear n0_; (try clear hb); (try clear hb2); (try clear hk); (try clear hi)) | (go_at_call 15; (with_reducible refine (eggboxlaw01_num.calls t198 t199 _ A42.out).mono ?_); rintro e w' ⟨rfl, ⟨nd, rfl⟩⟩; (try first | exact ⟨rfl, _, World.drewN_drewN _ _ _⟩ | exact ⟨rfl, _, Eq.trans (World.drewN_drewN _ _ _) (congrArg (World.drewN _) (Nat.add_assoc _ _ _))⟩)))
                                  repeat (go_quiet (first | (go_at_call 15; (with_reducible refine (eggboxlaw01_num.calls t193 t195 _ A39.out).mono ?_); rintro e w' ⟨rfl, ⟨nd, rfl⟩⟩; (try first | exact ⟨rfl, _, World.drewN_drewN _ _ _⟩ | exact ⟨rfl, _, Eq.trans (World.drewN_drewN _ _ _) (congrArg (World.drewN _) (Nat.add_assoc _ _ _))⟩)) | (go_at_call 19; (with_reducible refine (word_Root.calls kj31 t182 t192 t196 t197 t198 _ A41.out).mono ?_); rintro e w48 ⟨rfl, hb⟩; have n0_ := Aside0.mk (below_step (by repeat (first | (with_reducible first | exact HB.out | apply below_alloc | apply pw_below_drewN | apply below_drew1) | exact HB.out)) hb); clear HB; have HB := n0_; clear n0_; (try clear hb); (try clear hb2); (try clear hk); (try clear hi)) | (go_at_call 15; (with_reducible refine (eggboxlaw01_num.calls t198 t199 _ A42.out).mono ?_); rintro e w' ⟨rfl, ⟨nd, rfl⟩⟩; (try first | exact ⟨rfl, _, World.drewN_drewN _ _ _⟩ | exact ⟨rfl, _, Eq.trans (World.drewN_drewN _ _ _) (congrArg (World.drewN _) (Nat.add_assoc _ _ _))⟩))); try go_wp2_with (first | (go_at_call 15; (with_reducible refine (eggboxlaw01_num.calls t193 t195 _ A39.out).mono ?_); rintro e w' ⟨rfl, ⟨nd, rfl⟩⟩; (try first | exact ⟨rfl, _, World.drewN_drewN _ _ _⟩ | exact ⟨rfl, _, Eq.trans (World.drewN_drewN _ _ _) (congrArg (World.drewN _) (Nat.add_assoc _ _ _))⟩)) | (go_at_call 19; (with_reducible refine (word_Root.calls kj31 t182 t192 t196 t197 t198 _ A41.out).mono ?_); rintro e w48 ⟨rfl, hb⟩; have n0_ := Aside0.mk (below_step (by repeat (first | (with_reducible first | exact HB.out | apply below_alloc | apply pw_below_drewN | apply below_drew1) | exact HB.out)) hb); clear HB; have HB := n0_; clear n0_; (try clear hb); (try clear hb2); (try clear hk); (try clear hi)) | (go_at_call 15; (with_reducible refine (eggboxlaw01_num.calls t198 t199 _ A42.out).mono ?_); rintro e w' ⟨rfl, ⟨nd, rfl⟩⟩; (try first | exact ⟨rfl, _, World.drewN_drewN _ _ _⟩ | exact ⟨rfl, _, Eq.trans (World.drewN_drewN _ _ _) (congrArg (World.drewN _) (Nat.add_assoc _ _ _))⟩))))
                                  go_ret
                                  exact ⟨by first | rfl | (simp [errW_none, errW_some] <;> rfl) | (simp [*, errW_none, errW_some] <;> rfl), by repeat (first | (with_reducible first | exact HB.out | apply below_alloc | apply pw_below_drewN | apply below_drew1) | exact HB.out)⟩
                              · rw [if_neg c43] at H
                                have c43b0 : (t199 == 0) = false := beq_eq_false_iff_ne.mpr c43
                                have c43b1 : (t199 != 0) = true := bne_iff_ne.mpr c43
                                obtain rfl := Option.some.inj H
                                go_wp2_with (first | (go_at_call 15; (with_reducible refine (eggboxlaw01_num.calls t193 t195 _ A39.out).mono ?_); rintro e w' ⟨rfl, ⟨nd, rfl⟩⟩; (try first | exact ⟨rfl, _, World.drewN_drewN _ _ _⟩ | exact ⟨rfl, _, Eq.trans (World.drewN_drewN _ _ _) (congrArg (World.drewN _) (Nat.add_assoc _ _ _))⟩)) | (go_at_call 19; (with_reducible refine (word_Root.calls kj31 t182 t192 t196 t197 t198 _ A41.out).mono ?_); rintro e w49 ⟨rfl, hb⟩; have n0_ := Aside0.mk (below_step (by repeat (first | (with_reducible first | exact HB.out | apply below_alloc | apply pw_below_drewN | apply below_drew1) | exact HB.out)) hb); clear HB; have HB := n0_; clear n0_; (try clear hb); (try clear hb2); (try clear hk); (try clear hi)) | (go_at_call 15; (with_reducible refine (eggboxlaw01_num.calls t198 t199 _ A42.out).mono ?_); rintro e w' ⟨rfl, ⟨nd, rfl⟩⟩; (try first | exact ⟨rfl, _, World.drewN_drewN _ _ _⟩ | exact ⟨rfl, _, Eq.trans (World.drewN_drewN _ _ _) (congrArg (World.drewN _) (Nat.add_assoc _ _ _))⟩)))
                                repeat (go_quiet (first | (go_at_call 15; (with_reducible refine (eggboxlaw01_num.calls t193 t195 _ A39.out).mono ?_); rintro e w' ⟨rfl, ⟨nd, rfl⟩⟩; (try first | exact ⟨rfl, _, World.drewN_drewN _ _ _⟩ | exact ⟨rfl, _, Eq.trans (World.drewN_drewN _ _ _) (congrArg (World.drewN _) (Nat.add_assoc _ _ _))⟩)) | (go_at_call 19; (with_reducible refine (word_Root.calls kj31 t182 t192 t196 t197 t198 _ A41.out).mono ?_); rintro e w49 ⟨rfl, hb⟩; have n0_ := Aside0.mk (below_step (by repeat (first | (with_reducible first | exact HB.out | apply below_alloc | apply pw_below_drewN | apply below_drew1) | exact HB.out)) hb); clear HB; have HB := n0_; clear n0_; (try clear hb); (try clear hb2); (try clear hk); (try clear hi)) | (go_at_call 15; (with_reducible refine (eggboxlaw01_num.calls t198 t199 _ A42.out).mono ?_); rintro e w' ⟨rfl, ⟨nd, rfl⟩⟩; (try first | exact ⟨rfl, _, World.drewN_drewN _ _ _⟩ | exact ⟨rfl, _, Eq.trans (World.drewN_drewN _ _ _) (congrArg (World.drewN _) (Nat.add_assoc _ _ _))⟩))); try go_wp2_with (first | (go_at_call 15; (with_reducible refine (eggboxlaw01_num.calls t193 t195 _ A39.out).mono ?_); rintro e w' ⟨rfl, ⟨nd, rfl⟩⟩; (try first | exact ⟨rfl, _, World.drewN_drewN _ _ _⟩ | exact ⟨rfl, _, Eq.trans (World.drewN_drewN _ _ _) (congrArg (World.drewN _) (Nat.add_assoc _ _ _))⟩)) | (go_at_call 19; (with_reducible refine (word_Root.calls kj31 t182 t192 t196 t197 t198 _ A41.out).mono ?_); rintro e w49 ⟨rfl, hb⟩; have n0_ := Aside0.mk (below_step (by repeat (first | (with_reducible first | exact HB.out | apply below_alloc | apply pw_below_drewN | apply below_drew1) | exact HB.out)) hb); clear HB; have HB := n0_; clear n0_; (try clear hb); (try clear hb2); (try clear hk); (try clear hi)) | (go_at_call 15; (with_reducible refine (eggboxlaw01_num.calls t198 t199 _ A42.out).mono ?_); rintro e w' ⟨rfl, ⟨nd, rfl⟩⟩; (try first | exact ⟨rfl, _, World.drewN_drewN _ _ _⟩ | exact ⟨rfl, _, Eq.trans (World.drewN_drewN _ _ _) (congrArg (World.drewN _) (Nat.add_assoc _ _ _))⟩))))
                                go_ret
                                exact ⟨by first | rfl | (simp [errW_none, errW_some] <;> rfl) | (simp [*, errW_none, errW_some] <;> rfl), by repeat (first | (with_reducible first | exact HB.out | apply below_alloc | apply pw_below_drewN | apply below_drew1) | exact HB.out)⟩
                            · rw [if_neg c40] at H
                              have c40b0 : (t195 == 0) = false := beq_eq_false_iff_ne.mpr c40
                              have c40b1 : (t195 != 0) = true := bne_iff_ne.mpr c40
                              by_cases c50 : (wrap64 ((wrap64 (1 + (Int.tmod (wrap64 ((Int.tmod a2 50) + 50)) 50))) * (t183.size : Int))) > 4096
                              · rw [if_pos c50] at H
                                have c50b0 : decide (4096 < (wrap64 ((wrap64 (1 + (Int.tmod (wrap64 ((Int.tmod a2 50) + 50)) 50))) * (t183.size : Int)))) = true := decide_eq_true c50
                                clear c50
                                obtain rfl := Option.some.inj H
                                go_wp2_with (first | (go_at_call 15; (with_reducible refine (eggboxlaw01_num.calls t193 t195 _ A39.out).mono ?_); rintro e w' ⟨rfl, ⟨nd, rfl⟩⟩; (try first | exact ⟨rfl, _, World.drewN_drewN _ _ _⟩ | exact ⟨rfl, _, Eq.trans (World.drewN_drewN _ _ _) (congrArg (World.drewN _) (Nat.add_assoc _ _ _))⟩)))
                                repeat (go_quiet (first | (go_at_call 15; (with_reducible refine (eggboxlaw01_num.calls t193 t195 _ A39.out).mono ?_); rintro e w' ⟨rfl, ⟨nd, rfl⟩⟩; (try first | exact ⟨rfl, _, World.drewN_drewN _ _ _⟩ | exact ⟨rfl, _, Eq.trans (World.drewN_drewN _ _ _) (congrArg (World.drewN _) (Nat.add_assoc _ _ _))⟩))); try go_wp2_with (first | (go_at_call 15; (with_reducible refine (eggboxlaw01_num.calls t193 t195 _ A39.out).mono ?_); rintro e w' ⟨rfl, ⟨nd, rfl⟩⟩; (try first | exact ⟨rfl, _, World.drewN_drewN _ _ _⟩ | exact ⟨rfl, _, Eq.trans (World.drewN_drewN _ _ _) (congrArg (World.drewN _) (Nat.add_assoc _ _ _))⟩))))
                                go_ret
                                exact ⟨by first | rfl | (simp [errW_none, errW_some] <;> rfl) | (simp [*, errW_none, errW_some] <;> rfl), by repeat (first | (with_reducible first | exact HB.out | apply below_alloc | apply pw_below_drewN | apply below_drew1) | exact HB.out)⟩
                              · rw [if_neg c50] at H
                                have c50b0 : decide (4096 < (wrap64 ((wrap64 (1 + (Int.tmod (wrap64 ((Int.tmod a2 50) + 50)) 50))) * (t183.size : Int)))) = false := decide_eq_false c50
                                clear c50
                                obtain rfl := Option.some.inj H
                                go_wp2_with (first | (go_at_call 15; (with_reducible refine (eggboxlaw01_num.calls t193 t195 _ A39.out).mono ?_); rintro e w' ⟨rfl, ⟨nd, rfl⟩⟩; (try first | exact ⟨rfl, _, World.drewN_drewN _ _ _⟩ | exact ⟨rfl, _, Eq.trans (World.drewN_drewN _ _ _) (congrArg (World.drewN _) (Nat.add_assoc _ _ _))⟩)))
                                repeat (go_quiet (first | (go_at_call 15; (with_reducible refine (eggboxlaw01_num.calls t193 t195 _ A39.out).mono ?_); rintro e w' ⟨rfl, ⟨nd, rfl⟩⟩; (try first | exact ⟨rfl, _, World.drewN_drewN _ _ _⟩ | exact ⟨rfl, _, Eq.trans (World.drewN_drewN _ _ _) (congrArg (World.drewN _) (Nat.add_assoc _ _ _))⟩))); try go_wp2_with (first | (go_at_call 15; (with_reducible refine (eggboxlaw01_num.calls t193 t195 _ A39.out).mono ?_); rintro e w' ⟨rfl, ⟨nd, rfl⟩⟩; (try first | exact ⟨rfl, _, World.drewN_drewN _ _ _⟩ | exact ⟨rfl, _, Eq.trans (World.drewN_drewN _ _ _) (congrArg (World.drewN _) (Nat.add_assoc _ _ _))⟩))))
                                go_ret
                                exact ⟨by first | rfl | (simp [errW_none, errW_some] <;> rfl) | (simp [*, errW_none, errW_some] <;> rfl), by repeat (first | (with_reducible first | exact HB.out | apply below_alloc | apply pw_below_drewN | apply below_drew1) | exact HB.out)⟩

/-- THE ONE PURE STATEMENT of eggboxlaw01_WordRoots: yours. -/
def eggboxlaw01_WordRoots.Pure : Prop := ∀ (a0 : Int) (a1 : ByteArray) (a2 : Int), (Lit.int .i64 a0).wf = true → a1.size ≤ 140737488351232 → (Lit.int .i64 a2).wf = true → ∃ k, eggboxlaw01_WordRoots.f k a0 a1 a2 = some true
theorem eggboxlaw01_WordRoots.walk (P : eggboxlaw01_WordRoots.Pure) (a0 : Int) (a1 : ByteArray) (a2 : Int) (w : World) (w0 : (Lit.int .i64 a0).wf = true) (w1 : a1.size ≤ 140737488351232) (w2 : (Lit.int .i64 a2).wf = true) :
    Calls Try.prog 8 #[.int .i64 a0, .string a1, .int .i64 a2] w fun e w' => e = .returned (.bool true) ∧ Below w.heap.size w w' := by
  obtain ⟨k, h⟩ := P a0 a1 a2 w0 w1 w2
  refine (eggboxlaw01_WordRoots.calls k a0 a1 a2 true w h).mono ?_
  rintro e w' ⟨rfl, hd⟩
  exact ⟨rfl, hd⟩

end Go.Proofs.Ytjkajepkeepelaa.PW
