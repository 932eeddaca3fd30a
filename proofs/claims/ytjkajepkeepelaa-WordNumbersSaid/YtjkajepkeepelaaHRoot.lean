/- word.Root: contract. -/
import Derived.Test.YtjkajepkeepelaaPAx1
import Derived.Test.YtjkajepkeepelaaHCheck
import Derived.Outline
set_option linter.unusedVariables false
set_option linter.unusedSimpArgs false
namespace Go.Proofs.Ytjkajepkeepelaa.HRoot
open Go.RowKit Go.Proofs.YtjkajepkeepelaaW.PrintWords Go.Proofs.YtjkajepkeepelaaW.PrintLast Go.Proofs.YtjkajepkeepelaaW.PrintMore
open Go.Proofs.Ytjkajepkeepelaa Go.Proofs.Ytjkajepkeepelaa.HCheck

def f (k : Nat) (a0 : Int) (a1 : ByteArray) : Option (ByteArray × Int × Int) :=
  if chk a0 a1 = 0 then (if (a1.size : Int) = 0 then some (⟨#[]⟩, 0, 0) else (PA.word_borders.f k a1).bind fun l => if (a1.size : Int) < (l.length : Int) ∧ (a1.size : Int) ≤ 140737488355328 then (if 0 ≤ rd l a1.size then (if rd l a1.size < (a1.size : Int) then (if (a1.size : Int) % ((a1.size : Int) - rd l a1.size) = 0 then some (a1.extract 0 ((a1.size : Int) - rd l a1.size).toNat, wrap64 ((a1.size : Int) / ((a1.size : Int) - rd l a1.size)), 0) else some (a1, wrap64 ((a1.size : Int) / (a1.size : Int)), 0)) else none) else none) else none) else some (⟨#[]⟩, 0, chk a0 a1)

theorem mono : ∀ a0 a1 k, LeO (f k a0 a1) (f (k + 1) a0 a1) := by
  intro a0 a1 k
  unfold f
  repeat' first
    | (with_reducible exact PA.word_borders.mono _ _)
    | (with_reducible exact LeO.refl _)
    | (with_reducible refine LeO.ite ?_ ?_)
    | (with_reducible refine LeO.bind ?_ (fun _ => ?_))

set_option maxHeartbeats 1000000 in
theorem calls (k : Nat) (a0 : Int) (a1 : ByteArray) (r1 : ByteArray) (r2 r3 : Int) (w : World) (h : f k a0 a1 = some (r1, r2, r3)) :
    Calls Try.prog 19 #[.int .i64 a0, .string a1] w fun e w' => e = .returned (.tuple #[.string r1, .int .i64 r2, .int .i64 r3]) ∧ Below w.heap.size w w' := by
  unfold f at h
  by_cases hc : chk a0 a1 = 0
  · rw [if_pos hc] at h
    by_cases hz : (a1.size : Int) = 0
    · rw [if_pos hz] at h
      simp only [Option.some.injEq, Prod.mk.injEq] at h
      obtain ⟨rfl, rfl, rfl⟩ := h
      have hz1 : ((a1.size : Int) == 0) = true := beq_iff_eq.2 hz
      have HC := Lib.hid hc
      clear hc hz
      go_enter Try.func19, Try.ntmps19
      go_wp2_with fail
      refine (HCheck.calls _ _ _).mono ?_
      rintro e w1 ⟨rfl, hb1⟩
      rw [HC.out]
      have HB1 := Lib.hid hb1
      clear hb1
      go_wp2_with fail
      go_ret3
      exact ⟨rfl, HB1.out⟩
    · rw [if_neg hz] at h
      have hz1 : ((a1.size : Int) == 0) = false := beq_eq_false_iff_ne.2 hz
      have HC := Lib.hid hc
      obtain ⟨l, hl, h2⟩ := Option.bind_eq_some_iff.1 h
      by_cases hlt2 : (a1.size : Int) < (l.length : Int) ∧ (a1.size : Int) ≤ 140737488355328
      · rw [if_pos hlt2] at h2
        obtain ⟨hlt, hbig⟩ := hlt2
        by_cases hr0 : 0 ≤ rd l a1.size
        · rw [if_pos hr0] at h2
          by_cases hr1 : rd l a1.size < (a1.size : Int)
          · rw [if_pos hr1] at h2
            have HL := Lib.hid hl
            have H2 := Lib.hid h2
            have hpz : 0 < (a1.size : Int) := by omega
            clear h hc hz hl h2
            go_enter Try.func19, Try.ntmps19
            go_wp2_with fail
            refine (HCheck.calls _ _ _).mono ?_
            rintro e w1 ⟨rfl, hb1⟩
            rw [HC.out]
            have HB1 := Lib.hid hb1
            clear hb1
            go_wp2_with fail
            refine (PA.word_borders.calls k a1 l _ HL.out).mono ?_
            rintro e w2 ⟨vl, rfl, hr2, hb2⟩
            have HB2 : Hid (Below w.heap.size w w2) := HB1.out.trans (hb2.mono HB1.out.size)
            obtain ⟨ad, cl, e0, hx0⟩ : ∃ ad cl, vl = .slice (some ad) l.length cl ∧ w2.cell? (ad.add a1.size) = some (.int .i64 (rd l a1.size)) := by
              obtain ⟨Al, cl, rfl⟩ := Kd.R_slice hr2
              obtain ⟨ad, e0, hx0⟩ := Kd.at_int (Kd.R_reads' hr2).2.2 (a1.size : Int) (by omega) hlt
              cases e0
              rw [Int.toNat_natCast] at hx0
              exact ⟨ad, cl, rfl, hx0⟩
            subst e0
            clear hb2 hr2
            have p0 : (0 ≤ (a1.size : Int)) = True := eq_true (by omega)
            have q0 : ((a1.size : Int) < (l.length : Int)) = True := eq_true hlt
            obtain ⟨r, hr⟩ : ∃ r, rd l a1.size = r := ⟨_, rfl⟩
            rw [hr] at hx0 hr0 hr1
            have HR := Lib.hid hr
            clear hr
            have hd1 : 0 < (a1.size : Int) - r := by omega
            have hd2 : (((a1.size : Int) - r) == 0) = false := beq_eq_false_iff_ne.2 (by omega)
            have hd3 : 0 ≤ (a1.size : Int) - r := by omega
            have hd4 : (a1.size : Int) - r ≤ (a1.size : Int) := by omega
            have hsz := (0 : Nat)
            by_cases hm : (a1.size : Int) % ((a1.size : Int) - r) = 0
            · have hm1 : (((a1.size : Int) % ((a1.size : Int) - r)) != 0) = false := bne_eq_false_iff_eq.2 hm
              have hm2 : (((a1.size : Int) % ((a1.size : Int) - r)) == 0) = true := beq_iff_eq.2 hm
              have HM := Lib.hid hm
              clear hm hsz
              go_wp2_with fail
              repeat (go_quiet (fail); try go_wp2)
              go_ret3
              have e := H2.out
              rw [HR.out, if_pos HM.out] at e
              simp only [Option.some.injEq, Prod.mk.injEq] at e
              obtain ⟨rfl, rfl, rfl⟩ := e
              exact ⟨rfl, pw_below_drewN HB2.out _⟩
            · have hm1 : (((a1.size : Int) % ((a1.size : Int) - r)) != 0) = true := bne_iff_ne.2 hm
              have hm2 : (((a1.size : Int) % ((a1.size : Int) - r)) == 0) = false := beq_eq_false_iff_ne.2 hm
              have HM := Lib.hid hm
              clear hm hsz
              go_wp2_with fail
              repeat (go_quiet (fail); try go_wp2)
              go_ret3
              have e := H2.out
              rw [HR.out, if_neg HM.out] at e
              simp only [Option.some.injEq, Prod.mk.injEq] at e
              obtain ⟨rfl, rfl, rfl⟩ := e
              exact ⟨by rfl, pw_below_drewN HB2.out _⟩
          · rw [if_neg hr1] at h2; cases h2
        · rw [if_neg hr0] at h2; cases h2
      · rw [if_neg hlt2] at h2; cases h2
  · rw [if_neg hc] at h
    simp only [Option.some.injEq, Prod.mk.injEq] at h
    obtain ⟨rfl, rfl, rfl⟩ := h
    have hn : (chk a0 a1 != 0) = true := bne_iff_ne.2 hc
    have hn2 : (chk a0 a1 == 0) = false := beq_eq_false_iff_ne.2 hc
    clear hc
    go_enter Try.func19, Try.ntmps19
    go_wp2_with fail
    refine (HCheck.calls _ _ _).mono ?_
    rintro e w1 ⟨rfl, hb1⟩
    have HB1 := Lib.hid hb1
    clear hb1
    go_wp2_with fail
    go_ret3
    exact ⟨rfl, HB1.out⟩
end Go.Proofs.Ytjkajepkeepelaa.HRoot
