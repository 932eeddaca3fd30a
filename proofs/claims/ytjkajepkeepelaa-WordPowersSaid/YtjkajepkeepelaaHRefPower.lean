/- eggboxref01.Power: contract. -/
import Derived.Test.YtjkajepkeepelaaPWx2
import Derived.Test.YtjkajepkeepelaaShelf
import Derived.Outline
set_option linter.unusedVariables false
set_option linter.unusedSimpArgs false
namespace Go.Proofs.Ytjkajepkeepelaa.HRefPower
open Go.RowKit Go.Proofs.YtjkajepkeepelaaW.PrintWords Go.Proofs.YtjkajepkeepelaaW.PrintLast Go.Proofs.YtjkajepkeepelaaW.PrintMore
open Go.Proofs.Ytjkajepkeepelaa

def rep (a0 : ByteArray) (a1 : Int) : Option ByteArray := if 0 ≤ a1 ∧ a1 ≤ 9223372036854775807 ∧ a0.size * a1.toNat ≤ 140737488355328 then some ⟨(Lib.repeatL a0.data.toList a1.toNat).toArray⟩ else none
def f (k : Nat) (a0 : Int) (a1 : ByteArray) (a2 : Int) : Option (ByteArray × Int) :=
  (PW.eggboxref01_Check.f k a0 a1).bind fun e => if e = 0 then (if a2 < 0 then some (⟨#[]⟩, 1) else if (a1.size : Int) = 0 then some (⟨#[]⟩, 0) else if 4096 / (a1.size : Int) < a2 then some (⟨#[]⟩, 6) else (rep a1 a2).bind fun s => some (s, 0)) else some (⟨#[]⟩, e)
theorem mono : ∀ a0 a1 a2 k, LeO (f k a0 a1 a2) (f (k + 1) a0 a1 a2) := by
  intro a0 a1 a2 k
  unfold f
  repeat' first
    | (with_reducible exact PW.eggboxref01_Check.mono _ _ _)
    | (with_reducible exact LeO.refl _)
    | (with_reducible refine LeO.ite ?_ ?_)
    | (with_reducible refine LeO.bind ?_ (fun _ => ?_))

set_option maxHeartbeats 1000000 in
theorem calls (k : Nat) (a0 : Int) (a1 : ByteArray) (a2 : Int) (r1 : ByteArray) (r2 : Int) (w : World) (h : f k a0 a1 a2 = some (r1, r2)) :
    Calls Try.prog 33 #[.int .i64 a0, .string a1, .int .i64 a2] w fun e w' => e = .returned (.tuple #[.string r1, .int .i64 r2]) ∧ Below w.heap.size w w' := by
  unfold f at h
  obtain ⟨e, he, h1⟩ := Option.bind_eq_some_iff.1 h
  have HE := Lib.hid he
  clear h he
  by_cases e0 : e = 0
  · subst e0
    rw [if_pos rfl] at h1
    by_cases n0 : a2 < 0
    · rw [if_pos n0] at h1
      obtain ⟨rfl, rfl⟩ := Prod.mk.inj (Option.some.inj h1)
      clear h1
      go_enter Try.func33, Try.ntmps33
      go_wp2_with fail
      refine (PW.eggboxref01_Check.calls k a0 a1 _ _ HE.out).mono ?_
      rintro e w1 ⟨rfl, hd⟩
      have HB := Lib.hid hd.below
      clear hd
      go_wp2_with fail
      go_ret2
      exact ⟨rfl, HB.out⟩
    · rw [if_neg n0] at h1
      by_cases z0 : (a1.size : Int) = 0
      · rw [if_pos z0] at h1
        obtain ⟨rfl, rfl⟩ := Prod.mk.inj (Option.some.inj h1)
        have z1 : ((a1.size : Int) == 0) = true := beq_iff_eq.2 z0
        have z2 : ¬ 0 < (a1.size : Int) := by omega
        have z3 : ¬ 0 < a1.size := by omega
        clear h1 z0
        go_enter Try.func33, Try.ntmps33
        go_wp2_with fail
        refine (PW.eggboxref01_Check.calls k a0 a1 _ _ HE.out).mono ?_
        rintro e w1 ⟨rfl, hd⟩
        have HB := Lib.hid hd.below
        clear hd
        go_wp2_with fail
        go_ret2
        exact ⟨rfl, HB.out⟩
      · rw [if_neg z0] at h1
        have z1 : ((a1.size : Int) == 0) = false := beq_eq_false_iff_ne.2 z0
        have z2 : 0 < (a1.size : Int) := by omega
        have z3 : 0 < a1.size := by omega
        by_cases q0 : 4096 / (a1.size : Int) < a2
        · rw [if_pos q0] at h1
          obtain ⟨rfl, rfl⟩ := Prod.mk.inj (Option.some.inj h1)
          clear h1 z0
          go_enter Try.func33, Try.ntmps33
          go_wp2_with fail
          refine (PW.eggboxref01_Check.calls k a0 a1 _ _ HE.out).mono ?_
          rintro e w1 ⟨rfl, hd⟩
          have HB := Lib.hid hd.below
          clear hd
          go_wp2_with fail
          go_ret2
          exact ⟨rfl, HB.out⟩
        · rw [if_neg q0] at h1
          obtain ⟨s, hs, h2⟩ := Option.bind_eq_some_iff.1 h1
          obtain ⟨rfl, rfl⟩ := Prod.mk.inj (Option.some.inj h2)
          unfold rep at hs
          by_cases hr : 0 ≤ a2 ∧ a2 ≤ 9223372036854775807 ∧ a1.size * a2.toNat ≤ 140737488355328
          · rw [if_pos hr] at hs
            obtain rfl := Option.some.inj hs
            obtain ⟨n, rfl⟩ := Int.eq_ofNat_of_zero_le hr.1
            have HR := Lib.hid hr
            clear h1 h2 hs z0 hr
            go_enter Try.func33, Try.ntmps33
            go_wp2_with fail
            refine (PW.eggboxref01_Check.calls k a0 a1 _ _ HE.out).mono ?_
            rintro e w1 ⟨rfl, hd⟩
            have HB := Lib.hid hd.below
            clear hd
            go_wp2_with fail
            refine (Try.strings_Repeat a1 n w1 (by have := HR.out.2.1; omega) HR.out.2.2).mono ?_
            rintro e w2 ⟨rfl, hb2⟩
            have HB2 : Hid (Below w.heap.size w w2) := HB.out.trans (hb2.mono HB.out.size)
            clear hb2
            go_wp2_with fail
            go_ret2
            exact ⟨by first | rfl | simp, HB2.out⟩
          · rw [if_neg hr] at hs; cases hs
  · rw [if_neg e0] at h1
    obtain ⟨rfl, rfl⟩ := Prod.mk.inj (Option.some.inj h1)
    have e1 : (e != 0) = true := bne_iff_ne.2 e0
    have e2 : (e == 0) = false := beq_eq_false_iff_ne.2 e0
    clear h1 e0
    go_enter Try.func33, Try.ntmps33
    go_wp2_with fail
    refine (PW.eggboxref01_Check.calls k a0 a1 _ _ HE.out).mono ?_
    rintro e w1 ⟨rfl, hd⟩
    have HB := Lib.hid hd.below
    clear hd
    go_wp2_with fail
    go_ret2
    exact ⟨rfl, HB.out⟩
end Go.Proofs.Ytjkajepkeepelaa.HRefPower
