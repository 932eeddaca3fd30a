/- eggboxref01.Rank: contract. -/
import Derived.Test.YtjkajepkeepelaaHComp
import Derived.Test.YtjkajepkeepelaaHRank
set_option linter.unusedVariables false
set_option linter.unusedSimpArgs false
namespace Go.Proofs.Ytjkajepkeepelaa.HRefRank
open Go.RowKit Go.Proofs.YtjkajepkeepelaaW.PrintWords Go.Proofs.YtjkajepkeepelaaW.PrintLast Go.Proofs.YtjkajepkeepelaaW.PrintMore
open Go.Proofs.Ytjkajepkeepelaa Go.Proofs.Ytjkajepkeepelaa.HCheck Go.Proofs.Ytjkajepkeepelaa.HRank Go.Proofs.Ytjkajepkeepelaa.HComp

set_option maxHeartbeats 1000000 in
theorem calls (K : Nat) (k : Int) (s : ByteArray) (w : World) (hk1 : 1 ≤ k) (hk2 : k ≤ 8) (hc : chk k s = 0) (hs : s.size ≤ 140737488355328) (hck : PW.eggboxref01_Check.f K k s = some 0) :
    Calls Try.prog 37 #[.int .i64 k, .string s] w fun e w' => e = .returned (.tuple #[.int .u64 (rk k s.data.toList 0).1, .int .i64 (rk k s.data.toList 0).2]) ∧ Below w.heap.size w w' := by
  have hgood := good_at hk1 hk2 hc
  have HC := Lib.hid hc
  have HG := Lib.hid hgood
  clear hc hgood
  go_enter Try.func37, Try.ntmps37
  go_wp2_with fail
  refine (PW.eggboxref01_Check.calls K k s 0 _ hck).mono ?_
  rintro e w1 ⟨rfl, hb1⟩
  have HB1 := Lib.hid hb1.below
  clear hb1
  go_wp2_with fail
  go_loopw [8, 9] (fun n i w' => w' = w1 ∧ ∃ (pos : Nat) (m : Int), i = .int .i64 pos ∧ n = .int .u64 m ∧ 0 ≤ m ∧ m < 18446744073709551616 ∧ pos ≤ s.size ∧ Hid (rk k (s.data.toList.drop pos) m = rk k s.data.toList 0)) (fun n i _ => match i with | .int _ p => s.size - p.toNat | _ => 0)
  case atStart => exact ⟨rfl, 0, 0, rfl, rfl, by omega, by omega, by omega, by simp [Hid]⟩
  case round =>
    obtain ⟨rfl, pos, m, rfl, rfl, hm0, hm1, hps, HR⟩ := hrel
    by_cases hp : pos < s.size
    · have hb := bt_get s pos hp
      have hg := HG.out pos hp
      simp only [okb, Bool.and_eq_true, decide_eq_true_eq] at hg
      have g1 : 97 ≤ ((s[pos]'hp).toNat : Int) ∧ ((s[pos]'hp).toNat : Int) < 105 := by omega
      have e1 : (((s[pos]'hp).toNat : Int) - 97) % 256 = ((s[pos]'hp).toNat : Int) - 97 := Int.emod_eq_of_lt (by omega) (by omega)
      have HD : Hid (rk k s.data.toList 0 = if (18446744073709551615 - (((s[pos]'hp).toNat : Int) - 97 + 1)) / k < m then (0, 11) else rk k (s.data.toList.drop (pos + 1)) (m * k + (((s[pos]'hp).toNat : Int) - 97 + 1))) := by
        rw [← HR.out, drop_cons s pos hp]
        rfl
      have HX : 1 ≤ (((s[pos]'hp).toNat : Int) - 97 + 1) ∧ (((s[pos]'hp).toNat : Int) - 97 + 1) ≤ 8 := by omega
      have p7 : (0 ≤ (pos : Int)) = True := eq_true (by omega)
      have q7 : ((pos : Int) < (s.size : Int)) = True := eq_true (by omega)
      clear hg hb
      by_cases hq : (18446744073709551615 - (((s[pos]'hp).toNat : Int) - 97 + 1)) / k < m
      · have HE : Hid (rk k s.data.toList 0 = (0, 11)) := by rw [HD.out, if_pos hq]; rfl
        go_wp2_with fail
        go_ret2
        rw [HE.out]
        exact ⟨rfl, HB1.out⟩
      · have HE : Hid (rk k s.data.toList 0 = rk k (s.data.toList.drop (pos + 1)) (m * k + (((s[pos]'hp).toNat : Int) - 97 + 1))) := by rw [HD.out, if_neg hq]; rfl
        obtain ⟨n1, n2, n3, n4⟩ := no_wrap (m := m) (d := (((s[pos]'hp).toNat : Int) - 97 + 1)) hk1 (by omega) HX.2 hm0 (by omega)
        have HN := Lib.hid (And.intro n1 (And.intro n2 (And.intro n3 n4)))
        clear n1 n2 n3 n4
        go_wp2_with fail
        go_roundw
        case rel =>
          refine ⟨trivial, pos + 1, m * k + (((s[pos]'hp).toNat : Int) - 97 + 1), rfl, ?_, HN.out.1, HN.out.2.1, by omega, ?_⟩
          · rw [u64_in (m * k) HN.out.2.2.1 HN.out.2.2.2, u64_in _ HN.out.1 HN.out.2.1]
          · exact HE.out.symm
        case measure =>
          simp
          omega
    · have HE : Hid (rk k s.data.toList 0 = (m, 0)) := by
        rw [← HR.out, List.drop_of_length_le (by simp; omega)]
        rfl
      go_wp2_with fail
      go_ret2
      rw [HE.out]
      exact ⟨rfl, HB1.out⟩

set_option maxHeartbeats 1000000 in
theorem calls_bad (K : Nat) (k : Int) (s : ByteArray) (w : World) (c : Int) (hc : c ≠ 0) (hck : PW.eggboxref01_Check.f K k s = some c) :
    Calls Try.prog 37 #[.int .i64 k, .string s] w fun e w' => e = .returned (.tuple #[.int .u64 0, .int .i64 c]) ∧ Below w.heap.size w w' := by
  have hn : (c != 0) = true := bne_iff_ne.2 hc
  have hn2 : (c == 0) = false := beq_eq_false_iff_ne.2 hc
  clear hc
  go_enter Try.func37, Try.ntmps37
  go_wp2_with fail
  refine (PW.eggboxref01_Check.calls K k s c _ hck).mono ?_
  rintro e w1 ⟨rfl, hb1⟩
  have HB1 := Lib.hid hb1.below
  clear hb1
  go_wp2_with fail
  go_ret2
  exact ⟨rfl, HB1.out⟩

def f (K : Nat) (k : Int) (s : ByteArray) : Option (Int × Int) := if s.size ≤ 140737488355328 then (PW.eggboxref01_Check.f K k s).bind fun c => (if c = 0 then some (rk k s.data.toList 0) else some (0, c)) else none
theorem mono (k : Int) (s : ByteArray) (K : Nat) : LeO (f K k s) (f (K + 1) k s) := by
  intro r h
  unfold f at h ⊢
  by_cases hs : s.size ≤ 140737488355328
  · rw [if_pos hs] at h ⊢
    obtain ⟨c, h1, h2⟩ := Option.bind_eq_some_iff.1 h
    rw [PW.eggboxref01_Check.mono k s K _ h1]
    exact h2
  · rw [if_neg hs] at h
    cases h
theorem all (K : Nat) (k : Int) (s : ByteArray) (r1 r2 : Int) (w : World) (h : f K k s = some (r1, r2)) :
    Calls Try.prog 37 #[.int .i64 k, .string s] w fun e w' => e = .returned (.tuple #[.int .u64 r1, .int .i64 r2]) ∧ Below w.heap.size w w' := by
  unfold f at h
  by_cases hs : s.size ≤ 140737488355328
  · rw [if_pos hs] at h
    obtain ⟨c, h1, h2⟩ := Option.bind_eq_some_iff.1 h
    by_cases hc : c = 0
    · rw [if_pos hc] at h2
      subst hc
      obtain ⟨K', h3⟩ := refCheck_ok k s hs
      have h4 := at_rounds (fun j => PW.eggboxref01_Check.mono k s j) (Nat.le_add_left K K') h1
      have h6 := h3 _ (Nat.le_add_right K' K)
      simp only at h6
      rw [h6] at h4
      have h5 := Option.some.inj h4
      have := calls K k s w (HRank.chk_k h5).1 (HRank.chk_k h5).2 h5 hs h1
      rw [Option.some.inj h2] at this
      exact this
    · rw [if_neg hc] at h2
      obtain ⟨rfl, rfl⟩ := Prod.mk.inj (Option.some.inj h2)
      exact calls_bad K k s w c hc h1
  · rw [if_neg hs] at h
    cases h
theorem ok (k : Int) (s : ByteArray) (hs : s.size ≤ 140737488355328) : Ev (fun K => f K k s) (if chk k s = 0 then rk k s.data.toList 0 else (0, chk k s)) := by
  unfold f
  simp only [if_pos hs]
  refine Ev.bind (f := fun _ c => if c = 0 then some (rk k s.data.toList 0) else some (0, c)) (refCheck_ok k s hs) ?_
  by_cases hc : chk k s = 0
  · simp only [if_pos hc]; exact Ev.now _
  · simp only [if_neg hc]; exact Ev.now _
end Go.Proofs.Ytjkajepkeepelaa.HRefRank
