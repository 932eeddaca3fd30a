/- word.Rank: contract. -/
import Derived.Test.YtjkajepkeepelaaHCheck
import Derived.Outline
import Derived.Test.YtjkajepkeepelaaWWords
set_option linter.unusedVariables false
set_option linter.unusedSimpArgs false
namespace Go.Proofs.Ytjkajepkeepelaa.HRank
open Go.RowKit
open Go.Proofs.Ytjkajepkeepelaa Go.Proofs.Ytjkajepkeepelaa.HCheck

def rk (k : Int) : List UInt8 → Int → Int × Int
  | [], n => (n, 0)
  | c :: cs, n => if (18446744073709551615 - ((c.toNat : Int) - 97 + 1)) / k < n then (0, 11) else rk k cs (n * k + ((c.toNat : Int) - 97 + 1))

theorem drop_cons (s : ByteArray) (p : Nat) (h : p < s.size) : s.data.toList.drop p = s[p] :: s.data.toList.drop (p + 1) := by
  rw [List.drop_eq_getElem_cons (by simpa using h)]
  rfl

theorem good_at {k : Int} {s : ByteArray} (hk1 : 1 ≤ k) (hk2 : k ≤ 8) (hc : chk k s = 0) (p : Nat) (h : p < s.size) : okb k s[p] = true := by
  unfold chk at hc
  rw [if_neg (by omega)] at hc
  by_cases ha : s.data.toList.all (okb k) = true
  · rw [List.all_eq_true] at ha
    exact ha _ (by show s.data[p] ∈ s.data.toList; simp)
  · rw [if_neg ha] at hc
    cases hc

theorem no_wrap {m d k : Int} (hk : 1 ≤ k) (hd : 0 ≤ d) (hd2 : d ≤ 8) (hm : 0 ≤ m) (h : m ≤ (18446744073709551615 - d) / k) :
    0 ≤ m * k + d ∧ m * k + d < 18446744073709551616 ∧ 0 ≤ m * k ∧ m * k < 18446744073709551616 := by
  have h1 : m * k ≤ (18446744073709551615 - d) / k * k := Int.mul_le_mul_of_nonneg_right h (by omega)
  have h2 : (18446744073709551615 - d) / k * k ≤ 18446744073709551615 - d := Int.ediv_mul_le _ (by omega)
  have h3 : 0 ≤ m * k := Int.mul_nonneg hm (by omega)
  omega

theorem u64_in (x : Int) (h0 : 0 ≤ x) (h1 : x < 18446744073709551616) : IntKind.u64.wrap x = x := by
  simp [IntKind.wrap, IntKind.signed, IntKind.bits]
  omega

set_option maxHeartbeats 1000000 in
theorem calls (k : Int) (s : ByteArray) (w : World) (hk1 : 1 ≤ k) (hk2 : k ≤ 8) (hc : chk k s = 0) :
    Calls Try.prog 31 #[.int .i64 k, .string s] w fun e w' => e = .returned (.tuple #[.int .u64 (rk k s.data.toList 0).1, .int .i64 (rk k s.data.toList 0).2]) ∧ Below w.heap.size w w' := by
  have hgood := good_at hk1 hk2 hc
  have HC := Lib.hid hc
  have HG := Lib.hid hgood
  clear hc hgood
  go_enter Try.func31, Try.ntmps31
  go_wp2_with fail
  refine (HCheck.calls _ _ _).mono ?_
  rintro e w1 ⟨rfl, hb1⟩
  rw [HC.out]
  have HB1 := Lib.hid hb1
  clear hb1
  go_wp2_with fail
  go_loopw [7] (fun n w' => ∃ (pos : Nat) (m : Int), w' = w1.iter s pos ∧ n = .int .u64 m ∧ 0 ≤ m ∧ m < 18446744073709551616 ∧ pos ≤ s.size ∧ Hid (rk k (s.data.toList.drop pos) m = rk k s.data.toList 0)) (fun _ w' => s.size - w'.iterPos w1.heap.size)
  case atStart => exact ⟨0, 0, rfl, rfl, by omega, by omega, by omega, by simp [Hid]⟩
  case round =>
    obtain ⟨pos, m, rfl, rfl, hm0, hm1, hps, HR⟩ := hrel
    by_cases hp : pos < s.size
    · have hnx : ∀ ty, (Instr.next (.pointer (some ⟨w1.heap.size, 0, none⟩)) true ty).run Try.prog (w1.iter s pos) = _ := fun ty => run_next_any w1 s pos ty hp
      obtain ⟨e1, g1, g2⟩ := dec_good k s pos hk1 hk2 hp (HG.out pos hp)
      rw [e1] at hnx
      have HD : Hid (rk k s.data.toList 0 = if (18446744073709551615 - (((s[pos]'hp).toNat : Int) - 97 + 1)) / k < m then (0, 11) else rk k (s.data.toList.drop (pos + 1)) (m * k + (((s[pos]'hp).toNat : Int) - 97 + 1))) := by
        rw [← HR.out, drop_cons s pos hp]
        rfl
      clear e1
      have g3 : ((s[pos]'hp).toNat : Int) < 105 := by omega
      by_cases hq : (18446744073709551615 - (((s[pos]'hp).toNat : Int) - 97 + 1)) / k < m
      · have HE : Hid (rk k s.data.toList 0 = (0, 11)) := by rw [HD.out, if_pos hq]; rfl
        go_wp2_with fail
        go_ret2
        rw [HE.out]
        exact ⟨rfl, HB1.out.trans ((below_iter _ _ _).mono HB1.out.size)⟩
      · have HE : Hid (rk k s.data.toList 0 = rk k (s.data.toList.drop (pos + 1)) (m * k + (((s[pos]'hp).toNat : Int) - 97 + 1))) := by rw [HD.out, if_neg hq]; rfl
        obtain ⟨n1, n2, n3, n4⟩ := no_wrap (m := m) (d := ((s[pos]'hp).toNat : Int) - 97 + 1) hk1 (by omega) (by omega) hm0 (by omega)
        have HN := Lib.hid (And.intro n1 (And.intro n2 (And.intro n3 n4)))
        clear n1 n2 n3 n4
        go_wp2_with fail
        go_roundw
        case rel =>
          refine ⟨pos + 1, m * k + (((s[pos]'hp).toNat : Int) - 97 + 1), rfl, ?_, HN.out.1, HN.out.2.1, by omega, ?_⟩
          · rw [u64_in (m * k) HN.out.2.2.1 HN.out.2.2.2, u64_in _ HN.out.1 HN.out.2.1]
          · exact HE.out.symm
        case measure =>
          simp
          omega
    · have hnx : ∀ ty, (Instr.next (.pointer (some ⟨w1.heap.size, 0, none⟩)) true ty).run Try.prog (w1.iter s pos) = _ := fun ty => run_next_end w1 s pos ty hp
      have HE : Hid (rk k s.data.toList 0 = (m, 0)) := by
        rw [← HR.out, List.drop_of_length_le (by simp; omega)]
        rfl
      go_wp2_with fail
      go_ret2
      rw [HE.out]
      exact ⟨rfl, HB1.out.trans ((below_iter _ _ _).mono HB1.out.size)⟩

set_option maxHeartbeats 1000000 in
theorem calls_bad (k : Int) (s : ByteArray) (w : World) (hc : chk k s ≠ 0) :
    Calls Try.prog 31 #[.int .i64 k, .string s] w fun e w' => e = .returned (.tuple #[.int .u64 0, .int .i64 (chk k s)]) ∧ Below w.heap.size w w' := by
  have hn : (chk k s != 0) = true := bne_iff_ne.2 hc
  have hn2 : (chk k s == 0) = false := beq_eq_false_iff_ne.2 hc
  clear hc
  go_enter Try.func31, Try.ntmps31
  go_wp2_with fail
  refine (HCheck.calls _ _ _).mono ?_
  rintro e w1 ⟨rfl, hb1⟩
  have HB1 := Lib.hid hb1
  clear hb1
  go_wp2_with fail
  go_ret2
  exact ⟨rfl, HB1.out⟩

def f (k : Int) (s : ByteArray) : Option (Int × Int) := if chk k s = 0 then some (rk k s.data.toList 0) else some (0, chk k s)
theorem chk_k {k : Int} {s : ByteArray} (h : chk k s = 0) : 1 ≤ k ∧ k ≤ 8 := by
  unfold chk at h
  by_cases hk : k < 1 ∨ 8 < k
  · rw [if_pos hk] at h; cases h
  · omega
theorem all (k : Int) (s : ByteArray) (r1 r2 : Int) (w : World) (h : f k s = some (r1, r2)) :
    Calls Try.prog 31 #[.int .i64 k, .string s] w fun e w' => e = .returned (.tuple #[.int .u64 r1, .int .i64 r2]) ∧ Below w.heap.size w w' := by
  unfold f at h
  by_cases hc : chk k s = 0
  · rw [if_pos hc] at h
    have e := Option.some.inj h
    have := calls k s w (chk_k hc).1 (chk_k hc).2 hc
    rw [e] at this
    exact this
  · rw [if_neg hc] at h
    obtain ⟨rfl, rfl⟩ := Prod.mk.inj (Option.some.inj h)
    exact calls_bad k s w hc
end Go.Proofs.Ytjkajepkeepelaa.HRank
