/- word.Power: contract. -/
import Derived.Test.YtjkajepkeepelaaHCheck
import Derived.Outline
import Derived.Test.YtjkajepkeepelaaWMore
set_option linter.unusedVariables false
set_option linter.unusedSimpArgs false
namespace Go.Proofs.Ytjkajepkeepelaa.HPower
open Go.RowKit Go.Proofs.YtjkajepkeepelaaW.PrintWords Go.Proofs.YtjkajepkeepelaaW.PrintLast Go.Proofs.YtjkajepkeepelaaW.PrintMore
open Go.Proofs.Ytjkajepkeepelaa Go.Proofs.Ytjkajepkeepelaa.HCheck

theorem info5 : (Try.prog.info? 5).map (fun i => (i.zero, i.size, i.bytes)) = some (some (.int .u8 0), 1, 1) := by kernel_rfl
def reps (bs : List Int) : Nat → List Int
  | 0 => []
  | n + 1 => reps bs n ++ bs
theorem reps_len (bs : List Int) : ∀ n, (reps bs n).length = n * bs.length
  | 0 => by simp [reps]
  | n + 1 => by rw [reps, List.length_append, reps_len bs n, Nat.succ_mul]

def f (k : Int) (s : ByteArray) (n : Int) : Option (ByteArray × Int) :=
  if chk k s = 0 then (if n < 0 then some (⟨#[]⟩, 1) else if (s.size : Int) = 0 then some (⟨#[]⟩, 0) else if 4096 / (s.size : Int) < n then some (⟨#[]⟩, 6) else some (strOfNums (reps (bytesOf s) n.toNat), 0)) else some (⟨#[]⟩, chk k s)

set_option maxHeartbeats 1000000 in
theorem short (k : Int) (s : ByteArray) (n : Int) (w : World) (r1 : ByteArray) (r2 : Int) (h : f k s n = some (r1, r2)) (hn : ¬ (chk k s = 0 ∧ ¬ n < 0 ∧ ¬ (s.size : Int) = 0 ∧ ¬ 4096 / (s.size : Int) < n)) :
    Calls Try.prog 29 #[.int .i64 k, .string s, .int .i64 n] w fun e w' => e = .returned (.tuple #[.string r1, .int .i64 r2]) ∧ Below w.heap.size w w' := by
  unfold f at h
  by_cases hc : chk k s = 0
  · rw [if_pos hc] at h
    by_cases h1 : n < 0
    · rw [if_pos h1] at h
      obtain ⟨rfl, rfl⟩ := Prod.mk.inj (Option.some.inj h)
      have HC := Lib.hid hc
      clear hc h hn
      go_enter Try.func29, Try.ntmps29
      go_wp2_with fail
      refine (HCheck.calls _ _ _).mono ?_
      rintro e w1 ⟨rfl, hb1⟩
      rw [HC.out]
      have HB1 := Lib.hid hb1
      clear hb1
      go_wp2_with fail
      go_ret2
      exact ⟨rfl, HB1.out⟩
    · rw [if_neg h1] at h
      by_cases h2 : (s.size : Int) = 0
      · rw [if_pos h2] at h
        obtain ⟨rfl, rfl⟩ := Prod.mk.inj (Option.some.inj h)
        have HC := Lib.hid hc
        have h3 : ¬ 0 < (s.size : Int) := by omega
        have h3' : ¬ 0 < s.size := by omega
        clear hc h hn h2
        have hcv := run_convert_bytes_nil (P := Try.prog) (src := 64) (e := 5)
        go_enter Try.func29, Try.ntmps29
        go_wp2_with fail
        refine (HCheck.calls _ _ _).mono ?_
        rintro e w1 ⟨rfl, hb1⟩
        rw [HC.out]
        have HB1 := Lib.hid hb1
        have hcv1 := hcv w1 Try.underlying64 Try.underlying5 0 0 9 Try.underlying9
        clear hb1 hcv
        go_wp2_with fail
        go_ret2
        exact ⟨rfl, HB1.out⟩
      · rw [if_neg h2] at h
        by_cases h3 : 4096 / (s.size : Int) < n
        · rw [if_pos h3] at h
          obtain ⟨rfl, rfl⟩ := Prod.mk.inj (Option.some.inj h)
          have HC := Lib.hid hc
          have h4 : 0 < (s.size : Int) := by omega
          have h5 : 0 < s.size := by omega
          clear hc h hn h2
          go_enter Try.func29, Try.ntmps29
          go_wp2_with fail
          refine (HCheck.calls _ _ _).mono ?_
          rintro e w1 ⟨rfl, hb1⟩
          rw [HC.out]
          have HB1 := Lib.hid hb1
          clear hb1
          go_wp2_with fail
          go_ret2
          exact ⟨rfl, HB1.out⟩
        · exact absurd ⟨hc, h1, h2, h3⟩ hn
  · rw [if_neg hc] at h
    obtain ⟨rfl, rfl⟩ := Prod.mk.inj (Option.some.inj h)
    have hn : (chk k s != 0) = true := bne_iff_ne.2 hc
    have hn2 : (chk k s == 0) = false := beq_eq_false_iff_ne.2 hc
    clear hc h
    go_enter Try.func29, Try.ntmps29
    go_wp2_with fail
    refine (HCheck.calls _ _ _).mono ?_
    rintro e w1 ⟨rfl, hb1⟩
    have HB1 := Lib.hid hb1
    clear hb1
    go_wp2_with fail
    go_ret2
    exact ⟨rfl, HB1.out⟩

theorem fit {s n : Nat} (h : ¬ 4096 / (s : Int) < (n : Int)) (hs : 0 < s) : n * s ≤ 4096 := by
  have h1 : (n : Int) ≤ 4096 / (s : Int) := by omega
  have h2 : (n : Int) * s ≤ 4096 / (s : Int) * s := Int.mul_le_mul_of_nonneg_right h1 (by omega)
  have h3 : 4096 / (s : Int) * s ≤ 4096 := Int.ediv_mul_le _ (by omega)
  have h4 : ((n * s : Nat) : Int) = (n : Int) * s := by simp
  omega

set_option maxHeartbeats 1000000 in
theorem long (k : Int) (s : ByteArray) (n : Nat) (w : World) (hc : chk k s = 0) (h0 : 0 < s.size) (hf : ¬ 4096 / (s.size : Int) < (n : Int)) :
    Calls Try.prog 29 #[.int .i64 k, .string s, .int .i64 (n : Int)] w fun e w' => e = .returned (.tuple #[.string (strOfNums (reps (bytesOf s) n)), .int .i64 0]) ∧ Below w.heap.size w w' := by
  have hns := fit hf h0
  have hn : n ≤ 4096 := Nat.le_trans (Nat.le_mul_of_pos_right _ h0) hns
  have hs : s.size ≤ 4096 ∨ n = 0 := by
    rcases Nat.eq_zero_or_pos n with e | e
    · exact .inr e
    · exact .inl (Nat.le_trans (Nat.le_mul_of_pos_left _ e) hns)
  have h0' : 0 < (s.size : Int) := by omega
  have hn0 : ¬ (n : Int) < 0 := by omega
  have HC := Lib.hid hc
  have HNS := Lib.hid hns
  have HS := Lib.hid hs
  clear hc hns hs
  go_enter Try.func29, Try.ntmps29
  go_wp2_with fail
  refine (HCheck.calls _ _ _).mono ?_
  rintro e w1 ⟨rfl, hb1⟩
  rw [HC.out]
  have HB1 := Lib.hid hb1
  clear hb1
  go_wp2_with fail
  go_loopw [9, 32] (fun v i wr => ∃ j : Nat, j ≤ n ∧ i = .int .i64 j ∧ Hid (Kd.R (Kd.int .u8) 5 wr w.heap.size (fun _ => True) v (reps (bytesOf s) j)) ∧ Hid (Below w.heap.size w wr)) (fun _ i _ => n - (intOf i).toNat)
  case atStart => exact ⟨0, by omega, rfl, Kd.R_nil _ _ _ _ _, HB1.out⟩
  case round =>
    obtain ⟨j, hj, rfl, HR, HB⟩ := hrel
    have hsz := HB.out.size
    by_cases hlt : j < n
    · have hl : (reps (bytesOf s) j).length + s.size ≤ 140737488355328 := by
        rw [reps_len, bytesOf_length]
        have := HNS.out
        have h3 : (j + 1) * s.size ≤ n * s.size := Nat.mul_le_mul_right _ (by omega)
        rw [Nat.succ_mul] at h3
        omega
      go_wp2_with (first | ((with_reducible refine gate_builtin (b := .append) (xs := #[.tmp 34, .tmp 35]) rfl ?_); at_builtin; refine print_append_str (w0 := w) w.heap.size rfl (.tmp 34) (.tmp 35) 64 9 5 rfl Try.underlying64 Try.underlying9 info5 _ (reps (bytesOf s) j) s rfl rfl (Kd.own_of_R HR.out) HB.out hsz hl ?_; intro v1 w2 ho hb hg; have HO2 := Lib.hid ho; have HB2 := Lib.hid hb; clear ho hb hg))
      go_roundw
      case rel => exact ⟨j + 1, by omega, by go_num, Kd.R_of_own (by exact HO2.out) (fun _ _ => trivial), HB2.out⟩
      case measure => simp [intOf]; omega
    · have hcv9 := own_string (P := Try.prog) Try.underlying64 Try.underlying5 Try.underlying9 (Kd.own_of_R HR.out)
      obtain rfl : j = n := by omega
      go_wp2_with fail
      go_ret2
      exact ⟨rfl, HB.out⟩

theorem all (k : Int) (s : ByteArray) (n : Int) (r1 : ByteArray) (r2 : Int) (w : World) (h : f k s n = some (r1, r2)) :
    Calls Try.prog 29 #[.int .i64 k, .string s, .int .i64 n] w fun e w' => e = .returned (.tuple #[.string r1, .int .i64 r2]) ∧ Below w.heap.size w w' := by
  by_cases hn : chk k s = 0 ∧ ¬ n < 0 ∧ ¬ (s.size : Int) = 0 ∧ ¬ 4096 / (s.size : Int) < n
  · obtain ⟨h1, h2, h3, h4⟩ := hn
    unfold f at h
    rw [if_pos h1, if_neg h2, if_neg h3, if_neg h4] at h
    obtain ⟨rfl, rfl⟩ := Prod.mk.inj (Option.some.inj h)
    obtain ⟨m, rfl⟩ := Int.eq_ofNat_of_zero_le (show 0 ≤ n by omega)
    rw [Int.toNat_natCast]
    exact long k s m w h1 (by omega) h4
  · exact short k s n w r1 r2 h hn
end Go.Proofs.Ytjkajepkeepelaa.HPower
