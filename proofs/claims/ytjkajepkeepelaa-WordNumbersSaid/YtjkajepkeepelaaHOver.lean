/- Words made of any text by the statements' own 'over'; what 'knows' tells. -/
import Derived.Test.YtjkajepkeepelaaHBord
set_option linter.unusedVariables false
set_option linter.unusedSimpArgs false
namespace Go.Proofs.Ytjkajepkeepelaa.HOver
open Go.RowKit Go.Proofs.YtjkajepkeepelaaW.PrintWords Go.Proofs.YtjkajepkeepelaaW.PrintLast Go.Proofs.YtjkajepkeepelaaW.PrintMore
open Go.Proofs.Ytjkajepkeepelaa Go.Proofs.Ytjkajepkeepelaa.HMath Go.Proofs.Ytjkajepkeepelaa.HBord

theorem strOf_size (l : List Int) : (strOfNums l).size = l.length := by simp [strOfNums, ByteArray.size]
theorem strOf_bytes (l : List Int) : (strOfNums l).data.toList = l.map (fun n => UInt8.ofNat n.toNat) := by simp [strOfNums]

theorem letters_ok (k : Int) : 1 ≤ wrap64 (1 + (Int.tmod (wrap64 ((Int.tmod k 8) + 8)) 8)) ∧ wrap64 (1 + (Int.tmod (wrap64 ((Int.tmod k 8) + 8)) 8)) ≤ 8 := by
  unfold wrap64
  have h1 := Int.tmod_lt_of_pos k (show (0 : Int) < 8 by decide)
  have h2 : -8 < Int.tmod k 8 := by
    by_cases h : 0 ≤ k
    · rw [Int.tmod_eq_emod_of_nonneg h]; omega
    · have e : k = -(-k) := by omega
      rw [e, Int.neg_tmod, Int.tmod_eq_emod_of_nonneg (by omega)]; omega
  generalize Int.tmod k 8 = r at *
  have e : (r + 8 + 9223372036854775808) % 18446744073709551616 - 9223372036854775808 = r + 8 := by omega
  rw [e, Int.tmod_eq_emod_of_nonneg (by omega)]
  omega

theorem over_loop (k : Int) (h1 : 1 ≤ k) (h8 : k ≤ 8) (s : ByteArray) (hs : s.size ≤ 140737488351232) : ∀ (d i : Nat) (l : List Int), s.size - i ≤ d → l.length = i → i ≤ s.size → (∀ x, x ∈ l → 97 ≤ x ∧ x < 97 + k) →
    ∃ l', Ev (fun n => PA.eggboxlaw01_over.l0 n k s l (i : Int)) (strOfNums l') ∧ l'.length = s.size ∧ ∀ x, x ∈ l' → 97 ≤ x ∧ x < 97 + k := by
  intro d
  induction d with
  | zero =>
    intro i l hd hl hi hx
    refine ⟨l, Ev.step (f := fun _ => some (strOfNums l)) (fun n => ?_) (Ev.now _), by omega, hx⟩
    simp only [PA.eggboxlaw01_over.l0]
    rw [if_neg (by omega)]
  | succ d ih =>
    intro i l hd hl hi hx
    by_cases hlt : i < s.size
    · have hb := bt_range s (i : Int)
      have e1 : wrap64 (bt s (i : Int)) = bt s (i : Int) := w64 (by omega) (by omega)
      have hm : Int.tmod (bt s (i : Int)) k = (bt s (i : Int)) % k := Int.tmod_eq_emod_of_nonneg hb.1
      have m1 := Int.emod_nonneg (bt s (i : Int)) (show k ≠ 0 by omega)
      have m2 := Int.emod_lt_of_pos (bt s (i : Int)) (show 0 < k by omega)
      have e3 : (97 + (bt s (i : Int)) % k) % 256 = 97 + (bt s (i : Int)) % k := by omega
      obtain ⟨l', hr, a, b⟩ := ih (i + 1) (l ++ [97 + (bt s (i : Int)) % k]) (by omega) (by simp [hl]) (by omega) (fun x hx' => by
        rcases List.mem_append.1 hx' with h | h
        · exact hx x h
        · rw [List.mem_singleton.1 h]; omega)
      refine ⟨l', Ev.step (f := fun n => PA.eggboxlaw01_over.l0 n k s (l ++ [97 + (bt s (i : Int)) % k]) ((i + 1 : Nat) : Int)) (fun n => ?_) hr, a, b⟩
      simp only [PA.eggboxlaw01_over.l0]
      rw [if_pos (by omega), if_pos (by omega), if_neg (by omega), if_pos (by omega), e1, hm, e3, w64 (by omega) (by omega)]
      rfl
    · exact ih i l (by omega) hl hi hx

theorem chk_ok {k : Int} {s : ByteArray} (h1 : 1 ≤ k) (h8 : k ≤ 8) (h : ∀ b, b ∈ s.data.toList → 97 ≤ (b.toNat : Int) ∧ (b.toNat : Int) < 97 + k) : HCheck.chk k s = 0 := by
  unfold HCheck.chk
  rw [if_neg (by omega), if_pos]
  rw [List.all_eq_true]
  intro b hb
  have := h b hb
  simp [HCheck.okb, this.1, this.2]

theorem over_ok (k : Int) (h1 : 1 ≤ k) (h8 : k ≤ 8) (s : ByteArray) (hs : s.size ≤ 140737488351232) : ∃ w, Ev (fun n => PA.eggboxlaw01_over.f n k s) w ∧ w.size = s.size ∧ HCheck.chk k w = 0 := by
  obtain ⟨l, hr, a, b⟩ := over_loop k h1 h8 s hs s.size 0 [] (by omega) rfl (by omega) (by simp)
  refine ⟨strOfNums l, hr, by rw [strOf_size, a], chk_ok h1 h8 (fun x hx => ?_)⟩
  rw [strOf_bytes, List.mem_map] at hx
  obtain ⟨n, hn, rfl⟩ := hx
  have := b n hn
  have e : (UInt8.ofNat n.toNat).toNat = n.toNat := by
    rw [UInt8.toNat_ofNat']
    omega
  rw [e]
  omega
end Go.Proofs.Ytjkajepkeepelaa.HOver
