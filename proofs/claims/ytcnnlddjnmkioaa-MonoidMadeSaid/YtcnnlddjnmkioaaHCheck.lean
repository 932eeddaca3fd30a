/- word.Check: contract of the program's check of a word over k letters. -/
import Derived.Test.YtcnnlddjnmkioaaProg
import Derived.Below
import Derived.WalkKit
import Derived.KernelRfl
import Derived.RowKit3
import Derived.Deep.LoopGhost
import Derived.Laws.RangeAny
import Derived.Laws.RangeString
import Derived.WideLaws
import Derived.RowKit
import Derived.Lib.Hide
set_option linter.unusedVariables false
set_option linter.unusedSimpArgs false
namespace Go.Proofs.Ytcnnlddjnmkioaa.HCheck
open Go.RowKit

/-- A byte of a word over k letters. -/
def okb (k : Int) (b : UInt8) : Bool := decide (97 ≤ (b.toNat : Int)) && decide ((b.toNat : Int) < 97 + k)
def chk (k : Int) (s : ByteArray) : Int := if k < 1 ∨ 8 < k then 20 else if s.data.toList.all (okb k) then 0 else 21

theorem below_iter (w : World) (s : ByteArray) (p : Nat) : Below w.heap.size w (w.iter s p) := (Below.refl w.heap.size w).alloc (Nat.le_refl _) _

theorem all_take_succ (f : UInt8 → Bool) (s : ByteArray) (p : Nat) (h : p < s.size) (ha : (s.data.toList.take p).all f = true) (hf : f s[p] = true) : (s.data.toList.take (p + 1)).all f = true := by
  rw [List.take_succ_eq_append_getElem (by simpa using h), List.all_append, ha]
  have hf' : f s.data[p] = true := hf
  simpa using hf'

theorem not_all (f : UInt8 → Bool) (s : ByteArray) (p : Nat) (h : p < s.size) (hf : f s[p] = false) : s.data.toList.all f = false := by
  rw [Bool.eq_false_iff]
  intro hall
  rw [List.all_eq_true] at hall
  have := hall s[p] (by
    show s.data[p] ∈ s.data.toList
    simp)
  rw [hf] at this
  cases this

set_option maxHeartbeats 1000000 in
theorem bad_k (k : Int) (s : ByteArray) (w : World) (h : k < 1 ∨ 8 < k) :
    Calls Try.prog 54 #[.int .i64 k, .string s] w fun e w' => e = .returned (.int .i64 20) ∧ Below w.heap.size w w' := by
  by_cases h1 : k < 1
  · go_enter Try.func54, Try.ntmps54
    go_wp2
    go_ret
    exact ⟨rfl, Below.refl _ _⟩
  · have h2 : 8 < k := by omega
    go_enter Try.func54, Try.ntmps54
    go_wp2
    go_ret
    exact ⟨rfl, Below.refl _ _⟩

theorem dec_bad (k : Int) (s : ByteArray) (pos : Nat) (h1 : 1 ≤ k) (h2 : k ≤ 8) (h : pos < s.size) (hb : okb k s[pos] = false) : ((Utf8.decode s pos).1 : Int) < 97 ∨ 97 + k ≤ ((Utf8.decode s pos).1 : Int) := by
  by_cases ha : (s[pos]'h).toNat < 128
  · rw [decode_ascii s pos h ha]
    simp only [okb, Bool.and_eq_false_iff, decide_eq_false_iff_not] at hb
    omega
  · have := (decode_high s pos h (by omega)).1
    omega

theorem dec_good (k : Int) (s : ByteArray) (pos : Nat) (h1 : 1 ≤ k) (h2 : k ≤ 8) (h : pos < s.size) (hb : okb k s[pos] = true) : Utf8.decode s pos = ((s[pos]'h).toNat, 1) ∧ 97 ≤ ((s[pos]'h).toNat : Int) ∧ ((s[pos]'h).toNat : Int) < 97 + k := by
  simp only [okb, Bool.and_eq_true, decide_eq_true_eq] at hb
  exact ⟨decode_ascii s pos h (by omega), hb.1, hb.2⟩

set_option maxHeartbeats 1000000 in
theorem calls (k : Int) (s : ByteArray) (w : World) :
    Calls Try.prog 54 #[.int .i64 k, .string s] w fun e w' => e = .returned (.int .i64 (chk k s)) ∧ Below w.heap.size w w' := by
  by_cases hk : k < 1 ∨ 8 < k
  · have e : chk k s = 20 := by unfold chk; rw [if_pos hk]
    rw [e]
    exact bad_k k s w hk
  have h1 : 1 ≤ k := by omega
  have h2 : k ≤ 8 := by omega
  have HE := Lib.hid (show chk k s = if s.data.toList.all (okb k) then 0 else 21 by unfold chk; rw [if_neg hk])
  clear hk
  go_enter Try.func54, Try.ntmps54
  go_wp2
  go_loopw [6] (fun c w' => ∃ pos : Nat, w' = w.iter s pos ∧ (s.data.toList.take pos).all (okb k) = true ∧ pos ≤ s.size) (fun _ w' => s.size - w'.iterPos w.heap.size)
  case atStart => exact ⟨0, rfl, by simp, by omega⟩
  case round =>
    obtain ⟨pos, rfl, hall, hps⟩ := hrel
    have HA := Lib.hid hall
    clear hall
    by_cases hp : pos < s.size
    · have hnx : ∀ ty, (Instr.next (.pointer (some ⟨w.heap.size, 0, none⟩)) true ty).run Try.prog (w.iter s pos) = _ := fun ty => run_next_any w s pos ty hp
      cases hb : okb k s[pos]
      · have HB := Lib.hid hb
        rcases dec_bad k s pos h1 h2 hp hb with hd | hd
        all_goals
          clear hb
          go_wp2
          go_ret
          refine ⟨?_, below_iter _ _ _⟩
          rw [HE.out, not_all _ s pos hp HB.out]
          rfl
      · obtain ⟨e1, g1, g2⟩ := dec_good k s pos h1 h2 hp hb
        have HB := Lib.hid hb
        clear hb
        rw [e1] at hnx
        clear e1
        go_wp2
        go_roundw
        case rel => exact ⟨pos + 1, rfl, all_take_succ _ s pos hp HA.out HB.out, by omega⟩
        case measure =>
          simp
          omega
    · have hnx : ∀ ty, (Instr.next (.pointer (some ⟨w.heap.size, 0, none⟩)) true ty).run Try.prog (w.iter s pos) = _ := fun ty => run_next_end w s pos ty hp
      go_wp2
      go_ret
      refine ⟨?_, below_iter _ _ _⟩
      have := HA.out
      rw [List.take_of_length_le (by simp; omega)] at this
      rw [HE.out, this]
      rfl
end Go.Proofs.Ytcnnlddjnmkioaa.HCheck
