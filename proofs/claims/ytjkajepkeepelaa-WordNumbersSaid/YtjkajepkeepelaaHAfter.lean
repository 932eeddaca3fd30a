/- eggboxref01.After: contract. -/
import Derived.Test.YtjkajepkeepelaaHNext
set_option linter.unusedVariables false
set_option linter.unusedSimpArgs false
namespace Go.Proofs.Ytjkajepkeepelaa.HAfter
open Go.RowKit Go.Proofs.YtjkajepkeepelaaW.PrintWords Go.Proofs.YtjkajepkeepelaaW.PrintLast Go.Proofs.YtjkajepkeepelaaW.PrintMore
open Go.Proofs.Ytjkajepkeepelaa Go.Proofs.Ytjkajepkeepelaa.HCheck Go.Proofs.Ytjkajepkeepelaa.HNext

def aft (k : Int) (xs : List Int) : Nat → List Int × Int
  | 0 => (xs, -1)
  | i + 1 => if (rd xs (i : Int) - 97) % 256 = k - 1 then aft k (xs.set i 97) i else (xs, (i : Int))
def res (r : List Int × Int) : ByteArray := if r.2 < 0 then (⟨#[97]⟩ : ByteArray) ++ strOfNums r.1 else strOfNums (r.1.set r.2.toNat ((rd r.1 r.2 + 1) % 256))
def f (k : Int) (s : ByteArray) : Option ByteArray :=
  if 1 ≤ k ∧ k ≤ 8 ∧ s.size ≤ 140737488351232 then some (res (aft k (bytesOf s) s.size)) else none

set_option maxHeartbeats 1000000 in
set_option maxRecDepth 100000 in
theorem good (k : Int) (s : ByteArray) (w : World) (hk1 : 1 ≤ k) (hk2 : k ≤ 8) (hs : s.size ≤ 140737488351232) :
    Calls Try.prog 47 #[.int .i64 k, .string s] w fun e w' => e = .returned (.string (res (aft k (bytesOf s) s.size))) ∧ Below w.heap.size w w' := by
  have hl := bytesOf_length s
  have HL := Lib.hid hl
  clear hl
  have hcv := Lib.run_convert_string_bytes (P := Try.prog) w 9 64 5 s Try.underlying9 Try.underlying64 Try.underlying5
  have HW2 := Lib.hid (And.intro (brow_made w s) (below_bytes w s))
  have hz := Lib.bytesWorld_size w 5 s
  obtain ⟨W2, hW2⟩ : ∃ W, Lib.bytesWorld w 5 s = W := ⟨_, rfl⟩
  obtain ⟨c, hcc⟩ : ∃ c, grownCap w s.size 0 5 = c := ⟨_, rfl⟩
  rw [hW2, hcc] at hcv
  rw [hW2, hcc] at HW2
  rw [hW2] at hz
  have hz2 : w.heap.size < W2.heap.size := by omega
  clear hW2 hcc hz
  go_enter Try.func47, Try.ntmps47
  go_wp2_with fail
  go_loopw [6] (fun i wr => ∃ (x : Int) (xs : List Int), i = .int .i64 x ∧ -1 ≤ x ∧ x < (s.size : Int) ∧ Hid (xs.length = s.size) ∧ Hid (BRow wr w.heap.size c xs) ∧ Hid (Below w.heap.size w wr) ∧ W2.heap.size ≤ wr.heap.size ∧ Hid (aft k xs (x + 1).toNat = aft k (bytesOf s) s.size)) (fun i wr => (intOf i + 1).toNat)
  case atStart => exact ⟨_, bytesOf s, rfl, by omega, by omega, HL.out, HW2.out.1, HW2.out.2, by omega, by rw [show ((s.size : Int) - 1 + 1).toNat = s.size by omega]; rfl⟩
  case round =>
    obtain ⟨x, xs, rfl, hx1, hx2, HXL, HBR, HBL, hwz, HCA⟩ := hrel
    by_cases hx : 0 ≤ x
    · obtain ⟨j, rfl⟩ := Int.eq_ofNat_of_zero_le hx
      have hj : j < s.size := by omega
      have hcell := HBR.out.cell j (by rw [HXL.out]; exact hj)
      have hfr := HBR.out.free j (by have := HBR.out.len; rw [HXL.out] at this; omega)
      have HS : Hid (aft k xs (j + 1) = if (rd xs (j : Int) - 97) % 256 = k - 1 then aft k (xs.set j 97) j else (xs, (j : Int))) := rfl
      by_cases he : (rd xs (j : Int) - 97) % 256 = k - 1
      · have HS2 : Hid (aft k (xs.set j 97) j = aft k (bytesOf s) s.size) := by
          have := HCA.out
          rw [show ((j : Int) + 1).toNat = j + 1 by omega, HS.out, if_pos he] at this
          exact this
        have he2 : ((rd xs (j : Int) - 97) % 256 == k - 1) = true := beq_iff_eq.2 he
        generalize rd xs (j : Int) = q at *
        clear he
        go_wp2_with fail
        go_roundw
        case rel =>
          exact ⟨_, xs.set j 97, rfl, by omega, by omega, by simpa [Hid] using HXL.out, HBR.out.set j (by rw [HXL.out]; exact hj) 97, HBL.out.setCell (by show w.heap.size ≤ w.heap.size; omega) _, by simpa [World.setCell] using hwz, by rw [show ((j : Int) - 1 + 1).toNat = j by omega]; exact HS2.out⟩
        case measure => simp [intOf]
      · have HS2 : Hid (res (aft k (bytesOf s) s.size) = strOfNums (xs.set j ((rd xs (j : Int) + 1) % 256))) := by
          have := HCA.out
          rw [show ((j : Int) + 1).toNat = j + 1 by omega, HS.out, if_neg he] at this
          rw [← this]
          unfold res
          rw [if_neg (by omega)]
          rfl
        have he2 : ((rd xs (j : Int) - 97) % 256 == k - 1) = false := beq_eq_false_iff_ne.2 he
        have HBR2 := Lib.hid (HBR.out.set j (by rw [HXL.out]; exact hj) ((rd xs (j : Int) + 1) % 256))
        have HBL2 : Hid (Below w.heap.size w (wr.setCell ⟨w.heap.size, j, none⟩ (.int .u8 ((rd xs (j : Int) + 1) % 256)))) := HBL.out.setCell (by show w.heap.size ≤ w.heap.size; omega) _
        have hcv9 := string_of_reads (P := Try.prog) (c := c) Try.underlying64 Try.underlying5 Try.underlying9 (HBR2.out.reads (by simp only [List.length_set]; rw [HXL.out]; omega))
        rw [List.length_set, HXL.out] at hcv9
        generalize rd xs (j : Int) = q at *
        clear he
        go_wp2_with fail
        go_ret
        rw [HS2.out]
        exact ⟨rfl, HBL2.out⟩
    · have hx3 : x = -1 := by omega
      subst hx3
      have HS2 : Hid (res (aft k (bytesOf s) s.size) = (⟨#[97]⟩ : ByteArray) ++ strOfNums xs) := by
        have := HCA.out
        rw [show ((-1 : Int) + 1).toNat = 0 from rfl] at this
        rw [← this]
        simp [aft, res, Hid]
      have hcv9 := string_of_reads (P := Try.prog) (c := c) Try.underlying64 Try.underlying5 Try.underlying9 (HBR.out.reads (by rw [HXL.out]; omega))
      have hsz : (strOfNums xs).size = s.size := by rw [strOfNums_size, HXL.out]
      rw [HXL.out] at hcv9
      obtain ⟨z, hz⟩ : ∃ z, strOfNums xs = z := ⟨_, rfl⟩
      rw [hz] at hcv9 HS2 hsz
      have hsz2 : z.size ≤ 140737488351232 := by omega
      clear hz hsz
      go_wp2_with fail
      go_ret
      rw [HS2.out]
      exact ⟨rfl, HBL.out⟩

theorem all (k : Int) (s r : ByteArray) (w : World) (h : f k s = some r) :
    Calls Try.prog 47 #[.int .i64 k, .string s] w fun e w' => e = .returned (.string r) ∧ Below w.heap.size w w' := by
  unfold f at h
  by_cases hc : 1 ≤ k ∧ k ≤ 8 ∧ s.size ≤ 140737488351232
  · rw [if_pos hc] at h
    obtain rfl := Option.some.inj h
    exact good k s w hc.1 hc.2.1 hc.2.2
  · rw [if_neg hc] at h; cases h
end Go.Proofs.Ytjkajepkeepelaa.HAfter
