/- terms.used: contract: which of the four names a side holds. -/
import Derived.Test.YtcbkihhpnndpkaaQ4
import Derived.Outline
import Derived.Deep.CutBlock
import Derived.Deep.DeepCutAuto
import Derived.Deep.RegionHeld3
set_option linter.unusedVariables false
set_option linter.unusedSimpArgs false
namespace Go.Proofs.Ytcbkihhpnndpkaa.HUsed
open Go.RowKit Go.Proofs.YtcbkihhpnndpkaaW.PrintWords Go.Proofs.YtcbkihhpnndpkaaW.PrintLast Go.Proofs.YtcbkihhpnndpkaaW.PrintMore
open Go.Proofs.Ytcbkihhpnndpkaa Go.Proofs.Ytcbkihhpnndpkaa.PA Go.Proofs.Ytcbkihhpnndpkaa.HSpell

/-- Does a side hold the name c? -/
def has (l : List S97) (c : Int) : Bool := l.any (fun s => decide (s.f0 = 2) && decide (s.f1 = c))
theorem has_snoc (l : List S97) (s : S97) (c : Int) : has (l ++ [s]) c = (has l c || (decide (s.f0 = 2) && decide (s.f1 = c))) := by simp [has]
/-- The four answers. -/
abbrev four (l : List S97) : Array Value := #[.bool (has l 120), .bool (has l 121), .bool (has l 122), .bool (has l 116)]
def Named (l : List S97) : Prop := ∀ s ∈ l, s.f0 = 2 → isName s.f1 = true

theorem idx (c j : Int) (h : Lib.indexByte (⟨#[120, 121, 122, 116]⟩ : ByteArray).data.toList c.toNat.toUInt8 = j) (w : World) :
 Calls Try.prog 56 #[.string ⟨#[120, 121, 122, 116]⟩, .int .u8 c] w fun e w' => e = .returned (.int .i64 j) ∧ w' = w :=
 (Try.strings_IndexByte _ c w).mono (fun e w' h' => ⟨by rw [← h]; exact h'.1, h'.2⟩)
set_option maxHeartbeats 1000000 in
set_option maxRecDepth 100000 in
theorem used_calls (w : World) (A0 : Option Addr) (c0 : Nat) (l : List S97) (hl : Kd.C k97 w A0 l.length l) (hc : l.length ≤ c0) (hn : Named l) :
 Calls Try.prog 48 #[.slice A0 l.length c0] w fun e w' => e = .returned (.agg (four l)) ∧ Below w.heap.size w w' := by
 have HC := Aside0.mk hl
 have HN := Aside0.mk hn
 have hmx : (l.length : Int) ≤ 9223372036854775807 := by have := Kd.C_max hl; omega
 clear hl hn
 go_enter Try.func48, Try.ntmps48
 go_wp2_with fail
 go_loopw [8] (fun v8 wr => ∃ i : Nat, v8 = .int .i64 i ∧ i ≤ l.length ∧ Aside0 (wr.heap[w.heap.size + 1]? = some (.cells (four (l.take i)) 100 (0, 0))) ∧ Aside0 (wr.heap[w.heap.size]? = some (.cells #[.bool false, .bool false, .bool false, .bool false] 100 (0, 0))) ∧ Aside0 (Below w.heap.size w wr)) (fun v8 _ => l.length - (intOf v8).toNat)
 case atStart => exact ⟨0, rfl, Nat.zero_le _, ⟨by have := blk_new (w.alloc (.cells #[.bool false, .bool false, .bool false, .bool false] 100)) (.cells #[.bool false, .bool false, .bool false, .bool false] 100); rw [show four (l.take 0) = #[.bool false, .bool false, .bool false, .bool false] by simp [four, has]]; simpa using this⟩, ⟨blk_alloc (blk_new w _) _⟩, ⟨below_alloc (below_alloc (Below.refl _ _) _) _⟩⟩
 case round =>
  obtain ⟨i, rfl, hi, H1, H2, HB⟩ := hrel
  by_cases hlt : i < l.length
  · obtain ⟨ad, he, hx0, hx1⟩ := at_T97 (Kd.C_below HC.out HB.out) (i : Int) (by omega) (by omega)
    obtain rfl := he
    rw [Int.toNat_natCast] at hx0 hx1
    have hs : l.take (i + 1) = l.take i ++ [rd_T97 l i] := by
     rw [List.take_succ_eq_append_getElem hlt]
     simp [rd_T97, hlt]
    have hm : rd_T97 l i ∈ l := by
     simp [rd_T97, hlt]
    have hnm := HN.out _ hm
    clear hm
    generalize rd_T97 l i = s at *
    have HS := Aside0.mk hs
    clear hs
    have p1 : (0 ≤ (i : Int)) = True := eq_true (by omega)
    have q1 : ((i : Int) < (l.length : Int)) = True := eq_true (by omega)
    by_cases k2 : s.f0 = 2
    · have e2 : (s.f0 == 2) = true := beq_iff_eq.mpr k2
      have hnm := hnm k2
      have HK := Aside0.mk k2
      clear k2
      simp only [isName, decide_eq_true_eq] at hnm
      have K0 := blk_alloc H1.out (.cells #[.int .i64 s.f0, .int .u8 s.f1] 97)
      have K2 := Aside0.mk (blk_alloc H2.out (.cells #[.int .i64 s.f0, .int .u8 s.f1] 97))
      have KB := Aside0.mk (below_alloc HB.out (.cells #[.int .i64 s.f0, .int .u8 s.f1] 97))
      have KL := Aside0.mk (show w.heap.size ≤ w.heap.size + 1 by omega)
      have r0 : (wr.alloc (.cells #[.int .i64 s.f0, .int .u8 s.f1] 97)).cell? ⟨w.heap.size + 1, 0, none⟩ = some (.bool (has (l.take i) 120)) := (blk_cell K0 0).trans rfl
      have r1 : (wr.alloc (.cells #[.int .i64 s.f0, .int .u8 s.f1] 97)).cell? ⟨w.heap.size + 1, 1, none⟩ = some (.bool (has (l.take i) 121)) := (blk_cell K0 1).trans rfl
      have r2 : (wr.alloc (.cells #[.int .i64 s.f0, .int .u8 s.f1] 97)).cell? ⟨w.heap.size + 1, 2, none⟩ = some (.bool (has (l.take i) 122)) := (blk_cell K0 2).trans rfl
      have r3 : (wr.alloc (.cells #[.int .i64 s.f0, .int .u8 s.f1] 97)).cell? ⟨w.heap.size + 1, 3, none⟩ = some (.bool (has (l.take i) 116)) := (blk_cell K0 3).trans rfl
      have z0 := blk_frozen K0 0
      have z1 := blk_frozen K0 1
      have z2 := blk_frozen K0 2
      have z3 := blk_frozen K0 3
      have K0 := Aside0.mk K0
      rcases hnm with h1 | h1 | h1 | h1
      · rw [h1] at hx1 K0 K2 KB r0 r1 r2 r3 z0 z1 z2 z3
        have HF : Aside0 (four (l.take (i + 1)) = (four (l.take i)).setIfInBounds 0 (.bool true)) := ⟨by simp [four, HS.out, has_snoc, HK.out, h1]⟩
        clear h1
        go_wp2_with fail
        refine (idx 120 0 rfl _).mono ?_
        rintro e w2 ⟨rfl, rfl⟩
        go_wp2_with fail
        have Z1 := Aside0.mk (blk_put K0.out 0 (.bool true) rfl)
        have Z2 : Aside0 (((wr.alloc (.cells #[.int .i64 s.f0, .int .u8 120] 97)).setCell ⟨w.heap.size + 1, 0, none⟩ (.bool true)).heap[w.heap.size]? = some (.cells #[.bool false, .bool false, .bool false, .bool false] 100 (0, 0))) := ⟨(Below.heap_setCell _ _ _ _ (by simp)).trans K2.out⟩
        have Z3 := Aside0.mk (below_set (j := 0) (v := .bool true) KB.out KL.out)
        go_roundw
        case rel => exact ⟨i + 1, by go_num, by omega, ⟨by rw [HF.out]; exact Z1.out⟩, Z2, Z3⟩
        case measure => simp [intOf]; omega
      · rw [h1] at hx1 K0 K2 KB r0 r1 r2 r3 z0 z1 z2 z3
        have HF : Aside0 (four (l.take (i + 1)) = (four (l.take i)).setIfInBounds 1 (.bool true)) := ⟨by simp [four, HS.out, has_snoc, HK.out, h1]⟩
        clear h1
        go_wp2_with fail
        refine (idx 121 1 rfl _).mono ?_
        rintro e w2 ⟨rfl, rfl⟩
        go_wp2_with fail
        have Z1 := Aside0.mk (blk_put K0.out 1 (.bool true) rfl)
        have Z2 : Aside0 (((wr.alloc (.cells #[.int .i64 s.f0, .int .u8 121] 97)).setCell ⟨w.heap.size + 1, 1, none⟩ (.bool true)).heap[w.heap.size]? = some (.cells #[.bool false, .bool false, .bool false, .bool false] 100 (0, 0))) := ⟨(Below.heap_setCell _ _ _ _ (by simp)).trans K2.out⟩
        have Z3 := Aside0.mk (below_set (j := 1) (v := .bool true) KB.out KL.out)
        go_roundw
        case rel => exact ⟨i + 1, by go_num, by omega, ⟨by rw [HF.out]; exact Z1.out⟩, Z2, Z3⟩
        case measure => simp [intOf]; omega
      · rw [h1] at hx1 K0 K2 KB r0 r1 r2 r3 z0 z1 z2 z3
        have HF : Aside0 (four (l.take (i + 1)) = (four (l.take i)).setIfInBounds 2 (.bool true)) := ⟨by simp [four, HS.out, has_snoc, HK.out, h1]⟩
        clear h1
        go_wp2_with fail
        refine (idx 122 2 rfl _).mono ?_
        rintro e w2 ⟨rfl, rfl⟩
        go_wp2_with fail
        have Z1 := Aside0.mk (blk_put K0.out 2 (.bool true) rfl)
        have Z2 : Aside0 (((wr.alloc (.cells #[.int .i64 s.f0, .int .u8 122] 97)).setCell ⟨w.heap.size + 1, 2, none⟩ (.bool true)).heap[w.heap.size]? = some (.cells #[.bool false, .bool false, .bool false, .bool false] 100 (0, 0))) := ⟨(Below.heap_setCell _ _ _ _ (by simp)).trans K2.out⟩
        have Z3 := Aside0.mk (below_set (j := 2) (v := .bool true) KB.out KL.out)
        go_roundw
        case rel => exact ⟨i + 1, by go_num, by omega, ⟨by rw [HF.out]; exact Z1.out⟩, Z2, Z3⟩
        case measure => simp [intOf]; omega
      · rw [h1] at hx1 K0 K2 KB r0 r1 r2 r3 z0 z1 z2 z3
        have HF : Aside0 (four (l.take (i + 1)) = (four (l.take i)).setIfInBounds 3 (.bool true)) := ⟨by simp [four, HS.out, has_snoc, HK.out, h1]⟩
        clear h1
        go_wp2_with fail
        refine (idx 116 3 rfl _).mono ?_
        rintro e w2 ⟨rfl, rfl⟩
        go_wp2_with fail
        have Z1 := Aside0.mk (blk_put K0.out 3 (.bool true) rfl)
        have Z2 : Aside0 (((wr.alloc (.cells #[.int .i64 s.f0, .int .u8 116] 97)).setCell ⟨w.heap.size + 1, 3, none⟩ (.bool true)).heap[w.heap.size]? = some (.cells #[.bool false, .bool false, .bool false, .bool false] 100 (0, 0))) := ⟨(Below.heap_setCell _ _ _ _ (by simp)).trans K2.out⟩
        have Z3 := Aside0.mk (below_set (j := 3) (v := .bool true) KB.out KL.out)
        go_roundw
        case rel => exact ⟨i + 1, by go_num, by omega, ⟨by rw [HF.out]; exact Z1.out⟩, Z2, Z3⟩
        case measure => simp [intOf]; omega
    · have e2 : (s.f0 == 2) = false := beq_eq_false_iff_ne.mpr k2
      have HF : Aside0 (four (l.take (i + 1)) = four (l.take i)) := ⟨by simp [HS.out, has_snoc, k2]⟩
      clear k2 hnm
      go_wp2_with fail
      go_roundw
      case rel => exact ⟨i + 1, by go_num, by omega, ⟨by rw [HF.out]; exact blk_alloc H1.out _⟩, ⟨blk_alloc H2.out _⟩, ⟨below_alloc HB.out _⟩⟩
      case measure => simp [intOf]; omega
  · have hx : i = l.length := by omega
    subst hx
    have H1 : Aside0 (wr.heap[w.heap.size + 1]? = some (.cells (four l) 100 (0, 0))) := ⟨by have := H1.out; rwa [List.take_length] at this⟩
    have r0 : wr.cell? ⟨w.heap.size + 1, 0, none⟩ = some (.bool (has l 120)) := (blk_cell H1.out 0).trans rfl
    have r1 : wr.cell? ⟨w.heap.size + 1, 1, none⟩ = some (.bool (has l 121)) := (blk_cell H1.out 1).trans rfl
    have r2 : wr.cell? ⟨w.heap.size + 1, 2, none⟩ = some (.bool (has l 122)) := (blk_cell H1.out 2).trans rfl
    have r3 : wr.cell? ⟨w.heap.size + 1, 3, none⟩ = some (.bool (has l 116)) := (blk_cell H1.out 3).trans rfl
    have m0 : wr.cell? ⟨w.heap.size, 0, none⟩ = some (.bool false) := (blk_cell H2.out 0).trans rfl
    have m1 : wr.cell? ⟨w.heap.size, 1, none⟩ = some (.bool false) := (blk_cell H2.out 1).trans rfl
    have m2 : wr.cell? ⟨w.heap.size, 2, none⟩ = some (.bool false) := (blk_cell H2.out 2).trans rfl
    have m3 : wr.cell? ⟨w.heap.size, 3, none⟩ = some (.bool false) := (blk_cell H2.out 3).trans rfl
    have p0 := blk_frozen H2.out 0
    have p1 := blk_frozen H2.out 1
    have p2 := blk_frozen H2.out 2
    have p3 := blk_frozen H2.out 3
    go_wp2_with fail
    refine bodyPost_ret (results_single rfl (.cell w.heap.size 100 (four l) (0, 0) _ rfl (blk_put (cs := #[.bool (has l 120), .bool (has l 121), .bool (has l 122), .bool false]) (blk_put (cs := #[.bool (has l 120), .bool (has l 121), .bool false, .bool false]) (blk_put (cs := #[.bool (has l 120), .bool false, .bool false, .bool false]) (blk_put H2.out 0 _ rfl) 1 _ rfl) 2 _ rfl) 3 _ rfl) Try.underlying100 rfl (by kernel_rfl) .nil)) rfl ?_
    exact ⟨rfl, below_set (below_set (below_set (below_set HB.out (Nat.le_refl _)) (Nat.le_refl _)) (Nat.le_refl _)) (Nat.le_refl _)⟩
end Go.Proofs.Ytcbkihhpnndpkaa.HUsed
