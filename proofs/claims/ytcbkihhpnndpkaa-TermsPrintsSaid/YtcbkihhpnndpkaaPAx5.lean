/- Contracts of Go functions, each with the walk through its code, written by a program of this session. -/
import Derived.Test.YtcbkihhpnndpkaaPAx0
import Derived.Test.YtcbkihhpnndpkaaPAx4
namespace Go.Proofs.Ytcbkihhpnndpkaa.PA
open Go.RowKit Go.Proofs.YtcbkihhpnndpkaaW.PrintWords Go.Proofs.YtcbkihhpnndpkaaW.PrintLast Go.Proofs.YtcbkihhpnndpkaaW.PrintMore
attribute [local go_sem] max2_int min2_int max_two min_two max_three min_three max_four min_four   -- for this text's walks alone
set_option linter.unusedVariables false
set_option linter.unusedSimpArgs false

/-! ### eggboxref19_text: function 50 -/
def eggboxref19_text.f : Nat → List (S97) → Option (ByteArray)
 | 0, _ => none
 | k + 1, l0 => if 0 ≤ (wrap64 ((l0.length : Int) - 1)) then (if (wrap64 ((l0.length : Int) - 1)) < (l0.length : Int) then ((eggboxref19_Cut.f k l0).bind fun t162 => (if ((rd_T97 l0 (wrap64 ((l0.length : Int) - 1))).f0) = 1 then (some (⟨#[49]⟩ : ByteArray)) else (if ((rd_T97 l0 (wrap64 ((l0.length : Int) - 1))).f0) = 2 then (some (strOfNums (([(rd_T97 l0 (wrap64 ((l0.length : Int) - 1))).f1] : List Int)))) else (if ((rd_T97 l0 (wrap64 ((l0.length : Int) - 1))).f0) = 4 then (if 0 < (t162.length : Int) then (if 0 ≤ (wrap64 (((rd_L3 t162 0).length : Int) - 1)) then (if (wrap64 (((rd_L3 t162 0).length : Int) - 1)) < ((rd_L3 t162 0).length : Int) then (if ((rd_T97 (rd_L3 t162 0) (wrap64 (((rd_L3 t162 0).length : Int) - 1))).f0) = 3 then ((eggboxref19_text.f k (rd_L3 t162 0)).bind fun t172 => (if 1 + t172.size ≤ 9223372036854775807 then (if ((⟨#[40]⟩ : ByteArray) ++ t172).size + 3 ≤ 9223372036854775807 then (some (((⟨#[40]⟩ : ByteArray) ++ t172) ++ (⟨#[41, 94, 119]⟩ : ByteArray))) else (none)) else (none))) else ((eggboxref19_text.f k (rd_L3 t162 0)).bind fun t174 => (if t174.size + 2 ≤ 9223372036854775807 then (some (t174 ++ (⟨#[94, 119]⟩ : ByteArray))) else (none)))) else (none)) else (none)) else (none)) else (if 1 < (t162.length : Int) then (if 0 ≤ (wrap64 (((rd_L3 t162 1).length : Int) - 1)) then (if (wrap64 (((rd_L3 t162 1).length : Int) - 1)) < ((rd_L3 t162 1).length : Int) then (if ((rd_T97 (rd_L3 t162 1) (wrap64 (((rd_L3 t162 1).length : Int) - 1))).f0) = 3 then (if 0 < (t162.length : Int) then ((eggboxref19_text.f k (rd_L3 t162 0)).bind fun t179 => (if t179.size + 1 ≤ 9223372036854775807 then ((eggboxref19_text.f k (rd_L3 t162 1)).bind fun t181 => (if (t179 ++ (⟨#[40]⟩ : ByteArray)).size + t181.size ≤ 9223372036854775807 then (if ((t179 ++ (⟨#[40]⟩ : ByteArray)) ++ t181).size + 1 ≤ 9223372036854775807 then (some (((t179 ++ (⟨#[40]⟩ : ByteArray)) ++ t181) ++ (⟨#[41]⟩ : ByteArray))) else (none)) else (none))) else (none))) else (none)) else (if 0 < (t162.length : Int) then ((eggboxref19_text.f k (rd_L3 t162 0)).bind fun t183 => ((eggboxref19_text.f k (rd_L3 t162 1)).bind fun t185 => (if t183.size + t185.size ≤ 9223372036854775807 then (some (t183 ++ t185)) else (none)))) else (none))) else (none)) else (none)) else (none)))))) else (none)) else (none)
def eggboxref19_text.T9 : Bool × List (List Nat × List Nat) := (true, [([], []), ([0], [0]), ([1], [1]), ([], []), ([3], [3]), ([4], [4]), ([5], [5]), ([6], [6]), ([2, 7], [2, 7]), ([8], [8]), ([9], [9]), ([10], [10])])
def eggboxref19_text.B9 : List Nat := [0, 1, 3, 0, 8, 24, 56, 120, 255, 511, 1023, 2047]
theorem eggboxref19_text.tab9 : rtab .any (opsOf Try.f50 9) = eggboxref19_text.T9 := by kernel_rfl
theorem eggboxref19_text.bits9 : waitsOk eggboxref19_text.T9.2 eggboxref19_text.B9 = true := by kernel_rfl
def eggboxref19_text.T12 : Bool × List (List Nat × List Nat) := (true, [([], []), ([0], [0]), ([1], [1]), ([], []), ([3], [3]), ([4], [4]), ([5], [5]), ([6], [6]), ([2, 7], [2, 7]), ([8], [8]), ([9], [9]), ([10], [10])])
def eggboxref19_text.B12 : List Nat := [0, 1, 3, 0, 8, 24, 56, 120, 255, 511, 1023, 2047]
theorem eggboxref19_text.tab12 : rtab .any (opsOf Try.f50 12) = eggboxref19_text.T12 := by kernel_rfl
theorem eggboxref19_text.bits12 : waitsOk eggboxref19_text.T12.2 eggboxref19_text.B12 = true := by kernel_rfl
def eggboxref19_text.T13 : Bool × List (List Nat × List Nat) := (true, [([], []), ([0], [0]), ([1], [1]), ([2], [2]), ([3], [3]), ([], []), ([5], [5]), ([6], [6]), ([7, 3], [7]), ([4, 8], [4, 8]), ([9], [9]), ([10, 8, 0, 1, 2, 3, 4, 5, 6, 7, 8, 9, 10], [10])])
def eggboxref19_text.B13 : List Nat := [0, 1, 3, 7, 15, 0, 32, 96, 239, 511, 1023, 2047]
theorem eggboxref19_text.tab13 : rtab .any (opsOf Try.f50 13) = eggboxref19_text.T13 := by kernel_rfl
theorem eggboxref19_text.bits13 : waitsOk eggboxref19_text.T13.2 eggboxref19_text.B13 = true := by kernel_rfl
def eggboxref19_text.T14 : Bool × List (List Nat × List Nat) := (true, [([], []), ([0], [0]), ([1], [1]), ([2], [2]), ([], []), ([4], [4]), ([5], [5]), ([6, 3], [6]), ([3, 7], [3, 7]), ([8, 7, 0, 1, 2, 3, 4, 5, 6, 7, 8], [8])])
def eggboxref19_text.B14 : List Nat := [0, 1, 3, 7, 0, 16, 48, 127, 255, 511]
theorem eggboxref19_text.tab14 : rtab .any (opsOf Try.f50 14) = eggboxref19_text.T14 := by kernel_rfl
theorem eggboxref19_text.bits14 : waitsOk eggboxref19_text.T14.2 eggboxref19_text.B14 = true := by kernel_rfl
set_option maxHeartbeats 8000000 in
set_option maxRecDepth 100000 in
theorem eggboxref19_text.calls (k : Nat) : ∀ (A0 : Option Addr) (c0 : Nat) (l0 : List (S97)) (r : ByteArray) (w : World) (hr0 : Kd.C k97 w A0 l0.length l0) (hc0 : l0.length ≤ c0) (h : eggboxref19_text.f k l0 = some r),
 Calls Try.prog 50 #[.slice A0 l0.length c0] w fun e w' => e = .returned (.string r) ∧ Below w.heap.size w w' := by
 induction k using Nat.strongRecOn with
 | _ k ih =>
 intro A0 c0 l0 r w hr0 hc0 h
 cases k with
 | zero => exact absurd h (by simp [eggboxref19_text.f])
 | succ k =>
 simp only [eggboxref19_text.f] at h
 have hu97 := Try.underlying97
 have HR0 := Aside0.mk hr0
 have HC0 := Aside0.mk hc0
 clear hr0 hc0
 have HB := Aside0.mk (Below.refl w.heap.size w)
 have H : (if 0 ≤ (wrap64 ((l0.length : Int) - 1)) then (if (wrap64 ((l0.length : Int) - 1)) < (l0.length : Int) then ((eggboxref19_Cut.f k l0).bind fun t162 => (if ((rd_T97 l0 (wrap64 ((l0.length : Int) - 1))).f0) = 1 then (some (⟨#[49]⟩ : ByteArray)) else (if ((rd_T97 l0 (wrap64 ((l0.length : Int) - 1))).f0) = 2 then (some (strOfNums (([(rd_T97 l0 (wrap64 ((l0.length : Int) - 1))).f1] : List Int)))) else (if ((rd_T97 l0 (wrap64 ((l0.length : Int) - 1))).f0) = 4 then (if 0 < (t162.length : Int) then (if 0 ≤ (wrap64 (((rd_L3 t162 0).length : Int) - 1)) then (if (wrap64 (((rd_L3 t162 0).length : Int) - 1)) < ((rd_L3 t162 0).length : Int) then (if ((rd_T97 (rd_L3 t162 0) (wrap64 (((rd_L3 t162 0).length : Int) - 1))).f0) = 3 then ((eggboxref19_text.f k (rd_L3 t162 0)).bind fun t172 => (if 1 + t172.size ≤ 9223372036854775807 then (if ((⟨#[40]⟩ : ByteArray) ++ t172).size + 3 ≤ 9223372036854775807 then (some (((⟨#[40]⟩ : ByteArray) ++ t172) ++ (⟨#[41, 94, 119]⟩ : ByteArray))) else (none)) else (none))) else ((eggboxref19_text.f k (rd_L3 t162 0)).bind fun t174 => (if t174.size + 2 ≤ 9223372036854775807 then (some (t174 ++ (⟨#[94, 119]⟩ : ByteArray))) else (none)))) else (none)) else (none)) else (none)) else (if 1 < (t162.length : Int) then (if 0 ≤ (wrap64 (((rd_L3 t162 1).length : Int) - 1)) then (if (wrap64 (((rd_L3 t162 1).length : Int) - 1)) < ((rd_L3 t162 1).length : Int) then (if ((rd_T97 (rd_L3 t162 1) (wrap64 (((rd_L3 t162 1).length : Int) - 1))).f0) = 3 then (if 0 < (t162.length : Int) then ((eggboxref19_text.f k (rd_L3 t162 0)).bind fun t179 => (if t179.size + 1 ≤ 9223372036854775807 then ((eggboxref19_text.f k (rd_L3 t162 1)).bind fun t181 => (if (t179 ++ (⟨#[40]⟩ : ByteArray)).size + t181.size ≤ 9223372036854775807 then (if ((t179 ++ (⟨#[40]⟩ : ByteArray)) ++ t181).size + 1 ≤ 9223372036854775807 then (some (((t179 ++ (⟨#[40]⟩ : ByteArray)) ++ t181) ++ (⟨#[41]⟩ : ByteArray))) else (none)) else (none))) else (none))) else (none)) else (if 0 < (t162.length : Int) then ((eggboxref19_text.f k (rd_L3 t162 0)).bind fun t183 => ((eggboxref19_text.f k (rd_L3 t162 1)).bind fun t185 => (if t183.size + t185.size ≤ 9223372036854775807 then (some (t183 ++ t185)) else (none)))) else (none))) else (none)) else (none)) else (none)))))) else (none)) else (none)) = some r := h
 clear h
 obtain ⟨ji2, hji2⟩ : ∃ j_ : Int, (wrap64 ((l0.length : Int) - 1)) = j_ := ⟨_, rfl⟩
 replace H : (if 0 ≤ (ji2) then (if (ji2) < (l0.length : Int) then ((eggboxref19_Cut.f k l0).bind fun t162 => (if ((rd_T97 l0 (ji2)).f0) = 1 then (some (⟨#[49]⟩ : ByteArray)) else (if ((rd_T97 l0 (ji2)).f0) = 2 then (some (strOfNums (([(rd_T97 l0 (ji2)).f1] : List Int)))) else (if ((rd_T97 l0 (ji2)).f0) = 4 then (if 0 < (t162.length : Int) then (if 0 ≤ (wrap64 (((rd_L3 t162 0).length : Int) - 1)) then (if (wrap64 (((rd_L3 t162 0).length : Int) - 1)) < ((rd_L3 t162 0).length : Int) then (if ((rd_T97 (rd_L3 t162 0) (wrap64 (((rd_L3 t162 0).length : Int) - 1))).f0) = 3 then ((eggboxref19_text.f k (rd_L3 t162 0)).bind fun t172 => (if 1 + t172.size ≤ 9223372036854775807 then (if ((⟨#[40]⟩ : ByteArray) ++ t172).size + 3 ≤ 9223372036854775807 then (some (((⟨#[40]⟩ : ByteArray) ++ t172) ++ (⟨#[41, 94, 119]⟩ : ByteArray))) else (none)) else (none))) else ((eggboxref19_text.f k (rd_L3 t162 0)).bind fun t174 => (if t174.size + 2 ≤ 9223372036854775807 then (some (t174 ++ (⟨#[94, 119]⟩ : ByteArray))) else (none)))) else (none)) else (none)) else (none)) else (if 1 < (t162.length : Int) then (if 0 ≤ (wrap64 (((rd_L3 t162 1).length : Int) - 1)) then (if (wrap64 (((rd_L3 t162 1).length : Int) - 1)) < ((rd_L3 t162 1).length : Int) then (if ((rd_T97 (rd_L3 t162 1) (wrap64 (((rd_L3 t162 1).length : Int) - 1))).f0) = 3 then (if 0 < (t162.length : Int) then ((eggboxref19_text.f k (rd_L3 t162 0)).bind fun t179 => (if t179.size + 1 ≤ 9223372036854775807 then ((eggboxref19_text.f k (rd_L3 t162 1)).bind fun t181 => (if (t179 ++ (⟨#[40]⟩ : ByteArray)).size + t181.size ≤ 9223372036854775807 then (if ((t179 ++ (⟨#[40]⟩ : ByteArray)) ++ t181).size + 1 ≤ 9223372036854775807 then (some (((t179 ++ (⟨#[40]⟩ : ByteArray)) ++ t181) ++ (⟨#[41]⟩ : ByteArray))) else (none)) else (none))) else (none))) else (none)) else (if 0 < (t162.length : Int) then ((eggboxref19_text.f k (rd_L3 t162 0)).bind fun t183 => ((eggboxref19_text.f k (rd_L3 t162 1)).bind fun t185 => (if t183.size + t185.size ≤ 9223372036854775807 then (some (t183 ++ t185)) else (none)))) else (none))) else (none)) else (none)) else (none)))))) else (none)) else (none)) = some r := by first | (rw [hji2] at H; exact H) | (simp only [hji2] at H ⊢; exact H)
 have hji2w : (IntKind.i64.wrap ((l0.length : Int) - 1)) = ji2 := (i64_w _).trans hji2
 by_cases c3 : 0 ≤ (ji2)
 · rw [if_pos c3] at H
   have c3b0 : decide (0 ≤ (ji2)) = true := decide_eq_true c3
   clear c3
   by_cases c4 : (ji2) < (l0.length : Int)
   · rw [if_pos c4] at H
     have c4b0 : decide ((ji2) < (l0.length : Int)) = true := decide_eq_true c4
     clear c4
     replace H := Option.bind_eq_some_iff.mp H
     obtain ⟨t162, A50, H⟩ := H
     replace H : (if ((rd_T97 l0 (ji2)).f0) = 1 then (some (⟨#[49]⟩ : ByteArray)) else (if ((rd_T97 l0 (ji2)).f0) = 2 then (some (strOfNums (([(rd_T97 l0 (ji2)).f1] : List Int)))) else (if ((rd_T97 l0 (ji2)).f0) = 4 then (if 0 < (t162.length : Int) then (if 0 ≤ (wrap64 (((rd_L3 t162 0).length : Int) - 1)) then (if (wrap64 (((rd_L3 t162 0).length : Int) - 1)) < ((rd_L3 t162 0).length : Int) then (if ((rd_T97 (rd_L3 t162 0) (wrap64 (((rd_L3 t162 0).length : Int) - 1))).f0) = 3 then ((eggboxref19_text.f k (rd_L3 t162 0)).bind fun t172 => (if 1 + t172.size ≤ 9223372036854775807 then (if ((⟨#[40]⟩ : ByteArray) ++ t172).size + 3 ≤ 9223372036854775807 then (some (((⟨#[40]⟩ : ByteArray) ++ t172) ++ (⟨#[41, 94, 119]⟩ : ByteArray))) else (none)) else (none))) else ((eggboxref19_text.f k (rd_L3 t162 0)).bind fun t174 => (if t174.size + 2 ≤ 9223372036854775807 then (some (t174 ++ (⟨#[94, 119]⟩ : ByteArray))) else (none)))) else (none)) else (none)) else (none)) else (if 1 < (t162.length : Int) then (if 0 ≤ (wrap64 (((rd_L3 t162 1).length : Int) - 1)) then (if (wrap64 (((rd_L3 t162 1).length : Int) - 1)) < ((rd_L3 t162 1).length : Int) then (if ((rd_T97 (rd_L3 t162 1) (wrap64 (((rd_L3 t162 1).length : Int) - 1))).f0) = 3 then (if 0 < (t162.length : Int) then ((eggboxref19_text.f k (rd_L3 t162 0)).bind fun t179 => (if t179.size + 1 ≤ 9223372036854775807 then ((eggboxref19_text.f k (rd_L3 t162 1)).bind fun t181 => (if (t179 ++ (⟨#[40]⟩ : ByteArray)).size + t181.size ≤ 9223372036854775807 then (if ((t179 ++ (⟨#[40]⟩ : ByteArray)) ++ t181).size + 1 ≤ 9223372036854775807 then (some (((t179 ++ (⟨#[40]⟩ : ByteArray)) ++ t181) ++ (⟨#[41]⟩ : ByteArray))) else (none)) else (none))) else (none))) else (none)) else (if 0 < (t162.length : Int) then ((eggboxref19_text.f k (rd_L3 t162 0)).bind fun t183 => ((eggboxref19_text.f k (rd_L3 t162 1)).bind fun t185 => (if t183.size + t185.size ≤ 9223372036854775807 then (some (t183 ++ t185)) else (none)))) else (none))) else (none)) else (none)) else (none))))) = some r := H
     have A5 := Aside0.mk A50
     clear A50
     by_cases c6 : ((rd_T97 l0 (ji2)).f0) = 1
     · rw [if_pos c6] at H
       have c6b0 : (((rd_T97 l0 (ji2)).f0) == 1) = true := beq_iff_eq.mpr c6
       have c6b1 : (((rd_T97 l0 (ji2)).f0) != 1) = false := bne_eq_false_iff_eq.mpr c6
       clear c6
       obtain rfl := Option.some.inj H
       have p160 : 0 ≤ ((ji2) : Int) := of_decide_eq_true (by first | (with_reducible assumption) | assumption)
       have q160 : (ji2) < (l0.length : Int) := of_decide_eq_true (by first | (with_reducible assumption) | assumption)
       obtain ⟨ad160, e160, hx160_0, hx160_1⟩ := at_T97 HR0.out (ji2) p160 q160
       cases e160
       replace p160 := eq_true p160
       replace q160 := eq_true q160
       go_enter Try.func50, Try.ntmps50
       go_wp2_with (first | ((with_reducible refine gate_dst (N := 3) rfl ?_); refine box_event ?hg (N := 3) ?hd (cs := #[.int .i64 0, .int .u8 0]) (t := 97) ?hr ?_; (case hd => rfl); (case hg => rfl); (case hr => first | (go_simp; done) | (go_simp; rfl)); intro gb161 hg w7 hbox hb; have n0_ := Aside0.mk (below_step (by repeat (first | (with_reducible first | exact HB.out | apply below_alloc | apply pw_below_drewN | apply below_drew1) | exact HB.out)) hb); have n1_ := Aside0.mk (hbox); have n2_ := Aside0.mk ((by rw [hg]; exact (below_size (by repeat (first | (with_reducible first | exact HB.out | apply below_alloc | apply pw_below_drewN | apply below_drew1) | exact HB.out))) : w.heap.size ≤ gb161)); have n3_ := Aside0.mk ((by rw [hg]; exact (below_size (by repeat (first | (with_reducible first | exact HB.out | apply below_alloc | apply pw_below_drewN | apply below_drew1) | exact HB.out))) : w.heap.size ≤ gb161)); clear HB; have HB := n0_; have BK161 := n1_; have GW161 := n2_; have GE161 := n3_; clear n0_ n1_ n2_ n3_; clear hb hbox hg; have hcz8_0 : w7.cell? ⟨gb161, 0, none⟩ = some (.int .i64 0) := (blk_cell BK161.out 0).trans rfl; have hcz8_1 : w7.cell? ⟨gb161, 1, none⟩ = some (.int .u8 0) := (blk_cell BK161.out 1).trans rfl; have hfz8_0 := blk_frozen BK161.out 0; have hfz8_1 := blk_frozen BK161.out 1) | ((with_reducible refine gate_store (t := 97) (p := 3) rfl ?_); refine store_event (t := 97) (p := 3) (v := ?vo_w9) (w1 := ((w7.setCell ⟨gb161, 0, none⟩ (.int .i64 ((rd_T97 l0 (ji2)).f0))).setCell ⟨gb161, 1, none⟩ (.int .u8 ((rd_T97 l0 (ji2)).f1)))) ?hg ?ho ?hn ?hr ?_; (case ho => rfl); (case hg => rfl); (case hn => rfl); (case hr => first | (go_simp; done) | (go_simp; rfl)); intro w9 hw; have n0_ : Aside0 (w9.heap[gb161]? = some (.cells #[.int .i64 ((rd_T97 l0 (ji2)).f0), .int .u8 ((rd_T97 l0 (ji2)).f1)] 97 (0, 0))) := ⟨(by rw [hw]; exact (by (with_reducible repeat (first | refine blk_drewN ?_ _ | refine blk_drew ?_ | refine blk_alloc ?_ _)); refine blk_put (cs := #[.int .i64 ((rd_T97 l0 (ji2)).f0), .int .u8 0]) ?_ 1 _ rfl; (with_reducible repeat (first | refine blk_drewN ?_ _ | refine blk_drew ?_ | refine blk_alloc ?_ _)); refine blk_put (cs := #[.int .i64 0, .int .u8 0]) ?_ 0 _ rfl; (with_reducible repeat (first | refine blk_drewN ?_ _ | refine blk_drew ?_ | refine blk_alloc ?_ _)); exact BK161.out))⟩; have n1_ : Aside0 (Below w.heap.size w w9) := ⟨(by rw [hw]; exact (by repeat (first | (with_reducible first | exact HB.out | apply below_alloc | apply pw_below_drewN | apply below_drew1 | refine below_set ?_ GE161.out) | exact HB.out)))⟩; clear hw; clear BK161; clear HB; have BK161 := n0_; have HB := n1_; clear n0_ n1_) | ((with_reducible refine gate_callee (f := 108) rfl ?_); refine goesL_ (some 12) rfl rfl Try.func108 (by kernel_rfl) rfl #[.slice (some ad160) l0.length c0] rfl (by (try simp only [List.map_toArray, List.map_cons, List.map_nil]); first | done | rfl | (simp only [List.length_drop, List.length_take]; rfl)) ?_; (with_reducible refine (eggboxref19_Cut.calls k (fun k_ => k_ < w.heap.size) _ _ l0 t162 _ ?side1 A5.out).mono ?_); (case side1 => exact Kd.V_mk HC0.out (Kd.F_below (Kd.C_F k97_heap HR0.out) (by repeat (first | (with_reducible first | exact HB.out | apply below_alloc | apply pw_below_drewN | apply below_drew1 | refine below_set ?_ GE161.out) | exact HB.out)))); rintro e w10 ⟨v163, rfl, ho0, hb⟩; refine ⟨_, rfl, ?_⟩; have n0_ := Aside0.mk (Kd.N_lower (Kd.N_mono (ok' := fun k_ => k_ ≠ gb161) ho0 (fun k_ hk_ => Or.elim hk_ (fun hs_ => fun e_ => Nat.not_le.2 hs_ (by rw [e_]; exact GW161.out)) (fun hn_ => (Kd.freshB (g := gb161) (o := .cells #[.int .i64 ((rd_T97 l0 (ji2)).f0), .int .u8 ((rd_T97 l0 (ji2)).f1)] 97 (0, 0)) (by (with_reducible repeat (first | refine blk_drewN ?_ _ | refine blk_drew ?_ | refine blk_alloc ?_ _)); exact BK161.out) k_ hn_)))) (below_size (by repeat (first | (with_reducible first | exact HB.out | apply below_alloc | apply pw_below_drewN | apply below_drew1 | refine below_set ?_ GE161.out) | exact HB.out)))); have n1_ := Aside0.mk (blk_below (g := gb161) (o := .cells #[.int .i64 ((rd_T97 l0 (ji2)).f0), .int .u8 ((rd_T97 l0 (ji2)).f1)] 97 (0, 0)) (by (with_reducible repeat (first | refine blk_drewN ?_ _ | refine blk_drew ?_ | refine blk_alloc ?_ _)); exact BK161.out) hb); have n2_ := Aside0.mk (below_step (by repeat (first | (with_reducible first | exact HB.out | apply below_alloc | apply pw_below_drewN | apply below_drew1 | refine below_set ?_ GE161.out) | exact HB.out)) hb); clear BK161; clear HB; have HO164 := n0_; have BK161 := n1_; have HB := n2_; clear n0_ n1_ n2_; (try clear hb); (try clear hb2); (try clear hk); (try clear hi); (try clear ho0); have hcz11_0 : w10.cell? ⟨gb161, 0, none⟩ = some (.int .i64 ((rd_T97 l0 (ji2)).f0)) := (blk_cell BK161.out 0).trans rfl; have hcz11_1 : w10.cell? ⟨gb161, 1, none⟩ = some (.int .u8 ((rd_T97 l0 (ji2)).f1)) := (blk_cell BK161.out 1).trans rfl; have hfz11_0 := blk_frozen BK161.out 0; have hfz11_1 := blk_frozen BK161.out 1))
       go_ret
       exact ⟨by first | rfl | (simp [errW_none, errW_some] <;> rfl) | (simp only [← hji2]; first | rfl | (simp [errW_none, errW_some] <;> rfl)) | (simp [*, errW_none, errW_some] <;> rfl), by repeat (first | (with_reducible first | exact HB.out | apply below_alloc | apply pw_below_drewN | apply below_drew1 | refine below_set ?_ GE161.out) | exact HB.out)⟩
     · rw [if_neg c6] at H
       have c6b0 : (((rd_T97 l0 (ji2)).f0) == 1) = false := beq_eq_false_iff_ne.mpr c6
       have c6b1 : (((rd_T97 l0 (ji2)).f0) != 1) = true := bne_iff_ne.mpr c6
       by_cases c12 : ((rd_T97 l0 (ji2)).f0) = 2
       · rw [if_pos c12] at H
         have c12b0 : (((rd_T97 l0 (ji2)).f0) == 2) = true := beq_iff_eq.mpr c12
         have c12b1 : (((rd_T97 l0 (ji2)).f0) != 2) = false := bne_eq_false_iff_eq.mpr c12
         clear c12
         obtain ⟨y165, hy165⟩ : ∃ y_ : List Int, y_ = (([(rd_T97 l0 (ji2)).f1] : List Int)) := ⟨_, rfl⟩
         replace H : (some (strOfNums y165)) = some r := by first | (rw [hy165]; with_reducible exact H) | (have H2_ := (Option.bind_some _ _).symm.trans H; rw [hy165]; with_reducible exact H2_) | (have H2_ := (Option.bind_some _ _).symm.trans H; with_reducible exact H2_) | with_reducible exact H | (rw [hy165]; exact H) | exact H
         have Ny165 := Aside0.mk hy165
         clear hy165
         obtain rfl := Option.some.inj H
         have p160 : 0 ≤ ((ji2) : Int) := of_decide_eq_true (by first | (with_reducible assumption) | assumption)
         have q160 : (ji2) < (l0.length : Int) := of_decide_eq_true (by first | (with_reducible assumption) | assumption)
         obtain ⟨ad160, e160, hx160_0, hx160_1⟩ := at_T97 HR0.out (ji2) p160 q160
         cases e160
         replace p160 := eq_true p160
         replace q160 := eq_true q160
         go_enter Try.func50, Try.ntmps50
         go_wp2_with (first | ((with_reducible refine gate_dst (N := 3) rfl ?_); refine box_event ?hg (N := 3) ?hd (cs := #[.int .i64 0, .int .u8 0]) (t := 97) ?hr ?_; (case hd => rfl); (case hg => rfl); (case hr => first | (go_simp; done) | (go_simp; rfl)); intro gb161 hg w13 hbox hb; have n0_ := Aside0.mk (below_step (by repeat (first | (with_reducible first | exact HB.out | apply below_alloc | apply pw_below_drewN | apply below_drew1) | exact HB.out)) hb); have n1_ := Aside0.mk (hbox); have n2_ := Aside0.mk ((by rw [hg]; exact (below_size (by repeat (first | (with_reducible first | exact HB.out | apply below_alloc | apply pw_below_drewN | apply below_drew1) | exact HB.out))) : w.heap.size ≤ gb161)); have n3_ := Aside0.mk ((by rw [hg]; exact (below_size (by repeat (first | (with_reducible first | exact HB.out | apply below_alloc | apply pw_below_drewN | apply below_drew1) | exact HB.out))) : w.heap.size ≤ gb161)); clear HB; have HB := n0_; have BK161 := n1_; have GW161 := n2_; have GE161 := n3_; clear n0_ n1_ n2_ n3_; clear hb hbox hg; have hcz14_0 : w13.cell? ⟨gb161, 0, none⟩ = some (.int .i64 0) := (blk_cell BK161.out 0).trans rfl; have hcz14_1 : w13.cell? ⟨gb161, 1, none⟩ = some (.int .u8 0) := (blk_cell BK161.out 1).trans rfl; have hfz14_0 := blk_frozen BK161.out 0; have hfz14_1 := blk_frozen BK161.out 1) | ((with_reducible refine gate_store (t := 97) (p := 3) rfl ?_); refine store_event (t := 97) (p := 3) (v := ?vo_w15) (w1 := ((w13.setCell ⟨gb161, 0, none⟩ (.int .i64 ((rd_T97 l0 (ji2)).f0))).setCell ⟨gb161, 1, none⟩ (.int .u8 ((rd_T97 l0 (ji2)).f1)))) ?hg ?ho ?hn ?hr ?_; (case ho => rfl); (case hg => rfl); (case hn => rfl); (case hr => first | (go_simp; done) | (go_simp; rfl)); intro w15 hw; have n0_ : Aside0 (w15.heap[gb161]? = some (.cells #[.int .i64 ((rd_T97 l0 (ji2)).f0), .int .u8 ((rd_T97 l0 (ji2)).f1)] 97 (0, 0))) := ⟨(by rw [hw]; exact (by (with_reducible repeat (first | refine blk_drewN ?_ _ | refine blk_drew ?_ | refine blk_alloc ?_ _)); refine blk_put (cs := #[.int .i64 ((rd_T97 l0 (ji2)).f0), .int .u8 0]) ?_ 1 _ rfl; (with_reducible repeat (first | refine blk_drewN ?_ _ | refine blk_drew ?_ | refine blk_alloc ?_ _)); refine blk_put (cs := #[.int .i64 0, .int .u8 0]) ?_ 0 _ rfl; (with_reducible repeat (first | refine blk_drewN ?_ _ | refine blk_drew ?_ | refine blk_alloc ?_ _)); exact BK161.out))⟩; have n1_ : Aside0 (Below w.heap.size w w15) := ⟨(by rw [hw]; exact (by repeat (first | (with_reducible first | exact HB.out | apply below_alloc | apply pw_below_drewN | apply below_drew1 | refine below_set ?_ GE161.out) | exact HB.out)))⟩; clear hw; clear BK161; clear HB; have BK161 := n0_; have HB := n1_; clear n0_ n1_) | ((with_reducible refine gate_callee (f := 108) rfl ?_); refine goesL_ (some 12) rfl rfl Try.func108 (by kernel_rfl) rfl #[.slice (some ad160) l0.length c0] rfl (by (try simp only [List.map_toArray, List.map_cons, List.map_nil]); first | done | rfl | (simp only [List.length_drop, List.length_take]; rfl)) ?_; (with_reducible refine (eggboxref19_Cut.calls k (fun k_ => k_ < w.heap.size) _ _ l0 t162 _ ?side1 A5.out).mono ?_); (case side1 => exact Kd.V_mk HC0.out (Kd.F_below (Kd.C_F k97_heap HR0.out) (by repeat (first | (with_reducible first | exact HB.out | apply below_alloc | apply pw_below_drewN | apply below_drew1 | refine below_set ?_ GE161.out) | exact HB.out)))); rintro e w16 ⟨v163, rfl, ho0, hb⟩; refine ⟨_, rfl, ?_⟩; have n0_ := Aside0.mk (Kd.N_lower (Kd.N_mono (ok' := fun k_ => k_ ≠ gb161) ho0 (fun k_ hk_ => Or.elim hk_ (fun hs_ => fun e_ => Nat.not_le.2 hs_ (by rw [e_]; exact GW161.out)) (fun hn_ => (Kd.freshB (g := gb161) (o := .cells #[.int .i64 ((rd_T97 l0 (ji2)).f0), .int .u8 ((rd_T97 l0 (ji2)).f1)] 97 (0, 0)) (by (with_reducible repeat (first | refine blk_drewN ?_ _ | refine blk_drew ?_ | refine blk_alloc ?_ _)); exact BK161.out) k_ hn_)))) (below_size (by repeat (first | (with_reducible first | exact HB.out | apply below_alloc | apply pw_below_drewN | apply below_drew1 | refine below_set ?_ GE161.out) | exact HB.out)))); have n1_ := Aside0.mk (blk_below (g := gb161) (o := .cells #[.int .i64 ((rd_T97 l0 (ji2)).f0), .int .u8 ((rd_T97 l0 (ji2)).f1)] 97 (0, 0)) (by (with_reducible repeat (first | refine blk_drewN ?_ _ | refine blk_drew ?_ | refine blk_alloc ?_ _)); exact BK161.out) hb); have n2_ := Aside0.mk (below_step (by repeat (first | (with_reducible first | exact HB.out | apply below_alloc | apply pw_below_drewN | apply below_drew1 | refine below_set ?_ GE161.out) | exact HB.out)) hb); clear BK161; clear HB; have HO164 := n0_; have BK161 := n1_; have HB := n2_; clear n0_ n1_ n2_; (try clear hb); (try clear hb2); (try clear hk); (try clear hi); (try clear ho0); have hcz17_0 : w16.cell? ⟨gb161, 0, none⟩ = some (.int .i64 ((rd_T97 l0 (ji2)).f0)) := (blk_cell BK161.out 0).trans rfl; have hcz17_1 : w16.cell? ⟨gb161, 1, none⟩ = some (.int .u8 ((rd_T97 l0 (ji2)).f1)) := (blk_cell BK161.out 1).trans rfl; have hfz17_0 := blk_frozen BK161.out 0; have hfz17_1 := blk_frozen BK161.out 1) | ((with_reducible refine gate_dst (N := 21) rfl ?_); refine Kd.R_lit (Kd.int .u8) _ 5 ?hg (N := 21) ?hd (xs := ([(rd_T97 l0 (ji2)).f1] : List Int)) (inner := [.int .u8 ((rd_T97 l0 (ji2)).f1)]) (ok := fun _ => True) (okp := fun _ => True) ?hr ?hp (fun _ hk => hk) trivial (Below.refl _ _) (Nat.le_refl _) (by simp) ?_; (case hd => rfl); (case hg => rfl); (case hr => first | (go_simp; done) | (go_simp; rfl)); (case hp => exact (Reps.one (show Kd.M (Kd.int .u8) _ _ _ ((rd_T97 l0 (ji2)).f1) [.int .u8 ((rd_T97 l0 (ji2)).f1)] from rfl) (Reps.none _ _))); intro v166 w18 ho19 hb hg_ hnew_; clear hg_ hnew_; (first | rw [← Ny165.out] at ho19 | (simp only [Int.reduceToNat] at ho19; rw [← Ny165.out] at ho19)); have n0_ := Aside0.mk (Kd.N_elder' (by (with_reducible repeat (first | apply Kd.N_alloc | apply Kd.N_drewN | apply Kd.N_drew)); exact HO164.out) (Kd.R_base ho19) hb); have n1_ := Aside0.mk (Kd.R_lower ho19 (below_size (by repeat (first | (with_reducible first | exact HB.out | apply below_alloc | apply pw_below_drewN | apply below_drew1 | refine below_set ?_ GE161.out) | exact HB.out)))); have n2_ := Aside0.mk (blk_below (g := gb161) (o := .cells #[.int .i64 ((rd_T97 l0 (ji2)).f0), .int .u8 ((rd_T97 l0 (ji2)).f1)] 97 (0, 0)) (by (with_reducible repeat (first | refine blk_drewN ?_ _ | refine blk_drew ?_ | refine blk_alloc ?_ _)); exact BK161.out) hb); have n3_ := Aside0.mk (below_step (by repeat (first | (with_reducible first | exact HB.out | apply below_alloc | apply pw_below_drewN | apply below_drew1 | refine below_set ?_ GE161.out) | exact HB.out)) hb); clear HO164; clear BK161; clear HB; have HO164 := n0_; have HO167 := n1_; have BK161 := n2_; have HB := n3_; clear n0_ n1_ n2_ n3_; clear hb ho19; have hcv20 := own_string (P := Try.prog) Try.underlying99 Try.underlying5 Try.underlying9 (Kd.own_of_R HO167.out)))
         go_ret
         exact ⟨by first | rfl | (simp [errW_none, errW_some] <;> rfl) | (simp only [← hji2]; first | rfl | (simp [errW_none, errW_some] <;> rfl)) | (simp [*, errW_none, errW_some] <;> rfl), by repeat (first | (with_reducible first | exact HB.out | apply below_alloc | apply pw_below_drewN | apply below_drew1 | refine below_set ?_ GE161.out) | exact HB.out)⟩
       · rw [if_neg c12] at H
         have c12b0 : (((rd_T97 l0 (ji2)).f0) == 2) = false := beq_eq_false_iff_ne.mpr c12
         have c12b1 : (((rd_T97 l0 (ji2)).f0) != 2) = true := bne_iff_ne.mpr c12
         by_cases c21 : ((rd_T97 l0 (ji2)).f0) = 4
         · rw [if_pos c21] at H
           have c21b0 : (((rd_T97 l0 (ji2)).f0) == 4) = true := beq_iff_eq.mpr c21
           have c21b1 : (((rd_T97 l0 (ji2)).f0) != 4) = false := bne_eq_false_iff_eq.mpr c21
           clear c21
           by_cases c22 : 0 < (t162.length : Int)
           · rw [if_pos c22] at H
             have c22b0 : decide (0 < (t162.length : Int)) = true := decide_eq_true c22
             have c22b1 : decide (0 < t162.length) = true := decide_eq_true (by omega)
             clear c22
             obtain ⟨ji23, hji23⟩ : ∃ j_ : Int, (wrap64 (((rd_L3 t162 0).length : Int) - 1)) = j_ := ⟨_, rfl⟩
             replace H : (if 0 ≤ (ji23) then (if (ji23) < ((rd_L3 t162 0).length : Int) then (if ((rd_T97 (rd_L3 t162 0) (ji23)).f0) = 3 then ((eggboxref19_text.f k (rd_L3 t162 0)).bind fun t172 => (if 1 + t172.size ≤ 9223372036854775807 then (if ((⟨#[40]⟩ : ByteArray) ++ t172).size + 3 ≤ 9223372036854775807 then (some (((⟨#[40]⟩ : ByteArray) ++ t172) ++ (⟨#[41, 94, 119]⟩ : ByteArray))) else (none)) else (none))) else ((eggboxref19_text.f k (rd_L3 t162 0)).bind fun t174 => (if t174.size + 2 ≤ 9223372036854775807 then (some (t174 ++ (⟨#[94, 119]⟩ : ByteArray))) else (none)))) else (none)) else (none)) = some r := by first | (rw [hji23] at H; exact H) | (simp only [hji23] at H ⊢; exact H)
             (try rw [hji23] at A5)
             have hji23w : (IntKind.i64.wrap (((rd_L3 t162 0).length : Int) - 1)) = ji23 := (i64_w _).trans hji23
             by_cases c24 : 0 ≤ (ji23)
             · rw [if_pos c24] at H
               have c24b0 : decide (0 ≤ (ji23)) = true := decide_eq_true c24
               clear c24
               by_cases c25 : (ji23) < ((rd_L3 t162 0).length : Int)
               · rw [if_pos c25] at H
                 have c25b0 : decide ((ji23) < ((rd_L3 t162 0).length : Int)) = true := decide_eq_true c25
                 clear c25
                 by_cases c26 : ((rd_T97 (rd_L3 t162 0) (ji23)).f0) = 3
                 · rw [if_pos c26] at H
                   have c26b0 : (((rd_T97 (rd_L3 t162 0) (ji23)).f0) == 3) = true := beq_iff_eq.mpr c26
                   have c26b1 : (((rd_T97 (rd_L3 t162 0) (ji23)).f0) != 3) = false := bne_eq_false_iff_eq.mpr c26
                   clear c26
                   replace H := Option.bind_eq_some_iff.mp H
                   obtain ⟨t172, A270, H⟩ := H
                   replace H : (if 1 + t172.size ≤ 9223372036854775807 then (if ((⟨#[40]⟩ : ByteArray) ++ t172).size + 3 ≤ 9223372036854775807 then (some (((⟨#[40]⟩ : ByteArray) ++ t172) ++ (⟨#[41, 94, 119]⟩ : ByteArray))) else (none)) else (none)) = some r := H
                   have A27 := Aside0.mk A270
                   clear A270
                   by_cases c28 : 1 + t172.size ≤ 9223372036854775807
                   · rw [if_pos c28] at H
                     have c28b0 := eq_true c28
                     have c28b1 : decide (1 + t172.size ≤ 9223372036854775807) = true := decide_eq_true c28
                     try have c28b2 : (9223372036854775807 < 1 + t172.size) = False := eq_false (Nat.not_lt.2 c28)
                     by_cases c29 : ((⟨#[40]⟩ : ByteArray) ++ t172).size + 3 ≤ 9223372036854775807
                     · rw [if_pos c29] at H
                       have c29b0 := eq_true c29
                       have c29b1 : decide (((⟨#[40]⟩ : ByteArray) ++ t172).size + 3 ≤ 9223372036854775807) = true := decide_eq_true c29
                       try have c29b2 : (9223372036854775807 < ((⟨#[40]⟩ : ByteArray) ++ t172).size + 3) = False := eq_false (Nat.not_lt.2 c29)
                       try have c29b4 : (9223372036854775807 < 1 + t172.size + 3) = False := by rw [show 1 + t172.size + 3 = ((⟨#[40]⟩ : ByteArray) ++ t172).size + 3 from by simp [ByteArray.size_append] <;> (first | done | rfl | omega)]; exact c29b2
                       obtain rfl := Option.some.inj H
                       have p160 : 0 ≤ ((ji2) : Int) := of_decide_eq_true (by first | (with_reducible assumption) | assumption)
                       have q160 : (ji2) < (l0.length : Int) := of_decide_eq_true (by first | (with_reducible assumption) | assumption)
                       obtain ⟨ad160, e160, hx160_0, hx160_1⟩ := at_T97 HR0.out (ji2) p160 q160
                       cases e160
                       replace p160 := eq_true p160
                       replace q160 := eq_true q160
                       go_enter Try.func50, Try.ntmps50
                       try go_wp2_with (first | ((with_reducible refine gate_dst (N := 3) rfl ?_); refine box_event ?hg (N := 3) ?hd (cs := #[.int .i64 0, .int .u8 0]) (t := 97) ?hr ?_; (case hd => rfl); (case hg => rfl); (case hr => first | (go_simp; done) | (go_simp; rfl)); intro gb161 hg w30 hbox hb; have n0_ := Aside0.mk (below_step (by repeat (first | (with_reducible first | exact HB.out | apply below_alloc | apply pw_below_drewN | apply below_drew1) | exact HB.out)) hb); have n1_ := Aside0.mk (hbox); have n2_ := Aside0.mk ((by rw [hg]; exact (below_size (by repeat (first | (with_reducible first | exact HB.out | apply below_alloc | apply pw_below_drewN | apply below_drew1) | exact HB.out))) : w.heap.size ≤ gb161)); have n3_ := Aside0.mk ((by rw [hg]; exact (below_size (by repeat (first | (with_reducible first | exact HB.out | apply below_alloc | apply pw_below_drewN | apply below_drew1) | exact HB.out))) : w.heap.size ≤ gb161)); clear HB; have HB := n0_; have BK161 := n1_; have GW161 := n2_; have GE161 := n3_; clear n0_ n1_ n2_ n3_; clear hb hbox hg; have hcz31_0 : w30.cell? ⟨gb161, 0, none⟩ = some (.int .i64 0) := (blk_cell BK161.out 0).trans rfl; have hcz31_1 : w30.cell? ⟨gb161, 1, none⟩ = some (.int .u8 0) := (blk_cell BK161.out 1).trans rfl; have hfz31_0 := blk_frozen BK161.out 0; have hfz31_1 := blk_frozen BK161.out 1) | ((with_reducible refine gate_store (t := 97) (p := 3) rfl ?_); refine store_event (t := 97) (p := 3) (v := ?vo_w32) (w1 := ((w30.setCell ⟨gb161, 0, none⟩ (.int .i64 ((rd_T97 l0 (ji2)).f0))).setCell ⟨gb161, 1, none⟩ (.int .u8 ((rd_T97 l0 (ji2)).f1)))) ?hg ?ho ?hn ?hr ?_; (case ho => rfl); (case hg => rfl); (case hn => rfl); (case hr => first | (go_simp; done) | (go_simp; rfl)); intro w32 hw; have n0_ : Aside0 (w32.heap[gb161]? = some (.cells #[.int .i64 ((rd_T97 l0 (ji2)).f0), .int .u8 ((rd_T97 l0 (ji2)).f1)] 97 (0, 0))) := ⟨(by rw [hw]; exact (by (with_reducible repeat (first | refine blk_drewN ?_ _ | refine blk_drew ?_ | refine blk_alloc ?_ _)); refine blk_put (cs := #[.int .i64 ((rd_T97 l0 (ji2)).f0), .int .u8 0]) ?_ 1 _ rfl; (with_reducible repeat (first | refine blk_drewN ?_ _ | refine blk_drew ?_ | refine blk_alloc ?_ _)); refine blk_put (cs := #[.int .i64 0, .int .u8 0]) ?_ 0 _ rfl; (with_reducible repeat (first | refine blk_drewN ?_ _ | refine blk_drew ?_ | refine blk_alloc ?_ _)); exact BK161.out))⟩; have n1_ : Aside0 (Below w.heap.size w w32) := ⟨(by rw [hw]; exact (by repeat (first | (with_reducible first | exact HB.out | apply below_alloc | apply pw_below_drewN | apply below_drew1 | refine below_set ?_ GE161.out) | exact HB.out)))⟩; clear hw; clear BK161; clear HB; have BK161 := n0_; have HB := n1_; clear n0_ n1_) | ((with_reducible refine gate_callee (f := 108) rfl ?_); refine goesL_ (some 12) rfl rfl Try.func108 (by kernel_rfl) rfl #[.slice (some ad160) l0.length c0] rfl (by (try simp only [List.map_toArray, List.map_cons, List.map_nil]); first | done | rfl | (simp only [List.length_drop, List.length_take]; rfl)) ?_; (with_reducible refine (eggboxref19_Cut.calls k (fun k_ => k_ < w.heap.size) _ _ l0 t162 _ ?side1 A5.out).mono ?_); (case side1 => exact Kd.V_mk HC0.out (Kd.F_below (Kd.C_F k97_heap HR0.out) (by repeat (first | (with_reducible first | exact HB.out | apply below_alloc | apply pw_below_drewN | apply below_drew1 | refine below_set ?_ GE161.out) | exact HB.out)))); rintro e w33 ⟨v163, rfl, ho0, hb⟩; refine ⟨_, rfl, ?_⟩; have n0_ := Aside0.mk (Kd.N_lower (Kd.N_mono (ok' := fun k_ => k_ ≠ gb161) ho0 (fun k_ hk_ => Or.elim hk_ (fun hs_ => fun e_ => Nat.not_le.2 hs_ (by rw [e_]; exact GW161.out)) (fun hn_ => (Kd.freshB (g := gb161) (o := .cells #[.int .i64 ((rd_T97 l0 (ji2)).f0), .int .u8 ((rd_T97 l0 (ji2)).f1)] 97 (0, 0)) (by (with_reducible repeat (first | refine blk_drewN ?_ _ | refine blk_drew ?_ | refine blk_alloc ?_ _)); exact BK161.out) k_ hn_)))) (below_size (by repeat (first | (with_reducible first | exact HB.out | apply below_alloc | apply pw_below_drewN | apply below_drew1 | refine below_set ?_ GE161.out) | exact HB.out)))); have n1_ := Aside0.mk (blk_below (g := gb161) (o := .cells #[.int .i64 ((rd_T97 l0 (ji2)).f0), .int .u8 ((rd_T97 l0 (ji2)).f1)] 97 (0, 0)) (by (with_reducible repeat (first | refine blk_drewN ?_ _ | refine blk_drew ?_ | refine blk_alloc ?_ _)); exact BK161.out) hb); have n2_ := Aside0.mk (below_step (by repeat (first | (with_reducible first | exact HB.out | apply below_alloc | apply pw_below_drewN | apply below_drew1 | refine below_set ?_ GE161.out) | exact HB.out)) hb); clear BK161; clear HB; have HO164 := n0_; have BK161 := n1_; have HB := n2_; clear n0_ n1_ n2_; (try clear hb); (try clear hb2); (try clear hk); (try clear hi); (try clear ho0); have hcz34_0 : w33.cell? ⟨gb161, 0, none⟩ = some (.int .i64 ((rd_T97 l0 (ji2)).f0)) := (blk_cell BK161.out 0).trans rfl; have hcz34_1 : w33.cell? ⟨gb161, 1, none⟩ = some (.int .u8 ((rd_T97 l0 (ji2)).f1)) := (blk_cell BK161.out 1).trans rfl; have hfz34_0 := blk_frozen BK161.out 0; have hfz34_1 := blk_frozen BK161.out 1))
                       have n0_ := Aside0.mk (Kd.N_drew HO164.out)
                       have n1_ := Aside0.mk (blk_drew BK161.out)
                       have n2_ := Aside0.mk (below_drew1 HB.out)
                       clear HO164
                       clear BK161
                       clear HB
                       have HO164 := n0_
                       have BK161 := n1_
                       have HB := n2_
                       clear n0_ n1_ n2_
                       obtain ⟨Ao36, co36, eo36⟩ := Kd.N_slice HO164.out
                       (first | subst eo36 | (injection eo36 with f1_ f2_ f3_; have f4_ := f1_.symm; have f5_ := f3_.symm; clear f1_ f2_ f3_; subst f4_; subst f5_))
                       have p168 : 0 ≤ (0 : Int) := (by omega)
                       have q168 : 0 < (t162.length : Int) := of_decide_eq_true (by first | (with_reducible assumption) | assumption)
                       obtain ⟨ad168, A168_0, c168_0, e168, hx168_0, hl168_0, hi168_0⟩ := at_L3 (Kd.N_reads' HO164.out).2.2 0 p168 q168
                       cases e168
                       obtain ⟨ce168, hce168, hMe168, hcc168⟩ := Kd.N_get HO164.out [] 0 p168 (by first | exact q168 | exact of_decide_eq_true (by first | (with_reducible assumption) | assumption) | (have e_ := (Kd.N_reads' HO164.out).1; omega))
                       obtain ⟨ua168_0, uc168_0, rfl, ul168_0, ge168_0⟩ := Kd.FK_slice_open hMe168
                       have hv168_0 := hcc168 0 _ rfl
                       rw [Nat.add_zero, show ((Kd.slice 97 k97)).sz = 1 from rfl, Nat.mul_one] at hv168_0
                       replace hv168_0 := Option.some.inj (hv168_0.symm.trans hx168_0)
                       injection hv168_0 with hva_ hvn_ hvc_
                       rw [hva_] at ge168_0
                       rw [hvc_] at ul168_0
                       have HL168_0 := Aside0.mk (show Kd.V k97 97 _ w.heap.size _ _ (rd_L3 t162 0) from Kd.V_mk ul168_0 ge168_0)
                       clear hva_ hvn_ hvc_ ge168_0 ul168_0
                       clear hcc168 hce168
                       have qi168 : (0 < t162.length) = True := eq_true (by omega)
                       (try rw [show ((0 : Int)).toNat = 0 from rfl] at hx168_0)
                       (try rw [Addr.add_zero'] at hx168_0)
                       have HR168_0 := Aside0.mk hi168_0
                       have HC168_0 := Aside0.mk hl168_0
                       clear hi168_0 hl168_0
                       replace p168 := eq_true p168
                       replace q168 := eq_true q168
                       have p169 : 0 ≤ (0 : Int) := (by omega)
                       have q169 : 0 < (t162.length : Int) := of_decide_eq_true (by first | (with_reducible assumption) | assumption)
                       obtain ⟨ad169, A169_0, c169_0, e169, hx169_0, hl169_0, hi169_0⟩ := at_L3 (Kd.N_reads' HO164.out).2.2 0 p169 q169
                       obtain rfl : ad168 = ad169 := (by injection e169)
                       obtain ⟨ce169, hce169, hMe169, hcc169⟩ := Kd.N_get HO164.out [] 0 p169 (by first | exact q169 | exact of_decide_eq_true (by first | (with_reducible assumption) | assumption) | (have e_ := (Kd.N_reads' HO164.out).1; omega))
                       obtain ⟨ua169_0, uc169_0, rfl, ul169_0, ge169_0⟩ := Kd.FK_slice_open hMe169
                       have hv169_0 := hcc169 0 _ rfl
                       rw [Nat.add_zero, show ((Kd.slice 97 k97)).sz = 1 from rfl, Nat.mul_one] at hv169_0
                       replace hv169_0 := Option.some.inj (hv169_0.symm.trans hx169_0)
                       injection hv169_0 with hva_ hvn_ hvc_
                       rw [hva_] at ge169_0
                       rw [hvc_] at ul169_0
                       have HL169_0 := Aside0.mk (show Kd.V k97 97 _ w.heap.size _ _ (rd_L3 t162 0) from Kd.V_mk ul169_0 ge169_0)
                       clear hva_ hvn_ hvc_ ge169_0 ul169_0
                       clear hcc169 hce169
                       have qi169 : (0 < t162.length) = True := eq_true (by omega)
                       (try rw [show ((0 : Int)).toNat = 0 from rfl] at hx169_0)
                       (try rw [Addr.add_zero'] at hx169_0)
                       have HR169_0 := Aside0.mk hi169_0
                       have HC169_0 := Aside0.mk hl169_0
                       clear hi169_0 hl169_0
                       replace p169 := eq_true p169
                       replace q169 := eq_true q169
                       have ea_ := Option.some.inj (hx168_0.symm.trans hx169_0)
                       injection ea_ with ea_ en_ ec_
                       subst ea_
                       subst ec_
                       clear en_
                       have p170 : 0 ≤ ((ji23) : Int) := of_decide_eq_true (by first | (with_reducible assumption) | assumption)
                       have q170 : (ji23) < ((rd_L3 t162 0).length : Int) := of_decide_eq_true (by first | (with_reducible assumption) | assumption)
                       obtain ⟨ad170, e170, hx170_0, hx170_1⟩ := at_T97 (by repeat (first | (with_reducible exact HR168_0.out) | (with_reducible refine Kd.C_alloc ?_ _) | (with_reducible refine Kd.C_drewN ?_ _) | (with_reducible refine Kd.C_drew ?_) | exact HR168_0.out)) (ji23) p170 q170
                       cases e170
                       replace p170 := eq_true p170
                       replace q170 := eq_true q170
                       refine start_ (n := 12) (S := fun w' => w'.cell? ad168 = some (.slice (some ad170) (rd_L3 t162 0).length c168_0) ∧ w'.cell? ad168 = some (.slice (some ad170) (rd_L3 t162 0).length c168_0) ∧ w'.cell? (ad170.add (((ji23)).toNat * 2)) = some (.int .i64 ((rd_T97 (rd_L3 t162 0) (ji23)).f0)) ∧ w'.cell? ⟨(ad170.add (((ji23)).toNat * 2)).block, (ad170.add (((ji23)).toNat * 2)).off + 1, none⟩ = some (.int .u8 ((rd_T97 (rd_L3 t162 0) (ji23)).f1))) (ds := []) #[false, false, false, false, false, false, false, false, false, false, false, false] (by kernel_rfl) rfl rfl ⟨hx168_0, hx169_0, hx170_0, hx170_1⟩ (fun hHeld => ?_); refine with_tabW eggboxref19_text.tab9 eggboxref19_text.bits9 (fun HT_ HW_ => ?_)
                       generalize w33.drew = w35 at HO164 BK161 HB HL168_0 HL169_0 HR168_0 HR169_0 hx168_0 hx169_0 hx170_0 hx170_1 hHeld ⊢
                       refine pure_ (i := 0) (N := some 25) (v := ?_) (a' := ?_) #[true, false, false, false, false, false, false, false, false, false, false, false] rfl rfl (any_of HT_.out (by kernel_rfl)) (fun _ _ _ h => h) (Or.inl ⟨by rfl, ?_⟩) ?_ ?_
                       rotate_left
                       · intro w'
                         go_simp
                         with_reducible rfl
                       rotate_left
                       · simp only [Act.put, sA_, sZ_, sS_, i64_w, i32_w]
                         rfl
                       refine pure_ (i := 1) (N := some 26) (v := ?_) (a' := ?_) #[true, true, false, false, false, false, false, false, false, false, false, false] rfl rfl (any_of HT_.out (by kernel_rfl)) (fun _ _ _ h => h) (Or.inl ⟨by rfl, ?_⟩) ?_ ?_
                       rotate_left
                       · intro w'
                         go_simp
                         with_reducible rfl
                       rotate_left
                       · simp only [Act.put, sA_, sZ_, sS_, i64_w, i32_w]
                         rfl
                       refine pure_ (i := 3) (N := some 28) (v := ?_) (a' := ?_) #[true, true, false, true, false, false, false, false, false, false, false, false] rfl rfl (any_of HT_.out (by kernel_rfl)) (fun _ _ _ h => h) (Or.inl ⟨by rfl, ?_⟩) ?_ ?_
                       rotate_left
                       · intro w'
                         go_simp
                         with_reducible rfl
                       rotate_left
                       · simp only [Act.put, sA_, sZ_, sS_, i64_w, i32_w]
                         rfl
                       refine pure_ (i := 4) (N := some 29) (v := ?_) (a' := ?_) #[true, true, false, true, true, false, false, false, false, false, false, false] rfl rfl (any_of HT_.out (by kernel_rfl)) (fun _ _ _ h => h) (Or.inl ⟨by rfl, ?_⟩) ?_ ?_
                       rotate_left
                       · intro w'
                         go_simp
                         with_reducible rfl
                       rotate_left
                       · simp only [Act.put, sA_, sZ_, sS_, i64_w, i32_w]
                         rfl
                       refine take_ (i := 2) (N := some 27) (v := ?_) (a' := ?_) #[true, true, true, true, true, false, false, false, false, false, false, false] rfl rfl (take_ofW HT_.out HW_.out (by kernel_rfl)) (fun _ _ _ h => h) (Or.inl ⟨by rfl, ?_⟩) hHeld ?_ ?_
                       rotate_left
                       · rintro w' ⟨s0, s1, s2, s3⟩
                         go_simp
                         with_reducible rfl
                       rotate_left
                       · simp only [Act.put, sA_, sZ_, sS_, i64_w, i32_w]
                         rfl
                       refine take_ (i := 5) (N := some 30) (v := ?_) (a' := ?_) #[true, true, true, true, true, true, false, false, false, false, false, false] rfl rfl (take_ofW HT_.out HW_.out (by kernel_rfl)) (fun _ _ _ h => h) (Or.inl ⟨by rfl, ?_⟩) hHeld ?_ ?_
                       rotate_left
                       · rintro w' ⟨s0, s1, s2, s3⟩
                         go_simp
                         with_reducible rfl
                       rotate_left
                       · simp only [Act.put, sA_, sZ_, sS_, i64_w, i32_w]
                         rfl
                       refine pure_ (i := 6) (N := some 31) (v := ?_) (a' := ?_) #[true, true, true, true, true, true, true, false, false, false, false, false] rfl rfl (any_of HT_.out (by kernel_rfl)) (fun _ _ _ h => h) (Or.inl ⟨by rfl, ?_⟩) ?_ ?_
                       rotate_left
                       · intro w'
                         go_simp
                         with_reducible rfl
                       rotate_left
                       · simp only [Act.put, sA_, sZ_, sS_, i64_w, i32_w]
                         rfl
                       refine pure_ (i := 7) (N := some 32) (v := ?_) (a' := ?_) #[true, true, true, true, true, true, true, true, false, false, false, false] rfl rfl (any_of HT_.out (by kernel_rfl)) (fun _ _ _ h => h) (Or.inl ⟨by rfl, ?_⟩) ?_ ?_
                       rotate_left
                       · intro w'
                         go_simp
                         with_reducible rfl
                       rotate_left
                       · simp only [Act.put, sA_, sZ_, sS_, i64_w, i32_w]
                         rfl
                       refine pure_ (i := 8) (N := some 33) (v := ?_) (a' := ?_) #[true, true, true, true, true, true, true, true, true, false, false, false] rfl rfl (any_of HT_.out (by kernel_rfl)) (fun _ _ _ h => h) (Or.inl ⟨by rfl, ?_⟩) ?_ ?_
                       rotate_left
                       · intro w'
                         go_simp
                         with_reducible rfl
                       rotate_left
                       · simp only [Act.put, sA_, sZ_, sS_, i64_w, i32_w]
                         rfl
                       refine pure_ (i := 9) (N := some 34) (v := ?_) (a' := ?_) #[true, true, true, true, true, true, true, true, true, true, false, false] rfl rfl (any_of HT_.out (by kernel_rfl)) (fun _ _ _ h => h) (Or.inl ⟨by rfl, ?_⟩) ?_ ?_
                       rotate_left
                       · intro w'
                         go_simp
                         with_reducible rfl
                       rotate_left
                       · simp only [Act.put, sA_, sZ_, sS_, i64_w, i32_w]
                         rfl
                       refine take_ (i := 10) (N := some 35) (v := ?_) (a' := ?_) #[true, true, true, true, true, true, true, true, true, true, true, false] rfl rfl (take_ofW HT_.out HW_.out (by kernel_rfl)) (fun _ _ _ h => h) (Or.inl ⟨by rfl, ?_⟩) hHeld ?_ ?_
                       rotate_left
                       · rintro w' ⟨s0, s1, s2, s3⟩
                         go_simp
                         with_reducible rfl
                       rotate_left
                       · simp only [Act.put, sA_, sZ_, sS_, i64_w, i32_w]
                         rfl
                       refine pure_ (i := 11) (N := some 36) (v := ?_) (a' := ?_) #[true, true, true, true, true, true, true, true, true, true, true, true] rfl rfl (any_of HT_.out (by kernel_rfl)) (fun _ _ _ h => h) (Or.inl ⟨by rfl, ?_⟩) ?_ ?_
                       rotate_left
                       · intro w'
                         go_simp
                         with_reducible rfl
                       rotate_left
                       · simp only [Act.put, sA_, sZ_, sS_, i64_w, i32_w]
                         rfl
                       refine done_ (done_of HT_.out (by kernel_rfl)) ?_
                       have p171 : 0 ≤ (0 : Int) := (by omega)
                       have q171 : 0 < (t162.length : Int) := of_decide_eq_true (by first | (with_reducible assumption) | assumption)
                       obtain ⟨ad171, A171_0, c171_0, e171, hx171_0, hl171_0, hi171_0⟩ := at_L3 (Kd.N_reads' HO164.out).2.2 0 p171 q171
                       obtain rfl : ad168 = ad171 := (by injection e171)
                       obtain ⟨ce171, hce171, hMe171, hcc171⟩ := Kd.N_get HO164.out [] 0 p171 (by first | exact q171 | exact of_decide_eq_true (by first | (with_reducible assumption) | assumption) | (have e_ := (Kd.N_reads' HO164.out).1; omega))
                       obtain ⟨ua171_0, uc171_0, rfl, ul171_0, ge171_0⟩ := Kd.FK_slice_open hMe171
                       have hv171_0 := hcc171 0 _ rfl
                       rw [Nat.add_zero, show ((Kd.slice 97 k97)).sz = 1 from rfl, Nat.mul_one] at hv171_0
                       replace hv171_0 := Option.some.inj (hv171_0.symm.trans hx171_0)
                       injection hv171_0 with hva_ hvn_ hvc_
                       rw [hva_] at ge171_0
                       rw [hvc_] at ul171_0
                       have HL171_0 := Aside0.mk (show Kd.V k97 97 _ w.heap.size _ _ (rd_L3 t162 0) from Kd.V_mk ul171_0 ge171_0)
                       clear hva_ hvn_ hvc_ ge171_0 ul171_0
                       clear hcc171 hce171
                       have qi171 : (0 < t162.length) = True := eq_true (by omega)
                       (try rw [show ((0 : Int)).toNat = 0 from rfl] at hx171_0)
                       (try rw [Addr.add_zero'] at hx171_0)
                       have HR171_0 := Aside0.mk hi171_0
                       have HC171_0 := Aside0.mk hl171_0
                       clear hi171_0 hl171_0
                       replace p171 := eq_true p171
                       replace q171 := eq_true q171
                       have ea_ := Option.some.inj (hx168_0.symm.trans hx171_0)
                       injection ea_ with ea_ en_ ec_
                       subst ea_
                       subst ec_
                       clear en_
                       try go_wp2_with (first | ((with_reducible refine gate_callee (f := 50) rfl ?_); refine goesL_ (some 40) rfl rfl Try.func50 (by kernel_rfl) rfl #[.slice (some ad170) (rd_L3 t162 0).length c168_0] rfl (by (try simp only [List.map_toArray, List.map_cons, List.map_nil]); first | done | rfl | (simp only [List.length_drop, List.length_take]; rfl)) ?_; (with_reducible refine (ih k (by omega) _ _ (rd_L3 t162 0) t172 _ ?side1 ?side2 A27.out).mono ?_); (case side1 => repeat (first | exact (by repeat (first | (with_reducible exact HR171_0.out) | (with_reducible refine Kd.C_alloc ?_ _) | (with_reducible refine Kd.C_drewN ?_ _) | (with_reducible refine Kd.C_drew ?_) | exact HR171_0.out)) | (with_reducible refine Kd.C_alloc ?_ _) | (with_reducible refine Kd.C_drewN ?_ _) | (with_reducible refine Kd.C_drew ?_))); (case side2 => exact HC171_0.out); rintro e w37 ⟨rfl, hb⟩; refine ⟨_, rfl, ?_⟩; have n0_ := Aside0.mk (Kd.N_below (by (with_reducible repeat (first | apply Kd.N_alloc | apply Kd.N_drewN | apply Kd.N_drew)); exact HO164.out) hb); have n1_ := Aside0.mk (Kd.V_below (by (with_reducible repeat (first | apply Kd.V_alloc | apply Kd.V_drewN | apply Kd.V_drew)); exact HL168_0.out) hb); have n2_ := Aside0.mk (Kd.V_below (by (with_reducible repeat (first | apply Kd.V_alloc | apply Kd.V_drewN | apply Kd.V_drew)); exact HL169_0.out) hb); have n3_ := Aside0.mk (Kd.V_below (by (with_reducible repeat (first | apply Kd.V_alloc | apply Kd.V_drewN | apply Kd.V_drew)); exact HL171_0.out) hb); have n4_ := Aside0.mk (blk_below (g := gb161) (o := .cells #[.int .i64 ((rd_T97 l0 (ji2)).f0), .int .u8 ((rd_T97 l0 (ji2)).f1)] 97 (0, 0)) (by (with_reducible repeat (first | refine blk_drewN ?_ _ | refine blk_drew ?_ | refine blk_alloc ?_ _)); exact BK161.out) hb); have n5_ := Aside0.mk (Kd.C_below (by repeat (first | (with_reducible exact HR168_0.out) | (with_reducible refine Kd.C_alloc ?_ _) | (with_reducible refine Kd.C_drewN ?_ _) | (with_reducible refine Kd.C_drew ?_) | exact HR168_0.out)) hb); have n6_ := Aside0.mk (Kd.C_below (by repeat (first | (with_reducible exact HR169_0.out) | (with_reducible refine Kd.C_alloc ?_ _) | (with_reducible refine Kd.C_drewN ?_ _) | (with_reducible refine Kd.C_drew ?_) | exact HR169_0.out)) hb); have n7_ := Aside0.mk (Kd.C_below (by repeat (first | (with_reducible exact HR171_0.out) | (with_reducible refine Kd.C_alloc ?_ _) | (with_reducible refine Kd.C_drewN ?_ _) | (with_reducible refine Kd.C_drew ?_) | exact HR171_0.out)) hb); have n8_ := Aside0.mk (below_step (by repeat (first | (with_reducible first | exact HB.out | apply below_alloc | apply pw_below_drewN | apply below_drew1 | refine below_set ?_ GE161.out) | exact HB.out)) hb); clear HO164; clear HL168_0; clear HL169_0; clear HL171_0; clear BK161; clear HR168_0; clear HR169_0; clear HR171_0; clear HB; have HO164 := n0_; have HL168_0 := n1_; have HL169_0 := n2_; have HL171_0 := n3_; have BK161 := n4_; have HR168_0 := n5_; have HR169_0 := n6_; have HR171_0 := n7_; have HB := n8_; clear n0_ n1_ n2_ n3_ n4_ n5_ n6_ n7_ n8_; (try clear hb); (try clear hb2); (try clear hk); (try clear hi)))
                       go_ret
                       exact ⟨by first | rfl | (simp [errW_none, errW_some] <;> rfl) | (simp only [← hji2, ← hji23]; first | rfl | (simp [errW_none, errW_some] <;> rfl)) | (simp [*, errW_none, errW_some] <;> rfl), by repeat (first | (with_reducible first | exact HB.out | apply below_alloc | apply pw_below_drewN | apply below_drew1 | refine below_set ?_ GE161.out) | exact HB.out)⟩
                     · rw [if_neg c29] at H
                       exact absurd H (by simp)
                   · rw [if_neg c28] at H
                     exact absurd H (by simp)
                 · rw [if_neg c26] at H
                   have c26b0 : (((rd_T97 (rd_L3 t162 0) (ji23)).f0) == 3) = false := beq_eq_false_iff_ne.mpr c26
                   have c26b1 : (((rd_T97 (rd_L3 t162 0) (ji23)).f0) != 3) = true := bne_iff_ne.mpr c26
                   replace H := Option.bind_eq_some_iff.mp H
                   obtain ⟨t174, A380, H⟩ := H
                   replace H : (if t174.size + 2 ≤ 9223372036854775807 then (some (t174 ++ (⟨#[94, 119]⟩ : ByteArray))) else (none)) = some r := H
                   have A38 := Aside0.mk A380
                   clear A380
                   by_cases c39 : t174.size + 2 ≤ 9223372036854775807
                   · rw [if_pos c39] at H
                     have c39b0 := eq_true c39
                     have c39b1 : decide (t174.size + 2 ≤ 9223372036854775807) = true := decide_eq_true c39
                     try have c39b2 : (9223372036854775807 < t174.size + 2) = False := eq_false (Nat.not_lt.2 c39)
                     obtain rfl := Option.some.inj H
                     have p160 : 0 ≤ ((ji2) : Int) := of_decide_eq_true (by first | (with_reducible assumption) | assumption)
                     have q160 : (ji2) < (l0.length : Int) := of_decide_eq_true (by first | (with_reducible assumption) | assumption)
                     obtain ⟨ad160, e160, hx160_0, hx160_1⟩ := at_T97 HR0.out (ji2) p160 q160
                     cases e160
                     replace p160 := eq_true p160
                     replace q160 := eq_true q160
                     go_enter Try.func50, Try.ntmps50
                     try go_wp2_with (first | ((with_reducible refine gate_dst (N := 3) rfl ?_); refine box_event ?hg (N := 3) ?hd (cs := #[.int .i64 0, .int .u8 0]) (t := 97) ?hr ?_; (case hd => rfl); (case hg => rfl); (case hr => first | (go_simp; done) | (go_simp; rfl)); intro gb161 hg w40 hbox hb; have n0_ := Aside0.mk (below_step (by repeat (first | (with_reducible first | exact HB.out | apply below_alloc | apply pw_below_drewN | apply below_drew1) | exact HB.out)) hb); have n1_ := Aside0.mk (hbox); have n2_ := Aside0.mk ((by rw [hg]; exact (below_size (by repeat (first | (with_reducible first | exact HB.out | apply below_alloc | apply pw_below_drewN | apply below_drew1) | exact HB.out))) : w.heap.size ≤ gb161)); have n3_ := Aside0.mk ((by rw [hg]; exact (below_size (by repeat (first | (with_reducible first | exact HB.out | apply below_alloc | apply pw_below_drewN | apply below_drew1) | exact HB.out))) : w.heap.size ≤ gb161)); clear HB; have HB := n0_; have BK161 := n1_; have GW161 := n2_; have GE161 := n3_; clear n0_ n1_ n2_ n3_; clear hb hbox hg; have hcz41_0 : w40.cell? ⟨gb161, 0, none⟩ = some (.int .i64 0) := (blk_cell BK161.out 0).trans rfl; have hcz41_1 : w40.cell? ⟨gb161, 1, none⟩ = some (.int .u8 0) := (blk_cell BK161.out 1).trans rfl; have hfz41_0 := blk_frozen BK161.out 0; have hfz41_1 := blk_frozen BK161.out 1) | ((with_reducible refine gate_store (t := 97) (p := 3) rfl ?_); refine store_event (t := 97) (p := 3) (v := ?vo_w42) (w1 := ((w40.setCell ⟨gb161, 0, none⟩ (.int .i64 ((rd_T97 l0 (ji2)).f0))).setCell ⟨gb161, 1, none⟩ (.int .u8 ((rd_T97 l0 (ji2)).f1)))) ?hg ?ho ?hn ?hr ?_; (case ho => rfl); (case hg => rfl); (case hn => rfl); (case hr => first | (go_simp; done) | (go_simp; rfl)); intro w42 hw; have n0_ : Aside0 (w42.heap[gb161]? = some (.cells #[.int .i64 ((rd_T97 l0 (ji2)).f0), .int .u8 ((rd_T97 l0 (ji2)).f1)] 97 (0, 0))) := ⟨(by rw [hw]; exact (by (with_reducible repeat (first | refine blk_drewN ?_ _ | refine blk_drew ?_ | refine blk_alloc ?_ _)); refine blk_put (cs := #[.int .i64 ((rd_T97 l0 (ji2)).f0), .int .u8 0]) ?_ 1 _ rfl; (with_reducible repeat (first | refine blk_drewN ?_ _ | refine blk_drew ?_ | refine blk_alloc ?_ _)); refine blk_put (cs := #[.int .i64 0, .int .u8 0]) ?_ 0 _ rfl; (with_reducible repeat (first | refine blk_drewN ?_ _ | refine blk_drew ?_ | refine blk_alloc ?_ _)); exact BK161.out))⟩; have n1_ : Aside0 (Below w.heap.size w w42) := ⟨(by rw [hw]; exact (by repeat (first | (with_reducible first | exact HB.out | apply below_alloc | apply pw_below_drewN | apply below_drew1 | refine below_set ?_ GE161.out) | exact HB.out)))⟩; clear hw; clear BK161; clear HB; have BK161 := n0_; have HB := n1_; clear n0_ n1_) | ((with_reducible refine gate_callee (f := 108) rfl ?_); refine goesL_ (some 12) rfl rfl Try.func108 (by kernel_rfl) rfl #[.slice (some ad160) l0.length c0] rfl (by (try simp only [List.map_toArray, List.map_cons, List.map_nil]); first | done | rfl | (simp only [List.length_drop, List.length_take]; rfl)) ?_; (with_reducible refine (eggboxref19_Cut.calls k (fun k_ => k_ < w.heap.size) _ _ l0 t162 _ ?side1 A5.out).mono ?_); (case side1 => exact Kd.V_mk HC0.out (Kd.F_below (Kd.C_F k97_heap HR0.out) (by repeat (first | (with_reducible first | exact HB.out | apply below_alloc | apply pw_below_drewN | apply below_drew1 | refine below_set ?_ GE161.out) | exact HB.out)))); rintro e w43 ⟨v163, rfl, ho0, hb⟩; refine ⟨_, rfl, ?_⟩; have n0_ := Aside0.mk (Kd.N_lower (Kd.N_mono (ok' := fun k_ => k_ ≠ gb161) ho0 (fun k_ hk_ => Or.elim hk_ (fun hs_ => fun e_ => Nat.not_le.2 hs_ (by rw [e_]; exact GW161.out)) (fun hn_ => (Kd.freshB (g := gb161) (o := .cells #[.int .i64 ((rd_T97 l0 (ji2)).f0), .int .u8 ((rd_T97 l0 (ji2)).f1)] 97 (0, 0)) (by (with_reducible repeat (first | refine blk_drewN ?_ _ | refine blk_drew ?_ | refine blk_alloc ?_ _)); exact BK161.out) k_ hn_)))) (below_size (by repeat (first | (with_reducible first | exact HB.out | apply below_alloc | apply pw_below_drewN | apply below_drew1 | refine below_set ?_ GE161.out) | exact HB.out)))); have n1_ := Aside0.mk (blk_below (g := gb161) (o := .cells #[.int .i64 ((rd_T97 l0 (ji2)).f0), .int .u8 ((rd_T97 l0 (ji2)).f1)] 97 (0, 0)) (by (with_reducible repeat (first | refine blk_drewN ?_ _ | refine blk_drew ?_ | refine blk_alloc ?_ _)); exact BK161.out) hb); have n2_ := Aside0.mk (below_step (by repeat (first | (with_reducible first | exact HB.out | apply below_alloc | apply pw_below_drewN | apply below_drew1 | refine below_set ?_ GE161.out) | exact HB.out)) hb); clear BK161; clear HB; have HO164 := n0_; have BK161 := n1_; have HB := n2_; clear n0_ n1_ n2_; (try clear hb); (try clear hb2); (try clear hk); (try clear hi); (try clear ho0); have hcz44_0 : w43.cell? ⟨gb161, 0, none⟩ = some (.int .i64 ((rd_T97 l0 (ji2)).f0)) := (blk_cell BK161.out 0).trans rfl; have hcz44_1 : w43.cell? ⟨gb161, 1, none⟩ = some (.int .u8 ((rd_T97 l0 (ji2)).f1)) := (blk_cell BK161.out 1).trans rfl; have hfz44_0 := blk_frozen BK161.out 0; have hfz44_1 := blk_frozen BK161.out 1))
                     have n0_ := Aside0.mk (Kd.N_drew HO164.out)
                     have n1_ := Aside0.mk (blk_drew BK161.out)
                     have n2_ := Aside0.mk (below_drew1 HB.out)
                     clear HO164
                     clear BK161
                     clear HB
                     have HO164 := n0_
                     have BK161 := n1_
                     have HB := n2_
                     clear n0_ n1_ n2_
                     obtain ⟨Ao46, co46, eo46⟩ := Kd.N_slice HO164.out
                     (first | subst eo46 | (injection eo46 with f1_ f2_ f3_; have f4_ := f1_.symm; have f5_ := f3_.symm; clear f1_ f2_ f3_; subst f4_; subst f5_))
                     have p168 : 0 ≤ (0 : Int) := (by omega)
                     have q168 : 0 < (t162.length : Int) := of_decide_eq_true (by first | (with_reducible assumption) | assumption)
                     obtain ⟨ad168, A168_0, c168_0, e168, hx168_0, hl168_0, hi168_0⟩ := at_L3 (Kd.N_reads' HO164.out).2.2 0 p168 q168
                     cases e168
                     obtain ⟨ce168, hce168, hMe168, hcc168⟩ := Kd.N_get HO164.out [] 0 p168 (by first | exact q168 | exact of_decide_eq_true (by first | (with_reducible assumption) | assumption) | (have e_ := (Kd.N_reads' HO164.out).1; omega))
                     obtain ⟨ua168_0, uc168_0, rfl, ul168_0, ge168_0⟩ := Kd.FK_slice_open hMe168
                     have hv168_0 := hcc168 0 _ rfl
                     rw [Nat.add_zero, show ((Kd.slice 97 k97)).sz = 1 from rfl, Nat.mul_one] at hv168_0
                     replace hv168_0 := Option.some.inj (hv168_0.symm.trans hx168_0)
                     injection hv168_0 with hva_ hvn_ hvc_
                     rw [hva_] at ge168_0
                     rw [hvc_] at ul168_0
                     have HL168_0 := Aside0.mk (show Kd.V k97 97 _ w.heap.size _ _ (rd_L3 t162 0) from Kd.V_mk ul168_0 ge168_0)
                     clear hva_ hvn_ hvc_ ge168_0 ul168_0
                     clear hcc168 hce168
                     have qi168 : (0 < t162.length) = True := eq_true (by omega)
                     (try rw [show ((0 : Int)).toNat = 0 from rfl] at hx168_0)
                     (try rw [Addr.add_zero'] at hx168_0)
                     have HR168_0 := Aside0.mk hi168_0
                     have HC168_0 := Aside0.mk hl168_0
                     clear hi168_0 hl168_0
                     replace p168 := eq_true p168
                     replace q168 := eq_true q168
                     have p169 : 0 ≤ (0 : Int) := (by omega)
                     have q169 : 0 < (t162.length : Int) := of_decide_eq_true (by first | (with_reducible assumption) | assumption)
                     obtain ⟨ad169, A169_0, c169_0, e169, hx169_0, hl169_0, hi169_0⟩ := at_L3 (Kd.N_reads' HO164.out).2.2 0 p169 q169
                     obtain rfl : ad168 = ad169 := (by injection e169)
                     obtain ⟨ce169, hce169, hMe169, hcc169⟩ := Kd.N_get HO164.out [] 0 p169 (by first | exact q169 | exact of_decide_eq_true (by first | (with_reducible assumption) | assumption) | (have e_ := (Kd.N_reads' HO164.out).1; omega))
                     obtain ⟨ua169_0, uc169_0, rfl, ul169_0, ge169_0⟩ := Kd.FK_slice_open hMe169
                     have hv169_0 := hcc169 0 _ rfl
                     rw [Nat.add_zero, show ((Kd.slice 97 k97)).sz = 1 from rfl, Nat.mul_one] at hv169_0
                     replace hv169_0 := Option.some.inj (hv169_0.symm.trans hx169_0)
                     injection hv169_0 with hva_ hvn_ hvc_
                     rw [hva_] at ge169_0
                     rw [hvc_] at ul169_0
                     have HL169_0 := Aside0.mk (show Kd.V k97 97 _ w.heap.size _ _ (rd_L3 t162 0) from Kd.V_mk ul169_0 ge169_0)
                     clear hva_ hvn_ hvc_ ge169_0 ul169_0
                     clear hcc169 hce169
                     have qi169 : (0 < t162.length) = True := eq_true (by omega)
                     (try rw [show ((0 : Int)).toNat = 0 from rfl] at hx169_0)
                     (try rw [Addr.add_zero'] at hx169_0)
                     have HR169_0 := Aside0.mk hi169_0
                     have HC169_0 := Aside0.mk hl169_0
                     clear hi169_0 hl169_0
                     replace p169 := eq_true p169
                     replace q169 := eq_true q169
                     have ea_ := Option.some.inj (hx168_0.symm.trans hx169_0)
                     injection ea_ with ea_ en_ ec_
                     subst ea_
                     subst ec_
                     clear en_
                     have p170 : 0 ≤ ((ji23) : Int) := of_decide_eq_true (by first | (with_reducible assumption) | assumption)
                     have q170 : (ji23) < ((rd_L3 t162 0).length : Int) := of_decide_eq_true (by first | (with_reducible assumption) | assumption)
                     obtain ⟨ad170, e170, hx170_0, hx170_1⟩ := at_T97 (by repeat (first | (with_reducible exact HR168_0.out) | (with_reducible refine Kd.C_alloc ?_ _) | (with_reducible refine Kd.C_drewN ?_ _) | (with_reducible refine Kd.C_drew ?_) | exact HR168_0.out)) (ji23) p170 q170
                     cases e170
                     replace p170 := eq_true p170
                     replace q170 := eq_true q170
                     refine start_ (n := 12) (S := fun w' => w'.cell? ad168 = some (.slice (some ad170) (rd_L3 t162 0).length c168_0) ∧ w'.cell? ad168 = some (.slice (some ad170) (rd_L3 t162 0).length c168_0) ∧ w'.cell? (ad170.add (((ji23)).toNat * 2)) = some (.int .i64 ((rd_T97 (rd_L3 t162 0) (ji23)).f0)) ∧ w'.cell? ⟨(ad170.add (((ji23)).toNat * 2)).block, (ad170.add (((ji23)).toNat * 2)).off + 1, none⟩ = some (.int .u8 ((rd_T97 (rd_L3 t162 0) (ji23)).f1))) (ds := []) #[false, false, false, false, false, false, false, false, false, false, false, false] (by kernel_rfl) rfl rfl ⟨hx168_0, hx169_0, hx170_0, hx170_1⟩ (fun hHeld => ?_); refine with_tabW eggboxref19_text.tab9 eggboxref19_text.bits9 (fun HT_ HW_ => ?_)
                     generalize w43.drew = w45 at HO164 BK161 HB HL168_0 HL169_0 HR168_0 HR169_0 hx168_0 hx169_0 hx170_0 hx170_1 hHeld ⊢
                     refine pure_ (i := 0) (N := some 25) (v := ?_) (a' := ?_) #[true, false, false, false, false, false, false, false, false, false, false, false] rfl rfl (any_of HT_.out (by kernel_rfl)) (fun _ _ _ h => h) (Or.inl ⟨by rfl, ?_⟩) ?_ ?_
                     rotate_left
                     · intro w'
                       go_simp
                       with_reducible rfl
                     rotate_left
                     · simp only [Act.put, sA_, sZ_, sS_, i64_w, i32_w]
                       rfl
                     refine pure_ (i := 1) (N := some 26) (v := ?_) (a' := ?_) #[true, true, false, false, false, false, false, false, false, false, false, false] rfl rfl (any_of HT_.out (by kernel_rfl)) (fun _ _ _ h => h) (Or.inl ⟨by rfl, ?_⟩) ?_ ?_
                     rotate_left
                     · intro w'
                       go_simp
                       with_reducible rfl
                     rotate_left
                     · simp only [Act.put, sA_, sZ_, sS_, i64_w, i32_w]
                       rfl
                     refine pure_ (i := 3) (N := some 28) (v := ?_) (a' := ?_) #[true, true, false, true, false, false, false, false, false, false, false, false] rfl rfl (any_of HT_.out (by kernel_rfl)) (fun _ _ _ h => h) (Or.inl ⟨by rfl, ?_⟩) ?_ ?_
                     rotate_left
                     · intro w'
                       go_simp
                       with_reducible rfl
                     rotate_left
                     · simp only [Act.put, sA_, sZ_, sS_, i64_w, i32_w]
                       rfl
                     refine pure_ (i := 4) (N := some 29) (v := ?_) (a' := ?_) #[true, true, false, true, true, false, false, false, false, false, false, false] rfl rfl (any_of HT_.out (by kernel_rfl)) (fun _ _ _ h => h) (Or.inl ⟨by rfl, ?_⟩) ?_ ?_
                     rotate_left
                     · intro w'
                       go_simp
                       with_reducible rfl
                     rotate_left
                     · simp only [Act.put, sA_, sZ_, sS_, i64_w, i32_w]
                       rfl
                     refine take_ (i := 2) (N := some 27) (v := ?_) (a' := ?_) #[true, true, true, true, true, false, false, false, false, false, false, false] rfl rfl (take_ofW HT_.out HW_.out (by kernel_rfl)) (fun _ _ _ h => h) (Or.inl ⟨by rfl, ?_⟩) hHeld ?_ ?_
                     rotate_left
                     · rintro w' ⟨s0, s1, s2, s3⟩
                       go_simp
                       with_reducible rfl
                     rotate_left
                     · simp only [Act.put, sA_, sZ_, sS_, i64_w, i32_w]
                       rfl
                     refine take_ (i := 5) (N := some 30) (v := ?_) (a' := ?_) #[true, true, true, true, true, true, false, false, false, false, false, false] rfl rfl (take_ofW HT_.out HW_.out (by kernel_rfl)) (fun _ _ _ h => h) (Or.inl ⟨by rfl, ?_⟩) hHeld ?_ ?_
                     rotate_left
                     · rintro w' ⟨s0, s1, s2, s3⟩
                       go_simp
                       with_reducible rfl
                     rotate_left
                     · simp only [Act.put, sA_, sZ_, sS_, i64_w, i32_w]
                       rfl
                     refine pure_ (i := 6) (N := some 31) (v := ?_) (a' := ?_) #[true, true, true, true, true, true, true, false, false, false, false, false] rfl rfl (any_of HT_.out (by kernel_rfl)) (fun _ _ _ h => h) (Or.inl ⟨by rfl, ?_⟩) ?_ ?_
                     rotate_left
                     · intro w'
                       go_simp
                       with_reducible rfl
                     rotate_left
                     · simp only [Act.put, sA_, sZ_, sS_, i64_w, i32_w]
                       rfl
                     refine pure_ (i := 7) (N := some 32) (v := ?_) (a' := ?_) #[true, true, true, true, true, true, true, true, false, false, false, false] rfl rfl (any_of HT_.out (by kernel_rfl)) (fun _ _ _ h => h) (Or.inl ⟨by rfl, ?_⟩) ?_ ?_
                     rotate_left
                     · intro w'
                       go_simp
                       with_reducible rfl
                     rotate_left
                     · simp only [Act.put, sA_, sZ_, sS_, i64_w, i32_w]
                       rfl
                     refine pure_ (i := 8) (N := some 33) (v := ?_) (a' := ?_) #[true, true, true, true, true, true, true, true, true, false, false, false] rfl rfl (any_of HT_.out (by kernel_rfl)) (fun _ _ _ h => h) (Or.inl ⟨by rfl, ?_⟩) ?_ ?_
                     rotate_left
                     · intro w'
                       go_simp
                       with_reducible rfl
                     rotate_left
                     · simp only [Act.put, sA_, sZ_, sS_, i64_w, i32_w]
                       rfl
                     refine pure_ (i := 9) (N := some 34) (v := ?_) (a' := ?_) #[true, true, true, true, true, true, true, true, true, true, false, false] rfl rfl (any_of HT_.out (by kernel_rfl)) (fun _ _ _ h => h) (Or.inl ⟨by rfl, ?_⟩) ?_ ?_
                     rotate_left
                     · intro w'
                       go_simp
                       with_reducible rfl
                     rotate_left
                     · simp only [Act.put, sA_, sZ_, sS_, i64_w, i32_w]
                       rfl
                     refine take_ (i := 10) (N := some 35) (v := ?_) (a' := ?_) #[true, true, true, true, true, true, true, true, true, true, true, false] rfl rfl (take_ofW HT_.out HW_.out (by kernel_rfl)) (fun _ _ _ h => h) (Or.inl ⟨by rfl, ?_⟩) hHeld ?_ ?_
                     rotate_left
                     · rintro w' ⟨s0, s1, s2, s3⟩
                       go_simp
                       with_reducible rfl
                     rotate_left
                     · simp only [Act.put, sA_, sZ_, sS_, i64_w, i32_w]
                       rfl
                     refine pure_ (i := 11) (N := some 36) (v := ?_) (a' := ?_) #[true, true, true, true, true, true, true, true, true, true, true, true] rfl rfl (any_of HT_.out (by kernel_rfl)) (fun _ _ _ h => h) (Or.inl ⟨by rfl, ?_⟩) ?_ ?_
                     rotate_left
                     · intro w'
                       go_simp
                       with_reducible rfl
                     rotate_left
                     · simp only [Act.put, sA_, sZ_, sS_, i64_w, i32_w]
                       rfl
                     refine done_ (done_of HT_.out (by kernel_rfl)) ?_
                     have p173 : 0 ≤ (0 : Int) := (by omega)
                     have q173 : 0 < (t162.length : Int) := of_decide_eq_true (by first | (with_reducible assumption) | assumption)
                     obtain ⟨ad173, A173_0, c173_0, e173, hx173_0, hl173_0, hi173_0⟩ := at_L3 (Kd.N_reads' HO164.out).2.2 0 p173 q173
                     obtain rfl : ad168 = ad173 := (by injection e173)
                     obtain ⟨ce173, hce173, hMe173, hcc173⟩ := Kd.N_get HO164.out [] 0 p173 (by first | exact q173 | exact of_decide_eq_true (by first | (with_reducible assumption) | assumption) | (have e_ := (Kd.N_reads' HO164.out).1; omega))
                     obtain ⟨ua173_0, uc173_0, rfl, ul173_0, ge173_0⟩ := Kd.FK_slice_open hMe173
                     have hv173_0 := hcc173 0 _ rfl
                     rw [Nat.add_zero, show ((Kd.slice 97 k97)).sz = 1 from rfl, Nat.mul_one] at hv173_0
                     replace hv173_0 := Option.some.inj (hv173_0.symm.trans hx173_0)
                     injection hv173_0 with hva_ hvn_ hvc_
                     rw [hva_] at ge173_0
                     rw [hvc_] at ul173_0
                     have HL173_0 := Aside0.mk (show Kd.V k97 97 _ w.heap.size _ _ (rd_L3 t162 0) from Kd.V_mk ul173_0 ge173_0)
                     clear hva_ hvn_ hvc_ ge173_0 ul173_0
                     clear hcc173 hce173
                     have qi173 : (0 < t162.length) = True := eq_true (by omega)
                     (try rw [show ((0 : Int)).toNat = 0 from rfl] at hx173_0)
                     (try rw [Addr.add_zero'] at hx173_0)
                     have HR173_0 := Aside0.mk hi173_0
                     have HC173_0 := Aside0.mk hl173_0
                     clear hi173_0 hl173_0
                     replace p173 := eq_true p173
                     replace q173 := eq_true q173
                     have ea_ := Option.some.inj (hx168_0.symm.trans hx173_0)
                     injection ea_ with ea_ en_ ec_
                     subst ea_
                     subst ec_
                     clear en_
                     try go_wp2_with (first | ((with_reducible refine gate_callee (f := 50) rfl ?_); refine goesL_ (some 46) rfl rfl Try.func50 (by kernel_rfl) rfl #[.slice (some ad170) (rd_L3 t162 0).length c168_0] rfl (by (try simp only [List.map_toArray, List.map_cons, List.map_nil]); first | done | rfl | (simp only [List.length_drop, List.length_take]; rfl)) ?_; (with_reducible refine (ih k (by omega) _ _ (rd_L3 t162 0) t174 _ ?side1 ?side2 A38.out).mono ?_); (case side1 => repeat (first | exact (by repeat (first | (with_reducible exact HR173_0.out) | (with_reducible refine Kd.C_alloc ?_ _) | (with_reducible refine Kd.C_drewN ?_ _) | (with_reducible refine Kd.C_drew ?_) | exact HR173_0.out)) | (with_reducible refine Kd.C_alloc ?_ _) | (with_reducible refine Kd.C_drewN ?_ _) | (with_reducible refine Kd.C_drew ?_))); (case side2 => exact HC173_0.out); rintro e w47 ⟨rfl, hb⟩; refine ⟨_, rfl, ?_⟩; have n0_ := Aside0.mk (Kd.N_below (by (with_reducible repeat (first | apply Kd.N_alloc | apply Kd.N_drewN | apply Kd.N_drew)); exact HO164.out) hb); have n1_ := Aside0.mk (Kd.V_below (by (with_reducible repeat (first | apply Kd.V_alloc | apply Kd.V_drewN | apply Kd.V_drew)); exact HL168_0.out) hb); have n2_ := Aside0.mk (Kd.V_below (by (with_reducible repeat (first | apply Kd.V_alloc | apply Kd.V_drewN | apply Kd.V_drew)); exact HL169_0.out) hb); have n3_ := Aside0.mk (Kd.V_below (by (with_reducible repeat (first | apply Kd.V_alloc | apply Kd.V_drewN | apply Kd.V_drew)); exact HL173_0.out) hb); have n4_ := Aside0.mk (blk_below (g := gb161) (o := .cells #[.int .i64 ((rd_T97 l0 (ji2)).f0), .int .u8 ((rd_T97 l0 (ji2)).f1)] 97 (0, 0)) (by (with_reducible repeat (first | refine blk_drewN ?_ _ | refine blk_drew ?_ | refine blk_alloc ?_ _)); exact BK161.out) hb); have n5_ := Aside0.mk (Kd.C_below (by repeat (first | (with_reducible exact HR168_0.out) | (with_reducible refine Kd.C_alloc ?_ _) | (with_reducible refine Kd.C_drewN ?_ _) | (with_reducible refine Kd.C_drew ?_) | exact HR168_0.out)) hb); have n6_ := Aside0.mk (Kd.C_below (by repeat (first | (with_reducible exact HR169_0.out) | (with_reducible refine Kd.C_alloc ?_ _) | (with_reducible refine Kd.C_drewN ?_ _) | (with_reducible refine Kd.C_drew ?_) | exact HR169_0.out)) hb); have n7_ := Aside0.mk (Kd.C_below (by repeat (first | (with_reducible exact HR173_0.out) | (with_reducible refine Kd.C_alloc ?_ _) | (with_reducible refine Kd.C_drewN ?_ _) | (with_reducible refine Kd.C_drew ?_) | exact HR173_0.out)) hb); have n8_ := Aside0.mk (below_step (by repeat (first | (with_reducible first | exact HB.out | apply below_alloc | apply pw_below_drewN | apply below_drew1 | refine below_set ?_ GE161.out) | exact HB.out)) hb); clear HO164; clear HL168_0; clear HL169_0; clear HL173_0; clear BK161; clear HR168_0; clear HR169_0; clear HR173_0; clear HB; have HO164 := n0_; have HL168_0 := n1_; have HL169_0 := n2_; have HL173_0 := n3_; have BK161 := n4_; have HR168_0 := n5_; have HR169_0 := n6_; have HR173_0 := n7_; have HB := n8_; clear n0_ n1_ n2_ n3_ n4_ n5_ n6_ n7_ n8_; (try clear hb); (try clear hb2); (try clear hk); (try clear hi)))
                     go_ret
                     exact ⟨by first | rfl | (simp [errW_none, errW_some] <;> rfl) | (simp only [← hji2, ← hji23]; first | rfl | (simp [errW_none, errW_some] <;> rfl)) | (simp [*, errW_none, errW_some] <;> rfl), by repeat (first | (with_reducible first | exact HB.out | apply below_alloc | apply pw_below_drewN | apply below_drew1 | refine below_set ?_ GE161.out) | exact HB.out)⟩
                   · rw [if_neg c39] at H
                     exact absurd H (by simp)
               · rw [if_neg c25] at H
                 exact absurd H (by simp)
             · rw [if_neg c24] at H
               exact absurd H (by simp)
           · rw [if_neg c22] at H
             exact absurd H (by simp)
         · rw [if_neg c21] at H
           have c21b0 : (((rd_T97 l0 (ji2)).f0) == 4) = false := beq_eq_false_iff_ne.mpr c21
           have c21b1 : (((rd_T97 l0 (ji2)).f0) != 4) = true := bne_iff_ne.mpr c21
           by_cases c48 : 1 < (t162.length : Int)
           · rw [if_pos c48] at H
             have c48b0 : decide (1 < (t162.length : Int)) = true := decide_eq_true c48
             have c48b1 : decide (1 < t162.length) = true := decide_eq_true (by omega)
             clear c48
             obtain ⟨ji49, hji49⟩ : ∃ j_ : Int, (wrap64 (((rd_L3 t162 1).length : Int) - 1)) = j_ := ⟨_, rfl⟩
             replace H : (if 0 ≤ (ji49) then (if (ji49) < ((rd_L3 t162 1).length : Int) then (if ((rd_T97 (rd_L3 t162 1) (ji49)).f0) = 3 then (if 0 < (t162.length : Int) then ((eggboxref19_text.f k (rd_L3 t162 0)).bind fun t179 => (if t179.size + 1 ≤ 9223372036854775807 then ((eggboxref19_text.f k (rd_L3 t162 1)).bind fun t181 => (if (t179 ++ (⟨#[40]⟩ : ByteArray)).size + t181.size ≤ 9223372036854775807 then (if ((t179 ++ (⟨#[40]⟩ : ByteArray)) ++ t181).size + 1 ≤ 9223372036854775807 then (some (((t179 ++ (⟨#[40]⟩ : ByteArray)) ++ t181) ++ (⟨#[41]⟩ : ByteArray))) else (none)) else (none))) else (none))) else (none)) else (if 0 < (t162.length : Int) then ((eggboxref19_text.f k (rd_L3 t162 0)).bind fun t183 => ((eggboxref19_text.f k (rd_L3 t162 1)).bind fun t185 => (if t183.size + t185.size ≤ 9223372036854775807 then (some (t183 ++ t185)) else (none)))) else (none))) else (none)) else (none)) = some r := by first | (rw [hji49] at H; exact H) | (simp only [hji49] at H ⊢; exact H)
             (try rw [hji49] at A5)
             have hji49w : (IntKind.i64.wrap (((rd_L3 t162 1).length : Int) - 1)) = ji49 := (i64_w _).trans hji49
             by_cases c50 : 0 ≤ (ji49)
             · rw [if_pos c50] at H
               have c50b0 : decide (0 ≤ (ji49)) = true := decide_eq_true c50
               clear c50
               by_cases c51 : (ji49) < ((rd_L3 t162 1).length : Int)
               · rw [if_pos c51] at H
                 have c51b0 : decide ((ji49) < ((rd_L3 t162 1).length : Int)) = true := decide_eq_true c51
                 clear c51
                 by_cases c52 : ((rd_T97 (rd_L3 t162 1) (ji49)).f0) = 3
                 · rw [if_pos c52] at H
                   have c52b0 : (((rd_T97 (rd_L3 t162 1) (ji49)).f0) == 3) = true := beq_iff_eq.mpr c52
                   have c52b1 : (((rd_T97 (rd_L3 t162 1) (ji49)).f0) != 3) = false := bne_eq_false_iff_eq.mpr c52
                   clear c52
                   by_cases c53 : 0 < (t162.length : Int)
                   · rw [if_pos c53] at H
                     have c53b0 : decide (0 < (t162.length : Int)) = true := decide_eq_true c53
                     have c53b1 : decide (0 < t162.length) = true := decide_eq_true (by omega)
                     clear c53
                     replace H := Option.bind_eq_some_iff.mp H
                     obtain ⟨t179, A540, H⟩ := H
                     replace H : (if t179.size + 1 ≤ 9223372036854775807 then ((eggboxref19_text.f k (rd_L3 t162 1)).bind fun t181 => (if (t179 ++ (⟨#[40]⟩ : ByteArray)).size + t181.size ≤ 9223372036854775807 then (if ((t179 ++ (⟨#[40]⟩ : ByteArray)) ++ t181).size + 1 ≤ 9223372036854775807 then (some (((t179 ++ (⟨#[40]⟩ : ByteArray)) ++ t181) ++ (⟨#[41]⟩ : ByteArray))) else (none)) else (none))) else (none)) = some r := H
                     have A54 := Aside0.mk A540
                     clear A540
                     by_cases c55 : t179.size + 1 ≤ 9223372036854775807
                     · rw [if_pos c55] at H
                       have c55b0 := eq_true c55
                       have c55b1 : decide (t179.size + 1 ≤ 9223372036854775807) = true := decide_eq_true c55
                       try have c55b2 : (9223372036854775807 < t179.size + 1) = False := eq_false (Nat.not_lt.2 c55)
                       replace H := Option.bind_eq_some_iff.mp H
                       obtain ⟨t181, A560, H⟩ := H
                       replace H : (if (t179 ++ (⟨#[40]⟩ : ByteArray)).size + t181.size ≤ 9223372036854775807 then (if ((t179 ++ (⟨#[40]⟩ : ByteArray)) ++ t181).size + 1 ≤ 9223372036854775807 then (some (((t179 ++ (⟨#[40]⟩ : ByteArray)) ++ t181) ++ (⟨#[41]⟩ : ByteArray))) else (none)) else (none)) = some r := H
                       have A56 := Aside0.mk A560
                       clear A560
                       by_cases c57 : (t179 ++ (⟨#[40]⟩ : ByteArray)).size + t181.size ≤ 9223372036854775807
                       · rw [if_pos c57] at H
                         have c57b0 := eq_true c57
                         have c57b1 : decide ((t179 ++ (⟨#[40]⟩ : ByteArray)).size + t181.size ≤ 9223372036854775807) = true := decide_eq_true c57
                         try have c57b2 : (9223372036854775807 < (t179 ++ (⟨#[40]⟩ : ByteArray)).size + t181.size) = False := eq_false (Nat.not_lt.2 c57)
                         try have c57b4 : (9223372036854775807 < t179.size + 1 + t181.size) = False := by rw [show t179.size + 1 + t181.size = (t179 ++ (⟨#[40]⟩ : ByteArray)).size + t181.size from by simp [ByteArray.size_append] <;> (first | done | rfl | omega)]; exact c57b2
                         by_cases c58 : ((t179 ++ (⟨#[40]⟩ : ByteArray)) ++ t181).size + 1 ≤ 9223372036854775807
                         · rw [if_pos c58] at H
                           have c58b0 := eq_true c58
                           have c58b1 : decide (((t179 ++ (⟨#[40]⟩ : ByteArray)) ++ t181).size + 1 ≤ 9223372036854775807) = true := decide_eq_true c58
                           try have c58b2 : (9223372036854775807 < ((t179 ++ (⟨#[40]⟩ : ByteArray)) ++ t181).size + 1) = False := eq_false (Nat.not_lt.2 c58)
                           try have c58b4 : (9223372036854775807 < t179.size + 1 + t181.size + 1) = False := by rw [show t179.size + 1 + t181.size + 1 = ((t179 ++ (⟨#[40]⟩ : ByteArray)) ++ t181).size + 1 from by simp [ByteArray.size_append] <;> (first | done | rfl | omega)]; exact c58b2
                           obtain rfl := Option.some.inj H
                           have p160 : 0 ≤ ((ji2) : Int) := of_decide_eq_true (by first | (with_reducible assumption) | assumption)
                           have q160 : (ji2) < (l0.length : Int) := of_decide_eq_true (by first | (with_reducible assumption) | assumption)
                           obtain ⟨ad160, e160, hx160_0, hx160_1⟩ := at_T97 HR0.out (ji2) p160 q160
                           cases e160
                           replace p160 := eq_true p160
                           replace q160 := eq_true q160
                           go_enter Try.func50, Try.ntmps50
                           try go_wp2_with (first | ((with_reducible refine gate_dst (N := 3) rfl ?_); refine box_event ?hg (N := 3) ?hd (cs := #[.int .i64 0, .int .u8 0]) (t := 97) ?hr ?_; (case hd => rfl); (case hg => rfl); (case hr => first | (go_simp; done) | (go_simp; rfl)); intro gb161 hg w59 hbox hb; have n0_ := Aside0.mk (below_step (by repeat (first | (with_reducible first | exact HB.out | apply below_alloc | apply pw_below_drewN | apply below_drew1) | exact HB.out)) hb); have n1_ := Aside0.mk (hbox); have n2_ := Aside0.mk ((by rw [hg]; exact (below_size (by repeat (first | (with_reducible first | exact HB.out | apply below_alloc | apply pw_below_drewN | apply below_drew1) | exact HB.out))) : w.heap.size ≤ gb161)); have n3_ := Aside0.mk ((by rw [hg]; exact (below_size (by repeat (first | (with_reducible first | exact HB.out | apply below_alloc | apply pw_below_drewN | apply below_drew1) | exact HB.out))) : w.heap.size ≤ gb161)); clear HB; have HB := n0_; have BK161 := n1_; have GW161 := n2_; have GE161 := n3_; clear n0_ n1_ n2_ n3_; clear hb hbox hg; have hcz60_0 : w59.cell? ⟨gb161, 0, none⟩ = some (.int .i64 0) := (blk_cell BK161.out 0).trans rfl; have hcz60_1 : w59.cell? ⟨gb161, 1, none⟩ = some (.int .u8 0) := (blk_cell BK161.out 1).trans rfl; have hfz60_0 := blk_frozen BK161.out 0; have hfz60_1 := blk_frozen BK161.out 1) | ((with_reducible refine gate_store (t := 97) (p := 3) rfl ?_); refine store_event (t := 97) (p := 3) (v := ?vo_w61) (w1 := ((w59.setCell ⟨gb161, 0, none⟩ (.int .i64 ((rd_T97 l0 (ji2)).f0))).setCell ⟨gb161, 1, none⟩ (.int .u8 ((rd_T97 l0 (ji2)).f1)))) ?hg ?ho ?hn ?hr ?_; (case ho => rfl); (case hg => rfl); (case hn => rfl); (case hr => first | (go_simp; done) | (go_simp; rfl)); intro w61 hw; have n0_ : Aside0 (w61.heap[gb161]? = some (.cells #[.int .i64 ((rd_T97 l0 (ji2)).f0), .int .u8 ((rd_T97 l0 (ji2)).f1)] 97 (0, 0))) := ⟨(by rw [hw]; exact (by (with_reducible repeat (first | refine blk_drewN ?_ _ | refine blk_drew ?_ | refine blk_alloc ?_ _)); refine blk_put (cs := #[.int .i64 ((rd_T97 l0 (ji2)).f0), .int .u8 0]) ?_ 1 _ rfl; (with_reducible repeat (first | refine blk_drewN ?_ _ | refine blk_drew ?_ | refine blk_alloc ?_ _)); refine blk_put (cs := #[.int .i64 0, .int .u8 0]) ?_ 0 _ rfl; (with_reducible repeat (first | refine blk_drewN ?_ _ | refine blk_drew ?_ | refine blk_alloc ?_ _)); exact BK161.out))⟩; have n1_ : Aside0 (Below w.heap.size w w61) := ⟨(by rw [hw]; exact (by repeat (first | (with_reducible first | exact HB.out | apply below_alloc | apply pw_below_drewN | apply below_drew1 | refine below_set ?_ GE161.out) | exact HB.out)))⟩; clear hw; clear BK161; clear HB; have BK161 := n0_; have HB := n1_; clear n0_ n1_) | ((with_reducible refine gate_callee (f := 108) rfl ?_); refine goesL_ (some 12) rfl rfl Try.func108 (by kernel_rfl) rfl #[.slice (some ad160) l0.length c0] rfl (by (try simp only [List.map_toArray, List.map_cons, List.map_nil]); first | done | rfl | (simp only [List.length_drop, List.length_take]; rfl)) ?_; (with_reducible refine (eggboxref19_Cut.calls k (fun k_ => k_ < w.heap.size) _ _ l0 t162 _ ?side1 A5.out).mono ?_); (case side1 => exact Kd.V_mk HC0.out (Kd.F_below (Kd.C_F k97_heap HR0.out) (by repeat (first | (with_reducible first | exact HB.out | apply below_alloc | apply pw_below_drewN | apply below_drew1 | refine below_set ?_ GE161.out) | exact HB.out)))); rintro e w62 ⟨v163, rfl, ho0, hb⟩; refine ⟨_, rfl, ?_⟩; have n0_ := Aside0.mk (Kd.N_lower (Kd.N_mono (ok' := fun k_ => k_ ≠ gb161) ho0 (fun k_ hk_ => Or.elim hk_ (fun hs_ => fun e_ => Nat.not_le.2 hs_ (by rw [e_]; exact GW161.out)) (fun hn_ => (Kd.freshB (g := gb161) (o := .cells #[.int .i64 ((rd_T97 l0 (ji2)).f0), .int .u8 ((rd_T97 l0 (ji2)).f1)] 97 (0, 0)) (by (with_reducible repeat (first | refine blk_drewN ?_ _ | refine blk_drew ?_ | refine blk_alloc ?_ _)); exact BK161.out) k_ hn_)))) (below_size (by repeat (first | (with_reducible first | exact HB.out | apply below_alloc | apply pw_below_drewN | apply below_drew1 | refine below_set ?_ GE161.out) | exact HB.out)))); have n1_ := Aside0.mk (blk_below (g := gb161) (o := .cells #[.int .i64 ((rd_T97 l0 (ji2)).f0), .int .u8 ((rd_T97 l0 (ji2)).f1)] 97 (0, 0)) (by (with_reducible repeat (first | refine blk_drewN ?_ _ | refine blk_drew ?_ | refine blk_alloc ?_ _)); exact BK161.out) hb); have n2_ := Aside0.mk (below_step (by repeat (first | (with_reducible first | exact HB.out | apply below_alloc | apply pw_below_drewN | apply below_drew1 | refine below_set ?_ GE161.out) | exact HB.out)) hb); clear BK161; clear HB; have HO164 := n0_; have BK161 := n1_; have HB := n2_; clear n0_ n1_ n2_; (try clear hb); (try clear hb2); (try clear hk); (try clear hi); (try clear ho0); have hcz63_0 : w62.cell? ⟨gb161, 0, none⟩ = some (.int .i64 ((rd_T97 l0 (ji2)).f0)) := (blk_cell BK161.out 0).trans rfl; have hcz63_1 : w62.cell? ⟨gb161, 1, none⟩ = some (.int .u8 ((rd_T97 l0 (ji2)).f1)) := (blk_cell BK161.out 1).trans rfl; have hfz63_0 := blk_frozen BK161.out 0; have hfz63_1 := blk_frozen BK161.out 1))
                           have n0_ := Aside0.mk (Kd.N_drew HO164.out)
                           have n1_ := Aside0.mk (blk_drew BK161.out)
                           have n2_ := Aside0.mk (below_drew1 HB.out)
                           clear HO164
                           clear BK161
                           clear HB
                           have HO164 := n0_
                           have BK161 := n1_
                           have HB := n2_
                           clear n0_ n1_ n2_
                           obtain ⟨Ao65, co65, eo65⟩ := Kd.N_slice HO164.out
                           (first | subst eo65 | (injection eo65 with f1_ f2_ f3_; have f4_ := f1_.symm; have f5_ := f3_.symm; clear f1_ f2_ f3_; subst f4_; subst f5_))
                           have p175 : 0 ≤ (1 : Int) := (by omega)
                           have q175 : 1 < (t162.length : Int) := of_decide_eq_true (by first | (with_reducible assumption) | assumption)
                           obtain ⟨ad175, A175_0, c175_0, e175, hx175_0, hl175_0, hi175_0⟩ := at_L3 (Kd.N_reads' HO164.out).2.2 1 p175 q175
                           cases e175
                           obtain ⟨ce175, hce175, hMe175, hcc175⟩ := Kd.N_get HO164.out [] 1 p175 (by first | exact q175 | exact of_decide_eq_true (by first | (with_reducible assumption) | assumption) | (have e_ := (Kd.N_reads' HO164.out).1; omega))
                           obtain ⟨ua175_0, uc175_0, rfl, ul175_0, ge175_0⟩ := Kd.FK_slice_open hMe175
                           have hv175_0 := hcc175 0 _ rfl
                           rw [Nat.add_zero, show ((Kd.slice 97 k97)).sz = 1 from rfl, Nat.mul_one] at hv175_0
                           replace hv175_0 := Option.some.inj (hv175_0.symm.trans hx175_0)
                           injection hv175_0 with hva_ hvn_ hvc_
                           rw [hva_] at ge175_0
                           rw [hvc_] at ul175_0
                           have HL175_0 := Aside0.mk (show Kd.V k97 97 _ w.heap.size _ _ (rd_L3 t162 1) from Kd.V_mk ul175_0 ge175_0)
                           clear hva_ hvn_ hvc_ ge175_0 ul175_0
                           clear hcc175 hce175
                           (try simp only [show (1 : Int).toNat = 1 from rfl, Nat.reduceMul, Nat.reduceEqDiff, Go.Addr.add, ↓reduceIte] at hx175_0)
                           have qi175 : (1 < t162.length) = True := eq_true (by omega)
                           (try rw [show ((1 : Int)).toNat = 1 from rfl] at hx175_0)
                           have HR175_0 := Aside0.mk hi175_0
                           have HC175_0 := Aside0.mk hl175_0
                           clear hi175_0 hl175_0
                           replace p175 := eq_true p175
                           replace q175 := eq_true q175
                           have p176 : 0 ≤ (1 : Int) := (by omega)
                           have q176 : 1 < (t162.length : Int) := of_decide_eq_true (by first | (with_reducible assumption) | assumption)
                           obtain ⟨ad176, A176_0, c176_0, e176, hx176_0, hl176_0, hi176_0⟩ := at_L3 (Kd.N_reads' HO164.out).2.2 1 p176 q176
                           obtain rfl : ad175 = ad176 := (by injection e176)
                           obtain ⟨ce176, hce176, hMe176, hcc176⟩ := Kd.N_get HO164.out [] 1 p176 (by first | exact q176 | exact of_decide_eq_true (by first | (with_reducible assumption) | assumption) | (have e_ := (Kd.N_reads' HO164.out).1; omega))
                           obtain ⟨ua176_0, uc176_0, rfl, ul176_0, ge176_0⟩ := Kd.FK_slice_open hMe176
                           have hv176_0 := hcc176 0 _ rfl
                           rw [Nat.add_zero, show ((Kd.slice 97 k97)).sz = 1 from rfl, Nat.mul_one] at hv176_0
                           replace hv176_0 := Option.some.inj (hv176_0.symm.trans hx176_0)
                           injection hv176_0 with hva_ hvn_ hvc_
                           rw [hva_] at ge176_0
                           rw [hvc_] at ul176_0
                           have HL176_0 := Aside0.mk (show Kd.V k97 97 _ w.heap.size _ _ (rd_L3 t162 1) from Kd.V_mk ul176_0 ge176_0)
                           clear hva_ hvn_ hvc_ ge176_0 ul176_0
                           clear hcc176 hce176
                           (try simp only [show (1 : Int).toNat = 1 from rfl, Nat.reduceMul, Nat.reduceEqDiff, Go.Addr.add, ↓reduceIte] at hx176_0)
                           have qi176 : (1 < t162.length) = True := eq_true (by omega)
                           (try rw [show ((1 : Int)).toNat = 1 from rfl] at hx176_0)
                           have HR176_0 := Aside0.mk hi176_0
                           have HC176_0 := Aside0.mk hl176_0
                           clear hi176_0 hl176_0
                           replace p176 := eq_true p176
                           replace q176 := eq_true q176
                           have ea_ := Option.some.inj (hx175_0.symm.trans hx176_0)
                           injection ea_ with ea_ en_ ec_
                           subst ea_
                           subst ec_
                           clear en_
                           have p177 : 0 ≤ ((ji49) : Int) := of_decide_eq_true (by first | (with_reducible assumption) | assumption)
                           have q177 : (ji49) < ((rd_L3 t162 1).length : Int) := of_decide_eq_true (by first | (with_reducible assumption) | assumption)
                           obtain ⟨ad177, e177, hx177_0, hx177_1⟩ := at_T97 (by repeat (first | (with_reducible exact HR175_0.out) | (with_reducible refine Kd.C_alloc ?_ _) | (with_reducible refine Kd.C_drewN ?_ _) | (with_reducible refine Kd.C_drew ?_) | exact HR175_0.out)) (ji49) p177 q177
                           cases e177
                           replace p177 := eq_true p177
                           replace q177 := eq_true q177
                           refine start_ (n := 12) (S := fun w' => w'.cell? ⟨ad175.block, ad175.off + 1, none⟩ = some (.slice (some ad177) (rd_L3 t162 1).length c175_0) ∧ w'.cell? ⟨ad175.block, ad175.off + 1, none⟩ = some (.slice (some ad177) (rd_L3 t162 1).length c175_0) ∧ w'.cell? (ad177.add (((ji49)).toNat * 2)) = some (.int .i64 ((rd_T97 (rd_L3 t162 1) (ji49)).f0)) ∧ w'.cell? ⟨(ad177.add (((ji49)).toNat * 2)).block, (ad177.add (((ji49)).toNat * 2)).off + 1, none⟩ = some (.int .u8 ((rd_T97 (rd_L3 t162 1) (ji49)).f1))) (ds := []) #[false, false, false, false, false, false, false, false, false, false, false, false] (by kernel_rfl) rfl rfl ⟨hx175_0, hx176_0, hx177_0, hx177_1⟩ (fun hHeld => ?_); refine with_tabW eggboxref19_text.tab12 eggboxref19_text.bits12 (fun HT_ HW_ => ?_)
                           generalize w62.drew = w64 at HO164 BK161 HB HL175_0 HL176_0 HR175_0 HR176_0 hx175_0 hx176_0 hx177_0 hx177_1 hHeld ⊢
                           refine pure_ (i := 0) (N := some 48) (v := ?_) (a' := ?_) #[true, false, false, false, false, false, false, false, false, false, false, false] rfl rfl (any_of HT_.out (by kernel_rfl)) (fun _ _ _ h => h) (Or.inl ⟨by rfl, ?_⟩) ?_ ?_
                           rotate_left
                           · intro w'
                             go_simp
                             with_reducible rfl
                           rotate_left
                           · simp only [Act.put, sA_, sZ_, sS_, i64_w, i32_w]
                             rfl
                           refine pure_ (i := 1) (N := some 49) (v := ?_) (a' := ?_) #[true, true, false, false, false, false, false, false, false, false, false, false] rfl rfl (any_of HT_.out (by kernel_rfl)) (fun _ _ _ h => h) (Or.inl ⟨by rfl, ?_⟩) ?_ ?_
                           rotate_left
                           · intro w'
                             go_simp
                             with_reducible rfl
                           rotate_left
                           · simp only [Act.put, sA_, sZ_, sS_, i64_w, i32_w]
                             rfl
                           refine pure_ (i := 3) (N := some 51) (v := ?_) (a' := ?_) #[true, true, false, true, false, false, false, false, false, false, false, false] rfl rfl (any_of HT_.out (by kernel_rfl)) (fun _ _ _ h => h) (Or.inl ⟨by rfl, ?_⟩) ?_ ?_
                           rotate_left
                           · intro w'
                             go_simp
                             with_reducible rfl
                           rotate_left
                           · simp only [Act.put, sA_, sZ_, sS_, i64_w, i32_w]
                             rfl
                           refine pure_ (i := 4) (N := some 52) (v := ?_) (a' := ?_) #[true, true, false, true, true, false, false, false, false, false, false, false] rfl rfl (any_of HT_.out (by kernel_rfl)) (fun _ _ _ h => h) (Or.inl ⟨by rfl, ?_⟩) ?_ ?_
                           rotate_left
                           · intro w'
                             go_simp
                             with_reducible rfl
                           rotate_left
                           · simp only [Act.put, sA_, sZ_, sS_, i64_w, i32_w]
                             rfl
                           refine take_ (i := 2) (N := some 50) (v := ?_) (a' := ?_) #[true, true, true, true, true, false, false, false, false, false, false, false] rfl rfl (take_ofW HT_.out HW_.out (by kernel_rfl)) (fun _ _ _ h => h) (Or.inl ⟨by rfl, ?_⟩) hHeld ?_ ?_
                           rotate_left
                           · rintro w' ⟨s0, s1, s2, s3⟩
                             go_simp
                             with_reducible rfl
                           rotate_left
                           · simp only [Act.put, sA_, sZ_, sS_, i64_w, i32_w]
                             rfl
                           refine take_ (i := 5) (N := some 53) (v := ?_) (a' := ?_) #[true, true, true, true, true, true, false, false, false, false, false, false] rfl rfl (take_ofW HT_.out HW_.out (by kernel_rfl)) (fun _ _ _ h => h) (Or.inl ⟨by rfl, ?_⟩) hHeld ?_ ?_
                           rotate_left
                           · rintro w' ⟨s0, s1, s2, s3⟩
                             go_simp
                             with_reducible rfl
                           rotate_left
                           · simp only [Act.put, sA_, sZ_, sS_, i64_w, i32_w]
                             rfl
                           refine pure_ (i := 6) (N := some 54) (v := ?_) (a' := ?_) #[true, true, true, true, true, true, true, false, false, false, false, false] rfl rfl (any_of HT_.out (by kernel_rfl)) (fun _ _ _ h => h) (Or.inl ⟨by rfl, ?_⟩) ?_ ?_
                           rotate_left
                           · intro w'
                             go_simp
                             with_reducible rfl
                           rotate_left
                           · simp only [Act.put, sA_, sZ_, sS_, i64_w, i32_w]
                             rfl
                           refine pure_ (i := 7) (N := some 55) (v := ?_) (a' := ?_) #[true, true, true, true, true, true, true, true, false, false, false, false] rfl rfl (any_of HT_.out (by kernel_rfl)) (fun _ _ _ h => h) (Or.inl ⟨by rfl, ?_⟩) ?_ ?_
                           rotate_left
                           · intro w'
                             go_simp
                             with_reducible rfl
                           rotate_left
                           · simp only [Act.put, sA_, sZ_, sS_, i64_w, i32_w]
                             rfl
                           refine pure_ (i := 8) (N := some 56) (v := ?_) (a' := ?_) #[true, true, true, true, true, true, true, true, true, false, false, false] rfl rfl (any_of HT_.out (by kernel_rfl)) (fun _ _ _ h => h) (Or.inl ⟨by rfl, ?_⟩) ?_ ?_
                           rotate_left
                           · intro w'
                             go_simp
                             with_reducible rfl
                           rotate_left
                           · simp only [Act.put, sA_, sZ_, sS_, i64_w, i32_w]
                             rfl
                           refine pure_ (i := 9) (N := some 57) (v := ?_) (a' := ?_) #[true, true, true, true, true, true, true, true, true, true, false, false] rfl rfl (any_of HT_.out (by kernel_rfl)) (fun _ _ _ h => h) (Or.inl ⟨by rfl, ?_⟩) ?_ ?_
                           rotate_left
                           · intro w'
                             go_simp
                             with_reducible rfl
                           rotate_left
                           · simp only [Act.put, sA_, sZ_, sS_, i64_w, i32_w]
                             rfl
                           refine take_ (i := 10) (N := some 58) (v := ?_) (a' := ?_) #[true, true, true, true, true, true, true, true, true, true, true, false] rfl rfl (take_ofW HT_.out HW_.out (by kernel_rfl)) (fun _ _ _ h => h) (Or.inl ⟨by rfl, ?_⟩) hHeld ?_ ?_
                           rotate_left
                           · rintro w' ⟨s0, s1, s2, s3⟩
                             go_simp
                             with_reducible rfl
                           rotate_left
                           · simp only [Act.put, sA_, sZ_, sS_, i64_w, i32_w]
                             rfl
                           refine pure_ (i := 11) (N := some 59) (v := ?_) (a' := ?_) #[true, true, true, true, true, true, true, true, true, true, true, true] rfl rfl (any_of HT_.out (by kernel_rfl)) (fun _ _ _ h => h) (Or.inl ⟨by rfl, ?_⟩) ?_ ?_
                           rotate_left
                           · intro w'
                             go_simp
                             with_reducible rfl
                           rotate_left
                           · simp only [Act.put, sA_, sZ_, sS_, i64_w, i32_w]
                             rfl
                           refine done_ (done_of HT_.out (by kernel_rfl)) ?_
                           try go_wp2
                           have n0_ := Aside0.mk (Kd.N_drew HO164.out)
                           have n1_ := Aside0.mk (Kd.V_drew HL175_0.out)
                           have n2_ := Aside0.mk (Kd.V_drew HL176_0.out)
                           have n3_ := Aside0.mk (blk_drew BK161.out)
                           have n4_ := Aside0.mk (Kd.C_drew HR175_0.out)
                           have n5_ := Aside0.mk (Kd.C_drew HR176_0.out)
                           have n6_ := Aside0.mk (below_drew1 HB.out)
                           clear HO164
                           clear HL175_0
                           clear HL176_0
                           clear BK161
                           clear HR175_0
                           clear HR176_0
                           clear HB
                           have HO164 := n0_
                           have HL175_0 := n1_
                           have HL176_0 := n2_
                           have BK161 := n3_
                           have HR175_0 := n4_
                           have HR176_0 := n5_
                           have HB := n6_
                           clear n0_ n1_ n2_ n3_ n4_ n5_ n6_
                           have p178 : 0 ≤ (0 : Int) := (by omega)
                           have q178 : 0 < (t162.length : Int) := of_decide_eq_true (by first | (with_reducible assumption) | assumption)
                           obtain ⟨ad178, A178_0, c178_0, e178, hx178_0, hl178_0, hi178_0⟩ := at_L3 (Kd.N_reads' HO164.out).2.2 0 p178 q178
                           obtain rfl : ad175 = ad178 := (by injection e178)
                           obtain ⟨ce178, hce178, hMe178, hcc178⟩ := Kd.N_get HO164.out [] 0 p178 (by first | exact q178 | exact of_decide_eq_true (by first | (with_reducible assumption) | assumption) | (have e_ := (Kd.N_reads' HO164.out).1; omega))
                           obtain ⟨ua178_0, uc178_0, rfl, ul178_0, ge178_0⟩ := Kd.FK_slice_open hMe178
                           have hv178_0 := hcc178 0 _ rfl
                           rw [Nat.add_zero, show ((Kd.slice 97 k97)).sz = 1 from rfl, Nat.mul_one] at hv178_0
                           replace hv178_0 := Option.some.inj (hv178_0.symm.trans hx178_0)
                           injection hv178_0 with hva_ hvn_ hvc_
                           rw [hva_] at ge178_0
                           rw [hvc_] at ul178_0
                           have HL178_0 := Aside0.mk (show Kd.V k97 97 _ w.heap.size _ _ (rd_L3 t162 0) from Kd.V_mk ul178_0 ge178_0)
                           clear hva_ hvn_ hvc_ ge178_0 ul178_0
                           clear hcc178 hce178
                           have qi178 : (0 < t162.length) = True := eq_true (by omega)
                           (try rw [show ((0 : Int)).toNat = 0 from rfl] at hx178_0)
                           (try rw [Addr.add_zero'] at hx178_0)
                           have HR178_0 := Aside0.mk hi178_0
                           have HC178_0 := Aside0.mk hl178_0
                           clear hi178_0 hl178_0
                           replace p178 := eq_true p178
                           replace q178 := eq_true q178
                           have p180 : 0 ≤ (1 : Int) := (by omega)
                           have q180 : 1 < (t162.length : Int) := of_decide_eq_true (by first | (with_reducible assumption) | assumption)
                           obtain ⟨ad180, A180_0, c180_0, e180, hx180_0, hl180_0, hi180_0⟩ := at_L3 (Kd.N_reads' HO164.out).2.2 1 p180 q180
                           obtain rfl : ad175 = ad180 := (by injection e180)
                           obtain ⟨ce180, hce180, hMe180, hcc180⟩ := Kd.N_get HO164.out [] 1 p180 (by first | exact q180 | exact of_decide_eq_true (by first | (with_reducible assumption) | assumption) | (have e_ := (Kd.N_reads' HO164.out).1; omega))
                           obtain ⟨ua180_0, uc180_0, rfl, ul180_0, ge180_0⟩ := Kd.FK_slice_open hMe180
                           have hv180_0 := hcc180 0 _ rfl
                           rw [Nat.add_zero, show ((Kd.slice 97 k97)).sz = 1 from rfl, Nat.mul_one] at hv180_0
                           replace hv180_0 := Option.some.inj (hv180_0.symm.trans hx180_0)
                           injection hv180_0 with hva_ hvn_ hvc_
                           rw [hva_] at ge180_0
                           rw [hvc_] at ul180_0
                           have HL180_0 := Aside0.mk (show Kd.V k97 97 _ w.heap.size _ _ (rd_L3 t162 1) from Kd.V_mk ul180_0 ge180_0)
                           clear hva_ hvn_ hvc_ ge180_0 ul180_0
                           clear hcc180 hce180
                           (try simp only [show (1 : Int).toNat = 1 from rfl, Nat.reduceMul, Nat.reduceEqDiff, Go.Addr.add, ↓reduceIte] at hx180_0)
                           have qi180 : (1 < t162.length) = True := eq_true (by omega)
                           (try rw [show ((1 : Int)).toNat = 1 from rfl] at hx180_0)
                           have HR180_0 := Aside0.mk hi180_0
                           have HC180_0 := Aside0.mk hl180_0
                           clear hi180_0 hl180_0
                           replace p180 := eq_true p180
                           replace q180 := eq_true q180
                           refine start_ (n := 12) (S := fun w' => w'.cell? ad175 = some (.slice A178_0 (rd_L3 t162 0).length c178_0) ∧ w'.cell? ⟨ad175.block, ad175.off + 1, none⟩ = some (.slice A180_0 (rd_L3 t162 1).length c180_0)) (ds := []) #[false, false, false, false, false, false, false, false, false, false, false, false] (by kernel_rfl) rfl rfl ⟨hx178_0, hx180_0⟩ (fun hHeld => ?_); refine with_tabW eggboxref19_text.tab13 eggboxref19_text.bits13 (fun HT_ HW_ => ?_)
                           generalize w64.drew = w66 at HO164 HL175_0 HL176_0 BK161 HR175_0 HR176_0 HB HL178_0 HL180_0 HR178_0 HR180_0 hx178_0 hx180_0 hHeld ⊢
                           refine pure_ (i := 0) (N := some 60) (v := ?_) (a' := ?_) #[true, false, false, false, false, false, false, false, false, false, false, false] rfl rfl (any_of HT_.out (by kernel_rfl)) (fun _ _ _ h => h) (Or.inl ⟨by rfl, ?_⟩) ?_ ?_
                           rotate_left
                           · intro w'
                             go_simp
                             with_reducible rfl
                           rotate_left
                           · simp only [Act.put, sA_, sZ_, sS_, i64_w, i32_w]
                             rfl
                           refine pure_ (i := 1) (N := some 61) (v := ?_) (a' := ?_) #[true, true, false, false, false, false, false, false, false, false, false, false] rfl rfl (any_of HT_.out (by kernel_rfl)) (fun _ _ _ h => h) (Or.inl ⟨by rfl, ?_⟩) ?_ ?_
                           rotate_left
                           · intro w'
                             go_simp
                             with_reducible rfl
                           rotate_left
                           · simp only [Act.put, sA_, sZ_, sS_, i64_w, i32_w]
                             rfl
                           refine pure_ (i := 5) (N := some 65) (v := ?_) (a' := ?_) #[true, true, false, false, false, true, false, false, false, false, false, false] rfl rfl (any_of HT_.out (by kernel_rfl)) (fun _ _ _ h => h) (Or.inl ⟨by rfl, ?_⟩) ?_ ?_
                           rotate_left
                           · intro w'
                             go_simp
                             with_reducible rfl
                           rotate_left
                           · simp only [Act.put, sA_, sZ_, sS_, i64_w, i32_w]
                             rfl
                           refine pure_ (i := 6) (N := some 66) (v := ?_) (a' := ?_) #[true, true, false, false, false, true, true, false, false, false, false, false] rfl rfl (any_of HT_.out (by kernel_rfl)) (fun _ _ _ h => h) (Or.inl ⟨by rfl, ?_⟩) ?_ ?_
                           rotate_left
                           · intro w'
                             go_simp
                             with_reducible rfl
                           rotate_left
                           · simp only [Act.put, sA_, sZ_, sS_, i64_w, i32_w]
                             rfl
                           refine take_ (i := 2) (N := some 62) (v := ?_) (a' := ?_) #[true, true, true, false, false, true, true, false, false, false, false, false] rfl rfl (take_ofW HT_.out HW_.out (by kernel_rfl)) (fun _ _ _ h => h) (Or.inl ⟨by rfl, ?_⟩) hHeld ?_ ?_
                           rotate_left
                           · rintro w' ⟨s0, s1⟩
                             go_simp
                             with_reducible rfl
                           rotate_left
                           · simp only [Act.put, sA_, sZ_, sS_, i64_w, i32_w]
                             rfl
                           refine take_ (i := 7) (N := some 67) (v := ?_) (a' := ?_) #[true, true, true, false, false, true, true, true, false, false, false, false] rfl rfl (take_ofW HT_.out HW_.out (by kernel_rfl)) (fun _ _ _ h => h) (Or.inl ⟨by rfl, ?_⟩) hHeld ?_ ?_
                           rotate_left
                           · rintro w' ⟨s0, s1⟩
                             go_simp
                             with_reducible rfl
                           rotate_left
                           · simp only [Act.put, sA_, sZ_, sS_, i64_w, i32_w]
                             rfl
                           refine one_ (i := 3) (N := some 63) #[true, true, true, true, false, true, true, true, false, false, false, false] rfl rfl (one_of HT_.out (by kernel_rfl)) (by decide) (fun K hK => ?_)
                           refine goes_ Try.func50 (by kernel_rfl) rfl #[.slice A178_0 (rd_L3 t162 0).length c178_0] (by rfl) rfl rfl (by (try simp only [List.map_toArray, List.map_cons, List.map_nil]); first | done | rfl | (simp only [List.length_drop, List.length_take]; rfl)) ?_
                           with_reducible refine (ih k (by omega) _ _ (rd_L3 t162 0) t179 _ ?side1 ?side2 A54.out).mono ?_
                           (case side1 => repeat (first | exact (by repeat (first | (with_reducible exact HR178_0.out) | (with_reducible refine Kd.C_alloc ?_ _) | (with_reducible refine Kd.C_drewN ?_ _) | (with_reducible refine Kd.C_drew ?_) | exact HR178_0.out)) | (with_reducible refine Kd.C_alloc ?_ _) | (with_reducible refine Kd.C_drewN ?_ _) | (with_reducible refine Kd.C_drew ?_)))
                           (case side2 => exact HC178_0.out)
                           rintro e w67 ⟨rfl, hb⟩
                           have HS0_ := (hb.cell (World.block_lt_of_cell? _ _ (hHeld.1))).trans (hHeld.1)
                           have HS1_ := (hb.cell (World.block_lt_of_cell? _ _ (hHeld.2))).trans (hHeld.2)
                           refine ⟨_, rfl, ?_⟩
                           have n0_ := Aside0.mk (Kd.N_below (by (with_reducible repeat (first | apply Kd.N_alloc | apply Kd.N_drewN | apply Kd.N_drew)); exact HO164.out) hb)
                           have n1_ := Aside0.mk (Kd.V_below (by (with_reducible repeat (first | apply Kd.V_alloc | apply Kd.V_drewN | apply Kd.V_drew)); exact HL175_0.out) hb)
                           have n2_ := Aside0.mk (Kd.V_below (by (with_reducible repeat (first | apply Kd.V_alloc | apply Kd.V_drewN | apply Kd.V_drew)); exact HL176_0.out) hb)
                           have n3_ := Aside0.mk (Kd.V_below (by (with_reducible repeat (first | apply Kd.V_alloc | apply Kd.V_drewN | apply Kd.V_drew)); exact HL178_0.out) hb)
                           have n4_ := Aside0.mk (Kd.V_below (by (with_reducible repeat (first | apply Kd.V_alloc | apply Kd.V_drewN | apply Kd.V_drew)); exact HL180_0.out) hb)
                           have n5_ := Aside0.mk (blk_below (g := gb161) (o := .cells #[.int .i64 ((rd_T97 l0 (ji2)).f0), .int .u8 ((rd_T97 l0 (ji2)).f1)] 97 (0, 0)) (by (with_reducible repeat (first | refine blk_drewN ?_ _ | refine blk_drew ?_ | refine blk_alloc ?_ _)); exact BK161.out) hb)
                           have n6_ := Aside0.mk (Kd.C_below (by repeat (first | (with_reducible exact HR175_0.out) | (with_reducible refine Kd.C_alloc ?_ _) | (with_reducible refine Kd.C_drewN ?_ _) | (with_reducible refine Kd.C_drew ?_) | exact HR175_0.out)) hb)
                           have n7_ := Aside0.mk (Kd.C_below (by repeat (first | (with_reducible exact HR176_0.out) | (with_reducible refine Kd.C_alloc ?_ _) | (with_reducible refine Kd.C_drewN ?_ _) | (with_reducible refine Kd.C_drew ?_) | exact HR176_0.out)) hb)
                           have n8_ := Aside0.mk (Kd.C_below (by repeat (first | (with_reducible exact HR178_0.out) | (with_reducible refine Kd.C_alloc ?_ _) | (with_reducible refine Kd.C_drewN ?_ _) | (with_reducible refine Kd.C_drew ?_) | exact HR178_0.out)) hb)
                           have n9_ := Aside0.mk (Kd.C_below (by repeat (first | (with_reducible exact HR180_0.out) | (with_reducible refine Kd.C_alloc ?_ _) | (with_reducible refine Kd.C_drewN ?_ _) | (with_reducible refine Kd.C_drew ?_) | exact HR180_0.out)) hb)
                           have n10_ := Aside0.mk (below_step (by repeat (first | (with_reducible first | exact HB.out | apply below_alloc | apply pw_below_drewN | apply below_drew1 | refine below_set ?_ GE161.out) | exact HB.out)) hb)
                           clear HO164
                           clear HL175_0
                           clear HL176_0
                           clear HL178_0
                           clear HL180_0
                           clear BK161
                           clear HR175_0
                           clear HR176_0
                           clear HR178_0
                           clear HR180_0
                           clear HB
                           have HO164 := n0_
                           have HL175_0 := n1_
                           have HL176_0 := n2_
                           have HL178_0 := n3_
                           have HL180_0 := n4_
                           have BK161 := n5_
                           have HR175_0 := n6_
                           have HR176_0 := n7_
                           have HR178_0 := n8_
                           have HR180_0 := n9_
                           have HB := n10_
                           clear n0_ n1_ n2_ n3_ n4_ n5_ n6_ n7_ n8_ n9_ n10_
                           (try clear hb)
                           (try clear hb2)
                           (try clear hk)
                           (try clear hi)
                           refine hK.out _ _ ⟨HS0_, HS1_⟩ (fun hHeld => ?_)
                           clear hK K
                           refine norm_ (a' := ?_) ?_ ?_
                           rotate_left
                           · show Act.put _ (some 63) _ = _
                             simp only [Act.put, sA_, sZ_, sS_, i64_w, i32_w]
                             rfl
                           refine pure_ (i := 4) (N := some 64) (v := ?_) (a' := ?_) #[true, true, true, true, true, true, true, true, false, false, false, false] rfl rfl (any_of HT_.out (by kernel_rfl)) (fun _ _ _ h => h) (Or.inl ⟨by rfl, ?_⟩) ?_ ?_
                           rotate_left
                           · intro w'
                             go_simp
                             with_reducible rfl
                           rotate_left
                           · simp only [Act.put, sA_, sZ_, sS_, i64_w, i32_w]
                             rfl
                           refine one_ (i := 8) (N := some 68) #[true, true, true, true, true, true, true, true, true, false, false, false] rfl rfl (one_of HT_.out (by kernel_rfl)) (by decide) (fun K hK => ?_)
                           refine goes_ Try.func50 (by kernel_rfl) rfl #[.slice A180_0 (rd_L3 t162 1).length c180_0] (by rfl) rfl rfl (by (try simp only [List.map_toArray, List.map_cons, List.map_nil]); first | done | rfl | (simp only [List.length_drop, List.length_take]; rfl)) ?_
                           with_reducible refine (ih k (by omega) _ _ (rd_L3 t162 1) t181 _ ?side1 ?side2 A56.out).mono ?_
                           (case side1 => repeat (first | exact (by repeat (first | (with_reducible exact HR180_0.out) | (with_reducible refine Kd.C_alloc ?_ _) | (with_reducible refine Kd.C_drewN ?_ _) | (with_reducible refine Kd.C_drew ?_) | exact HR180_0.out)) | (with_reducible refine Kd.C_alloc ?_ _) | (with_reducible refine Kd.C_drewN ?_ _) | (with_reducible refine Kd.C_drew ?_)))
                           (case side2 => exact HC180_0.out)
                           rintro e w68 ⟨rfl, hb⟩
                           have HS0_ := (hb.cell (World.block_lt_of_cell? _ _ (hHeld.1))).trans (hHeld.1)
                           have HS1_ := (hb.cell (World.block_lt_of_cell? _ _ (hHeld.2))).trans (hHeld.2)
                           refine ⟨_, rfl, ?_⟩
                           have n0_ := Aside0.mk (Kd.N_below (by (with_reducible repeat (first | apply Kd.N_alloc | apply Kd.N_drewN | apply Kd.N_drew)); exact HO164.out) hb)
                           have n1_ := Aside0.mk (Kd.V_below (by (with_reducible repeat (first | apply Kd.V_alloc | apply Kd.V_drewN | apply Kd.V_drew)); exact HL175_0.out) hb)
                           have n2_ := Aside0.mk (Kd.V_below (by (with_reducible repeat (first | apply Kd.V_alloc | apply Kd.V_drewN | apply Kd.V_drew)); exact HL176_0.out) hb)
                           have n3_ := Aside0.mk (Kd.V_below (by (with_reducible repeat (first | apply Kd.V_alloc | apply Kd.V_drewN | apply Kd.V_drew)); exact HL178_0.out) hb)
                           have n4_ := Aside0.mk (Kd.V_below (by (with_reducible repeat (first | apply Kd.V_alloc | apply Kd.V_drewN | apply Kd.V_drew)); exact HL180_0.out) hb)
                           have n5_ := Aside0.mk (blk_below (g := gb161) (o := .cells #[.int .i64 ((rd_T97 l0 (ji2)).f0), .int .u8 ((rd_T97 l0 (ji2)).f1)] 97 (0, 0)) (by (with_reducible repeat (first | refine blk_drewN ?_ _ | refine blk_drew ?_ | refine blk_alloc ?_ _)); exact BK161.out) hb)
                           have n6_ := Aside0.mk (Kd.C_below (by repeat (first | (with_reducible exact HR175_0.out) | (with_reducible refine Kd.C_alloc ?_ _) | (with_reducible refine Kd.C_drewN ?_ _) | (with_reducible refine Kd.C_drew ?_) | exact HR175_0.out)) hb)
                           have n7_ := Aside0.mk (Kd.C_below (by repeat (first | (with_reducible exact HR176_0.out) | (with_reducible refine Kd.C_alloc ?_ _) | (with_reducible refine Kd.C_drewN ?_ _) | (with_reducible refine Kd.C_drew ?_) | exact HR176_0.out)) hb)
                           have n8_ := Aside0.mk (Kd.C_below (by repeat (first | (with_reducible exact HR178_0.out) | (with_reducible refine Kd.C_alloc ?_ _) | (with_reducible refine Kd.C_drewN ?_ _) | (with_reducible refine Kd.C_drew ?_) | exact HR178_0.out)) hb)
                           have n9_ := Aside0.mk (Kd.C_below (by repeat (first | (with_reducible exact HR180_0.out) | (with_reducible refine Kd.C_alloc ?_ _) | (with_reducible refine Kd.C_drewN ?_ _) | (with_reducible refine Kd.C_drew ?_) | exact HR180_0.out)) hb)
                           have n10_ := Aside0.mk (below_step (by repeat (first | (with_reducible first | exact HB.out | apply below_alloc | apply pw_below_drewN | apply below_drew1 | refine below_set ?_ GE161.out) | exact HB.out)) hb)
                           clear HO164
                           clear HL175_0
                           clear HL176_0
                           clear HL178_0
                           clear HL180_0
                           clear BK161
                           clear HR175_0
                           clear HR176_0
                           clear HR178_0
                           clear HR180_0
                           clear HB
                           have HO164 := n0_
                           have HL175_0 := n1_
                           have HL176_0 := n2_
                           have HL178_0 := n3_
                           have HL180_0 := n4_
                           have BK161 := n5_
                           have HR175_0 := n6_
                           have HR176_0 := n7_
                           have HR178_0 := n8_
                           have HR180_0 := n9_
                           have HB := n10_
                           clear n0_ n1_ n2_ n3_ n4_ n5_ n6_ n7_ n8_ n9_ n10_
                           (try clear hb)
                           (try clear hb2)
                           (try clear hk)
                           (try clear hi)
                           refine hK.out _ _ ⟨HS0_, HS1_⟩ (fun hHeld => ?_)
                           clear hK K
                           refine norm_ (a' := ?_) ?_ ?_
                           rotate_left
                           · show Act.put _ (some 68) _ = _
                             simp only [Act.put, sA_, sZ_, sS_, i64_w, i32_w]
                             rfl
                           refine pure_ (i := 9) (N := some 69) (v := ?_) (a' := ?_) #[true, true, true, true, true, true, true, true, true, true, false, false] rfl rfl (any_of HT_.out (by kernel_rfl)) (fun _ _ _ h => h) (Or.inl ⟨by rfl, ?_⟩) ?_ ?_
                           rotate_left
                           · intro w'
                             go_simp
                             with_reducible rfl
                           rotate_left
                           · simp only [Act.put, sA_, sZ_, sS_, i64_w, i32_w]
                             rfl
                           refine pure_ (i := 10) (N := some 70) (v := ?_) (a' := ?_) #[true, true, true, true, true, true, true, true, true, true, true, false] rfl rfl (any_of HT_.out (by kernel_rfl)) (fun _ _ _ h => h) (Or.inl ⟨by rfl, ?_⟩) ?_ ?_
                           rotate_left
                           · intro w'
                             go_simp
                             with_reducible rfl
                           rotate_left
                           · simp only [Act.put, sA_, sZ_, sS_, i64_w, i32_w]
                             rfl
                           refine pure_ (i := 11) (N := some 2) (v := ?_) (a' := ?_) #[true, true, true, true, true, true, true, true, true, true, true, true] rfl rfl (any_of HT_.out (by kernel_rfl)) (fun _ _ _ h => h) (Or.inl ⟨by rfl, ?_⟩) ?_ ?_
                           rotate_left
                           · intro w'
                             go_simp
                             with_reducible rfl
                           rotate_left
                           · simp only [Act.put, sA_, sZ_, sS_, i64_w, i32_w]
                             rfl
                           refine done_ (done_of HT_.out (by kernel_rfl)) ?_
                           try go_wp2
                           go_ret
                           exact ⟨by first | rfl | (simp [errW_none, errW_some] <;> rfl) | (simp only [← hji2, ← hji49]; first | rfl | (simp [errW_none, errW_some] <;> rfl)) | (simp [*, errW_none, errW_some] <;> rfl), by repeat (first | (with_reducible first | exact HB.out | apply below_alloc | apply pw_below_drewN | apply below_drew1 | refine below_set ?_ GE161.out) | exact HB.out)⟩
                         · rw [if_neg c58] at H
                           exact absurd H (by simp)
                       · rw [if_neg c57] at H
                         exact absurd H (by simp)
                     · rw [if_neg c55] at H
                       exact absurd H (by simp)
                   · rw [if_neg c53] at H
                     exact absurd H (by simp)
                 · rw [if_neg c52] at H
                   have c52b0 : (((rd_T97 (rd_L3 t162 1) (ji49)).f0) == 3) = false := beq_eq_false_iff_ne.mpr c52
                   have c52b1 : (((rd_T97 (rd_L3 t162 1) (ji49)).f0) != 3) = true := bne_iff_ne.mpr c52
                   by_cases c69 : 0 < (t162.length : Int)
                   · rw [if_pos c69] at H
                     have c69b0 : decide (0 < (t162.length : Int)) = true := decide_eq_true c69
                     have c69b1 : decide (0 < t162.length) = true := decide_eq_true (by omega)
                     clear c69
                     replace H := Option.bind_eq_some_iff.mp H
                     obtain ⟨t183, A700, H⟩ := H
                     replace H : ((eggboxref19_text.f k (rd_L3 t162 1)).bind fun t185 => (if t183.size + t185.size ≤ 9223372036854775807 then (some (t183 ++ t185)) else (none))) = some r := H
                     have A70 := Aside0.mk A700
                     clear A700
                     replace H := Option.bind_eq_some_iff.mp H
                     obtain ⟨t185, A710, H⟩ := H
                     replace H : (if t183.size + t185.size ≤ 9223372036854775807 then (some (t183 ++ t185)) else (none)) = some r := H
                     have A71 := Aside0.mk A710
                     clear A710
                     by_cases c72 : t183.size + t185.size ≤ 9223372036854775807
                     · rw [if_pos c72] at H
                       have c72b0 := eq_true c72
                       have c72b1 : decide (t183.size + t185.size ≤ 9223372036854775807) = true := decide_eq_true c72
                       try have c72b2 : (9223372036854775807 < t183.size + t185.size) = False := eq_false (Nat.not_lt.2 c72)
                       obtain rfl := Option.some.inj H
                       have p160 : 0 ≤ ((ji2) : Int) := of_decide_eq_true (by first | (with_reducible assumption) | assumption)
                       have q160 : (ji2) < (l0.length : Int) := of_decide_eq_true (by first | (with_reducible assumption) | assumption)
                       obtain ⟨ad160, e160, hx160_0, hx160_1⟩ := at_T97 HR0.out (ji2) p160 q160
                       cases e160
                       replace p160 := eq_true p160
                       replace q160 := eq_true q160
                       go_enter Try.func50, Try.ntmps50
                       try go_wp2_with (first | ((with_reducible refine gate_dst (N := 3) rfl ?_); refine box_event ?hg (N := 3) ?hd (cs := #[.int .i64 0, .int .u8 0]) (t := 97) ?hr ?_; (case hd => rfl); (case hg => rfl); (case hr => first | (go_simp; done) | (go_simp; rfl)); intro gb161 hg w73 hbox hb; have n0_ := Aside0.mk (below_step (by repeat (first | (with_reducible first | exact HB.out | apply below_alloc | apply pw_below_drewN | apply below_drew1) | exact HB.out)) hb); have n1_ := Aside0.mk (hbox); have n2_ := Aside0.mk ((by rw [hg]; exact (below_size (by repeat (first | (with_reducible first | exact HB.out | apply below_alloc | apply pw_below_drewN | apply below_drew1) | exact HB.out))) : w.heap.size ≤ gb161)); have n3_ := Aside0.mk ((by rw [hg]; exact (below_size (by repeat (first | (with_reducible first | exact HB.out | apply below_alloc | apply pw_below_drewN | apply below_drew1) | exact HB.out))) : w.heap.size ≤ gb161)); clear HB; have HB := n0_; have BK161 := n1_; have GW161 := n2_; have GE161 := n3_; clear n0_ n1_ n2_ n3_; clear hb hbox hg; have hcz74_0 : w73.cell? ⟨gb161, 0, none⟩ = some (.int .i64 0) := (blk_cell BK161.out 0).trans rfl; have hcz74_1 : w73.cell? ⟨gb161, 1, none⟩ = some (.int .u8 0) := (blk_cell BK161.out 1).trans rfl; have hfz74_0 := blk_frozen BK161.out 0; have hfz74_1 := blk_frozen BK161.out 1) | ((with_reducible refine gate_store (t := 97) (p := 3) rfl ?_); refine store_event (t := 97) (p := 3) (v := ?vo_w75) (w1 := ((w73.setCell ⟨gb161, 0, none⟩ (.int .i64 ((rd_T97 l0 (ji2)).f0))).setCell ⟨gb161, 1, none⟩ (.int .u8 ((rd_T97 l0 (ji2)).f1)))) ?hg ?ho ?hn ?hr ?_; (case ho => rfl); (case hg => rfl); (case hn => rfl); (case hr => first | (go_simp; done) | (go_simp; rfl)); intro w75 hw; have n0_ : Aside0 (w75.heap[gb161]? = some (.cells #[.int .i64 ((rd_T97 l0 (ji2)).f0), .int .u8 ((rd_T97 l0 (ji2)).f1)] 97 (0, 0))) := ⟨(by rw [hw]; exact (by (with_reducible repeat (first | refine blk_drewN ?_ _ | refine blk_drew ?_ | refine blk_alloc ?_ _)); refine blk_put (cs := #[.int .i64 ((rd_T97 l0 (ji2)).f0), .int .u8 0]) ?_ 1 _ rfl; (with_reducible repeat (first | refine blk_drewN ?_ _ | refine blk_drew ?_ | refine blk_alloc ?_ _)); refine blk_put (cs := #[.int .i64 0, .int .u8 0]) ?_ 0 _ rfl; (with_reducible repeat (first | refine blk_drewN ?_ _ | refine blk_drew ?_ | refine blk_alloc ?_ _)); exact BK161.out))⟩; have n1_ : Aside0 (Below w.heap.size w w75) := ⟨(by rw [hw]; exact (by repeat (first | (with_reducible first | exact HB.out | apply below_alloc | apply pw_below_drewN | apply below_drew1 | refine below_set ?_ GE161.out) | exact HB.out)))⟩; clear hw; clear BK161; clear HB; have BK161 := n0_; have HB := n1_; clear n0_ n1_) | ((with_reducible refine gate_callee (f := 108) rfl ?_); refine goesL_ (some 12) rfl rfl Try.func108 (by kernel_rfl) rfl #[.slice (some ad160) l0.length c0] rfl (by (try simp only [List.map_toArray, List.map_cons, List.map_nil]); first | done | rfl | (simp only [List.length_drop, List.length_take]; rfl)) ?_; (with_reducible refine (eggboxref19_Cut.calls k (fun k_ => k_ < w.heap.size) _ _ l0 t162 _ ?side1 A5.out).mono ?_); (case side1 => exact Kd.V_mk HC0.out (Kd.F_below (Kd.C_F k97_heap HR0.out) (by repeat (first | (with_reducible first | exact HB.out | apply below_alloc | apply pw_below_drewN | apply below_drew1 | refine below_set ?_ GE161.out) | exact HB.out)))); rintro e w76 ⟨v163, rfl, ho0, hb⟩; refine ⟨_, rfl, ?_⟩; have n0_ := Aside0.mk (Kd.N_lower (Kd.N_mono (ok' := fun k_ => k_ ≠ gb161) ho0 (fun k_ hk_ => Or.elim hk_ (fun hs_ => fun e_ => Nat.not_le.2 hs_ (by rw [e_]; exact GW161.out)) (fun hn_ => (Kd.freshB (g := gb161) (o := .cells #[.int .i64 ((rd_T97 l0 (ji2)).f0), .int .u8 ((rd_T97 l0 (ji2)).f1)] 97 (0, 0)) (by (with_reducible repeat (first | refine blk_drewN ?_ _ | refine blk_drew ?_ | refine blk_alloc ?_ _)); exact BK161.out) k_ hn_)))) (below_size (by repeat (first | (with_reducible first | exact HB.out | apply below_alloc | apply pw_below_drewN | apply below_drew1 | refine below_set ?_ GE161.out) | exact HB.out)))); have n1_ := Aside0.mk (blk_below (g := gb161) (o := .cells #[.int .i64 ((rd_T97 l0 (ji2)).f0), .int .u8 ((rd_T97 l0 (ji2)).f1)] 97 (0, 0)) (by (with_reducible repeat (first | refine blk_drewN ?_ _ | refine blk_drew ?_ | refine blk_alloc ?_ _)); exact BK161.out) hb); have n2_ := Aside0.mk (below_step (by repeat (first | (with_reducible first | exact HB.out | apply below_alloc | apply pw_below_drewN | apply below_drew1 | refine below_set ?_ GE161.out) | exact HB.out)) hb); clear BK161; clear HB; have HO164 := n0_; have BK161 := n1_; have HB := n2_; clear n0_ n1_ n2_; (try clear hb); (try clear hb2); (try clear hk); (try clear hi); (try clear ho0); have hcz77_0 : w76.cell? ⟨gb161, 0, none⟩ = some (.int .i64 ((rd_T97 l0 (ji2)).f0)) := (blk_cell BK161.out 0).trans rfl; have hcz77_1 : w76.cell? ⟨gb161, 1, none⟩ = some (.int .u8 ((rd_T97 l0 (ji2)).f1)) := (blk_cell BK161.out 1).trans rfl; have hfz77_0 := blk_frozen BK161.out 0; have hfz77_1 := blk_frozen BK161.out 1))
                       have n0_ := Aside0.mk (Kd.N_drew HO164.out)
                       have n1_ := Aside0.mk (blk_drew BK161.out)
                       have n2_ := Aside0.mk (below_drew1 HB.out)
                       clear HO164
                       clear BK161
                       clear HB
                       have HO164 := n0_
                       have BK161 := n1_
                       have HB := n2_
                       clear n0_ n1_ n2_
                       obtain ⟨Ao79, co79, eo79⟩ := Kd.N_slice HO164.out
                       (first | subst eo79 | (injection eo79 with f1_ f2_ f3_; have f4_ := f1_.symm; have f5_ := f3_.symm; clear f1_ f2_ f3_; subst f4_; subst f5_))
                       have p175 : 0 ≤ (1 : Int) := (by omega)
                       have q175 : 1 < (t162.length : Int) := of_decide_eq_true (by first | (with_reducible assumption) | assumption)
                       obtain ⟨ad175, A175_0, c175_0, e175, hx175_0, hl175_0, hi175_0⟩ := at_L3 (Kd.N_reads' HO164.out).2.2 1 p175 q175
                       cases e175
                       obtain ⟨ce175, hce175, hMe175, hcc175⟩ := Kd.N_get HO164.out [] 1 p175 (by first | exact q175 | exact of_decide_eq_true (by first | (with_reducible assumption) | assumption) | (have e_ := (Kd.N_reads' HO164.out).1; omega))
                       obtain ⟨ua175_0, uc175_0, rfl, ul175_0, ge175_0⟩ := Kd.FK_slice_open hMe175
                       have hv175_0 := hcc175 0 _ rfl
                       rw [Nat.add_zero, show ((Kd.slice 97 k97)).sz = 1 from rfl, Nat.mul_one] at hv175_0
                       replace hv175_0 := Option.some.inj (hv175_0.symm.trans hx175_0)
                       injection hv175_0 with hva_ hvn_ hvc_
                       rw [hva_] at ge175_0
                       rw [hvc_] at ul175_0
                       have HL175_0 := Aside0.mk (show Kd.V k97 97 _ w.heap.size _ _ (rd_L3 t162 1) from Kd.V_mk ul175_0 ge175_0)
                       clear hva_ hvn_ hvc_ ge175_0 ul175_0
                       clear hcc175 hce175
                       (try simp only [show (1 : Int).toNat = 1 from rfl, Nat.reduceMul, Nat.reduceEqDiff, Go.Addr.add, ↓reduceIte] at hx175_0)
                       have qi175 : (1 < t162.length) = True := eq_true (by omega)
                       (try rw [show ((1 : Int)).toNat = 1 from rfl] at hx175_0)
                       have HR175_0 := Aside0.mk hi175_0
                       have HC175_0 := Aside0.mk hl175_0
                       clear hi175_0 hl175_0
                       replace p175 := eq_true p175
                       replace q175 := eq_true q175
                       have p176 : 0 ≤ (1 : Int) := (by omega)
                       have q176 : 1 < (t162.length : Int) := of_decide_eq_true (by first | (with_reducible assumption) | assumption)
                       obtain ⟨ad176, A176_0, c176_0, e176, hx176_0, hl176_0, hi176_0⟩ := at_L3 (Kd.N_reads' HO164.out).2.2 1 p176 q176
                       obtain rfl : ad175 = ad176 := (by injection e176)
                       obtain ⟨ce176, hce176, hMe176, hcc176⟩ := Kd.N_get HO164.out [] 1 p176 (by first | exact q176 | exact of_decide_eq_true (by first | (with_reducible assumption) | assumption) | (have e_ := (Kd.N_reads' HO164.out).1; omega))
                       obtain ⟨ua176_0, uc176_0, rfl, ul176_0, ge176_0⟩ := Kd.FK_slice_open hMe176
                       have hv176_0 := hcc176 0 _ rfl
                       rw [Nat.add_zero, show ((Kd.slice 97 k97)).sz = 1 from rfl, Nat.mul_one] at hv176_0
                       replace hv176_0 := Option.some.inj (hv176_0.symm.trans hx176_0)
                       injection hv176_0 with hva_ hvn_ hvc_
                       rw [hva_] at ge176_0
                       rw [hvc_] at ul176_0
                       have HL176_0 := Aside0.mk (show Kd.V k97 97 _ w.heap.size _ _ (rd_L3 t162 1) from Kd.V_mk ul176_0 ge176_0)
                       clear hva_ hvn_ hvc_ ge176_0 ul176_0
                       clear hcc176 hce176
                       (try simp only [show (1 : Int).toNat = 1 from rfl, Nat.reduceMul, Nat.reduceEqDiff, Go.Addr.add, ↓reduceIte] at hx176_0)
                       have qi176 : (1 < t162.length) = True := eq_true (by omega)
                       (try rw [show ((1 : Int)).toNat = 1 from rfl] at hx176_0)
                       have HR176_0 := Aside0.mk hi176_0
                       have HC176_0 := Aside0.mk hl176_0
                       clear hi176_0 hl176_0
                       replace p176 := eq_true p176
                       replace q176 := eq_true q176
                       have ea_ := Option.some.inj (hx175_0.symm.trans hx176_0)
                       injection ea_ with ea_ en_ ec_
                       subst ea_
                       subst ec_
                       clear en_
                       have p177 : 0 ≤ ((ji49) : Int) := of_decide_eq_true (by first | (with_reducible assumption) | assumption)
                       have q177 : (ji49) < ((rd_L3 t162 1).length : Int) := of_decide_eq_true (by first | (with_reducible assumption) | assumption)
                       obtain ⟨ad177, e177, hx177_0, hx177_1⟩ := at_T97 (by repeat (first | (with_reducible exact HR175_0.out) | (with_reducible refine Kd.C_alloc ?_ _) | (with_reducible refine Kd.C_drewN ?_ _) | (with_reducible refine Kd.C_drew ?_) | exact HR175_0.out)) (ji49) p177 q177
                       cases e177
                       replace p177 := eq_true p177
                       replace q177 := eq_true q177
                       refine start_ (n := 12) (S := fun w' => w'.cell? ⟨ad175.block, ad175.off + 1, none⟩ = some (.slice (some ad177) (rd_L3 t162 1).length c175_0) ∧ w'.cell? ⟨ad175.block, ad175.off + 1, none⟩ = some (.slice (some ad177) (rd_L3 t162 1).length c175_0) ∧ w'.cell? (ad177.add (((ji49)).toNat * 2)) = some (.int .i64 ((rd_T97 (rd_L3 t162 1) (ji49)).f0)) ∧ w'.cell? ⟨(ad177.add (((ji49)).toNat * 2)).block, (ad177.add (((ji49)).toNat * 2)).off + 1, none⟩ = some (.int .u8 ((rd_T97 (rd_L3 t162 1) (ji49)).f1))) (ds := []) #[false, false, false, false, false, false, false, false, false, false, false, false] (by kernel_rfl) rfl rfl ⟨hx175_0, hx176_0, hx177_0, hx177_1⟩ (fun hHeld => ?_); refine with_tabW eggboxref19_text.tab12 eggboxref19_text.bits12 (fun HT_ HW_ => ?_)
                       generalize w76.drew = w78 at HO164 BK161 HB HL175_0 HL176_0 HR175_0 HR176_0 hx175_0 hx176_0 hx177_0 hx177_1 hHeld ⊢
                       refine pure_ (i := 0) (N := some 48) (v := ?_) (a' := ?_) #[true, false, false, false, false, false, false, false, false, false, false, false] rfl rfl (any_of HT_.out (by kernel_rfl)) (fun _ _ _ h => h) (Or.inl ⟨by rfl, ?_⟩) ?_ ?_
                       rotate_left
                       · intro w'
                         go_simp
                         with_reducible rfl
                       rotate_left
                       · simp only [Act.put, sA_, sZ_, sS_, i64_w, i32_w]
                         rfl
                       refine pure_ (i := 1) (N := some 49) (v := ?_) (a' := ?_) #[true, true, false, false, false, false, false, false, false, false, false, false] rfl rfl (any_of HT_.out (by kernel_rfl)) (fun _ _ _ h => h) (Or.inl ⟨by rfl, ?_⟩) ?_ ?_
                       rotate_left
                       · intro w'
                         go_simp
                         with_reducible rfl
                       rotate_left
                       · simp only [Act.put, sA_, sZ_, sS_, i64_w, i32_w]
                         rfl
                       refine pure_ (i := 3) (N := some 51) (v := ?_) (a' := ?_) #[true, true, false, true, false, false, false, false, false, false, false, false] rfl rfl (any_of HT_.out (by kernel_rfl)) (fun _ _ _ h => h) (Or.inl ⟨by rfl, ?_⟩) ?_ ?_
                       rotate_left
                       · intro w'
                         go_simp
                         with_reducible rfl
                       rotate_left
                       · simp only [Act.put, sA_, sZ_, sS_, i64_w, i32_w]
                         rfl
                       refine pure_ (i := 4) (N := some 52) (v := ?_) (a' := ?_) #[true, true, false, true, true, false, false, false, false, false, false, false] rfl rfl (any_of HT_.out (by kernel_rfl)) (fun _ _ _ h => h) (Or.inl ⟨by rfl, ?_⟩) ?_ ?_
                       rotate_left
                       · intro w'
                         go_simp
                         with_reducible rfl
                       rotate_left
                       · simp only [Act.put, sA_, sZ_, sS_, i64_w, i32_w]
                         rfl
                       refine take_ (i := 2) (N := some 50) (v := ?_) (a' := ?_) #[true, true, true, true, true, false, false, false, false, false, false, false] rfl rfl (take_ofW HT_.out HW_.out (by kernel_rfl)) (fun _ _ _ h => h) (Or.inl ⟨by rfl, ?_⟩) hHeld ?_ ?_
                       rotate_left
                       · rintro w' ⟨s0, s1, s2, s3⟩
                         go_simp
                         with_reducible rfl
                       rotate_left
                       · simp only [Act.put, sA_, sZ_, sS_, i64_w, i32_w]
                         rfl
                       refine take_ (i := 5) (N := some 53) (v := ?_) (a' := ?_) #[true, true, true, true, true, true, false, false, false, false, false, false] rfl rfl (take_ofW HT_.out HW_.out (by kernel_rfl)) (fun _ _ _ h => h) (Or.inl ⟨by rfl, ?_⟩) hHeld ?_ ?_
                       rotate_left
                       · rintro w' ⟨s0, s1, s2, s3⟩
                         go_simp
                         with_reducible rfl
                       rotate_left
                       · simp only [Act.put, sA_, sZ_, sS_, i64_w, i32_w]
                         rfl
                       refine pure_ (i := 6) (N := some 54) (v := ?_) (a' := ?_) #[true, true, true, true, true, true, true, false, false, false, false, false] rfl rfl (any_of HT_.out (by kernel_rfl)) (fun _ _ _ h => h) (Or.inl ⟨by rfl, ?_⟩) ?_ ?_
                       rotate_left
                       · intro w'
                         go_simp
                         with_reducible rfl
                       rotate_left
                       · simp only [Act.put, sA_, sZ_, sS_, i64_w, i32_w]
                         rfl
                       refine pure_ (i := 7) (N := some 55) (v := ?_) (a' := ?_) #[true, true, true, true, true, true, true, true, false, false, false, false] rfl rfl (any_of HT_.out (by kernel_rfl)) (fun _ _ _ h => h) (Or.inl ⟨by rfl, ?_⟩) ?_ ?_
                       rotate_left
                       · intro w'
                         go_simp
                         with_reducible rfl
                       rotate_left
                       · simp only [Act.put, sA_, sZ_, sS_, i64_w, i32_w]
                         rfl
                       refine pure_ (i := 8) (N := some 56) (v := ?_) (a' := ?_) #[true, true, true, true, true, true, true, true, true, false, false, false] rfl rfl (any_of HT_.out (by kernel_rfl)) (fun _ _ _ h => h) (Or.inl ⟨by rfl, ?_⟩) ?_ ?_
                       rotate_left
                       · intro w'
                         go_simp
                         with_reducible rfl
                       rotate_left
                       · simp only [Act.put, sA_, sZ_, sS_, i64_w, i32_w]
                         rfl
                       refine pure_ (i := 9) (N := some 57) (v := ?_) (a' := ?_) #[true, true, true, true, true, true, true, true, true, true, false, false] rfl rfl (any_of HT_.out (by kernel_rfl)) (fun _ _ _ h => h) (Or.inl ⟨by rfl, ?_⟩) ?_ ?_
                       rotate_left
                       · intro w'
                         go_simp
                         with_reducible rfl
                       rotate_left
                       · simp only [Act.put, sA_, sZ_, sS_, i64_w, i32_w]
                         rfl
                       refine take_ (i := 10) (N := some 58) (v := ?_) (a' := ?_) #[true, true, true, true, true, true, true, true, true, true, true, false] rfl rfl (take_ofW HT_.out HW_.out (by kernel_rfl)) (fun _ _ _ h => h) (Or.inl ⟨by rfl, ?_⟩) hHeld ?_ ?_
                       rotate_left
                       · rintro w' ⟨s0, s1, s2, s3⟩
                         go_simp
                         with_reducible rfl
                       rotate_left
                       · simp only [Act.put, sA_, sZ_, sS_, i64_w, i32_w]
                         rfl
                       refine pure_ (i := 11) (N := some 59) (v := ?_) (a' := ?_) #[true, true, true, true, true, true, true, true, true, true, true, true] rfl rfl (any_of HT_.out (by kernel_rfl)) (fun _ _ _ h => h) (Or.inl ⟨by rfl, ?_⟩) ?_ ?_
                       rotate_left
                       · intro w'
                         go_simp
                         with_reducible rfl
                       rotate_left
                       · simp only [Act.put, sA_, sZ_, sS_, i64_w, i32_w]
                         rfl
                       refine done_ (done_of HT_.out (by kernel_rfl)) ?_
                       try go_wp2
                       have n0_ := Aside0.mk (Kd.N_drew HO164.out)
                       have n1_ := Aside0.mk (Kd.V_drew HL175_0.out)
                       have n2_ := Aside0.mk (Kd.V_drew HL176_0.out)
                       have n3_ := Aside0.mk (blk_drew BK161.out)
                       have n4_ := Aside0.mk (Kd.C_drew HR175_0.out)
                       have n5_ := Aside0.mk (Kd.C_drew HR176_0.out)
                       have n6_ := Aside0.mk (below_drew1 HB.out)
                       clear HO164
                       clear HL175_0
                       clear HL176_0
                       clear BK161
                       clear HR175_0
                       clear HR176_0
                       clear HB
                       have HO164 := n0_
                       have HL175_0 := n1_
                       have HL176_0 := n2_
                       have BK161 := n3_
                       have HR175_0 := n4_
                       have HR176_0 := n5_
                       have HB := n6_
                       clear n0_ n1_ n2_ n3_ n4_ n5_ n6_
                       have p182 : 0 ≤ (0 : Int) := (by omega)
                       have q182 : 0 < (t162.length : Int) := of_decide_eq_true (by first | (with_reducible assumption) | assumption)
                       obtain ⟨ad182, A182_0, c182_0, e182, hx182_0, hl182_0, hi182_0⟩ := at_L3 (Kd.N_reads' HO164.out).2.2 0 p182 q182
                       obtain rfl : ad175 = ad182 := (by injection e182)
                       obtain ⟨ce182, hce182, hMe182, hcc182⟩ := Kd.N_get HO164.out [] 0 p182 (by first | exact q182 | exact of_decide_eq_true (by first | (with_reducible assumption) | assumption) | (have e_ := (Kd.N_reads' HO164.out).1; omega))
                       obtain ⟨ua182_0, uc182_0, rfl, ul182_0, ge182_0⟩ := Kd.FK_slice_open hMe182
                       have hv182_0 := hcc182 0 _ rfl
                       rw [Nat.add_zero, show ((Kd.slice 97 k97)).sz = 1 from rfl, Nat.mul_one] at hv182_0
                       replace hv182_0 := Option.some.inj (hv182_0.symm.trans hx182_0)
                       injection hv182_0 with hva_ hvn_ hvc_
                       rw [hva_] at ge182_0
                       rw [hvc_] at ul182_0
                       have HL182_0 := Aside0.mk (show Kd.V k97 97 _ w.heap.size _ _ (rd_L3 t162 0) from Kd.V_mk ul182_0 ge182_0)
                       clear hva_ hvn_ hvc_ ge182_0 ul182_0
                       clear hcc182 hce182
                       have qi182 : (0 < t162.length) = True := eq_true (by omega)
                       (try rw [show ((0 : Int)).toNat = 0 from rfl] at hx182_0)
                       (try rw [Addr.add_zero'] at hx182_0)
                       have HR182_0 := Aside0.mk hi182_0
                       have HC182_0 := Aside0.mk hl182_0
                       clear hi182_0 hl182_0
                       replace p182 := eq_true p182
                       replace q182 := eq_true q182
                       have p184 : 0 ≤ (1 : Int) := (by omega)
                       have q184 : 1 < (t162.length : Int) := of_decide_eq_true (by first | (with_reducible assumption) | assumption)
                       obtain ⟨ad184, A184_0, c184_0, e184, hx184_0, hl184_0, hi184_0⟩ := at_L3 (Kd.N_reads' HO164.out).2.2 1 p184 q184
                       obtain rfl : ad175 = ad184 := (by injection e184)
                       obtain ⟨ce184, hce184, hMe184, hcc184⟩ := Kd.N_get HO164.out [] 1 p184 (by first | exact q184 | exact of_decide_eq_true (by first | (with_reducible assumption) | assumption) | (have e_ := (Kd.N_reads' HO164.out).1; omega))
                       obtain ⟨ua184_0, uc184_0, rfl, ul184_0, ge184_0⟩ := Kd.FK_slice_open hMe184
                       have hv184_0 := hcc184 0 _ rfl
                       rw [Nat.add_zero, show ((Kd.slice 97 k97)).sz = 1 from rfl, Nat.mul_one] at hv184_0
                       replace hv184_0 := Option.some.inj (hv184_0.symm.trans hx184_0)
                       injection hv184_0 with hva_ hvn_ hvc_
                       rw [hva_] at ge184_0
                       rw [hvc_] at ul184_0
                       have HL184_0 := Aside0.mk (show Kd.V k97 97 _ w.heap.size _ _ (rd_L3 t162 1) from Kd.V_mk ul184_0 ge184_0)
                       clear hva_ hvn_ hvc_ ge184_0 ul184_0
                       clear hcc184 hce184
                       (try simp only [show (1 : Int).toNat = 1 from rfl, Nat.reduceMul, Nat.reduceEqDiff, Go.Addr.add, ↓reduceIte] at hx184_0)
                       have qi184 : (1 < t162.length) = True := eq_true (by omega)
                       (try rw [show ((1 : Int)).toNat = 1 from rfl] at hx184_0)
                       have HR184_0 := Aside0.mk hi184_0
                       have HC184_0 := Aside0.mk hl184_0
                       clear hi184_0 hl184_0
                       replace p184 := eq_true p184
                       replace q184 := eq_true q184
                       refine start_ (n := 10) (S := fun w' => w'.cell? ad175 = some (.slice A182_0 (rd_L3 t162 0).length c182_0) ∧ w'.cell? ⟨ad175.block, ad175.off + 1, none⟩ = some (.slice A184_0 (rd_L3 t162 1).length c184_0)) (ds := []) #[false, false, false, false, false, false, false, false, false, false] (by kernel_rfl) rfl rfl ⟨hx182_0, hx184_0⟩ (fun hHeld => ?_); refine with_tabW eggboxref19_text.tab14 eggboxref19_text.bits14 (fun HT_ HW_ => ?_)
                       generalize w78.drew = w80 at HO164 HL175_0 HL176_0 BK161 HR175_0 HR176_0 HB HL182_0 HL184_0 HR182_0 HR184_0 hx182_0 hx184_0 hHeld ⊢
                       refine pure_ (i := 0) (N := some 71) (v := ?_) (a' := ?_) #[true, false, false, false, false, false, false, false, false, false] rfl rfl (any_of HT_.out (by kernel_rfl)) (fun _ _ _ h => h) (Or.inl ⟨by rfl, ?_⟩) ?_ ?_
                       rotate_left
                       · intro w'
                         go_simp
                         with_reducible rfl
                       rotate_left
                       · simp only [Act.put, sA_, sZ_, sS_, i64_w, i32_w]
                         rfl
                       refine pure_ (i := 1) (N := some 72) (v := ?_) (a' := ?_) #[true, true, false, false, false, false, false, false, false, false] rfl rfl (any_of HT_.out (by kernel_rfl)) (fun _ _ _ h => h) (Or.inl ⟨by rfl, ?_⟩) ?_ ?_
                       rotate_left
                       · intro w'
                         go_simp
                         with_reducible rfl
                       rotate_left
                       · simp only [Act.put, sA_, sZ_, sS_, i64_w, i32_w]
                         rfl
                       refine pure_ (i := 4) (N := some 75) (v := ?_) (a' := ?_) #[true, true, false, false, true, false, false, false, false, false] rfl rfl (any_of HT_.out (by kernel_rfl)) (fun _ _ _ h => h) (Or.inl ⟨by rfl, ?_⟩) ?_ ?_
                       rotate_left
                       · intro w'
                         go_simp
                         with_reducible rfl
                       rotate_left
                       · simp only [Act.put, sA_, sZ_, sS_, i64_w, i32_w]
                         rfl
                       refine pure_ (i := 5) (N := some 76) (v := ?_) (a' := ?_) #[true, true, false, false, true, true, false, false, false, false] rfl rfl (any_of HT_.out (by kernel_rfl)) (fun _ _ _ h => h) (Or.inl ⟨by rfl, ?_⟩) ?_ ?_
                       rotate_left
                       · intro w'
                         go_simp
                         with_reducible rfl
                       rotate_left
                       · simp only [Act.put, sA_, sZ_, sS_, i64_w, i32_w]
                         rfl
                       refine take_ (i := 2) (N := some 73) (v := ?_) (a' := ?_) #[true, true, true, false, true, true, false, false, false, false] rfl rfl (take_ofW HT_.out HW_.out (by kernel_rfl)) (fun _ _ _ h => h) (Or.inl ⟨by rfl, ?_⟩) hHeld ?_ ?_
                       rotate_left
                       · rintro w' ⟨s0, s1⟩
                         go_simp
                         with_reducible rfl
                       rotate_left
                       · simp only [Act.put, sA_, sZ_, sS_, i64_w, i32_w]
                         rfl
                       refine take_ (i := 6) (N := some 77) (v := ?_) (a' := ?_) #[true, true, true, false, true, true, true, false, false, false] rfl rfl (take_ofW HT_.out HW_.out (by kernel_rfl)) (fun _ _ _ h => h) (Or.inl ⟨by rfl, ?_⟩) hHeld ?_ ?_
                       rotate_left
                       · rintro w' ⟨s0, s1⟩
                         go_simp
                         with_reducible rfl
                       rotate_left
                       · simp only [Act.put, sA_, sZ_, sS_, i64_w, i32_w]
                         rfl
                       refine one_ (i := 3) (N := some 74) #[true, true, true, true, true, true, true, false, false, false] rfl rfl (one_of HT_.out (by kernel_rfl)) (by decide) (fun K hK => ?_)
                       refine goes_ Try.func50 (by kernel_rfl) rfl #[.slice A182_0 (rd_L3 t162 0).length c182_0] (by rfl) rfl rfl (by (try simp only [List.map_toArray, List.map_cons, List.map_nil]); first | done | rfl | (simp only [List.length_drop, List.length_take]; rfl)) ?_
                       with_reducible refine (ih k (by omega) _ _ (rd_L3 t162 0) t183 _ ?side1 ?side2 A70.out).mono ?_
                       (case side1 => repeat (first | exact (by repeat (first | (with_reducible exact HR182_0.out) | (with_reducible refine Kd.C_alloc ?_ _) | (with_reducible refine Kd.C_drewN ?_ _) | (with_reducible refine Kd.C_drew ?_) | exact HR182_0.out)) | (with_reducible refine Kd.C_alloc ?_ _) | (with_reducible refine Kd.C_drewN ?_ _) | (with_reducible refine Kd.C_drew ?_)))
                       (case side2 => exact HC182_0.out)
                       rintro e w81 ⟨rfl, hb⟩
                       have HS0_ := (hb.cell (World.block_lt_of_cell? _ _ (hHeld.1))).trans (hHeld.1)
                       have HS1_ := (hb.cell (World.block_lt_of_cell? _ _ (hHeld.2))).trans (hHeld.2)
                       refine ⟨_, rfl, ?_⟩
                       have n0_ := Aside0.mk (Kd.N_below (by (with_reducible repeat (first | apply Kd.N_alloc | apply Kd.N_drewN | apply Kd.N_drew)); exact HO164.out) hb)
                       have n1_ := Aside0.mk (Kd.V_below (by (with_reducible repeat (first | apply Kd.V_alloc | apply Kd.V_drewN | apply Kd.V_drew)); exact HL175_0.out) hb)
                       have n2_ := Aside0.mk (Kd.V_below (by (with_reducible repeat (first | apply Kd.V_alloc | apply Kd.V_drewN | apply Kd.V_drew)); exact HL176_0.out) hb)
                       have n3_ := Aside0.mk (Kd.V_below (by (with_reducible repeat (first | apply Kd.V_alloc | apply Kd.V_drewN | apply Kd.V_drew)); exact HL182_0.out) hb)
                       have n4_ := Aside0.mk (Kd.V_below (by (with_reducible repeat (first | apply Kd.V_alloc | apply Kd.V_drewN | apply Kd.V_drew)); exact HL184_0.out) hb)
                       have n5_ := Aside0.mk (blk_below (g := gb161) (o := .cells #[.int .i64 ((rd_T97 l0 (ji2)).f0), .int .u8 ((rd_T97 l0 (ji2)).f1)] 97 (0, 0)) (by (with_reducible repeat (first | refine blk_drewN ?_ _ | refine blk_drew ?_ | refine blk_alloc ?_ _)); exact BK161.out) hb)
                       have n6_ := Aside0.mk (Kd.C_below (by repeat (first | (with_reducible exact HR175_0.out) | (with_reducible refine Kd.C_alloc ?_ _) | (with_reducible refine Kd.C_drewN ?_ _) | (with_reducible refine Kd.C_drew ?_) | exact HR175_0.out)) hb)
                       have n7_ := Aside0.mk (Kd.C_below (by repeat (first | (with_reducible exact HR176_0.out) | (with_reducible refine Kd.C_alloc ?_ _) | (with_reducible refine Kd.C_drewN ?_ _) | (with_reducible refine Kd.C_drew ?_) | exact HR176_0.out)) hb)
                       have n8_ := Aside0.mk (Kd.C_below (by repeat (first | (with_reducible exact HR182_0.out) | (with_reducible refine Kd.C_alloc ?_ _) | (with_reducible refine Kd.C_drewN ?_ _) | (with_reducible refine Kd.C_drew ?_) | exact HR182_0.out)) hb)
                       have n9_ := Aside0.mk (Kd.C_below (by repeat (first | (with_reducible exact HR184_0.out) | (with_reducible refine Kd.C_alloc ?_ _) | (with_reducible refine Kd.C_drewN ?_ _) | (with_reducible refine Kd.C_drew ?_) | exact HR184_0.out)) hb)
                       have n10_ := Aside0.mk (below_step (by repeat (first | (with_reducible first | exact HB.out | apply below_alloc | apply pw_below_drewN | apply below_drew1 | refine below_set ?_ GE161.out) | exact HB.out)) hb)
                       clear HO164
                       clear HL175_0
                       clear HL176_0
                       clear HL182_0
                       clear HL184_0
                       clear BK161
                       clear HR175_0
                       clear HR176_0
                       clear HR182_0
                       clear HR184_0
                       clear HB
                       have HO164 := n0_
                       have HL175_0 := n1_
                       have HL176_0 := n2_
                       have HL182_0 := n3_
                       have HL184_0 := n4_
                       have BK161 := n5_
                       have HR175_0 := n6_
                       have HR176_0 := n7_
                       have HR182_0 := n8_
                       have HR184_0 := n9_
                       have HB := n10_
                       clear n0_ n1_ n2_ n3_ n4_ n5_ n6_ n7_ n8_ n9_ n10_
                       (try clear hb)
                       (try clear hb2)
                       (try clear hk)
                       (try clear hi)
                       refine hK.out _ _ ⟨HS0_, HS1_⟩ (fun hHeld => ?_)
                       clear hK K
                       refine norm_ (a' := ?_) ?_ ?_
                       rotate_left
                       · show Act.put _ (some 74) _ = _
                         simp only [Act.put, sA_, sZ_, sS_, i64_w, i32_w]
                         rfl
                       refine one_ (i := 7) (N := some 78) #[true, true, true, true, true, true, true, true, false, false] rfl rfl (one_of HT_.out (by kernel_rfl)) (by decide) (fun K hK => ?_)
                       refine goes_ Try.func50 (by kernel_rfl) rfl #[.slice A184_0 (rd_L3 t162 1).length c184_0] (by rfl) rfl rfl (by (try simp only [List.map_toArray, List.map_cons, List.map_nil]); first | done | rfl | (simp only [List.length_drop, List.length_take]; rfl)) ?_
                       with_reducible refine (ih k (by omega) _ _ (rd_L3 t162 1) t185 _ ?side1 ?side2 A71.out).mono ?_
                       (case side1 => repeat (first | exact (by repeat (first | (with_reducible exact HR184_0.out) | (with_reducible refine Kd.C_alloc ?_ _) | (with_reducible refine Kd.C_drewN ?_ _) | (with_reducible refine Kd.C_drew ?_) | exact HR184_0.out)) | (with_reducible refine Kd.C_alloc ?_ _) | (with_reducible refine Kd.C_drewN ?_ _) | (with_reducible refine Kd.C_drew ?_)))
                       (case side2 => exact HC184_0.out)
                       rintro e w82 ⟨rfl, hb⟩
                       have HS0_ := (hb.cell (World.block_lt_of_cell? _ _ (hHeld.1))).trans (hHeld.1)
                       have HS1_ := (hb.cell (World.block_lt_of_cell? _ _ (hHeld.2))).trans (hHeld.2)
                       refine ⟨_, rfl, ?_⟩
                       have n0_ := Aside0.mk (Kd.N_below (by (with_reducible repeat (first | apply Kd.N_alloc | apply Kd.N_drewN | apply Kd.N_drew)); exact HO164.out) hb)
                       have n1_ := Aside0.mk (Kd.V_below (by (with_reducible repeat (first | apply Kd.V_alloc | apply Kd.V_drewN | apply Kd.V_drew)); exact HL175_0.out) hb)
                       have n2_ := Aside0.mk (Kd.V_below (by (with_reducible repeat (first | apply Kd.V_alloc | apply Kd.V_drewN | apply Kd.V_drew)); exact HL176_0.out) hb)
                       have n3_ := Aside0.mk (Kd.V_below (by (with_reducible repeat (first | apply Kd.V_alloc | apply Kd.V_drewN | apply Kd.V_drew)); exact HL182_0.out) hb)
                       have n4_ := Aside0.mk (Kd.V_below (by (with_reducible repeat (first | apply Kd.V_alloc | apply Kd.V_drewN | apply Kd.V_drew)); exact HL184_0.out) hb)
                       have n5_ := Aside0.mk (blk_below (g := gb161) (o := .cells #[.int .i64 ((rd_T97 l0 (ji2)).f0), .int .u8 ((rd_T97 l0 (ji2)).f1)] 97 (0, 0)) (by (with_reducible repeat (first | refine blk_drewN ?_ _ | refine blk_drew ?_ | refine blk_alloc ?_ _)); exact BK161.out) hb)
                       have n6_ := Aside0.mk (Kd.C_below (by repeat (first | (with_reducible exact HR175_0.out) | (with_reducible refine Kd.C_alloc ?_ _) | (with_reducible refine Kd.C_drewN ?_ _) | (with_reducible refine Kd.C_drew ?_) | exact HR175_0.out)) hb)
                       have n7_ := Aside0.mk (Kd.C_below (by repeat (first | (with_reducible exact HR176_0.out) | (with_reducible refine Kd.C_alloc ?_ _) | (with_reducible refine Kd.C_drewN ?_ _) | (with_reducible refine Kd.C_drew ?_) | exact HR176_0.out)) hb)
                       have n8_ := Aside0.mk (Kd.C_below (by repeat (first | (with_reducible exact HR182_0.out) | (with_reducible refine Kd.C_alloc ?_ _) | (with_reducible refine Kd.C_drewN ?_ _) | (with_reducible refine Kd.C_drew ?_) | exact HR182_0.out)) hb)
                       have n9_ := Aside0.mk (Kd.C_below (by repeat (first | (with_reducible exact HR184_0.out) | (with_reducible refine Kd.C_alloc ?_ _) | (with_reducible refine Kd.C_drewN ?_ _) | (with_reducible refine Kd.C_drew ?_) | exact HR184_0.out)) hb)
                       have n10_ := Aside0.mk (below_step (by repeat (first | (with_reducible first | exact HB.out | apply below_alloc | apply pw_below_drewN | apply below_drew1 | refine below_set ?_ GE161.out) | exact HB.out)) hb)
                       clear HO164
                       clear HL175_0
                       clear HL176_0
                       clear HL182_0
                       clear HL184_0
                       clear BK161
                       clear HR175_0
                       clear HR176_0
                       clear HR182_0
                       clear HR184_0
                       clear HB
                       have HO164 := n0_
                       have HL175_0 := n1_
                       have HL176_0 := n2_
                       have HL182_0 := n3_
                       have HL184_0 := n4_
                       have BK161 := n5_
                       have HR175_0 := n6_
                       have HR176_0 := n7_
                       have HR182_0 := n8_
                       have HR184_0 := n9_
                       have HB := n10_
                       clear n0_ n1_ n2_ n3_ n4_ n5_ n6_ n7_ n8_ n9_ n10_
                       (try clear hb)
                       (try clear hb2)
                       (try clear hk)
                       (try clear hi)
                       refine hK.out _ _ ⟨HS0_, HS1_⟩ (fun hHeld => ?_)
                       clear hK K
                       refine norm_ (a' := ?_) ?_ ?_
                       rotate_left
                       · show Act.put _ (some 78) _ = _
                         simp only [Act.put, sA_, sZ_, sS_, i64_w, i32_w]
                         rfl
                       refine pure_ (i := 8) (N := some 79) (v := ?_) (a' := ?_) #[true, true, true, true, true, true, true, true, true, false] rfl rfl (any_of HT_.out (by kernel_rfl)) (fun _ _ _ h => h) (Or.inl ⟨by rfl, ?_⟩) ?_ ?_
                       rotate_left
                       · intro w'
                         go_simp
                         with_reducible rfl
                       rotate_left
                       · simp only [Act.put, sA_, sZ_, sS_, i64_w, i32_w]
                         rfl
                       refine pure_ (i := 9) (N := some 2) (v := ?_) (a' := ?_) #[true, true, true, true, true, true, true, true, true, true] rfl rfl (any_of HT_.out (by kernel_rfl)) (fun _ _ _ h => h) (Or.inl ⟨by rfl, ?_⟩) ?_ ?_
                       rotate_left
                       · intro w'
                         go_simp
                         with_reducible rfl
                       rotate_left
                       · simp only [Act.put, sA_, sZ_, sS_, i64_w, i32_w]
                         rfl
                       refine done_ (done_of HT_.out (by kernel_rfl)) ?_
                       try go_wp2
                       go_ret
                       exact ⟨by first | rfl | (simp [errW_none, errW_some] <;> rfl) | (simp only [← hji2, ← hji49]; first | rfl | (simp [errW_none, errW_some] <;> rfl)) | (simp [*, errW_none, errW_some] <;> rfl), by repeat (first | (with_reducible first | exact HB.out | apply below_alloc | apply pw_below_drewN | apply below_drew1 | refine below_set ?_ GE161.out) | exact HB.out)⟩
                     · rw [if_neg c72] at H
                       exact absurd H (by simp)
                   · rw [if_neg c69] at H
                     exact absurd H (by simp)
               · rw [if_neg c51] at H
                 exact absurd H (by simp)
             · rw [if_neg c50] at H
               exact absurd H (by simp)
           · rw [if_neg c48] at H
             exact absurd H (by simp)
   · rw [if_neg c4] at H
     exact absurd H (by simp)
 · rw [if_neg c3] at H
   exact absurd H (by simp)

end Go.Proofs.Ytcbkihhpnndpkaa.PA
