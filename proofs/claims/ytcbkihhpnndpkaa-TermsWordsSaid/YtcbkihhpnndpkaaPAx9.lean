/- Contracts of Go functions, each with the walk through its code, written by a program of this session. -/
import Derived.Test.YtcbkihhpnndpkaaPAx0
import Derived.Test.YtcbkihhpnndpkaaPAx1
import Derived.Test.YtcbkihhpnndpkaaPAx6
import Derived.Test.YtcbkihhpnndpkaaPAx7
import Derived.Test.YtcbkihhpnndpkaaPAx8
namespace Go.Proofs.Ytcbkihhpnndpkaa.PA
open Go.RowKit Go.Proofs.YtcbkihhpnndpkaaW.PrintWords Go.Proofs.YtcbkihhpnndpkaaW.PrintLast Go.Proofs.YtcbkihhpnndpkaaW.PrintMore
attribute [local go_sem] max2_int min2_int max_two min_two max_three min_three max_four min_four   -- for this text's walks alone
set_option linter.unusedVariables false
set_option linter.unusedSimpArgs false

attribute [local go_sem high] eqA97
/-! ### eggboxref19_Word: function 28 -/
mutual
def eggboxref19_Word.j0 : Nat → Int → List (S97) → List ByteArray → Int → Int → Option (ByteArray × Int)
 | 0, _, _, _, _, _ => none
 | k + 1, x0, x1, x2, x3, x10 => if x10 = 0 then (if x3 < 1 then (some ((⟨#[]⟩ : ByteArray), 1)) else (eggboxref19_Word.l0 k x0 x1 x2 x3 0)) else (some ((⟨#[]⟩ : ByteArray), x10))
def eggboxref19_Word.l0 : Nat → Int → List (S97) → List ByteArray → Int → Int → Option (ByteArray × Int)
 | 0, _, _, _, _, _ => none
 | k + 1, x0, x1, x2, x3, x11 => if x11 < 4 then (if 0 ≤ x11 then ((eggboxref19_in.f k x1 (bt (⟨#[120, 121, 122, 116]⟩ : ByteArray) x11)).bind fun t249 => (if t249 = true then (if x11 ≥ (x2.length : Int) then (some ((⟨#[]⟩ : ByteArray), 3)) else (eggboxref19_Word.l0 k x0 x1 x2 x3 (wrap64 (x11 + 1)))) else (eggboxref19_Word.l0 k x0 x1 x2 x3 (wrap64 (x11 + 1))))) else (none)) else (eggboxref19_Word.l1 k x0 x1 x2 x3 0)
def eggboxref19_Word.l1 : Nat → Int → List (S97) → List ByteArray → Int → Int → Option (ByteArray × Int)
 | 0, _, _, _, _, _ => none
 | k + 1, x0, x1, x2, x3, x12 => if x12 < 4 then (if 0 ≤ x12 then ((eggboxref19_in.f k x1 (bt (⟨#[120, 121, 122, 116]⟩ : ByteArray) x12)).bind fun t252 => (if t252 = true then (if x12 < (x2.length : Int) then ((eggboxref01_Check.f k x0 (rdOf ByteArray.empty x2 x12)).bind fun t254 => (if t254 = 0 then (eggboxref19_Word.l1 k x0 x1 x2 x3 (wrap64 (x12 + 1))) else (some ((⟨#[]⟩ : ByteArray), 21)))) else (none)) else (eggboxref19_Word.l1 k x0 x1 x2 x3 (wrap64 (x12 + 1))))) else (none)) else ((eggboxref19_spelt.f k x1 x2 x3).bind fun bt250 => (if bt250.2 = true then (some (bt250.1, 0)) else (some ((⟨#[]⟩ : ByteArray), 6))))
end
def eggboxref19_Word.f (k : Nat) (a0 : Int) (l1 : List (S97)) (l2 : List ByteArray) (a3 : Int) : Option (ByteArray × Int) := (eggboxref01_Letters.f a0).bind fun t247 => (if t247 = 0 then ((eggboxref19_Side.f k l1).bind fun t248 => (eggboxref19_Word.j0 k a0 l1 l2 a3 t248)) else (eggboxref19_Word.j0 k a0 l1 l2 a3 t247))
set_option maxHeartbeats 8000000 in
set_option maxRecDepth 100000 in
theorem eggboxref19_Word.calls (k : Nat) (a0 : Int) (A1 : Option Addr) (c1 : Nat) (l1 : List (S97)) (A2 : Option Addr) (c2 : Nat) (l2 : List ByteArray) (a3 : Int) (r1 : ByteArray) (r2 : Int) (w : World) (hr1 : Kd.C k97 w A1 l1.length l1) (hc1 : l1.length ≤ c1) (hr2 : Kd.C Kd.string w A2 l2.length l2) (hc2 : l2.length ≤ c2) (h : eggboxref19_Word.f k a0 l1 l2 a3 = some (r1, r2)) :
 Calls Try.prog 28 #[.int .i64 a0, .slice A1 l1.length c1, .slice A2 l2.length c2, .int .i64 a3] w fun e w' => e = .returned (.tuple #[.string r1, .int .i64 r2]) ∧ Below w.heap.size w w' := by
 have HR1 := Aside0.mk hr1
 have HC1 := Aside0.mk hc1
 clear hr1 hc1
 have HR2 := Aside0.mk hr2
 have HC2 := Aside0.mk hc2
 clear hr2 hc2
 have HB := Aside0.mk (Below.refl w.heap.size w)
 have H : ((eggboxref01_Letters.f a0).bind fun t247 => (if t247 = 0 then ((eggboxref19_Side.f k l1).bind fun t248 => (eggboxref19_Word.j0 k a0 l1 l2 a3 t248)) else (eggboxref19_Word.j0 k a0 l1 l2 a3 t247))) = some (r1, r2) := h
 clear h
 replace H := Option.bind_eq_some_iff.mp H
 obtain ⟨t247, A50, H⟩ := H
 replace H : (if t247 = 0 then ((eggboxref19_Side.f k l1).bind fun t248 => (eggboxref19_Word.j0 k a0 l1 l2 a3 t248)) else (eggboxref19_Word.j0 k a0 l1 l2 a3 t247)) = some (r1, r2) := H
 have A5 := Aside0.mk A50
 clear A50
 have HC6 := Aside0.mk H
 clear H
 go_enter Try.func28, Try.ntmps28
 go_upto_if 18 with (first | ((with_reducible refine gate_callee (f := 68) rfl ?_); refine goesL_ (some 16) rfl rfl Try.func68 (by kernel_rfl) rfl #[.int .i64 a0] rfl (by (try simp only [List.map_toArray, List.map_cons, List.map_nil]); first | done | rfl | (simp only [List.length_drop, List.length_take]; rfl)) ?_; (with_reducible refine (eggboxref01_Letters.calls a0 t247 _ A5.out).mono ?_); rintro e w' ⟨rfl, ⟨nd, rfl⟩⟩; refine ⟨_, rfl, ?_⟩))
 (try simp only [Act.put, List.setIfInBounds_toArray, List.set_cons_zero, List.set_cons_succ])
 go_cut [10] (fun v10 wc => ∃ (kq : Nat) (x10_5 : Int), v10 = .int .i64 x10_5 ∧ Aside0 (eggboxref19_Word.j0 kq a0 l1 l2 a3 x10_5 = some (r1, r2)) ∧ Aside0 (kq ≤ k) ∧ Aside0 (Below w.heap.size w wc))
 case first =>
  have H := HC6.out
  clear HC6
  by_cases c7 : t247 = 0
  · rw [if_pos c7] at H
    have c7b0 : (t247 == 0) = true := beq_iff_eq.mpr c7
    have c7b1 : (t247 != 0) = false := bne_eq_false_iff_eq.mpr c7
    clear c7
    (first | rw [c7b0] | (simp only [i64_w, i32_w]; rw [c7b0]) | skip)
    replace H := Option.bind_eq_some_iff.mp H
    obtain ⟨t248, A80, H⟩ := H
    replace H : (eggboxref19_Word.j0 k a0 l1 l2 a3 t248) = some (r1, r2) := H
    have A8 := Aside0.mk A80
    clear A80
    have H' := Aside0.mk H
    clear H
    go_wp2_with (first | ((with_reducible refine gate_callee (f := 69) rfl ?_); refine goesL_ (some 20) rfl rfl Try.func69 (by kernel_rfl) rfl #[.slice A1 l1.length c1] rfl (by (try simp only [List.map_toArray, List.map_cons, List.map_nil]); first | done | rfl | (simp only [List.length_drop, List.length_take]; rfl)) ?_; (with_reducible refine (eggboxref19_Side.calls k _ _ l1 t248 _ ?side1 ?side2 A8.out).mono ?_); (case side1 => repeat (first | exact (Kd.C_below HR1.out HB.out) | (with_reducible refine Kd.C_alloc ?_ _) | (with_reducible refine Kd.C_drewN ?_ _) | (with_reducible refine Kd.C_drew ?_))); (case side2 => exact HC1.out); rintro e w9 ⟨rfl, hb⟩; refine ⟨_, rfl, ?_⟩; have n0_ := Aside0.mk (below_step (by repeat (first | (with_reducible first | exact HB.out | apply below_alloc | apply pw_below_drewN | apply below_drew1) | exact HB.out)) hb); clear HB; have HB := n0_; clear n0_; (try clear hb); (try clear hb2); (try clear hk); (try clear hi)))
    go_meet
    case rel => exact ⟨_, (t248), (by first | rfl | (simp; done) | (simp [*]; done)), H', ⟨by first | omega | exact Nat.le_refl _⟩, ⟨by repeat (first | (with_reducible first | exact HB.out | apply below_alloc | apply pw_below_drewN | apply below_drew1) | exact HB.out)⟩⟩
  · rw [if_neg c7] at H
    have c7b0 : (t247 == 0) = false := beq_eq_false_iff_ne.mpr c7
    have c7b1 : (t247 != 0) = true := bne_iff_ne.mpr c7
    (first | rw [c7b0] | (simp only [i64_w, i32_w]; rw [c7b0]) | skip)
    have H' := Aside0.mk H
    clear H
    go_wp2
    go_meet
    case rel => exact ⟨_, (t247), (by first | rfl | (simp; done) | (simp [*]; done)), H', ⟨by first | omega | exact Nat.le_refl _⟩, ⟨by repeat (first | (with_reducible first | exact HB.out | apply below_alloc | apply pw_below_drewN | apply below_drew1) | exact HB.out)⟩⟩
 case rest =>
  clear HC6
  try clear c1
  try clear c2
  try clear p2
  try clear c6
  try clear c7
  try clear c7b0
  try clear c7b1
  obtain ⟨kq, x10_5, rfl, HA, HJ5, HB⟩ := hcut
  cases kq with
  | zero => exact absurd HA.out (by simp [eggboxref19_Word.j0])
  | succ kj5 =>
   have H := HA.out
   clear HA
   simp only [eggboxref19_Word.j0] at H
   by_cases c10 : x10_5 = 0
   · rw [if_pos c10] at H
     have c10b0 : (x10_5 == 0) = true := beq_iff_eq.mpr c10
     have c10b1 : (x10_5 != 0) = false := bne_eq_false_iff_eq.mpr c10
     clear c10
     by_cases c11 : a3 < 1
     · rw [if_pos c11] at H
       have c11b0 : decide (a3 < 1) = true := decide_eq_true c11
       clear c11
       simp only [Option.some.injEq, Prod.mk.injEq] at H
       obtain ⟨rfl, rfl⟩ := H
       go_wp2
       go_ret2
       exact ⟨by first | rfl | (simp [errW_none, errW_some] <;> rfl) | (simp [*, errW_none, errW_some] <;> rfl), by repeat (first | (with_reducible first | exact HB.out | apply below_alloc | apply pw_below_drewN | apply below_drew1) | exact HB.out)⟩
     · rw [if_neg c11] at H
       have c11b0 : decide (a3 < 1) = false := decide_eq_false c11
       clear c11
       have H' := Aside0.mk H
       clear H
       go_wp2
       go_loopg [11] kj5 (fun kq v11 w' => ∃ (x11_2 : Int), v11 = .int .i64 x11_2 ∧ Aside0 (eggboxref19_Word.l0 kq a0 l1 l2 a3 x11_2 = some (r1, r2)) ∧ Aside0 (kq ≤ kj5) ∧ Aside0 (Below w.heap.size w w'))
       case atStart => exact ⟨(0), (by first | rfl | (simp; done) | (simp [*]; done)), H', ⟨Nat.le_refl _⟩, ⟨by repeat (first | (with_reducible first | exact HB.out | apply below_alloc | apply pw_below_drewN | apply below_drew1) | exact HB.out)⟩⟩
       case round =>
        clear H'
        try clear c1
        try clear c2
        try clear p2
        try clear c6
        try clear c7
        try clear c7b0
        try clear c7b1
        try clear c10
        try clear c10b0
        try clear c10b1
        try clear c11
        try clear c11b0
        try clear p2
        obtain ⟨x11_2, rfl, HA, HK2, HB⟩ := hrel
        cases gk with
        | zero => exact absurd HA.out (by simp [eggboxref19_Word.l0])
        | succ k2 =>
         have H := HA.out
         clear HA
         simp only [eggboxref19_Word.l0] at H
         by_cases c12 : x11_2 < 4
         · rw [if_pos c12] at H
           have c12b0 : decide (x11_2 < 4) = true := decide_eq_true c12
           clear c12
           by_cases c13 : 0 ≤ x11_2
           · rw [if_pos c13] at H
             have c13b0 : decide (0 ≤ x11_2) = true := decide_eq_true c13
             clear c13
             replace H := Option.bind_eq_some_iff.mp H
             obtain ⟨t249, A150, H⟩ := H
             replace H : (if t249 = true then (if x11_2 ≥ (l2.length : Int) then (some ((⟨#[]⟩ : ByteArray), 3)) else (eggboxref19_Word.l0 k2 a0 l1 l2 a3 (wrap64 (x11_2 + 1)))) else (eggboxref19_Word.l0 k2 a0 l1 l2 a3 (wrap64 (x11_2 + 1)))) = some (r1, r2) := H
             have A15 := Aside0.mk A150
             clear A150
             by_cases c16 : t249 = true
             · subst c16
               have H1 : (if x11_2 ≥ (l2.length : Int) then (some ((⟨#[]⟩ : ByteArray), 3)) else (eggboxref19_Word.l0 k2 a0 l1 l2 a3 (wrap64 (x11_2 + 1)))) = some (r1, r2) := by rw [if_pos rfl] at H; exact H
               clear H
               have H := H1
               clear H1
               by_cases c17 : x11_2 ≥ (l2.length : Int)
               · rw [if_pos c17] at H
                 have c17b0 : decide ((l2.length : Int) ≤ x11_2) = true := decide_eq_true c17
                 clear c17
                 simp only [Option.some.injEq, Prod.mk.injEq] at H
                 obtain ⟨rfl, rfl⟩ := H
                 have p14 : 0 ≤ (x11_2 : Int) := of_decide_eq_true (by first | (with_reducible assumption) | assumption)
                 have q14 : x11_2 < (4 : Int) := of_decide_eq_true (by first | (with_reducible assumption) | assumption)
                 have hx14 := bt_at (⟨#[120, 121, 122, 116]⟩ : ByteArray) x11_2
                 replace p14 := eq_true p14
                 replace q14 := eq_true q14
                 go_wp2_with (first | ((with_reducible refine gate_callee (f := 51) rfl ?_); refine goesL_ (some 33) rfl rfl Try.func51 (by kernel_rfl) rfl #[.slice A1 l1.length c1, .int .u8 (bt (⟨#[120, 121, 122, 116]⟩ : ByteArray) x11_2)] rfl (by (try simp only [List.map_toArray, List.map_cons, List.map_nil]); first | done | rfl | (simp only [List.length_drop, List.length_take]; rfl)) ?_; (with_reducible refine (eggboxref19_in.calls k2 _ _ l1 (bt (⟨#[120, 121, 122, 116]⟩ : ByteArray) x11_2) true _ ?side1 ?side2 A15.out).mono ?_); (case side1 => repeat (first | exact (Kd.C_below HR1.out HB.out) | (with_reducible refine Kd.C_alloc ?_ _) | (with_reducible refine Kd.C_drewN ?_ _) | (with_reducible refine Kd.C_drew ?_))); (case side2 => exact HC1.out); rintro e w' ⟨rfl, ⟨nd, rfl⟩⟩; refine ⟨_, rfl, ?_⟩))
                 go_ret2
                 exact ⟨by first | rfl | (simp [errW_none, errW_some] <;> rfl) | (simp [*, errW_none, errW_some] <;> rfl), by repeat (first | (with_reducible first | exact HB.out | apply below_alloc | apply pw_below_drewN | apply below_drew1) | exact HB.out)⟩
               · rw [if_neg c17] at H
                 have c17b0 : decide ((l2.length : Int) ≤ x11_2) = false := decide_eq_false c17
                 clear c17
                 have H' := Aside0.mk H
                 clear H
                 have p14 : 0 ≤ (x11_2 : Int) := of_decide_eq_true (by first | (with_reducible assumption) | assumption)
                 have q14 : x11_2 < (4 : Int) := of_decide_eq_true (by first | (with_reducible assumption) | assumption)
                 have hx14 := bt_at (⟨#[120, 121, 122, 116]⟩ : ByteArray) x11_2
                 replace p14 := eq_true p14
                 replace q14 := eq_true q14
                 go_wp2_with (first | ((with_reducible refine gate_callee (f := 51) rfl ?_); refine goesL_ (some 33) rfl rfl Try.func51 (by kernel_rfl) rfl #[.slice A1 l1.length c1, .int .u8 (bt (⟨#[120, 121, 122, 116]⟩ : ByteArray) x11_2)] rfl (by (try simp only [List.map_toArray, List.map_cons, List.map_nil]); first | done | rfl | (simp only [List.length_drop, List.length_take]; rfl)) ?_; (with_reducible refine (eggboxref19_in.calls k2 _ _ l1 (bt (⟨#[120, 121, 122, 116]⟩ : ByteArray) x11_2) true _ ?side1 ?side2 A15.out).mono ?_); (case side1 => repeat (first | exact (Kd.C_below HR1.out HB.out) | (with_reducible refine Kd.C_alloc ?_ _) | (with_reducible refine Kd.C_drewN ?_ _) | (with_reducible refine Kd.C_drew ?_))); (case side2 => exact HC1.out); rintro e w' ⟨rfl, ⟨nd, rfl⟩⟩; refine ⟨_, rfl, ?_⟩))
                 go_roundg k2
                 case measure => have := HJ5.out; have := HK2.out; omega
                 case rel => exact ⟨(wrap64 (x11_2 + 1)), (by first | rfl | (simp; done) | (simp [*]; done)), H', ⟨by have := HJ5.out; have := HK2.out; omega⟩, ⟨by repeat (first | (with_reducible first | exact HB.out | apply below_alloc | apply pw_below_drewN | apply below_drew1) | exact HB.out)⟩⟩
             · replace c16 := Bool.eq_false_iff.mpr c16
               subst c16
               have H1 : (eggboxref19_Word.l0 k2 a0 l1 l2 a3 (wrap64 (x11_2 + 1))) = some (r1, r2) := by rw [if_neg (show ¬ (false = true) by decide)] at H; exact H
               clear H
               have H := H1
               clear H1
               have H' := Aside0.mk H
               clear H
               have p14 : 0 ≤ (x11_2 : Int) := of_decide_eq_true (by first | (with_reducible assumption) | assumption)
               have q14 : x11_2 < (4 : Int) := of_decide_eq_true (by first | (with_reducible assumption) | assumption)
               have hx14 := bt_at (⟨#[120, 121, 122, 116]⟩ : ByteArray) x11_2
               replace p14 := eq_true p14
               replace q14 := eq_true q14
               go_wp2_with (first | ((with_reducible refine gate_callee (f := 51) rfl ?_); refine goesL_ (some 33) rfl rfl Try.func51 (by kernel_rfl) rfl #[.slice A1 l1.length c1, .int .u8 (bt (⟨#[120, 121, 122, 116]⟩ : ByteArray) x11_2)] rfl (by (try simp only [List.map_toArray, List.map_cons, List.map_nil]); first | done | rfl | (simp only [List.length_drop, List.length_take]; rfl)) ?_; (with_reducible refine (eggboxref19_in.calls k2 _ _ l1 (bt (⟨#[120, 121, 122, 116]⟩ : ByteArray) x11_2) false _ ?side1 ?side2 A15.out).mono ?_); (case side1 => repeat (first | exact (Kd.C_below HR1.out HB.out) | (with_reducible refine Kd.C_alloc ?_ _) | (with_reducible refine Kd.C_drewN ?_ _) | (with_reducible refine Kd.C_drew ?_))); (case side2 => exact HC1.out); rintro e w' ⟨rfl, ⟨nd, rfl⟩⟩; refine ⟨_, rfl, ?_⟩))
               go_roundg k2
               case measure => have := HJ5.out; have := HK2.out; omega
               case rel => exact ⟨(wrap64 (x11_2 + 1)), (by first | rfl | (simp; done) | (simp [*]; done)), H', ⟨by have := HJ5.out; have := HK2.out; omega⟩, ⟨by repeat (first | (with_reducible first | exact HB.out | apply below_alloc | apply pw_below_drewN | apply below_drew1) | exact HB.out)⟩⟩
           · rw [if_neg c13] at H
             exact absurd H (by simp)
         · rw [if_neg c12] at H
           have c12b0 : decide (x11_2 < 4) = false := decide_eq_false c12
           clear c12
           have H' := Aside0.mk H
           clear H
           go_wp2
           go_loopg [12] k2 (fun kq v12 w' => ∃ (x12_3 : Int), v12 = .int .i64 x12_3 ∧ Aside0 (eggboxref19_Word.l1 kq a0 l1 l2 a3 x12_3 = some (r1, r2)) ∧ Aside0 (kq ≤ k2) ∧ Aside0 (Below w.heap.size w w'))
           case atStart => exact ⟨(0), (by first | rfl | (simp; done) | (simp [*]; done)), H', ⟨Nat.le_refl _⟩, ⟨by repeat (first | (with_reducible first | exact HB.out | apply below_alloc | apply pw_below_drewN | apply below_drew1) | exact HB.out)⟩⟩
           case round =>
            clear H'
            try clear c1
            try clear p1
            try clear q1
            try clear hx1
            try clear c2
            try clear p2
            try clear c5
            try clear c6
            try clear p6
            try clear c7
            try clear c7b0
            try clear c7b1
            try clear c10
            try clear c10b0
            try clear c10b1
            try clear c11
            try clear c11b0
            try clear c12
            try clear c12b0
            try clear c13
            try clear c13b0
            try clear p14
            try clear q14
            try clear hx14
            try clear c16
            try clear c17
            try clear c17b0
            try clear p14
            try clear p2
            try clear q14
            obtain ⟨x12_3, rfl, HA, HK3, HB⟩ := hrel
            cases gk with
            | zero => exact absurd HA.out (by simp [eggboxref19_Word.l1])
            | succ k3 =>
             have H := HA.out
             clear HA
             simp only [eggboxref19_Word.l1] at H
             by_cases c18 : x12_3 < 4
             · rw [if_pos c18] at H
               have c18b0 : decide (x12_3 < 4) = true := decide_eq_true c18
               clear c18
               by_cases c19 : 0 ≤ x12_3
               · rw [if_pos c19] at H
                 have c19b0 : decide (0 ≤ x12_3) = true := decide_eq_true c19
                 clear c19
                 replace H := Option.bind_eq_some_iff.mp H
                 obtain ⟨t252, A210, H⟩ := H
                 replace H : (if t252 = true then (if x12_3 < (l2.length : Int) then ((eggboxref01_Check.f k3 a0 (rdOf ByteArray.empty l2 x12_3)).bind fun t254 => (if t254 = 0 then (eggboxref19_Word.l1 k3 a0 l1 l2 a3 (wrap64 (x12_3 + 1))) else (some ((⟨#[]⟩ : ByteArray), 21)))) else (none)) else (eggboxref19_Word.l1 k3 a0 l1 l2 a3 (wrap64 (x12_3 + 1)))) = some (r1, r2) := H
                 have A21 := Aside0.mk A210
                 clear A210
                 by_cases c22 : t252 = true
                 · subst c22
                   have H1 : (if x12_3 < (l2.length : Int) then ((eggboxref01_Check.f k3 a0 (rdOf ByteArray.empty l2 x12_3)).bind fun t254 => (if t254 = 0 then (eggboxref19_Word.l1 k3 a0 l1 l2 a3 (wrap64 (x12_3 + 1))) else (some ((⟨#[]⟩ : ByteArray), 21)))) else (none)) = some (r1, r2) := by rw [if_pos rfl] at H; exact H
                   clear H
                   have H := H1
                   clear H1
                   by_cases c23 : x12_3 < (l2.length : Int)
                   · rw [if_pos c23] at H
                     have c23b0 : decide (x12_3 < (l2.length : Int)) = true := decide_eq_true c23
                     clear c23
                     replace H := Option.bind_eq_some_iff.mp H
                     obtain ⟨t254, A240, H⟩ := H
                     replace H : (if t254 = 0 then (eggboxref19_Word.l1 k3 a0 l1 l2 a3 (wrap64 (x12_3 + 1))) else (some ((⟨#[]⟩ : ByteArray), 21))) = some (r1, r2) := H
                     have A24 := Aside0.mk A240
                     clear A240
                     by_cases c25 : t254 = 0
                     · rw [if_pos c25] at H
                       have c25b0 : (t254 == 0) = true := beq_iff_eq.mpr c25
                       have c25b1 : (t254 != 0) = false := bne_eq_false_iff_eq.mpr c25
                       clear c25
                       have H' := Aside0.mk H
                       clear H
                       have p20 : 0 ≤ (x12_3 : Int) := of_decide_eq_true (by first | (with_reducible assumption) | assumption)
                       have q20 : x12_3 < (4 : Int) := of_decide_eq_true (by first | (with_reducible assumption) | assumption)
                       have hx20 := bt_at (⟨#[120, 121, 122, 116]⟩ : ByteArray) x12_3
                       replace p20 := eq_true p20
                       replace q20 := eq_true q20
                       go_wp2_with (first | ((with_reducible refine gate_callee (f := 51) rfl ?_); refine goesL_ (some 47) rfl rfl Try.func51 (by kernel_rfl) rfl #[.slice A1 l1.length c1, .int .u8 (bt (⟨#[120, 121, 122, 116]⟩ : ByteArray) x12_3)] rfl (by (try simp only [List.map_toArray, List.map_cons, List.map_nil]); first | done | rfl | (simp only [List.length_drop, List.length_take]; rfl)) ?_; (with_reducible refine (eggboxref19_in.calls k3 _ _ l1 (bt (⟨#[120, 121, 122, 116]⟩ : ByteArray) x12_3) true _ ?side1 ?side2 A21.out).mono ?_); (case side1 => repeat (first | exact (Kd.C_below HR1.out HB.out) | (with_reducible refine Kd.C_alloc ?_ _) | (with_reducible refine Kd.C_drewN ?_ _) | (with_reducible refine Kd.C_drew ?_))); (case side2 => exact HC1.out); rintro e w' ⟨rfl, ⟨nd, rfl⟩⟩; refine ⟨_, rfl, ?_⟩; have p253 : 0 ≤ (x12_3 : Int) := of_decide_eq_true (by first | (with_reducible assumption) | assumption); have q253 : x12_3 < (l2.length : Int) := of_decide_eq_true (by first | (with_reducible assumption) | assumption); obtain ⟨ad253, e253, hx253_0⟩ := Kd.at_string HR2.out x12_3 p253 q253; cases e253; replace hx253_0 := (HB.out.cell (World.block_lt_of_cell? w _ hx253_0)).trans hx253_0; replace p253 := eq_true p253; replace q253 := eq_true q253) | (go_at_call 70; (with_reducible refine (eggboxref01_Check.calls k3 a0 (rdOf ByteArray.empty l2 x12_3) t254 _ A24.out).mono ?_); rintro e w' ⟨rfl, ⟨nd, rfl⟩⟩))
                       go_roundg k3
                       case measure => have := HJ5.out; have := HK2.out; have := HK3.out; omega
                       case rel => exact ⟨(wrap64 (x12_3 + 1)), (by first | rfl | (simp; done) | (simp [*]; done)), H', ⟨by have := HJ5.out; have := HK2.out; have := HK3.out; omega⟩, ⟨by repeat (first | (with_reducible first | exact HB.out | apply below_alloc | apply pw_below_drewN | apply below_drew1) | exact HB.out)⟩⟩
                     · rw [if_neg c25] at H
                       have c25b0 : (t254 == 0) = false := beq_eq_false_iff_ne.mpr c25
                       have c25b1 : (t254 != 0) = true := bne_iff_ne.mpr c25
                       simp only [Option.some.injEq, Prod.mk.injEq] at H
                       obtain ⟨rfl, rfl⟩ := H
                       have p20 : 0 ≤ (x12_3 : Int) := of_decide_eq_true (by first | (with_reducible assumption) | assumption)
                       have q20 : x12_3 < (4 : Int) := of_decide_eq_true (by first | (with_reducible assumption) | assumption)
                       have hx20 := bt_at (⟨#[120, 121, 122, 116]⟩ : ByteArray) x12_3
                       replace p20 := eq_true p20
                       replace q20 := eq_true q20
                       go_wp2_with (first | ((with_reducible refine gate_callee (f := 51) rfl ?_); refine goesL_ (some 47) rfl rfl Try.func51 (by kernel_rfl) rfl #[.slice A1 l1.length c1, .int .u8 (bt (⟨#[120, 121, 122, 116]⟩ : ByteArray) x12_3)] rfl (by (try simp only [List.map_toArray, List.map_cons, List.map_nil]); first | done | rfl | (simp only [List.length_drop, List.length_take]; rfl)) ?_; (with_reducible refine (eggboxref19_in.calls k3 _ _ l1 (bt (⟨#[120, 121, 122, 116]⟩ : ByteArray) x12_3) true _ ?side1 ?side2 A21.out).mono ?_); (case side1 => repeat (first | exact (Kd.C_below HR1.out HB.out) | (with_reducible refine Kd.C_alloc ?_ _) | (with_reducible refine Kd.C_drewN ?_ _) | (with_reducible refine Kd.C_drew ?_))); (case side2 => exact HC1.out); rintro e w' ⟨rfl, ⟨nd, rfl⟩⟩; refine ⟨_, rfl, ?_⟩; have p253 : 0 ≤ (x12_3 : Int) := of_decide_eq_true (by first | (with_reducible assumption) | assumption); have q253 : x12_3 < (l2.length : Int) := of_decide_eq_true (by first | (with_reducible assumption) | assumption); obtain ⟨ad253, e253, hx253_0⟩ := Kd.at_string HR2.out x12_3 p253 q253; cases e253; replace hx253_0 := (HB.out.cell (World.block_lt_of_cell? w _ hx253_0)).trans hx253_0; replace p253 := eq_true p253; replace q253 := eq_true q253) | (go_at_call 70; (with_reducible refine (eggboxref01_Check.calls k3 a0 (rdOf ByteArray.empty l2 x12_3) t254 _ A24.out).mono ?_); rintro e w' ⟨rfl, ⟨nd, rfl⟩⟩))
                       go_ret2
                       exact ⟨by first | rfl | (simp [errW_none, errW_some] <;> rfl) | (simp [*, errW_none, errW_some] <;> rfl), by repeat (first | (with_reducible first | exact HB.out | apply below_alloc | apply pw_below_drewN | apply below_drew1) | exact HB.out)⟩
                   · rw [if_neg c23] at H
                     exact absurd H (by simp)
                 · replace c22 := Bool.eq_false_iff.mpr c22
                   subst c22
                   have H1 : (eggboxref19_Word.l1 k3 a0 l1 l2 a3 (wrap64 (x12_3 + 1))) = some (r1, r2) := by rw [if_neg (show ¬ (false = true) by decide)] at H; exact H
                   clear H
                   have H := H1
                   clear H1
                   have H' := Aside0.mk H
                   clear H
                   have p20 : 0 ≤ (x12_3 : Int) := of_decide_eq_true (by first | (with_reducible assumption) | assumption)
                   have q20 : x12_3 < (4 : Int) := of_decide_eq_true (by first | (with_reducible assumption) | assumption)
                   have hx20 := bt_at (⟨#[120, 121, 122, 116]⟩ : ByteArray) x12_3
                   replace p20 := eq_true p20
                   replace q20 := eq_true q20
                   go_wp2_with (first | ((with_reducible refine gate_callee (f := 51) rfl ?_); refine goesL_ (some 47) rfl rfl Try.func51 (by kernel_rfl) rfl #[.slice A1 l1.length c1, .int .u8 (bt (⟨#[120, 121, 122, 116]⟩ : ByteArray) x12_3)] rfl (by (try simp only [List.map_toArray, List.map_cons, List.map_nil]); first | done | rfl | (simp only [List.length_drop, List.length_take]; rfl)) ?_; (with_reducible refine (eggboxref19_in.calls k3 _ _ l1 (bt (⟨#[120, 121, 122, 116]⟩ : ByteArray) x12_3) false _ ?side1 ?side2 A21.out).mono ?_); (case side1 => repeat (first | exact (Kd.C_below HR1.out HB.out) | (with_reducible refine Kd.C_alloc ?_ _) | (with_reducible refine Kd.C_drewN ?_ _) | (with_reducible refine Kd.C_drew ?_))); (case side2 => exact HC1.out); rintro e w' ⟨rfl, ⟨nd, rfl⟩⟩; refine ⟨_, rfl, ?_⟩))
                   go_roundg k3
                   case measure => have := HJ5.out; have := HK2.out; have := HK3.out; omega
                   case rel => exact ⟨(wrap64 (x12_3 + 1)), (by first | rfl | (simp; done) | (simp [*]; done)), H', ⟨by have := HJ5.out; have := HK2.out; have := HK3.out; omega⟩, ⟨by repeat (first | (with_reducible first | exact HB.out | apply below_alloc | apply pw_below_drewN | apply below_drew1) | exact HB.out)⟩⟩
               · rw [if_neg c19] at H
                 exact absurd H (by simp)
             · rw [if_neg c18] at H
               have c18b0 : decide (x12_3 < 4) = false := decide_eq_false c18
               clear c18
               replace H := Option.bind_eq_some_iff.mp H
               obtain ⟨⟨t250, t251⟩, A260, H⟩ := H
               replace H : (if t251 = true then (some (t250, 0)) else (some ((⟨#[]⟩ : ByteArray), 6))) = some (r1, r2) := H
               have A26 := Aside0.mk A260
               clear A260
               by_cases c27 : t251 = true
               · subst c27
                 have H1 : (some (t250, 0)) = some (r1, r2) := by rw [if_pos rfl] at H; exact H
                 clear H
                 have H := H1
                 clear H1
                 simp only [Option.some.injEq, Prod.mk.injEq] at H
                 obtain ⟨rfl, rfl⟩ := H
                 go_wp2_with (first | ((with_reducible refine gate_callee (f := 71) rfl ?_); refine goesL_ (some 61) rfl rfl Try.func71 (by kernel_rfl) rfl #[.slice A1 l1.length c1, .slice A2 l2.length c2, .int .i64 a3] rfl (by (try simp only [List.map_toArray, List.map_cons, List.map_nil]); first | done | rfl | (simp only [List.length_drop, List.length_take]; rfl)) ?_; (with_reducible refine (eggboxref19_spelt.calls k3 _ _ l1 _ _ l2 a3 t250 true _ ?side1 ?side2 ?side3 ?side4 A26.out).mono ?_); (case side1 => repeat (first | exact (Kd.C_below HR1.out HB.out) | (with_reducible refine Kd.C_alloc ?_ _) | (with_reducible refine Kd.C_drewN ?_ _) | (with_reducible refine Kd.C_drew ?_))); (case side2 => exact HC1.out); (case side3 => repeat (first | exact (Kd.C_below HR2.out HB.out) | (with_reducible refine Kd.C_alloc ?_ _) | (with_reducible refine Kd.C_drewN ?_ _) | (with_reducible refine Kd.C_drew ?_))); (case side4 => exact HC2.out); rintro e w28 ⟨rfl, hb⟩; refine ⟨_, rfl, ?_⟩; have n0_ := Aside0.mk (below_step (by repeat (first | (with_reducible first | exact HB.out | apply below_alloc | apply pw_below_drewN | apply below_drew1) | exact HB.out)) hb); clear HB; have HB := n0_; clear n0_; (try clear hb); (try clear hb2); (try clear hk); (try clear hi)))
                 go_ret2
                 exact ⟨by first | rfl | (simp [errW_none, errW_some] <;> rfl) | (simp [*, errW_none, errW_some] <;> rfl), by repeat (first | (with_reducible first | exact HB.out | apply below_alloc | apply pw_below_drewN | apply below_drew1) | exact HB.out)⟩
               · replace c27 := Bool.eq_false_iff.mpr c27
                 subst c27
                 have H1 : (some ((⟨#[]⟩ : ByteArray), 6)) = some (r1, r2) := by rw [if_neg (show ¬ (false = true) by decide)] at H; exact H
                 clear H
                 have H := H1
                 clear H1
                 simp only [Option.some.injEq, Prod.mk.injEq] at H
                 obtain ⟨rfl, rfl⟩ := H
                 go_wp2_with (first | ((with_reducible refine gate_callee (f := 71) rfl ?_); refine goesL_ (some 61) rfl rfl Try.func71 (by kernel_rfl) rfl #[.slice A1 l1.length c1, .slice A2 l2.length c2, .int .i64 a3] rfl (by (try simp only [List.map_toArray, List.map_cons, List.map_nil]); first | done | rfl | (simp only [List.length_drop, List.length_take]; rfl)) ?_; (with_reducible refine (eggboxref19_spelt.calls k3 _ _ l1 _ _ l2 a3 t250 false _ ?side1 ?side2 ?side3 ?side4 A26.out).mono ?_); (case side1 => repeat (first | exact (Kd.C_below HR1.out HB.out) | (with_reducible refine Kd.C_alloc ?_ _) | (with_reducible refine Kd.C_drewN ?_ _) | (with_reducible refine Kd.C_drew ?_))); (case side2 => exact HC1.out); (case side3 => repeat (first | exact (Kd.C_below HR2.out HB.out) | (with_reducible refine Kd.C_alloc ?_ _) | (with_reducible refine Kd.C_drewN ?_ _) | (with_reducible refine Kd.C_drew ?_))); (case side4 => exact HC2.out); rintro e w29 ⟨rfl, hb⟩; refine ⟨_, rfl, ?_⟩; have n0_ := Aside0.mk (below_step (by repeat (first | (with_reducible first | exact HB.out | apply below_alloc | apply pw_below_drewN | apply below_drew1) | exact HB.out)) hb); clear HB; have HB := n0_; clear n0_; (try clear hb); (try clear hb2); (try clear hk); (try clear hi)))
                 go_ret2
                 exact ⟨by first | rfl | (simp [errW_none, errW_some] <;> rfl) | (simp [*, errW_none, errW_some] <;> rfl), by repeat (first | (with_reducible first | exact HB.out | apply below_alloc | apply pw_below_drewN | apply below_drew1) | exact HB.out)⟩
   · rw [if_neg c10] at H
     have c10b0 : (x10_5 == 0) = false := beq_eq_false_iff_ne.mpr c10
     have c10b1 : (x10_5 != 0) = true := bne_iff_ne.mpr c10
     simp only [Option.some.injEq, Prod.mk.injEq] at H
     obtain ⟨rfl, rfl⟩ := H
     go_wp2
     go_ret2
     exact ⟨by first | rfl | (simp [errW_none, errW_some] <;> rfl) | (simp [*, errW_none, errW_some] <;> rfl), by repeat (first | (with_reducible first | exact HB.out | apply below_alloc | apply pw_below_drewN | apply below_drew1) | exact HB.out)⟩

/-! ### eggboxlaw19_sides: function 29 -/
/-! ### eggboxlaw19_Same: function 13 -/
end Go.Proofs.Ytcbkihhpnndpkaa.PA
