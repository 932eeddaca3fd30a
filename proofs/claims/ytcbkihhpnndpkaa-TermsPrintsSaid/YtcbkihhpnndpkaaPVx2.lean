/- Contracts of Go functions, each with the walk through its code, written by a program of this session. -/
import Derived.Test.YtcbkihhpnndpkaaProg
import Derived.Below
import Derived.Deep.Draws
import Derived.Deep.AppendLies
import Derived.Maps.AppendAt
import Derived.OwnWalk
import Derived.Laws.BytesArg
import Derived.Laws.MakeOwn
import Derived.Laws.OwnMore
import Derived.Deep.OwnRows
import Derived.Tactics
import Derived.Lib.ConvBytes
import Derived.Laws.Slices
import Derived.WalkKit
import Derived.KernelRfl
import Derived.RowKit3
import Derived.Deep.LoopGhost
import Derived.Deep.QuietTactic
import Derived.BigQuiet
import Derived.WideLaws
import Derived.Deep.DeepCutAuto
import Derived.Deep.CutBlock
import Derived.Deep.RegionHeld3
import Derived.Laws.Rows
import Derived.Lib.AppendStr
import Derived.ArgAppend
import Derived.Laws.IdiomCopy
import Derived.OrdersHeld
import Derived.Laws.BitsLemmas
import Derived.RowKit
import Derived.Test.YtcbkihhpnndpkaaPAx1
import Derived.Test.YtcbkihhpnndpkaaPAx3
import Derived.Test.YtcbkihhpnndpkaaPAx6
import Derived.Test.YtcbkihhpnndpkaaPAx7
import Derived.Test.YtcbkihhpnndpkaaPAx10
import Derived.Test.YtcbkihhpnndpkaaPAx12
import Derived.Test.YtcbkihhpnndpkaaQ5
import Derived.Test.YtcbkihhpnndpkaaQ4
import Derived.Test.YtcbkihhpnndpkaaPUx1
import Derived.Test.YtcbkihhpnndpkaaPLx1
import Derived.Test.YtcbkihhpnndpkaaWWords
import Derived.Test.YtcbkihhpnndpkaaWLast
import Derived.Test.YtcbkihhpnndpkaaWTab
import Derived.Test.YtcbkihhpnndpkaaWApart
import Derived.Test.YtcbkihhpnndpkaaWFoot
import Derived.Test.YtcbkihhpnndpkaaWKept
import Derived.Test.YtcbkihhpnndpkaaWShare
import Derived.Test.YtcbkihhpnndpkaaWN
import Derived.Test.YtcbkihhpnndpkaaWEqStruct
import Derived.Test.YtcbkihhpnndpkaaWRepsOne
import Derived.Test.YtcbkihhpnndpkaaWGuard
import Derived.Test.YtcbkihhpnndpkaaWNEv
import Derived.Test.YtcbkihhpnndpkaaWMore
namespace Go.Proofs.Ytcbkihhpnndpkaa.PV
open Go.RowKit Go.Proofs.YtcbkihhpnndpkaaW.PrintWords Go.Proofs.YtcbkihhpnndpkaaW.PrintLast Go.Proofs.YtcbkihhpnndpkaaW.PrintMore
attribute [local go_sem] max2_int min2_int max_two min_two max_three min_three max_four min_four   -- for this text's walks alone
open PA PZ PG PU PL
set_option linter.unusedVariables false
set_option linter.unusedSimpArgs false

/-! ### eggboxlaw19_TermsPrints: function 5 -/
def eggboxlaw19_TermsPrints.j0 : Nat → Bool → List (S97) → List (S97) → Bool → List (S97) → List (S97) → Bool → List (S97) → List (S97) → Bool → Option (Bool)
 | 0, _, _, _, _, _, _, _, _, _, _ => none
 | k + 1, x91, x113000, x113001, x113002, x126000, x126001, x126002, x139000, x139001, x139002 => if x91 = true then (some false) else ((eggboxlaw19_spoil.f k x113000 x113001 x113002).bind fun bt147 => ((eggboxlaw19_Same.f k x126000 x126001 x126002 x139000 x139001 x139002).bind fun t149 => (some t149)))
def eggboxlaw19_TermsPrints.f (k : Nat) (l0_0 : List (S97)) (l0_1 : List (S97)) (a0_2 : Bool) : Option (Bool) := (eggboxlaw19_lent.f l0_0 l0_1 a0_2).bind fun bt105 => ((terms_Print.f k bt105.1 bt105.2.1 bt105.2.2).bind fun bt113 => ((terms_Vars.f k bt105.1 bt105.2.1 bt105.2.2).bind fun bt115 => ((terms_Turn.f k bt105.1 bt105.2.1 bt105.2.2).bind fun bt117 => ((eggboxref19_Print.f k l0_0 l0_1 a0_2).bind fun bt126 => ((eggboxref19_Vars.f k l0_0 l0_1 a0_2).bind fun bt128 => ((eggboxref19_Turn.f k l0_0 l0_1 a0_2).bind fun bt130 => ((terms_Check.f k bt105.1 bt105.2.1 bt105.2.2).bind fun t139 => ((eggboxlaw19_num.f t139).bind fun t140 => ((eggboxref19_Check.f k l0_0 l0_1 a0_2).bind fun t141 => (if t140 = t141 then (if bt113.1.toList = bt126.1.toList then ((eggboxlaw19_num.f bt113.2).bind fun t142 => (if t142 = bt126.2 then (if bt115.1.toList = bt128.1.toList then ((eggboxlaw19_num.f bt115.2).bind fun t143 => (if t143 = bt128.2 then ((eggboxlaw19_num.f bt117.2.2.2).bind fun t144 => (if t144 = bt130.2.2.2 then ((eggboxlaw19_Same.f k bt105.1 bt105.2.1 bt105.2.2 l0_0 l0_1 a0_2).bind fun t145 => (if t145 = true then ((eggboxlaw19_knows.f k).bind fun t146 => (eggboxlaw19_TermsPrints.j0 k (!t146) bt105.1 bt105.2.1 bt105.2.2 bt117.1 bt117.2.1 bt117.2.2.1 bt130.1 bt130.2.1 bt130.2.2.1)) else (eggboxlaw19_TermsPrints.j0 k true bt105.1 bt105.2.1 bt105.2.2 bt117.1 bt117.2.1 bt117.2.2.1 bt130.1 bt130.2.1 bt130.2.2.1))) else (eggboxlaw19_TermsPrints.j0 k true bt105.1 bt105.2.1 bt105.2.2 bt117.1 bt117.2.1 bt117.2.2.1 bt130.1 bt130.2.1 bt130.2.2.1))) else (eggboxlaw19_TermsPrints.j0 k true bt105.1 bt105.2.1 bt105.2.2 bt117.1 bt117.2.1 bt117.2.2.1 bt130.1 bt130.2.1 bt130.2.2.1))) else (eggboxlaw19_TermsPrints.j0 k true bt105.1 bt105.2.1 bt105.2.2 bt117.1 bt117.2.1 bt117.2.2.1 bt130.1 bt130.2.1 bt130.2.2.1)) else (eggboxlaw19_TermsPrints.j0 k true bt105.1 bt105.2.1 bt105.2.2 bt117.1 bt117.2.1 bt117.2.2.1 bt130.1 bt130.2.1 bt130.2.2.1))) else (eggboxlaw19_TermsPrints.j0 k true bt105.1 bt105.2.1 bt105.2.2 bt117.1 bt117.2.1 bt117.2.2.1 bt130.1 bt130.2.1 bt130.2.2.1)) else (eggboxlaw19_TermsPrints.j0 k true bt105.1 bt105.2.1 bt105.2.2 bt117.1 bt117.2.1 bt117.2.2.1 bt130.1 bt130.2.1 bt130.2.2.1)))))))))))
def eggboxlaw19_TermsPrints.T8 : Bool × List (List Nat × List Nat) := (true, [([], []), ([0], [0]), ([1, 1], [1]), ([], []), ([3, 2], [3]), ([2, 4], [2, 4]), ([5, 4], [5]), ([6], [6]), ([6], [6]), ([7, 8, 6], [6, 7, 8]), ([6, 9], [6, 9]), ([10, 6], [10]), ([11], [11]), ([12, 11, 11], [11, 12]), ([11], [11]), ([13, 14, 11], [11, 13, 14]), ([11, 15], [11, 15]), ([16, 13], [16]), ([17], [17]), ([17], [17]), ([18, 19, 17], [17, 18, 19]), ([17, 20], [17, 20]), ([21, 17], [21]), ([22], [22]), ([23, 22, 22], [22, 23]), ([22], [22]), ([24, 25, 22], [22, 24, 25]), ([22, 26], [22, 26]), ([27, 24], [27]), ([28], [28]), ([29, 28, 28], [28, 29]), ([28], [28]), ([30, 31, 28], [28, 30, 31]), ([28, 32], [28, 32]), ([33, 30], [33]), ([34], [34]), ([34], [34]), ([35, 36, 34, 34], [34, 35, 36]), ([37, 34], [34, 37]), ([34, 38], [34, 38]), ([39, 37], [39]), ([40, 40], [40]), ([41, 40], [40, 41]), ([40, 42], [40, 42])])
def eggboxlaw19_TermsPrints.B8 : List Nat := [0, 1, 3, 0, 15, 31, 63, 127, 127, 511, 1023, 2047, 4095, 8191, 4095, 32767, 65535, 131071, 262143, 262143, 1048575, 2097151, 4194303, 8388607, 16777215, 8388607, 67108863, 134217727, 268435455, 536870911, 1073741823, 536870911, 4294967295, 8589934591, 17179869183, 34359738367, 34359738367, 137438953471, 274877906943, 549755813887, 1099511627775, 2199023255551, 4398046511103, 8796093022207]
theorem eggboxlaw19_TermsPrints.tab8 : rtab .any (opsOf Try.f5 8) = eggboxlaw19_TermsPrints.T8 := by kernel_rfl
theorem eggboxlaw19_TermsPrints.bits8 : waitsOk eggboxlaw19_TermsPrints.T8.2 eggboxlaw19_TermsPrints.B8 = true := by kernel_rfl
theorem eggboxlaw19_TermsPrints.bad {r : Bool} {k : Nat} {y0 : List (S97)} {y1 : List (S97)} {y2 : Bool} {y3 : List (S97)} {y4 : List (S97)} {y5 : Bool} {y6 : List (S97)} {y7 : List (S97)} {y8 : Bool} (h : eggboxlaw19_TermsPrints.j0 k true y0 y1 y2 y3 y4 y5 y6 y7 y8 = some r) : r = false := by
 cases k with
 | zero => exact absurd h (by simp [eggboxlaw19_TermsPrints.j0])
 | succ k => simpa [eggboxlaw19_TermsPrints.j0] using h.symm
set_option maxHeartbeats 8000000 in
set_option maxRecDepth 100000 in
theorem eggboxlaw19_TermsPrints.calls (k : Nat) (A0_0 : Option Addr) (c0_0 : Nat) (l0_0 : List (S97)) (A0_1 : Option Addr) (c0_1 : Nat) (l0_1 : List (S97)) (a0_2 : Bool) (r : Bool) (w : World) (hr0_0 : Kd.C k97 w A0_0 l0_0.length l0_0) (hc0_0 : l0_0.length ≤ c0_0) (hr0_1 : Kd.C k97 w A0_1 l0_1.length l0_1) (hc0_1 : l0_1.length ≤ c0_1) (h : eggboxlaw19_TermsPrints.f k l0_0 l0_1 a0_2 = some r) (hr_ : r = true) :
 Calls Try.prog 5 #[.agg #[.slice A0_0 l0_0.length c0_0, .slice A0_1 l0_1.length c0_1, .bool a0_2]] w fun e w' => e = .returned (.bool r) ∧ Below w.heap.size w w' := by
 have HRT := Aside0.mk hr_
 clear hr_
 have hu24 := Try.underlying24
 have HR0_0 := Aside0.mk hr0_0
 have HC0_0 := Aside0.mk hc0_0
 clear hr0_0 hc0_0
 have HR0_1 := Aside0.mk hr0_1
 have HC0_1 := Aside0.mk hc0_1
 clear hr0_1 hc0_1
 have HB := Aside0.mk (Below.refl w.heap.size w)
 have H : ((eggboxlaw19_lent.f l0_0 l0_1 a0_2).bind fun bt105 => ((terms_Print.f k bt105.1 bt105.2.1 bt105.2.2).bind fun bt113 => ((terms_Vars.f k bt105.1 bt105.2.1 bt105.2.2).bind fun bt115 => ((terms_Turn.f k bt105.1 bt105.2.1 bt105.2.2).bind fun bt117 => ((eggboxref19_Print.f k l0_0 l0_1 a0_2).bind fun bt126 => ((eggboxref19_Vars.f k l0_0 l0_1 a0_2).bind fun bt128 => ((eggboxref19_Turn.f k l0_0 l0_1 a0_2).bind fun bt130 => ((terms_Check.f k bt105.1 bt105.2.1 bt105.2.2).bind fun t139 => ((eggboxlaw19_num.f t139).bind fun t140 => ((eggboxref19_Check.f k l0_0 l0_1 a0_2).bind fun t141 => (if t140 = t141 then (if bt113.1.toList = bt126.1.toList then ((eggboxlaw19_num.f bt113.2).bind fun t142 => (if t142 = bt126.2 then (if bt115.1.toList = bt128.1.toList then ((eggboxlaw19_num.f bt115.2).bind fun t143 => (if t143 = bt128.2 then ((eggboxlaw19_num.f bt117.2.2.2).bind fun t144 => (if t144 = bt130.2.2.2 then ((eggboxlaw19_Same.f k bt105.1 bt105.2.1 bt105.2.2 l0_0 l0_1 a0_2).bind fun t145 => (if t145 = true then ((eggboxlaw19_knows.f k).bind fun t146 => (eggboxlaw19_TermsPrints.j0 k (!t146) bt105.1 bt105.2.1 bt105.2.2 bt117.1 bt117.2.1 bt117.2.2.1 bt130.1 bt130.2.1 bt130.2.2.1)) else (eggboxlaw19_TermsPrints.j0 k true bt105.1 bt105.2.1 bt105.2.2 bt117.1 bt117.2.1 bt117.2.2.1 bt130.1 bt130.2.1 bt130.2.2.1))) else (eggboxlaw19_TermsPrints.j0 k true bt105.1 bt105.2.1 bt105.2.2 bt117.1 bt117.2.1 bt117.2.2.1 bt130.1 bt130.2.1 bt130.2.2.1))) else (eggboxlaw19_TermsPrints.j0 k true bt105.1 bt105.2.1 bt105.2.2 bt117.1 bt117.2.1 bt117.2.2.1 bt130.1 bt130.2.1 bt130.2.2.1))) else (eggboxlaw19_TermsPrints.j0 k true bt105.1 bt105.2.1 bt105.2.2 bt117.1 bt117.2.1 bt117.2.2.1 bt130.1 bt130.2.1 bt130.2.2.1)) else (eggboxlaw19_TermsPrints.j0 k true bt105.1 bt105.2.1 bt105.2.2 bt117.1 bt117.2.1 bt117.2.2.1 bt130.1 bt130.2.1 bt130.2.2.1))) else (eggboxlaw19_TermsPrints.j0 k true bt105.1 bt105.2.1 bt105.2.2 bt117.1 bt117.2.1 bt117.2.2.1 bt130.1 bt130.2.1 bt130.2.2.1)) else (eggboxlaw19_TermsPrints.j0 k true bt105.1 bt105.2.1 bt105.2.2 bt117.1 bt117.2.1 bt117.2.2.1 bt130.1 bt130.2.1 bt130.2.2.1)))))))))))) = some r := h
 clear h
 replace H := Option.bind_eq_some_iff.mp H
 obtain ⟨⟨t105, t108, t111⟩, A20, H⟩ := H
 replace H : ((terms_Print.f k t105 t108 t111).bind fun bt113 => ((terms_Vars.f k t105 t108 t111).bind fun bt115 => ((terms_Turn.f k t105 t108 t111).bind fun bt117 => ((eggboxref19_Print.f k l0_0 l0_1 a0_2).bind fun bt126 => ((eggboxref19_Vars.f k l0_0 l0_1 a0_2).bind fun bt128 => ((eggboxref19_Turn.f k l0_0 l0_1 a0_2).bind fun bt130 => ((terms_Check.f k t105 t108 t111).bind fun t139 => ((eggboxlaw19_num.f t139).bind fun t140 => ((eggboxref19_Check.f k l0_0 l0_1 a0_2).bind fun t141 => (if t140 = t141 then (if bt113.1.toList = bt126.1.toList then ((eggboxlaw19_num.f bt113.2).bind fun t142 => (if t142 = bt126.2 then (if bt115.1.toList = bt128.1.toList then ((eggboxlaw19_num.f bt115.2).bind fun t143 => (if t143 = bt128.2 then ((eggboxlaw19_num.f bt117.2.2.2).bind fun t144 => (if t144 = bt130.2.2.2 then ((eggboxlaw19_Same.f k t105 t108 t111 l0_0 l0_1 a0_2).bind fun t145 => (if t145 = true then ((eggboxlaw19_knows.f k).bind fun t146 => (eggboxlaw19_TermsPrints.j0 k (!t146) t105 t108 t111 bt117.1 bt117.2.1 bt117.2.2.1 bt130.1 bt130.2.1 bt130.2.2.1)) else (eggboxlaw19_TermsPrints.j0 k true t105 t108 t111 bt117.1 bt117.2.1 bt117.2.2.1 bt130.1 bt130.2.1 bt130.2.2.1))) else (eggboxlaw19_TermsPrints.j0 k true t105 t108 t111 bt117.1 bt117.2.1 bt117.2.2.1 bt130.1 bt130.2.1 bt130.2.2.1))) else (eggboxlaw19_TermsPrints.j0 k true t105 t108 t111 bt117.1 bt117.2.1 bt117.2.2.1 bt130.1 bt130.2.1 bt130.2.2.1))) else (eggboxlaw19_TermsPrints.j0 k true t105 t108 t111 bt117.1 bt117.2.1 bt117.2.2.1 bt130.1 bt130.2.1 bt130.2.2.1)) else (eggboxlaw19_TermsPrints.j0 k true t105 t108 t111 bt117.1 bt117.2.1 bt117.2.2.1 bt130.1 bt130.2.1 bt130.2.2.1))) else (eggboxlaw19_TermsPrints.j0 k true t105 t108 t111 bt117.1 bt117.2.1 bt117.2.2.1 bt130.1 bt130.2.1 bt130.2.2.1)) else (eggboxlaw19_TermsPrints.j0 k true t105 t108 t111 bt117.1 bt117.2.1 bt117.2.2.1 bt130.1 bt130.2.1 bt130.2.2.1))))))))))) = some r := H
 have A2 := Aside0.mk A20
 clear A20
 replace H := Option.bind_eq_some_iff.mp H
 obtain ⟨⟨t113, t114⟩, A30, H⟩ := H
 replace H : ((terms_Vars.f k t105 t108 t111).bind fun bt115 => ((terms_Turn.f k t105 t108 t111).bind fun bt117 => ((eggboxref19_Print.f k l0_0 l0_1 a0_2).bind fun bt126 => ((eggboxref19_Vars.f k l0_0 l0_1 a0_2).bind fun bt128 => ((eggboxref19_Turn.f k l0_0 l0_1 a0_2).bind fun bt130 => ((terms_Check.f k t105 t108 t111).bind fun t139 => ((eggboxlaw19_num.f t139).bind fun t140 => ((eggboxref19_Check.f k l0_0 l0_1 a0_2).bind fun t141 => (if t140 = t141 then (if t113.toList = bt126.1.toList then ((eggboxlaw19_num.f t114).bind fun t142 => (if t142 = bt126.2 then (if bt115.1.toList = bt128.1.toList then ((eggboxlaw19_num.f bt115.2).bind fun t143 => (if t143 = bt128.2 then ((eggboxlaw19_num.f bt117.2.2.2).bind fun t144 => (if t144 = bt130.2.2.2 then ((eggboxlaw19_Same.f k t105 t108 t111 l0_0 l0_1 a0_2).bind fun t145 => (if t145 = true then ((eggboxlaw19_knows.f k).bind fun t146 => (eggboxlaw19_TermsPrints.j0 k (!t146) t105 t108 t111 bt117.1 bt117.2.1 bt117.2.2.1 bt130.1 bt130.2.1 bt130.2.2.1)) else (eggboxlaw19_TermsPrints.j0 k true t105 t108 t111 bt117.1 bt117.2.1 bt117.2.2.1 bt130.1 bt130.2.1 bt130.2.2.1))) else (eggboxlaw19_TermsPrints.j0 k true t105 t108 t111 bt117.1 bt117.2.1 bt117.2.2.1 bt130.1 bt130.2.1 bt130.2.2.1))) else (eggboxlaw19_TermsPrints.j0 k true t105 t108 t111 bt117.1 bt117.2.1 bt117.2.2.1 bt130.1 bt130.2.1 bt130.2.2.1))) else (eggboxlaw19_TermsPrints.j0 k true t105 t108 t111 bt117.1 bt117.2.1 bt117.2.2.1 bt130.1 bt130.2.1 bt130.2.2.1)) else (eggboxlaw19_TermsPrints.j0 k true t105 t108 t111 bt117.1 bt117.2.1 bt117.2.2.1 bt130.1 bt130.2.1 bt130.2.2.1))) else (eggboxlaw19_TermsPrints.j0 k true t105 t108 t111 bt117.1 bt117.2.1 bt117.2.2.1 bt130.1 bt130.2.1 bt130.2.2.1)) else (eggboxlaw19_TermsPrints.j0 k true t105 t108 t111 bt117.1 bt117.2.1 bt117.2.2.1 bt130.1 bt130.2.1 bt130.2.2.1)))))))))) = some r := H
 have A3 := Aside0.mk A30
 clear A30
 replace H := Option.bind_eq_some_iff.mp H
 obtain ⟨⟨t115, t116⟩, A40, H⟩ := H
 replace H : ((terms_Turn.f k t105 t108 t111).bind fun bt117 => ((eggboxref19_Print.f k l0_0 l0_1 a0_2).bind fun bt126 => ((eggboxref19_Vars.f k l0_0 l0_1 a0_2).bind fun bt128 => ((eggboxref19_Turn.f k l0_0 l0_1 a0_2).bind fun bt130 => ((terms_Check.f k t105 t108 t111).bind fun t139 => ((eggboxlaw19_num.f t139).bind fun t140 => ((eggboxref19_Check.f k l0_0 l0_1 a0_2).bind fun t141 => (if t140 = t141 then (if t113.toList = bt126.1.toList then ((eggboxlaw19_num.f t114).bind fun t142 => (if t142 = bt126.2 then (if t115.toList = bt128.1.toList then ((eggboxlaw19_num.f t116).bind fun t143 => (if t143 = bt128.2 then ((eggboxlaw19_num.f bt117.2.2.2).bind fun t144 => (if t144 = bt130.2.2.2 then ((eggboxlaw19_Same.f k t105 t108 t111 l0_0 l0_1 a0_2).bind fun t145 => (if t145 = true then ((eggboxlaw19_knows.f k).bind fun t146 => (eggboxlaw19_TermsPrints.j0 k (!t146) t105 t108 t111 bt117.1 bt117.2.1 bt117.2.2.1 bt130.1 bt130.2.1 bt130.2.2.1)) else (eggboxlaw19_TermsPrints.j0 k true t105 t108 t111 bt117.1 bt117.2.1 bt117.2.2.1 bt130.1 bt130.2.1 bt130.2.2.1))) else (eggboxlaw19_TermsPrints.j0 k true t105 t108 t111 bt117.1 bt117.2.1 bt117.2.2.1 bt130.1 bt130.2.1 bt130.2.2.1))) else (eggboxlaw19_TermsPrints.j0 k true t105 t108 t111 bt117.1 bt117.2.1 bt117.2.2.1 bt130.1 bt130.2.1 bt130.2.2.1))) else (eggboxlaw19_TermsPrints.j0 k true t105 t108 t111 bt117.1 bt117.2.1 bt117.2.2.1 bt130.1 bt130.2.1 bt130.2.2.1)) else (eggboxlaw19_TermsPrints.j0 k true t105 t108 t111 bt117.1 bt117.2.1 bt117.2.2.1 bt130.1 bt130.2.1 bt130.2.2.1))) else (eggboxlaw19_TermsPrints.j0 k true t105 t108 t111 bt117.1 bt117.2.1 bt117.2.2.1 bt130.1 bt130.2.1 bt130.2.2.1)) else (eggboxlaw19_TermsPrints.j0 k true t105 t108 t111 bt117.1 bt117.2.1 bt117.2.2.1 bt130.1 bt130.2.1 bt130.2.2.1))))))))) = some r := H
 have A4 := Aside0.mk A40
 clear A40
 replace H := Option.bind_eq_some_iff.mp H
 obtain ⟨⟨t117, t120, t123, t124⟩, A50, H⟩ := H
 replace H : ((eggboxref19_Print.f k l0_0 l0_1 a0_2).bind fun bt126 => ((eggboxref19_Vars.f k l0_0 l0_1 a0_2).bind fun bt128 => ((eggboxref19_Turn.f k l0_0 l0_1 a0_2).bind fun bt130 => ((terms_Check.f k t105 t108 t111).bind fun t139 => ((eggboxlaw19_num.f t139).bind fun t140 => ((eggboxref19_Check.f k l0_0 l0_1 a0_2).bind fun t141 => (if t140 = t141 then (if t113.toList = bt126.1.toList then ((eggboxlaw19_num.f t114).bind fun t142 => (if t142 = bt126.2 then (if t115.toList = bt128.1.toList then ((eggboxlaw19_num.f t116).bind fun t143 => (if t143 = bt128.2 then ((eggboxlaw19_num.f t124).bind fun t144 => (if t144 = bt130.2.2.2 then ((eggboxlaw19_Same.f k t105 t108 t111 l0_0 l0_1 a0_2).bind fun t145 => (if t145 = true then ((eggboxlaw19_knows.f k).bind fun t146 => (eggboxlaw19_TermsPrints.j0 k (!t146) t105 t108 t111 t117 t120 t123 bt130.1 bt130.2.1 bt130.2.2.1)) else (eggboxlaw19_TermsPrints.j0 k true t105 t108 t111 t117 t120 t123 bt130.1 bt130.2.1 bt130.2.2.1))) else (eggboxlaw19_TermsPrints.j0 k true t105 t108 t111 t117 t120 t123 bt130.1 bt130.2.1 bt130.2.2.1))) else (eggboxlaw19_TermsPrints.j0 k true t105 t108 t111 t117 t120 t123 bt130.1 bt130.2.1 bt130.2.2.1))) else (eggboxlaw19_TermsPrints.j0 k true t105 t108 t111 t117 t120 t123 bt130.1 bt130.2.1 bt130.2.2.1)) else (eggboxlaw19_TermsPrints.j0 k true t105 t108 t111 t117 t120 t123 bt130.1 bt130.2.1 bt130.2.2.1))) else (eggboxlaw19_TermsPrints.j0 k true t105 t108 t111 t117 t120 t123 bt130.1 bt130.2.1 bt130.2.2.1)) else (eggboxlaw19_TermsPrints.j0 k true t105 t108 t111 t117 t120 t123 bt130.1 bt130.2.1 bt130.2.2.1)))))))) = some r := H
 have A5 := Aside0.mk A50
 clear A50
 replace H := Option.bind_eq_some_iff.mp H
 obtain ⟨⟨t126, t127⟩, A60, H⟩ := H
 replace H : ((eggboxref19_Vars.f k l0_0 l0_1 a0_2).bind fun bt128 => ((eggboxref19_Turn.f k l0_0 l0_1 a0_2).bind fun bt130 => ((terms_Check.f k t105 t108 t111).bind fun t139 => ((eggboxlaw19_num.f t139).bind fun t140 => ((eggboxref19_Check.f k l0_0 l0_1 a0_2).bind fun t141 => (if t140 = t141 then (if t113.toList = t126.toList then ((eggboxlaw19_num.f t114).bind fun t142 => (if t142 = t127 then (if t115.toList = bt128.1.toList then ((eggboxlaw19_num.f t116).bind fun t143 => (if t143 = bt128.2 then ((eggboxlaw19_num.f t124).bind fun t144 => (if t144 = bt130.2.2.2 then ((eggboxlaw19_Same.f k t105 t108 t111 l0_0 l0_1 a0_2).bind fun t145 => (if t145 = true then ((eggboxlaw19_knows.f k).bind fun t146 => (eggboxlaw19_TermsPrints.j0 k (!t146) t105 t108 t111 t117 t120 t123 bt130.1 bt130.2.1 bt130.2.2.1)) else (eggboxlaw19_TermsPrints.j0 k true t105 t108 t111 t117 t120 t123 bt130.1 bt130.2.1 bt130.2.2.1))) else (eggboxlaw19_TermsPrints.j0 k true t105 t108 t111 t117 t120 t123 bt130.1 bt130.2.1 bt130.2.2.1))) else (eggboxlaw19_TermsPrints.j0 k true t105 t108 t111 t117 t120 t123 bt130.1 bt130.2.1 bt130.2.2.1))) else (eggboxlaw19_TermsPrints.j0 k true t105 t108 t111 t117 t120 t123 bt130.1 bt130.2.1 bt130.2.2.1)) else (eggboxlaw19_TermsPrints.j0 k true t105 t108 t111 t117 t120 t123 bt130.1 bt130.2.1 bt130.2.2.1))) else (eggboxlaw19_TermsPrints.j0 k true t105 t108 t111 t117 t120 t123 bt130.1 bt130.2.1 bt130.2.2.1)) else (eggboxlaw19_TermsPrints.j0 k true t105 t108 t111 t117 t120 t123 bt130.1 bt130.2.1 bt130.2.2.1))))))) = some r := H
 have A6 := Aside0.mk A60
 clear A60
 replace H := Option.bind_eq_some_iff.mp H
 obtain ⟨⟨t128, t129⟩, A70, H⟩ := H
 replace H : ((eggboxref19_Turn.f k l0_0 l0_1 a0_2).bind fun bt130 => ((terms_Check.f k t105 t108 t111).bind fun t139 => ((eggboxlaw19_num.f t139).bind fun t140 => ((eggboxref19_Check.f k l0_0 l0_1 a0_2).bind fun t141 => (if t140 = t141 then (if t113.toList = t126.toList then ((eggboxlaw19_num.f t114).bind fun t142 => (if t142 = t127 then (if t115.toList = t128.toList then ((eggboxlaw19_num.f t116).bind fun t143 => (if t143 = t129 then ((eggboxlaw19_num.f t124).bind fun t144 => (if t144 = bt130.2.2.2 then ((eggboxlaw19_Same.f k t105 t108 t111 l0_0 l0_1 a0_2).bind fun t145 => (if t145 = true then ((eggboxlaw19_knows.f k).bind fun t146 => (eggboxlaw19_TermsPrints.j0 k (!t146) t105 t108 t111 t117 t120 t123 bt130.1 bt130.2.1 bt130.2.2.1)) else (eggboxlaw19_TermsPrints.j0 k true t105 t108 t111 t117 t120 t123 bt130.1 bt130.2.1 bt130.2.2.1))) else (eggboxlaw19_TermsPrints.j0 k true t105 t108 t111 t117 t120 t123 bt130.1 bt130.2.1 bt130.2.2.1))) else (eggboxlaw19_TermsPrints.j0 k true t105 t108 t111 t117 t120 t123 bt130.1 bt130.2.1 bt130.2.2.1))) else (eggboxlaw19_TermsPrints.j0 k true t105 t108 t111 t117 t120 t123 bt130.1 bt130.2.1 bt130.2.2.1)) else (eggboxlaw19_TermsPrints.j0 k true t105 t108 t111 t117 t120 t123 bt130.1 bt130.2.1 bt130.2.2.1))) else (eggboxlaw19_TermsPrints.j0 k true t105 t108 t111 t117 t120 t123 bt130.1 bt130.2.1 bt130.2.2.1)) else (eggboxlaw19_TermsPrints.j0 k true t105 t108 t111 t117 t120 t123 bt130.1 bt130.2.1 bt130.2.2.1)))))) = some r := H
 have A7 := Aside0.mk A70
 clear A70
 replace H := Option.bind_eq_some_iff.mp H
 obtain ⟨⟨t130, t133, t136, t137⟩, A80, H⟩ := H
 replace H : ((terms_Check.f k t105 t108 t111).bind fun t139 => ((eggboxlaw19_num.f t139).bind fun t140 => ((eggboxref19_Check.f k l0_0 l0_1 a0_2).bind fun t141 => (if t140 = t141 then (if t113.toList = t126.toList then ((eggboxlaw19_num.f t114).bind fun t142 => (if t142 = t127 then (if t115.toList = t128.toList then ((eggboxlaw19_num.f t116).bind fun t143 => (if t143 = t129 then ((eggboxlaw19_num.f t124).bind fun t144 => (if t144 = t137 then ((eggboxlaw19_Same.f k t105 t108 t111 l0_0 l0_1 a0_2).bind fun t145 => (if t145 = true then ((eggboxlaw19_knows.f k).bind fun t146 => (eggboxlaw19_TermsPrints.j0 k (!t146) t105 t108 t111 t117 t120 t123 t130 t133 t136)) else (eggboxlaw19_TermsPrints.j0 k true t105 t108 t111 t117 t120 t123 t130 t133 t136))) else (eggboxlaw19_TermsPrints.j0 k true t105 t108 t111 t117 t120 t123 t130 t133 t136))) else (eggboxlaw19_TermsPrints.j0 k true t105 t108 t111 t117 t120 t123 t130 t133 t136))) else (eggboxlaw19_TermsPrints.j0 k true t105 t108 t111 t117 t120 t123 t130 t133 t136)) else (eggboxlaw19_TermsPrints.j0 k true t105 t108 t111 t117 t120 t123 t130 t133 t136))) else (eggboxlaw19_TermsPrints.j0 k true t105 t108 t111 t117 t120 t123 t130 t133 t136)) else (eggboxlaw19_TermsPrints.j0 k true t105 t108 t111 t117 t120 t123 t130 t133 t136))))) = some r := H
 have A8 := Aside0.mk A80
 clear A80
 have HC9 := Aside0.mk H
 clear H
 go_enter Try.func5, Try.ntmps5
 go_upto_region 8 with (first | ((with_reducible refine gate_dst (N := 1) rfl ?_); refine box_event ?hg (N := 1) ?hd (cs := #[.slice A0_0 l0_0.length c0_0, .slice A0_1 l0_1.length c0_1, .bool a0_2]) (t := 24) ?hr ?_; (case hd => rfl); (case hg => rfl); (case hr => first | (go_simp; done) | (go_simp; rfl)); intro gb104 hg w10 hbox hb; have n0_ := Aside0.mk (below_step (by repeat (first | (with_reducible first | exact HB.out | apply below_alloc | apply pw_below_drewN | apply below_drew1) | exact HB.out)) hb); have n1_ := Aside0.mk (hbox); have n2_ := Aside0.mk ((by rw [hg]; exact (below_size (by repeat (first | (with_reducible first | exact HB.out | apply below_alloc | apply pw_below_drewN | apply below_drew1) | exact HB.out))) : w.heap.size ≤ gb104)); have n3_ := Aside0.mk ((by rw [hg]; exact (below_size (by repeat (first | (with_reducible first | exact HB.out | apply below_alloc | apply pw_below_drewN | apply below_drew1) | exact HB.out))) : w.heap.size ≤ gb104)); clear HB; have HB := n0_; have BK104 := n1_; have GW104 := n2_; have GE104 := n3_; clear n0_ n1_ n2_ n3_; clear hb hbox hg; have hcz11_0 : w10.cell? ⟨gb104, 0, none⟩ = some (.slice A0_0 l0_0.length c0_0) := (blk_cell BK104.out 0).trans rfl; have hcz11_1 : w10.cell? ⟨gb104, 1, none⟩ = some (.slice A0_1 l0_1.length c0_1) := (blk_cell BK104.out 1).trans rfl; have hcz11_2 : w10.cell? ⟨gb104, 2, none⟩ = some (.bool a0_2) := (blk_cell BK104.out 2).trans rfl; have hfz11_0 := blk_frozen BK104.out 0; have hfz11_1 := blk_frozen BK104.out 1; have hfz11_2 := blk_frozen BK104.out 2) | ((with_reducible refine gate_callee (f := 18) rfl ?_); refine goesL_ (some 17) rfl rfl Try.func18 (by kernel_rfl) rfl #[.agg #[.slice A0_0 l0_0.length c0_0, .slice A0_1 l0_1.length c0_1, .bool a0_2]] rfl (by (try simp only [List.map_toArray, List.map_cons, List.map_nil]); first | done | rfl | (simp only [List.length_drop, List.length_take]; rfl)) ?_; (with_reducible refine (eggboxlaw19_lent.calls _ _ l0_0 _ _ l0_1 a0_2 t105 t108 t111 _ ?side1 ?side2 ?side3 ?side4 A2.out).mono ?_); (case side1 => repeat (first | exact (Kd.C_below HR0_0.out HB.out) | (with_reducible refine Kd.C_alloc ?_ _) | (with_reducible refine Kd.C_drewN ?_ _) | (with_reducible refine Kd.C_drew ?_))); (case side2 => exact HC0_0.out); (case side3 => repeat (first | exact (Kd.C_below HR0_1.out HB.out) | (with_reducible refine Kd.C_alloc ?_ _) | (with_reducible refine Kd.C_drewN ?_ _) | (with_reducible refine Kd.C_drew ?_))); (case side4 => exact HC0_1.out); rintro e w12 ⟨v106, v109, rfl, ho0, ho1, hb⟩; refine ⟨_, rfl, ?_⟩; have n0_ := Aside0.mk (Kd.R_lower ho0 (below_size (by repeat (first | (with_reducible first | exact HB.out | apply below_alloc | apply pw_below_drewN | apply below_drew1 | refine below_set ?_ GE104.out) | exact HB.out)))); have n1_ := Aside0.mk (Kd.R_lower ho1 (below_size (by repeat (first | (with_reducible first | exact HB.out | apply below_alloc | apply pw_below_drewN | apply below_drew1 | refine below_set ?_ GE104.out) | exact HB.out)))); have n2_ := Aside0.mk (blk_below (g := gb104) (o := .cells #[.slice A0_0 l0_0.length c0_0, .slice A0_1 l0_1.length c0_1, .bool a0_2] 24 (0, 0)) (by (with_reducible repeat (first | refine blk_drewN ?_ _ | refine blk_drew ?_ | refine blk_alloc ?_ _)); exact BK104.out) hb); have n3_ := Aside0.mk (below_step (by repeat (first | (with_reducible first | exact HB.out | apply below_alloc | apply pw_below_drewN | apply below_drew1 | refine below_set ?_ GE104.out) | exact HB.out)) hb); clear BK104; clear HB; have HO107 := n0_; have HO110 := n1_; have BK104 := n2_; have HB := n3_; clear n0_ n1_ n2_ n3_; (try clear hb); (try clear hb2); (try clear hk); (try clear hi); (try clear ho0); (try clear ho1)) | ((with_reducible refine gate_dst (N := 3) rfl ?_); refine box_event ?hg (N := 3) ?hd (cs := #[.slice none 0 0, .slice none 0 0, .bool false]) (t := 24) ?hr ?_; (case hd => rfl); (case hg => rfl); (case hr => first | (go_simp; done) | (go_simp; rfl)); intro gb112 hg w13 hbox hb; have n0_ := Aside0.mk (Kd.R_below (by (with_reducible repeat (first | apply Kd.R_alloc | apply Kd.R_drewN | apply Kd.R_drew)); exact HO107.out) hb); have n1_ := Aside0.mk (Kd.R_below (by (with_reducible repeat (first | apply Kd.R_alloc | apply Kd.R_drewN | apply Kd.R_drew)); exact HO110.out) hb); have n2_ := Aside0.mk (blk_below (g := gb104) (o := .cells #[.slice A0_0 l0_0.length c0_0, .slice A0_1 l0_1.length c0_1, .bool a0_2] 24 (0, 0)) (by (with_reducible repeat (first | refine blk_drewN ?_ _ | refine blk_drew ?_ | refine blk_alloc ?_ _)); exact BK104.out) hb); have n3_ := Aside0.mk (below_step (by repeat (first | (with_reducible first | exact HB.out | apply below_alloc | apply pw_below_drewN | apply below_drew1 | refine below_set ?_ GE104.out) | exact HB.out)) hb); have n4_ := Aside0.mk (hbox); have n5_ := Aside0.mk ((by rw [hg]; exact (below_size (by repeat (first | (with_reducible first | exact HB.out | apply below_alloc | apply pw_below_drewN | apply below_drew1 | refine below_set ?_ GE104.out) | exact HB.out))) : w.heap.size ≤ gb112)); have n6_ := Aside0.mk ((by rw [hg]; exact (below_size (by repeat (first | (with_reducible first | exact HB.out | apply below_alloc | apply pw_below_drewN | apply below_drew1 | refine below_set ?_ GE104.out) | exact HB.out))) : w.heap.size ≤ gb112)); have n7_ := Aside0.mk ((by rw [hg]; exact Nat.ne_of_lt (blk_lt (g := gb104) (o := .cells #[.slice A0_0 l0_0.length c0_0, .slice A0_1 l0_1.length c0_1, .bool a0_2] 24 (0, 0)) (by (with_reducible repeat (first | refine blk_drewN ?_ _ | refine blk_drew ?_ | refine blk_alloc ?_ _)); exact BK104.out)) : gb104 ≠ gb112)); have n8_ := Aside0.mk ((by rw [hg]; exact Nat.ne_of_gt (blk_lt (g := gb104) (o := .cells #[.slice A0_0 l0_0.length c0_0, .slice A0_1 l0_1.length c0_1, .bool a0_2] 24 (0, 0)) (by (with_reducible repeat (first | refine blk_drewN ?_ _ | refine blk_drew ?_ | refine blk_alloc ?_ _)); exact BK104.out)) : gb112 ≠ gb104)); clear HO107; clear HO110; clear BK104; clear HB; have HO107 := n0_; have HO110 := n1_; have BK104 := n2_; have HB := n3_; have BK112 := n4_; have GW112 := n5_; have GE112 := n6_; have NB104_112 := n7_; have NB112_104 := n8_; clear n0_ n1_ n2_ n3_ n4_ n5_ n6_ n7_ n8_; clear hb hbox hg; obtain ⟨Ao14, co14, eo14⟩ := Kd.R_slice HO107.out; subst eo14; have hnb15 := NB112_104.out; have hnc15 := NB104_112.out; have hcz16_0 : w13.cell? ⟨gb112, 0, none⟩ = some (.slice none 0 0) := (blk_cell BK112.out 0).trans rfl; have hcz16_1 : w13.cell? ⟨gb112, 1, none⟩ = some (.slice none 0 0) := (blk_cell BK112.out 1).trans rfl; have hcz16_2 : w13.cell? ⟨gb112, 2, none⟩ = some (.bool false) := (blk_cell BK112.out 2).trans rfl; have hfz16_0 := blk_frozen BK112.out 0; have hfz16_1 := blk_frozen BK112.out 1; have hfz16_2 := blk_frozen BK112.out 2; obtain ⟨Ao17, co17, eo17⟩ := Kd.R_slice HO110.out; subst eo17) | ((with_reducible refine gate_callee (f := 17) rfl ?_); refine goesL_ (some 20) rfl rfl Try.func17 (by kernel_rfl) rfl #[.agg #[.slice Ao14 t105.length co14, .slice Ao17 t108.length co17, .bool t111]] rfl (by (try simp only [List.map_toArray, List.map_cons, List.map_nil]); first | done | rfl | (simp only [List.length_drop, List.length_take]; rfl)) ?_; (with_reducible refine (terms_Print.calls k _ _ t105 _ _ t108 t111 t113 t114 _ ?side1 ?side2 ?side3 ?side4 A3.out).mono ?_); (case side1 => refine (Kd.R_reads' (e := 97) (base := w.heap.size) (ok := fun k_ => some k_ ≠ (.slice Ao17 t108.length co17 : Value).ownBlock) (n := t105.length) (c := co14) ?_).2.2; exact (by (with_reducible repeat (first | apply Kd.R_alloc | apply Kd.R_drewN | apply Kd.R_drew)); exact (Kd.R_mono (Kd.R_far (p := ⟨gb112, 2, none⟩) (Kd.R_far (p := ⟨gb112, 1, none⟩) (Kd.R_far (p := ⟨gb112, 0, none⟩) (Kd.R_types HO107.out BK112.out (by decide)) (fun _ hk => hk.2) (.slice Ao14 t105.length co14)) (fun _ hk => hk.2) (.slice Ao17 t108.length co17)) (fun _ hk => hk.2) (.bool t111)) (fun _ h_ => h_.1)))); (case side2 => exact (Kd.R_reads' HO107.out).2.1); (case side3 => refine (Kd.R_reads' (e := 97) (base := w.heap.size) (ok := fun k_ => some k_ ≠ (.slice Ao14 t105.length co14 : Value).ownBlock) (n := t108.length) (c := co17) ?_).2.2; exact (by (with_reducible repeat (first | apply Kd.R_alloc | apply Kd.R_drewN | apply Kd.R_drew)); exact (Kd.R_mono (Kd.R_far (p := ⟨gb112, 2, none⟩) (Kd.R_far (p := ⟨gb112, 1, none⟩) (Kd.R_far (p := ⟨gb112, 0, none⟩) (Kd.R_types HO110.out BK112.out (by decide)) (fun _ hk => hk.2) (.slice Ao14 t105.length co14)) (fun _ hk => hk.2) (.slice Ao17 t108.length co17)) (fun _ hk => hk.2) (.bool t111)) (fun _ h_ => h_.1)))); (case side4 => exact (Kd.R_reads' HO110.out).2.1); rintro e w18 ⟨rfl, hb⟩; refine ⟨_, rfl, ?_⟩; have n0_ := Aside0.mk (Kd.R_below (by (with_reducible repeat (first | apply Kd.R_alloc | apply Kd.R_drewN | apply Kd.R_drew)); exact (Kd.R_mono (Kd.R_far (p := ⟨gb112, 2, none⟩) (Kd.R_far (p := ⟨gb112, 1, none⟩) (Kd.R_far (p := ⟨gb112, 0, none⟩) (Kd.R_types HO107.out BK112.out (by decide)) (fun _ hk => hk.2) (.slice Ao14 t105.length co14)) (fun _ hk => hk.2) (.slice Ao17 t108.length co17)) (fun _ hk => hk.2) (.bool t111)) (fun _ h_ => h_.1))) hb); have n1_ := Aside0.mk (Kd.R_below (by (with_reducible repeat (first | apply Kd.R_alloc | apply Kd.R_drewN | apply Kd.R_drew)); exact (Kd.R_mono (Kd.R_far (p := ⟨gb112, 2, none⟩) (Kd.R_far (p := ⟨gb112, 1, none⟩) (Kd.R_far (p := ⟨gb112, 0, none⟩) (Kd.R_types HO110.out BK112.out (by decide)) (fun _ hk => hk.2) (.slice Ao14 t105.length co14)) (fun _ hk => hk.2) (.slice Ao17 t108.length co17)) (fun _ hk => hk.2) (.bool t111)) (fun _ h_ => h_.1))) hb); have n2_ := Aside0.mk (blk_below (g := gb104) (o := .cells #[.slice A0_0 l0_0.length c0_0, .slice A0_1 l0_1.length c0_1, .bool a0_2] 24 (0, 0)) (by (with_reducible repeat (first | refine blk_drewN ?_ _ | refine blk_drew ?_ | refine blk_alloc ?_ _)); refine blk_far ?_ NB104_112.out _; (with_reducible repeat (first | refine blk_drewN ?_ _ | refine blk_drew ?_ | refine blk_alloc ?_ _)); refine blk_far ?_ NB104_112.out _; (with_reducible repeat (first | refine blk_drewN ?_ _ | refine blk_drew ?_ | refine blk_alloc ?_ _)); refine blk_far ?_ NB104_112.out _; (with_reducible repeat (first | refine blk_drewN ?_ _ | refine blk_drew ?_ | refine blk_alloc ?_ _)); exact BK104.out) hb); have n3_ := Aside0.mk (blk_below (g := gb112) (o := .cells #[.slice Ao14 t105.length co14, .slice Ao17 t108.length co17, .bool t111] 24 (0, 0)) (by (with_reducible repeat (first | refine blk_drewN ?_ _ | refine blk_drew ?_ | refine blk_alloc ?_ _)); refine blk_put (cs := #[.slice Ao14 t105.length co14, .slice Ao17 t108.length co17, .bool false]) ?_ 2 _ rfl; (with_reducible repeat (first | refine blk_drewN ?_ _ | refine blk_drew ?_ | refine blk_alloc ?_ _)); refine blk_put (cs := #[.slice Ao14 t105.length co14, .slice none 0 0, .bool false]) ?_ 1 _ rfl; (with_reducible repeat (first | refine blk_drewN ?_ _ | refine blk_drew ?_ | refine blk_alloc ?_ _)); refine blk_put (cs := #[.slice none 0 0, .slice none 0 0, .bool false]) ?_ 0 _ rfl; (with_reducible repeat (first | refine blk_drewN ?_ _ | refine blk_drew ?_ | refine blk_alloc ?_ _)); exact BK112.out) hb); have n4_ := Aside0.mk (below_step (by repeat (first | (with_reducible first | exact HB.out | apply below_alloc | apply pw_below_drewN | apply below_drew1 | refine below_set ?_ GE104.out | refine below_set ?_ GE112.out) | exact HB.out)) hb); clear HO107; clear HO110; clear BK104; clear BK112; clear HB; have HO107 := n0_; have HO110 := n1_; have BK104 := n2_; have BK112 := n3_; have HB := n4_; clear n0_ n1_ n2_ n3_ n4_; (try clear hb); (try clear hb2); (try clear hk); (try clear hi); have hcz19_0 : w18.cell? ⟨gb112, 0, none⟩ = some (.slice Ao14 t105.length co14) := (blk_cell BK112.out 0).trans rfl; have hcz19_1 : w18.cell? ⟨gb112, 1, none⟩ = some (.slice Ao17 t108.length co17) := (blk_cell BK112.out 1).trans rfl; have hcz19_2 : w18.cell? ⟨gb112, 2, none⟩ = some (.bool t111) := (blk_cell BK112.out 2).trans rfl; have hfz19_0 := blk_frozen BK112.out 0; have hfz19_1 := blk_frozen BK112.out 1; have hfz19_2 := blk_frozen BK112.out 2) | ((with_reducible refine gate_callee (f := 19) rfl ?_); refine goesL_ (some 25) rfl rfl Try.func19 (by kernel_rfl) rfl #[.agg #[.slice Ao14 t105.length co14, .slice Ao17 t108.length co17, .bool t111]] rfl (by (try simp only [List.map_toArray, List.map_cons, List.map_nil]); first | done | rfl | (simp only [List.length_drop, List.length_take]; rfl)) ?_; (with_reducible refine (terms_Vars.calls k _ _ t105 _ _ t108 t111 t115 t116 _ ?side1 ?side2 ?side3 ?side4 A4.out).mono ?_); (case side1 => repeat (first | exact (Kd.R_reads' HO107.out).2.2 | (with_reducible refine Kd.C_alloc ?_ _) | (with_reducible refine Kd.C_drewN ?_ _) | (with_reducible refine Kd.C_drew ?_))); (case side2 => exact (Kd.R_reads' HO107.out).2.1); (case side3 => repeat (first | exact (Kd.R_reads' HO110.out).2.2 | (with_reducible refine Kd.C_alloc ?_ _) | (with_reducible refine Kd.C_drewN ?_ _) | (with_reducible refine Kd.C_drew ?_))); (case side4 => exact (Kd.R_reads' HO110.out).2.1); rintro e w20 ⟨rfl, hb⟩; refine ⟨_, rfl, ?_⟩; have n0_ := Aside0.mk (Kd.R_below (by (with_reducible repeat (first | apply Kd.R_alloc | apply Kd.R_drewN | apply Kd.R_drew)); exact HO107.out) hb); have n1_ := Aside0.mk (Kd.R_below (by (with_reducible repeat (first | apply Kd.R_alloc | apply Kd.R_drewN | apply Kd.R_drew)); exact HO110.out) hb); have n2_ := Aside0.mk (blk_below (g := gb104) (o := .cells #[.slice A0_0 l0_0.length c0_0, .slice A0_1 l0_1.length c0_1, .bool a0_2] 24 (0, 0)) (by (with_reducible repeat (first | refine blk_drewN ?_ _ | refine blk_drew ?_ | refine blk_alloc ?_ _)); exact BK104.out) hb); have n3_ := Aside0.mk (blk_below (g := gb112) (o := .cells #[.slice Ao14 t105.length co14, .slice Ao17 t108.length co17, .bool t111] 24 (0, 0)) (by (with_reducible repeat (first | refine blk_drewN ?_ _ | refine blk_drew ?_ | refine blk_alloc ?_ _)); exact BK112.out) hb); have n4_ := Aside0.mk (below_step (by repeat (first | (with_reducible first | exact HB.out | apply below_alloc | apply pw_below_drewN | apply below_drew1 | refine below_set ?_ GE104.out | refine below_set ?_ GE112.out) | exact HB.out)) hb); clear HO107; clear HO110; clear BK104; clear BK112; clear HB; have HO107 := n0_; have HO110 := n1_; have BK104 := n2_; have BK112 := n3_; have HB := n4_; clear n0_ n1_ n2_ n3_ n4_; (try clear hb); (try clear hb2); (try clear hk); (try clear hi); have hcz21_0 : w20.cell? ⟨gb112, 0, none⟩ = some (.slice Ao14 t105.length co14) := (blk_cell BK112.out 0).trans rfl; have hcz21_1 : w20.cell? ⟨gb112, 1, none⟩ = some (.slice Ao17 t108.length co17) := (blk_cell BK112.out 1).trans rfl; have hcz21_2 : w20.cell? ⟨gb112, 2, none⟩ = some (.bool t111) := (blk_cell BK112.out 2).trans rfl; have hfz21_0 := blk_frozen BK112.out 0; have hfz21_1 := blk_frozen BK112.out 1; have hfz21_2 := blk_frozen BK112.out 2) | ((with_reducible refine gate_callee (f := 20) rfl ?_); refine goesL_ (some 30) rfl rfl Try.func20 (by kernel_rfl) rfl #[.agg #[.slice Ao14 t105.length co14, .slice Ao17 t108.length co17, .bool t111]] rfl (by (try simp only [List.map_toArray, List.map_cons, List.map_nil]); first | done | rfl | (simp only [List.length_drop, List.length_take]; rfl)) ?_; (with_reducible refine (terms_Turn.calls k _ _ t105 _ _ t108 t111 t117 t120 t123 t124 _ ?side1 ?side2 ?side3 ?side4 A5.out).mono ?_); (case side1 => repeat (first | exact (Kd.R_reads' HO107.out).2.2 | (with_reducible refine Kd.C_alloc ?_ _) | (with_reducible refine Kd.C_drewN ?_ _) | (with_reducible refine Kd.C_drew ?_))); (case side2 => exact (Kd.R_reads' HO107.out).2.1); (case side3 => repeat (first | exact (Kd.R_reads' HO110.out).2.2 | (with_reducible refine Kd.C_alloc ?_ _) | (with_reducible refine Kd.C_drewN ?_ _) | (with_reducible refine Kd.C_drew ?_))); (case side4 => exact (Kd.R_reads' HO110.out).2.1); rintro e w22 ⟨v118, v121, rfl, ho0, ho1, hb⟩; refine ⟨_, rfl, ?_⟩; have n0_ := Aside0.mk (Kd.R_mono (Kd.R_told (Kd.R_told (Kd.R_old (by (with_reducible repeat (first | apply Kd.R_alloc | apply Kd.R_drewN | apply Kd.R_drew)); exact HO107.out) hb) (Kd.R_base ho0)) (Kd.R_base ho1)) (fun _ h_ => h_.1)); have n1_ := Aside0.mk (Kd.R_mono (Kd.R_told (Kd.R_told (Kd.R_old (by (with_reducible repeat (first | apply Kd.R_alloc | apply Kd.R_drewN | apply Kd.R_drew)); exact HO110.out) hb) (Kd.R_base ho0)) (Kd.R_base ho1)) (fun _ h_ => h_.1)); have n2_ := Aside0.mk (Kd.R_lower (Kd.R_new' (Kd.R_new' ho0 (Kd.R_lt (by (with_reducible repeat (first | apply Kd.R_alloc | apply Kd.R_drewN | apply Kd.R_drew)); exact HO107.out))) (Kd.R_lt (by (with_reducible repeat (first | apply Kd.R_alloc | apply Kd.R_drewN | apply Kd.R_drew)); exact HO110.out))) (below_size (by repeat (first | (with_reducible first | exact HB.out | apply below_alloc | apply pw_below_drewN | apply below_drew1 | refine below_set ?_ GE104.out | refine below_set ?_ GE112.out) | exact HB.out)))); have n3_ := Aside0.mk (Kd.R_lower (Kd.R_new' (Kd.R_new' ho1 (Kd.R_lt (by (with_reducible repeat (first | apply Kd.R_alloc | apply Kd.R_drewN | apply Kd.R_drew)); exact HO107.out))) (Kd.R_lt (by (with_reducible repeat (first | apply Kd.R_alloc | apply Kd.R_drewN | apply Kd.R_drew)); exact HO110.out))) (below_size (by repeat (first | (with_reducible first | exact HB.out | apply below_alloc | apply pw_below_drewN | apply below_drew1 | refine below_set ?_ GE104.out | refine below_set ?_ GE112.out) | exact HB.out)))); have n4_ := Aside0.mk (blk_below (g := gb104) (o := .cells #[.slice A0_0 l0_0.length c0_0, .slice A0_1 l0_1.length c0_1, .bool a0_2] 24 (0, 0)) (by (with_reducible repeat (first | refine blk_drewN ?_ _ | refine blk_drew ?_ | refine blk_alloc ?_ _)); exact BK104.out) hb); have n5_ := Aside0.mk (blk_below (g := gb112) (o := .cells #[.slice Ao14 t105.length co14, .slice Ao17 t108.length co17, .bool t111] 24 (0, 0)) (by (with_reducible repeat (first | refine blk_drewN ?_ _ | refine blk_drew ?_ | refine blk_alloc ?_ _)); exact BK112.out) hb); have n6_ := Aside0.mk (below_step (by repeat (first | (with_reducible first | exact HB.out | apply below_alloc | apply pw_below_drewN | apply below_drew1 | refine below_set ?_ GE104.out | refine below_set ?_ GE112.out) | exact HB.out)) hb); clear HO107; clear HO110; clear BK104; clear BK112; clear HB; have HO107 := n0_; have HO110 := n1_; have HO119 := n2_; have HO122 := n3_; have BK104 := n4_; have BK112 := n5_; have HB := n6_; clear n0_ n1_ n2_ n3_ n4_ n5_ n6_; (try clear hb); (try clear hb2); (try clear hk); (try clear hi); (try clear ho0); (try clear ho1)) | ((with_reducible refine gate_dst (N := 8) rfl ?_); refine box_event ?hg (N := 8) ?hd (cs := #[.slice none 0 0, .slice none 0 0, .bool false]) (t := 24) ?hr ?_; (case hd => rfl); (case hg => rfl); (case hr => first | (go_simp; done) | (go_simp; rfl)); intro gb125 hg w23 hbox hb; have n0_ := Aside0.mk (Kd.R_below (by (with_reducible repeat (first | apply Kd.R_alloc | apply Kd.R_drewN | apply Kd.R_drew)); exact HO107.out) hb); have n1_ := Aside0.mk (Kd.R_below (by (with_reducible repeat (first | apply Kd.R_alloc | apply Kd.R_drewN | apply Kd.R_drew)); exact HO110.out) hb); have n2_ := Aside0.mk (Kd.R_below (by (with_reducible repeat (first | apply Kd.R_alloc | apply Kd.R_drewN | apply Kd.R_drew)); exact HO119.out) hb); have n3_ := Aside0.mk (Kd.R_below (by (with_reducible repeat (first | apply Kd.R_alloc | apply Kd.R_drewN | apply Kd.R_drew)); exact HO122.out) hb); have n4_ := Aside0.mk (blk_below (g := gb104) (o := .cells #[.slice A0_0 l0_0.length c0_0, .slice A0_1 l0_1.length c0_1, .bool a0_2] 24 (0, 0)) (by (with_reducible repeat (first | refine blk_drewN ?_ _ | refine blk_drew ?_ | refine blk_alloc ?_ _)); exact BK104.out) hb); have n5_ := Aside0.mk (blk_below (g := gb112) (o := .cells #[.slice Ao14 t105.length co14, .slice Ao17 t108.length co17, .bool t111] 24 (0, 0)) (by (with_reducible repeat (first | refine blk_drewN ?_ _ | refine blk_drew ?_ | refine blk_alloc ?_ _)); exact BK112.out) hb); have n6_ := Aside0.mk (below_step (by repeat (first | (with_reducible first | exact HB.out | apply below_alloc | apply pw_below_drewN | apply below_drew1 | refine below_set ?_ GE104.out | refine below_set ?_ GE112.out) | exact HB.out)) hb); have n7_ := Aside0.mk (hbox); have n8_ := Aside0.mk ((by rw [hg]; exact (below_size (by repeat (first | (with_reducible first | exact HB.out | apply below_alloc | apply pw_below_drewN | apply below_drew1 | refine below_set ?_ GE104.out | refine below_set ?_ GE112.out) | exact HB.out))) : w.heap.size ≤ gb125)); have n9_ := Aside0.mk ((by rw [hg]; exact (below_size (by repeat (first | (with_reducible first | exact HB.out | apply below_alloc | apply pw_below_drewN | apply below_drew1 | refine below_set ?_ GE104.out | refine below_set ?_ GE112.out) | exact HB.out))) : w.heap.size ≤ gb125)); have n10_ := Aside0.mk ((by rw [hg]; exact Nat.ne_of_lt (blk_lt (g := gb104) (o := .cells #[.slice A0_0 l0_0.length c0_0, .slice A0_1 l0_1.length c0_1, .bool a0_2] 24 (0, 0)) (by (with_reducible repeat (first | refine blk_drewN ?_ _ | refine blk_drew ?_ | refine blk_alloc ?_ _)); exact BK104.out)) : gb104 ≠ gb125)); have n11_ := Aside0.mk ((by rw [hg]; exact Nat.ne_of_gt (blk_lt (g := gb104) (o := .cells #[.slice A0_0 l0_0.length c0_0, .slice A0_1 l0_1.length c0_1, .bool a0_2] 24 (0, 0)) (by (with_reducible repeat (first | refine blk_drewN ?_ _ | refine blk_drew ?_ | refine blk_alloc ?_ _)); exact BK104.out)) : gb125 ≠ gb104)); have n12_ := Aside0.mk ((by rw [hg]; exact Nat.ne_of_lt (blk_lt (g := gb112) (o := .cells #[.slice Ao14 t105.length co14, .slice Ao17 t108.length co17, .bool t111] 24 (0, 0)) (by (with_reducible repeat (first | refine blk_drewN ?_ _ | refine blk_drew ?_ | refine blk_alloc ?_ _)); exact BK112.out)) : gb112 ≠ gb125)); have n13_ := Aside0.mk ((by rw [hg]; exact Nat.ne_of_gt (blk_lt (g := gb112) (o := .cells #[.slice Ao14 t105.length co14, .slice Ao17 t108.length co17, .bool t111] 24 (0, 0)) (by (with_reducible repeat (first | refine blk_drewN ?_ _ | refine blk_drew ?_ | refine blk_alloc ?_ _)); exact BK112.out)) : gb125 ≠ gb112)); clear HO107; clear HO110; clear HO119; clear HO122; clear BK104; clear BK112; clear HB; have HO107 := n0_; have HO110 := n1_; have HO119 := n2_; have HO122 := n3_; have BK104 := n4_; have BK112 := n5_; have HB := n6_; have BK125 := n7_; have GW125 := n8_; have GE125 := n9_; have NB104_125 := n10_; have NB125_104 := n11_; have NB112_125 := n12_; have NB125_112 := n13_; clear n0_ n1_ n2_ n3_ n4_ n5_ n6_ n7_ n8_ n9_ n10_ n11_ n12_ n13_; clear hb hbox hg; obtain ⟨Ao24, co24, eo24⟩ := Kd.R_slice HO119.out; subst eo24; have hnb25 := NB125_104.out; have hnc25 := NB104_125.out; have hnb26 := NB125_112.out; have hnc26 := NB112_125.out; have hcz27_0 : w23.cell? ⟨gb125, 0, none⟩ = some (.slice none 0 0) := (blk_cell BK125.out 0).trans rfl; have hcz27_1 : w23.cell? ⟨gb125, 1, none⟩ = some (.slice none 0 0) := (blk_cell BK125.out 1).trans rfl; have hcz27_2 : w23.cell? ⟨gb125, 2, none⟩ = some (.bool false) := (blk_cell BK125.out 2).trans rfl; have hfz27_0 := blk_frozen BK125.out 0; have hfz27_1 := blk_frozen BK125.out 1; have hfz27_2 := blk_frozen BK125.out 2; obtain ⟨Ao28, co28, eo28⟩ := Kd.R_slice HO122.out; subst eo28; have hcz29_0 : w23.cell? ⟨gb104, 0, none⟩ = some (.slice A0_0 l0_0.length c0_0) := (blk_cell BK104.out 0).trans rfl; have hcz29_1 : w23.cell? ⟨gb104, 1, none⟩ = some (.slice A0_1 l0_1.length c0_1) := (blk_cell BK104.out 1).trans rfl; have hcz29_2 : w23.cell? ⟨gb104, 2, none⟩ = some (.bool a0_2) := (blk_cell BK104.out 2).trans rfl; have hfz29_0 := blk_frozen BK104.out 0; have hfz29_1 := blk_frozen BK104.out 1; have hfz29_2 := blk_frozen BK104.out 2) | ((with_reducible refine gate_callee (f := 21) rfl ?_); refine goesL_ (some 35) rfl rfl Try.func21 (by kernel_rfl) rfl #[.agg #[.slice A0_0 l0_0.length c0_0, .slice A0_1 l0_1.length c0_1, .bool a0_2]] rfl (by (try simp only [List.map_toArray, List.map_cons, List.map_nil]); first | done | rfl | (simp only [List.length_drop, List.length_take]; rfl)) ?_; (with_reducible refine (eggboxref19_Print.calls k _ _ l0_0 _ _ l0_1 a0_2 t126 t127 _ ?side1 ?side2 ?side3 ?side4 A6.out).mono ?_); (case side1 => exact Kd.C_below HR0_0.out (by repeat (first | (with_reducible first | exact HB.out | apply below_alloc | apply pw_below_drewN | apply below_drew1 | refine below_set ?_ GE104.out | refine below_set ?_ GE112.out | refine below_set ?_ GE125.out) | exact HB.out))); (case side2 => exact HC0_0.out); (case side3 => exact Kd.C_below HR0_1.out (by repeat (first | (with_reducible first | exact HB.out | apply below_alloc | apply pw_below_drewN | apply below_drew1 | refine below_set ?_ GE104.out | refine below_set ?_ GE112.out | refine below_set ?_ GE125.out) | exact HB.out))); (case side4 => exact HC0_1.out); rintro e w30 ⟨rfl, hb⟩; refine ⟨_, rfl, ?_⟩; have n0_ := Aside0.mk (Kd.R_below (by (with_reducible repeat (first | apply Kd.R_alloc | apply Kd.R_drewN | apply Kd.R_drew)); exact (Kd.R_mono (Kd.R_far (p := ⟨gb125, 2, none⟩) (Kd.R_far (p := ⟨gb125, 1, none⟩) (Kd.R_far (p := ⟨gb125, 0, none⟩) (Kd.R_types HO107.out BK125.out (by decide)) (fun _ hk => hk.2) (.slice Ao24 t117.length co24)) (fun _ hk => hk.2) (.slice Ao28 t120.length co28)) (fun _ hk => hk.2) (.bool t123)) (fun _ h_ => h_.1))) hb); have n1_ := Aside0.mk (Kd.R_below (by (with_reducible repeat (first | apply Kd.R_alloc | apply Kd.R_drewN | apply Kd.R_drew)); exact (Kd.R_mono (Kd.R_far (p := ⟨gb125, 2, none⟩) (Kd.R_far (p := ⟨gb125, 1, none⟩) (Kd.R_far (p := ⟨gb125, 0, none⟩) (Kd.R_types HO110.out BK125.out (by decide)) (fun _ hk => hk.2) (.slice Ao24 t117.length co24)) (fun _ hk => hk.2) (.slice Ao28 t120.length co28)) (fun _ hk => hk.2) (.bool t123)) (fun _ h_ => h_.1))) hb); have n2_ := Aside0.mk (Kd.R_below (by (with_reducible repeat (first | apply Kd.R_alloc | apply Kd.R_drewN | apply Kd.R_drew)); exact (Kd.R_mono (Kd.R_far (p := ⟨gb125, 2, none⟩) (Kd.R_far (p := ⟨gb125, 1, none⟩) (Kd.R_far (p := ⟨gb125, 0, none⟩) (Kd.R_types HO119.out BK125.out (by decide)) (fun _ hk => hk.2) (.slice Ao24 t117.length co24)) (fun _ hk => hk.2) (.slice Ao28 t120.length co28)) (fun _ hk => hk.2) (.bool t123)) (fun _ h_ => h_.1))) hb); have n3_ := Aside0.mk (Kd.R_below (by (with_reducible repeat (first | apply Kd.R_alloc | apply Kd.R_drewN | apply Kd.R_drew)); exact (Kd.R_mono (Kd.R_far (p := ⟨gb125, 2, none⟩) (Kd.R_far (p := ⟨gb125, 1, none⟩) (Kd.R_far (p := ⟨gb125, 0, none⟩) (Kd.R_types HO122.out BK125.out (by decide)) (fun _ hk => hk.2) (.slice Ao24 t117.length co24)) (fun _ hk => hk.2) (.slice Ao28 t120.length co28)) (fun _ hk => hk.2) (.bool t123)) (fun _ h_ => h_.1))) hb); have n4_ := Aside0.mk (blk_below (g := gb104) (o := .cells #[.slice A0_0 l0_0.length c0_0, .slice A0_1 l0_1.length c0_1, .bool a0_2] 24 (0, 0)) (by (with_reducible repeat (first | refine blk_drewN ?_ _ | refine blk_drew ?_ | refine blk_alloc ?_ _)); refine blk_far ?_ NB104_125.out _; (with_reducible repeat (first | refine blk_drewN ?_ _ | refine blk_drew ?_ | refine blk_alloc ?_ _)); refine blk_far ?_ NB104_125.out _; (with_reducible repeat (first | refine blk_drewN ?_ _ | refine blk_drew ?_ | refine blk_alloc ?_ _)); refine blk_far ?_ NB104_125.out _; (with_reducible repeat (first | refine blk_drewN ?_ _ | refine blk_drew ?_ | refine blk_alloc ?_ _)); exact BK104.out) hb); have n5_ := Aside0.mk (blk_below (g := gb112) (o := .cells #[.slice Ao14 t105.length co14, .slice Ao17 t108.length co17, .bool t111] 24 (0, 0)) (by (with_reducible repeat (first | refine blk_drewN ?_ _ | refine blk_drew ?_ | refine blk_alloc ?_ _)); refine blk_far ?_ NB112_125.out _; (with_reducible repeat (first | refine blk_drewN ?_ _ | refine blk_drew ?_ | refine blk_alloc ?_ _)); refine blk_far ?_ NB112_125.out _; (with_reducible repeat (first | refine blk_drewN ?_ _ | refine blk_drew ?_ | refine blk_alloc ?_ _)); refine blk_far ?_ NB112_125.out _; (with_reducible repeat (first | refine blk_drewN ?_ _ | refine blk_drew ?_ | refine blk_alloc ?_ _)); exact BK112.out) hb); have n6_ := Aside0.mk (blk_below (g := gb125) (o := .cells #[.slice Ao24 t117.length co24, .slice Ao28 t120.length co28, .bool t123] 24 (0, 0)) (by (with_reducible repeat (first | refine blk_drewN ?_ _ | refine blk_drew ?_ | refine blk_alloc ?_ _)); refine blk_put (cs := #[.slice Ao24 t117.length co24, .slice Ao28 t120.length co28, .bool false]) ?_ 2 _ rfl; (with_reducible repeat (first | refine blk_drewN ?_ _ | refine blk_drew ?_ | refine blk_alloc ?_ _)); refine blk_put (cs := #[.slice Ao24 t117.length co24, .slice none 0 0, .bool false]) ?_ 1 _ rfl; (with_reducible repeat (first | refine blk_drewN ?_ _ | refine blk_drew ?_ | refine blk_alloc ?_ _)); refine blk_put (cs := #[.slice none 0 0, .slice none 0 0, .bool false]) ?_ 0 _ rfl; (with_reducible repeat (first | refine blk_drewN ?_ _ | refine blk_drew ?_ | refine blk_alloc ?_ _)); exact BK125.out) hb); have n7_ := Aside0.mk (below_step (by repeat (first | (with_reducible first | exact HB.out | apply below_alloc | apply pw_below_drewN | apply below_drew1 | refine below_set ?_ GE104.out | refine below_set ?_ GE112.out | refine below_set ?_ GE125.out) | exact HB.out)) hb); clear HO107; clear HO110; clear HO119; clear HO122; clear BK104; clear BK112; clear BK125; clear HB; have HO107 := n0_; have HO110 := n1_; have HO119 := n2_; have HO122 := n3_; have BK104 := n4_; have BK112 := n5_; have BK125 := n6_; have HB := n7_; clear n0_ n1_ n2_ n3_ n4_ n5_ n6_ n7_; (try clear hb); (try clear hb2); (try clear hk); (try clear hi); have hcz31_0 : w30.cell? ⟨gb104, 0, none⟩ = some (.slice A0_0 l0_0.length c0_0) := (blk_cell BK104.out 0).trans rfl; have hcz31_1 : w30.cell? ⟨gb104, 1, none⟩ = some (.slice A0_1 l0_1.length c0_1) := (blk_cell BK104.out 1).trans rfl; have hcz31_2 : w30.cell? ⟨gb104, 2, none⟩ = some (.bool a0_2) := (blk_cell BK104.out 2).trans rfl; have hfz31_0 := blk_frozen BK104.out 0; have hfz31_1 := blk_frozen BK104.out 1; have hfz31_2 := blk_frozen BK104.out 2) | ((with_reducible refine gate_callee (f := 22) rfl ?_); refine goesL_ (some 40) rfl rfl Try.func22 (by kernel_rfl) rfl #[.agg #[.slice A0_0 l0_0.length c0_0, .slice A0_1 l0_1.length c0_1, .bool a0_2]] rfl (by (try simp only [List.map_toArray, List.map_cons, List.map_nil]); first | done | rfl | (simp only [List.length_drop, List.length_take]; rfl)) ?_; (with_reducible refine (eggboxref19_Vars.calls k _ _ l0_0 _ _ l0_1 a0_2 t128 t129 _ ?side1 ?side2 ?side3 ?side4 A7.out).mono ?_); (case side1 => repeat (first | exact (Kd.C_below HR0_0.out HB.out) | (with_reducible refine Kd.C_alloc ?_ _) | (with_reducible refine Kd.C_drewN ?_ _) | (with_reducible refine Kd.C_drew ?_))); (case side2 => exact HC0_0.out); (case side3 => repeat (first | exact (Kd.C_below HR0_1.out HB.out) | (with_reducible refine Kd.C_alloc ?_ _) | (with_reducible refine Kd.C_drewN ?_ _) | (with_reducible refine Kd.C_drew ?_))); (case side4 => exact HC0_1.out); rintro e w32 ⟨rfl, hb⟩; refine ⟨_, rfl, ?_⟩; have n0_ := Aside0.mk (Kd.R_below (by (with_reducible repeat (first | apply Kd.R_alloc | apply Kd.R_drewN | apply Kd.R_drew)); exact HO107.out) hb); have n1_ := Aside0.mk (Kd.R_below (by (with_reducible repeat (first | apply Kd.R_alloc | apply Kd.R_drewN | apply Kd.R_drew)); exact HO110.out) hb); have n2_ := Aside0.mk (Kd.R_below (by (with_reducible repeat (first | apply Kd.R_alloc | apply Kd.R_drewN | apply Kd.R_drew)); exact HO119.out) hb); have n3_ := Aside0.mk (Kd.R_below (by (with_reducible repeat (first | apply Kd.R_alloc | apply Kd.R_drewN | apply Kd.R_drew)); exact HO122.out) hb); have n4_ := Aside0.mk (blk_below (g := gb104) (o := .cells #[.slice A0_0 l0_0.length c0_0, .slice A0_1 l0_1.length c0_1, .bool a0_2] 24 (0, 0)) (by (with_reducible repeat (first | refine blk_drewN ?_ _ | refine blk_drew ?_ | refine blk_alloc ?_ _)); exact BK104.out) hb); have n5_ := Aside0.mk (blk_below (g := gb112) (o := .cells #[.slice Ao14 t105.length co14, .slice Ao17 t108.length co17, .bool t111] 24 (0, 0)) (by (with_reducible repeat (first | refine blk_drewN ?_ _ | refine blk_drew ?_ | refine blk_alloc ?_ _)); exact BK112.out) hb); have n6_ := Aside0.mk (blk_below (g := gb125) (o := .cells #[.slice Ao24 t117.length co24, .slice Ao28 t120.length co28, .bool t123] 24 (0, 0)) (by (with_reducible repeat (first | refine blk_drewN ?_ _ | refine blk_drew ?_ | refine blk_alloc ?_ _)); exact BK125.out) hb); have n7_ := Aside0.mk (below_step (by repeat (first | (with_reducible first | exact HB.out | apply below_alloc | apply pw_below_drewN | apply below_drew1 | refine below_set ?_ GE104.out | refine below_set ?_ GE112.out | refine below_set ?_ GE125.out) | exact HB.out)) hb); clear HO107; clear HO110; clear HO119; clear HO122; clear BK104; clear BK112; clear BK125; clear HB; have HO107 := n0_; have HO110 := n1_; have HO119 := n2_; have HO122 := n3_; have BK104 := n4_; have BK112 := n5_; have BK125 := n6_; have HB := n7_; clear n0_ n1_ n2_ n3_ n4_ n5_ n6_ n7_; (try clear hb); (try clear hb2); (try clear hk); (try clear hi); have hcz33_0 : w32.cell? ⟨gb104, 0, none⟩ = some (.slice A0_0 l0_0.length c0_0) := (blk_cell BK104.out 0).trans rfl; have hcz33_1 : w32.cell? ⟨gb104, 1, none⟩ = some (.slice A0_1 l0_1.length c0_1) := (blk_cell BK104.out 1).trans rfl; have hcz33_2 : w32.cell? ⟨gb104, 2, none⟩ = some (.bool a0_2) := (blk_cell BK104.out 2).trans rfl; have hfz33_0 := blk_frozen BK104.out 0; have hfz33_1 := blk_frozen BK104.out 1; have hfz33_2 := blk_frozen BK104.out 2) | ((with_reducible refine gate_callee (f := 23) rfl ?_); refine goesL_ (some 45) rfl rfl Try.func23 (by kernel_rfl) rfl #[.agg #[.slice A0_0 l0_0.length c0_0, .slice A0_1 l0_1.length c0_1, .bool a0_2]] rfl (by (try simp only [List.map_toArray, List.map_cons, List.map_nil]); first | done | rfl | (simp only [List.length_drop, List.length_take]; rfl)) ?_; (with_reducible refine (eggboxref19_Turn.calls k _ _ l0_0 _ _ l0_1 a0_2 t130 t133 t136 t137 _ ?side1 ?side2 ?side3 ?side4 A8.out).mono ?_); (case side1 => repeat (first | exact (Kd.C_below HR0_0.out HB.out) | (with_reducible refine Kd.C_alloc ?_ _) | (with_reducible refine Kd.C_drewN ?_ _) | (with_reducible refine Kd.C_drew ?_))); (case side2 => exact HC0_0.out); (case side3 => repeat (first | exact (Kd.C_below HR0_1.out HB.out) | (with_reducible refine Kd.C_alloc ?_ _) | (with_reducible refine Kd.C_drewN ?_ _) | (with_reducible refine Kd.C_drew ?_))); (case side4 => exact HC0_1.out); rintro e w34 ⟨v131, v134, rfl, ho0, ho1, hb⟩; refine ⟨_, rfl, ?_⟩; have n0_ := Aside0.mk (Kd.R_mono (Kd.R_told (Kd.R_told (Kd.R_old (by (with_reducible repeat (first | apply Kd.R_alloc | apply Kd.R_drewN | apply Kd.R_drew)); exact HO107.out) hb) (Kd.R_base ho0)) (Kd.R_base ho1)) (fun _ h_ => h_.1)); have n1_ := Aside0.mk (Kd.R_mono (Kd.R_told (Kd.R_told (Kd.R_old (by (with_reducible repeat (first | apply Kd.R_alloc | apply Kd.R_drewN | apply Kd.R_drew)); exact HO110.out) hb) (Kd.R_base ho0)) (Kd.R_base ho1)) (fun _ h_ => h_.1)); have n2_ := Aside0.mk (Kd.R_mono (Kd.R_told (Kd.R_told (Kd.R_old (by (with_reducible repeat (first | apply Kd.R_alloc | apply Kd.R_drewN | apply Kd.R_drew)); exact HO119.out) hb) (Kd.R_base ho0)) (Kd.R_base ho1)) (fun _ h_ => h_.1)); have n3_ := Aside0.mk (Kd.R_mono (Kd.R_told (Kd.R_told (Kd.R_old (by (with_reducible repeat (first | apply Kd.R_alloc | apply Kd.R_drewN | apply Kd.R_drew)); exact HO122.out) hb) (Kd.R_base ho0)) (Kd.R_base ho1)) (fun _ h_ => h_.1)); have n4_ := Aside0.mk (Kd.R_lower (Kd.R_new' (Kd.R_new' (Kd.R_new' (Kd.R_new' ho0 (Kd.R_lt (by (with_reducible repeat (first | apply Kd.R_alloc | apply Kd.R_drewN | apply Kd.R_drew)); exact HO107.out))) (Kd.R_lt (by (with_reducible repeat (first | apply Kd.R_alloc | apply Kd.R_drewN | apply Kd.R_drew)); exact HO110.out))) (Kd.R_lt (by (with_reducible repeat (first | apply Kd.R_alloc | apply Kd.R_drewN | apply Kd.R_drew)); exact HO119.out))) (Kd.R_lt (by (with_reducible repeat (first | apply Kd.R_alloc | apply Kd.R_drewN | apply Kd.R_drew)); exact HO122.out))) (below_size (by repeat (first | (with_reducible first | exact HB.out | apply below_alloc | apply pw_below_drewN | apply below_drew1 | refine below_set ?_ GE104.out | refine below_set ?_ GE112.out | refine below_set ?_ GE125.out) | exact HB.out)))); have n5_ := Aside0.mk (Kd.R_lower (Kd.R_new' (Kd.R_new' (Kd.R_new' (Kd.R_new' ho1 (Kd.R_lt (by (with_reducible repeat (first | apply Kd.R_alloc | apply Kd.R_drewN | apply Kd.R_drew)); exact HO107.out))) (Kd.R_lt (by (with_reducible repeat (first | apply Kd.R_alloc | apply Kd.R_drewN | apply Kd.R_drew)); exact HO110.out))) (Kd.R_lt (by (with_reducible repeat (first | apply Kd.R_alloc | apply Kd.R_drewN | apply Kd.R_drew)); exact HO119.out))) (Kd.R_lt (by (with_reducible repeat (first | apply Kd.R_alloc | apply Kd.R_drewN | apply Kd.R_drew)); exact HO122.out))) (below_size (by repeat (first | (with_reducible first | exact HB.out | apply below_alloc | apply pw_below_drewN | apply below_drew1 | refine below_set ?_ GE104.out | refine below_set ?_ GE112.out | refine below_set ?_ GE125.out) | exact HB.out)))); have n6_ := Aside0.mk (blk_below (g := gb104) (o := .cells #[.slice A0_0 l0_0.length c0_0, .slice A0_1 l0_1.length c0_1, .bool a0_2] 24 (0, 0)) (by (with_reducible repeat (first | refine blk_drewN ?_ _ | refine blk_drew ?_ | refine blk_alloc ?_ _)); exact BK104.out) hb); have n7_ := Aside0.mk (blk_below (g := gb112) (o := .cells #[.slice Ao14 t105.length co14, .slice Ao17 t108.length co17, .bool t111] 24 (0, 0)) (by (with_reducible repeat (first | refine blk_drewN ?_ _ | refine blk_drew ?_ | refine blk_alloc ?_ _)); exact BK112.out) hb); have n8_ := Aside0.mk (blk_below (g := gb125) (o := .cells #[.slice Ao24 t117.length co24, .slice Ao28 t120.length co28, .bool t123] 24 (0, 0)) (by (with_reducible repeat (first | refine blk_drewN ?_ _ | refine blk_drew ?_ | refine blk_alloc ?_ _)); exact BK125.out) hb); have n9_ := Aside0.mk (below_step (by repeat (first | (with_reducible first | exact HB.out | apply below_alloc | apply pw_below_drewN | apply below_drew1 | refine below_set ?_ GE104.out | refine below_set ?_ GE112.out | refine below_set ?_ GE125.out) | exact HB.out)) hb); clear HO107; clear HO110; clear HO119; clear HO122; clear BK104; clear BK112; clear BK125; clear HB; have HO107 := n0_; have HO110 := n1_; have HO119 := n2_; have HO122 := n3_; have HO132 := n4_; have HO135 := n5_; have BK104 := n6_; have BK112 := n7_; have BK125 := n8_; have HB := n9_; clear n0_ n1_ n2_ n3_ n4_ n5_ n6_ n7_ n8_ n9_; (try clear hb); (try clear hb2); (try clear hk); (try clear hi); (try clear ho0); (try clear ho1)) | ((with_reducible refine gate_dst (N := 14) rfl ?_); refine box_event ?hg (N := 14) ?hd (cs := #[.slice none 0 0, .slice none 0 0, .bool false]) (t := 24) ?hr ?_; (case hd => rfl); (case hg => rfl); (case hr => first | (go_simp; done) | (go_simp; rfl)); intro gb138 hg w35 hbox hb; have n0_ := Aside0.mk (Kd.R_below (by (with_reducible repeat (first | apply Kd.R_alloc | apply Kd.R_drewN | apply Kd.R_drew)); exact HO107.out) hb); have n1_ := Aside0.mk (Kd.R_below (by (with_reducible repeat (first | apply Kd.R_alloc | apply Kd.R_drewN | apply Kd.R_drew)); exact HO110.out) hb); have n2_ := Aside0.mk (Kd.R_below (by (with_reducible repeat (first | apply Kd.R_alloc | apply Kd.R_drewN | apply Kd.R_drew)); exact HO119.out) hb); have n3_ := Aside0.mk (Kd.R_below (by (with_reducible repeat (first | apply Kd.R_alloc | apply Kd.R_drewN | apply Kd.R_drew)); exact HO122.out) hb); have n4_ := Aside0.mk (Kd.R_below (by (with_reducible repeat (first | apply Kd.R_alloc | apply Kd.R_drewN | apply Kd.R_drew)); exact HO132.out) hb); have n5_ := Aside0.mk (Kd.R_below (by (with_reducible repeat (first | apply Kd.R_alloc | apply Kd.R_drewN | apply Kd.R_drew)); exact HO135.out) hb); have n6_ := Aside0.mk (blk_below (g := gb104) (o := .cells #[.slice A0_0 l0_0.length c0_0, .slice A0_1 l0_1.length c0_1, .bool a0_2] 24 (0, 0)) (by (with_reducible repeat (first | refine blk_drewN ?_ _ | refine blk_drew ?_ | refine blk_alloc ?_ _)); exact BK104.out) hb); have n7_ := Aside0.mk (blk_below (g := gb112) (o := .cells #[.slice Ao14 t105.length co14, .slice Ao17 t108.length co17, .bool t111] 24 (0, 0)) (by (with_reducible repeat (first | refine blk_drewN ?_ _ | refine blk_drew ?_ | refine blk_alloc ?_ _)); exact BK112.out) hb); have n8_ := Aside0.mk (blk_below (g := gb125) (o := .cells #[.slice Ao24 t117.length co24, .slice Ao28 t120.length co28, .bool t123] 24 (0, 0)) (by (with_reducible repeat (first | refine blk_drewN ?_ _ | refine blk_drew ?_ | refine blk_alloc ?_ _)); exact BK125.out) hb); have n9_ := Aside0.mk (below_step (by repeat (first | (with_reducible first | exact HB.out | apply below_alloc | apply pw_below_drewN | apply below_drew1 | refine below_set ?_ GE104.out | refine below_set ?_ GE112.out | refine below_set ?_ GE125.out) | exact HB.out)) hb); have n10_ := Aside0.mk (hbox); have n11_ := Aside0.mk ((by rw [hg]; exact (below_size (by repeat (first | (with_reducible first | exact HB.out | apply below_alloc | apply pw_below_drewN | apply below_drew1 | refine below_set ?_ GE104.out | refine below_set ?_ GE112.out | refine below_set ?_ GE125.out) | exact HB.out))) : w.heap.size ≤ gb138)); have n12_ := Aside0.mk ((by rw [hg]; exact (below_size (by repeat (first | (with_reducible first | exact HB.out | apply below_alloc | apply pw_below_drewN | apply below_drew1 | refine below_set ?_ GE104.out | refine below_set ?_ GE112.out | refine below_set ?_ GE125.out) | exact HB.out))) : w.heap.size ≤ gb138)); have n13_ := Aside0.mk ((by rw [hg]; exact Nat.ne_of_lt (blk_lt (g := gb104) (o := .cells #[.slice A0_0 l0_0.length c0_0, .slice A0_1 l0_1.length c0_1, .bool a0_2] 24 (0, 0)) (by (with_reducible repeat (first | refine blk_drewN ?_ _ | refine blk_drew ?_ | refine blk_alloc ?_ _)); exact BK104.out)) : gb104 ≠ gb138)); have n14_ := Aside0.mk ((by rw [hg]; exact Nat.ne_of_gt (blk_lt (g := gb104) (o := .cells #[.slice A0_0 l0_0.length c0_0, .slice A0_1 l0_1.length c0_1, .bool a0_2] 24 (0, 0)) (by (with_reducible repeat (first | refine blk_drewN ?_ _ | refine blk_drew ?_ | refine blk_alloc ?_ _)); exact BK104.out)) : gb138 ≠ gb104)); have n15_ := Aside0.mk ((by rw [hg]; exact Nat.ne_of_lt (blk_lt (g := gb112) (o := .cells #[.slice Ao14 t105.length co14, .slice Ao17 t108.length co17, .bool t111] 24 (0, 0)) (by (with_reducible repeat (first | refine blk_drewN ?_ _ | refine blk_drew ?_ | refine blk_alloc ?_ _)); exact BK112.out)) : gb112 ≠ gb138)); have n16_ := Aside0.mk ((by rw [hg]; exact Nat.ne_of_gt (blk_lt (g := gb112) (o := .cells #[.slice Ao14 t105.length co14, .slice Ao17 t108.length co17, .bool t111] 24 (0, 0)) (by (with_reducible repeat (first | refine blk_drewN ?_ _ | refine blk_drew ?_ | refine blk_alloc ?_ _)); exact BK112.out)) : gb138 ≠ gb112)); have n17_ := Aside0.mk ((by rw [hg]; exact Nat.ne_of_lt (blk_lt (g := gb125) (o := .cells #[.slice Ao24 t117.length co24, .slice Ao28 t120.length co28, .bool t123] 24 (0, 0)) (by (with_reducible repeat (first | refine blk_drewN ?_ _ | refine blk_drew ?_ | refine blk_alloc ?_ _)); exact BK125.out)) : gb125 ≠ gb138)); have n18_ := Aside0.mk ((by rw [hg]; exact Nat.ne_of_gt (blk_lt (g := gb125) (o := .cells #[.slice Ao24 t117.length co24, .slice Ao28 t120.length co28, .bool t123] 24 (0, 0)) (by (with_reducible repeat (first | refine blk_drewN ?_ _ | refine blk_drew ?_ | refine blk_alloc ?_ _)); exact BK125.out)) : gb138 ≠ gb125)); clear HO107; clear HO110; clear HO119; clear HO122; clear HO132; clear HO135; clear BK104; clear BK112; clear BK125; clear HB; have HO107 := n0_; have HO110 := n1_; have HO119 := n2_; have HO122 := n3_; have HO132 := n4_; have HO135 := n5_; have BK104 := n6_; have BK112 := n7_; have BK125 := n8_; have HB := n9_; have BK138 := n10_; have GW138 := n11_; have GE138 := n12_; have NB104_138 := n13_; have NB138_104 := n14_; have NB112_138 := n15_; have NB138_112 := n16_; have NB125_138 := n17_; have NB138_125 := n18_; clear n0_ n1_ n2_ n3_ n4_ n5_ n6_ n7_ n8_ n9_ n10_ n11_ n12_ n13_ n14_ n15_ n16_ n17_ n18_; clear hb hbox hg; obtain ⟨Ao36, co36, eo36⟩ := Kd.R_slice HO132.out; subst eo36; have hnb37 := NB138_104.out; have hnc37 := NB104_138.out; have hnb38 := NB138_112.out; have hnc38 := NB112_138.out; have hnb39 := NB138_125.out; have hnc39 := NB125_138.out; have hcz40_0 : w35.cell? ⟨gb138, 0, none⟩ = some (.slice none 0 0) := (blk_cell BK138.out 0).trans rfl; have hcz40_1 : w35.cell? ⟨gb138, 1, none⟩ = some (.slice none 0 0) := (blk_cell BK138.out 1).trans rfl; have hcz40_2 : w35.cell? ⟨gb138, 2, none⟩ = some (.bool false) := (blk_cell BK138.out 2).trans rfl; have hfz40_0 := blk_frozen BK138.out 0; have hfz40_1 := blk_frozen BK138.out 1; have hfz40_2 := blk_frozen BK138.out 2; obtain ⟨Ao41, co41, eo41⟩ := Kd.R_slice HO135.out; subst eo41))
 (try simp only [Act.put, List.setIfInBounds_toArray, List.set_cons_zero, List.set_cons_succ])
 go_cut [91] (fun v91 wc => ∃ (kq : Nat) (x91_8 : Bool), v91 = .bool x91_8 ∧ Aside0 (eggboxlaw19_TermsPrints.j0 kq x91_8 t105 t108 t111 t117 t120 t123 t130 t133 t136 = some r) ∧ Aside0 (kq ≤ k) ∧ Aside0 (Kd.R k97 97 wc w.heap.size (fun k_ => some k_ ≠ ((.slice Ao17 t108.length co17) : Value).ownBlock ∧ some k_ ≠ ((.slice Ao24 t117.length co24) : Value).ownBlock ∧ some k_ ≠ ((.slice Ao28 t120.length co28) : Value).ownBlock ∧ some k_ ≠ ((.slice Ao36 t130.length co36) : Value).ownBlock ∧ some k_ ≠ ((.slice Ao41 t133.length co41) : Value).ownBlock) (.slice Ao14 t105.length co14) t105) ∧ Aside0 (Kd.R k97 97 wc w.heap.size (fun k_ => some k_ ≠ ((.slice Ao14 t105.length co14) : Value).ownBlock ∧ some k_ ≠ ((.slice Ao24 t117.length co24) : Value).ownBlock ∧ some k_ ≠ ((.slice Ao28 t120.length co28) : Value).ownBlock ∧ some k_ ≠ ((.slice Ao36 t130.length co36) : Value).ownBlock ∧ some k_ ≠ ((.slice Ao41 t133.length co41) : Value).ownBlock) (.slice Ao17 t108.length co17) t108) ∧ Aside0 (Kd.R k97 97 wc w.heap.size (fun k_ => some k_ ≠ ((.slice Ao14 t105.length co14) : Value).ownBlock ∧ some k_ ≠ ((.slice Ao17 t108.length co17) : Value).ownBlock ∧ some k_ ≠ ((.slice Ao28 t120.length co28) : Value).ownBlock ∧ some k_ ≠ ((.slice Ao36 t130.length co36) : Value).ownBlock ∧ some k_ ≠ ((.slice Ao41 t133.length co41) : Value).ownBlock) (.slice Ao24 t117.length co24) t117) ∧ Aside0 (Kd.R k97 97 wc w.heap.size (fun k_ => some k_ ≠ ((.slice Ao14 t105.length co14) : Value).ownBlock ∧ some k_ ≠ ((.slice Ao17 t108.length co17) : Value).ownBlock ∧ some k_ ≠ ((.slice Ao24 t117.length co24) : Value).ownBlock ∧ some k_ ≠ ((.slice Ao36 t130.length co36) : Value).ownBlock ∧ some k_ ≠ ((.slice Ao41 t133.length co41) : Value).ownBlock) (.slice Ao28 t120.length co28) t120) ∧ Aside0 (Kd.R k97 97 wc w.heap.size (fun k_ => some k_ ≠ ((.slice Ao14 t105.length co14) : Value).ownBlock ∧ some k_ ≠ ((.slice Ao17 t108.length co17) : Value).ownBlock ∧ some k_ ≠ ((.slice Ao24 t117.length co24) : Value).ownBlock ∧ some k_ ≠ ((.slice Ao28 t120.length co28) : Value).ownBlock ∧ some k_ ≠ ((.slice Ao41 t133.length co41) : Value).ownBlock) (.slice Ao36 t130.length co36) t130) ∧ Aside0 (Kd.R k97 97 wc w.heap.size (fun k_ => some k_ ≠ ((.slice Ao14 t105.length co14) : Value).ownBlock ∧ some k_ ≠ ((.slice Ao17 t108.length co17) : Value).ownBlock ∧ some k_ ≠ ((.slice Ao24 t117.length co24) : Value).ownBlock ∧ some k_ ≠ ((.slice Ao28 t120.length co28) : Value).ownBlock ∧ some k_ ≠ ((.slice Ao36 t130.length co36) : Value).ownBlock) (.slice Ao41 t133.length co41) t133) ∧ Aside0 (wc.heap[gb104]? = some (.cells #[(.slice A0_0 l0_0.length c0_0), (.slice A0_1 l0_1.length c0_1), .bool a0_2] 24 (0, 0))) ∧ Aside0 (wc.heap[gb112]? = some (.cells #[(.slice Ao14 t105.length co14), (.slice Ao17 t108.length co17), .bool t111] 24 (0, 0))) ∧ Aside0 (wc.heap[gb125]? = some (.cells #[(.slice Ao24 t117.length co24), (.slice Ao28 t120.length co28), .bool t123] 24 (0, 0))) ∧ Aside0 (wc.heap[gb138]? = some (.cells #[(.slice Ao36 t130.length co36), (.slice Ao41 t133.length co41), .bool t136] 24 (0, 0))) ∧ Aside0 (Below w.heap.size w wc))
 case first =>
  have H := HC9.out
  clear HC9
  replace H := Option.bind_eq_some_iff.mp H
  obtain ⟨t139, A420, H⟩ := H
  replace H : ((eggboxlaw19_num.f t139).bind fun t140 => ((eggboxref19_Check.f k l0_0 l0_1 a0_2).bind fun t141 => (if t140 = t141 then (if t113.toList = t126.toList then ((eggboxlaw19_num.f t114).bind fun t142 => (if t142 = t127 then (if t115.toList = t128.toList then ((eggboxlaw19_num.f t116).bind fun t143 => (if t143 = t129 then ((eggboxlaw19_num.f t124).bind fun t144 => (if t144 = t137 then ((eggboxlaw19_Same.f k t105 t108 t111 l0_0 l0_1 a0_2).bind fun t145 => (if t145 = true then ((eggboxlaw19_knows.f k).bind fun t146 => (eggboxlaw19_TermsPrints.j0 k (!t146) t105 t108 t111 t117 t120 t123 t130 t133 t136)) else (eggboxlaw19_TermsPrints.j0 k true t105 t108 t111 t117 t120 t123 t130 t133 t136))) else (eggboxlaw19_TermsPrints.j0 k true t105 t108 t111 t117 t120 t123 t130 t133 t136))) else (eggboxlaw19_TermsPrints.j0 k true t105 t108 t111 t117 t120 t123 t130 t133 t136))) else (eggboxlaw19_TermsPrints.j0 k true t105 t108 t111 t117 t120 t123 t130 t133 t136)) else (eggboxlaw19_TermsPrints.j0 k true t105 t108 t111 t117 t120 t123 t130 t133 t136))) else (eggboxlaw19_TermsPrints.j0 k true t105 t108 t111 t117 t120 t123 t130 t133 t136)) else (eggboxlaw19_TermsPrints.j0 k true t105 t108 t111 t117 t120 t123 t130 t133 t136)))) = some r := H
  have A42 := Aside0.mk A420
  clear A420
  replace H := Option.bind_eq_some_iff.mp H
  obtain ⟨t140, A430, H⟩ := H
  replace H : ((eggboxref19_Check.f k l0_0 l0_1 a0_2).bind fun t141 => (if t140 = t141 then (if t113.toList = t126.toList then ((eggboxlaw19_num.f t114).bind fun t142 => (if t142 = t127 then (if t115.toList = t128.toList then ((eggboxlaw19_num.f t116).bind fun t143 => (if t143 = t129 then ((eggboxlaw19_num.f t124).bind fun t144 => (if t144 = t137 then ((eggboxlaw19_Same.f k t105 t108 t111 l0_0 l0_1 a0_2).bind fun t145 => (if t145 = true then ((eggboxlaw19_knows.f k).bind fun t146 => (eggboxlaw19_TermsPrints.j0 k (!t146) t105 t108 t111 t117 t120 t123 t130 t133 t136)) else (eggboxlaw19_TermsPrints.j0 k true t105 t108 t111 t117 t120 t123 t130 t133 t136))) else (eggboxlaw19_TermsPrints.j0 k true t105 t108 t111 t117 t120 t123 t130 t133 t136))) else (eggboxlaw19_TermsPrints.j0 k true t105 t108 t111 t117 t120 t123 t130 t133 t136))) else (eggboxlaw19_TermsPrints.j0 k true t105 t108 t111 t117 t120 t123 t130 t133 t136)) else (eggboxlaw19_TermsPrints.j0 k true t105 t108 t111 t117 t120 t123 t130 t133 t136))) else (eggboxlaw19_TermsPrints.j0 k true t105 t108 t111 t117 t120 t123 t130 t133 t136)) else (eggboxlaw19_TermsPrints.j0 k true t105 t108 t111 t117 t120 t123 t130 t133 t136))) = some r := H
  have A43 := Aside0.mk A430
  clear A430
  replace H := Option.bind_eq_some_iff.mp H
  obtain ⟨t141, A440, H⟩ := H
  replace H : (if t140 = t141 then (if t113.toList = t126.toList then ((eggboxlaw19_num.f t114).bind fun t142 => (if t142 = t127 then (if t115.toList = t128.toList then ((eggboxlaw19_num.f t116).bind fun t143 => (if t143 = t129 then ((eggboxlaw19_num.f t124).bind fun t144 => (if t144 = t137 then ((eggboxlaw19_Same.f k t105 t108 t111 l0_0 l0_1 a0_2).bind fun t145 => (if t145 = true then ((eggboxlaw19_knows.f k).bind fun t146 => (eggboxlaw19_TermsPrints.j0 k (!t146) t105 t108 t111 t117 t120 t123 t130 t133 t136)) else (eggboxlaw19_TermsPrints.j0 k true t105 t108 t111 t117 t120 t123 t130 t133 t136))) else (eggboxlaw19_TermsPrints.j0 k true t105 t108 t111 t117 t120 t123 t130 t133 t136))) else (eggboxlaw19_TermsPrints.j0 k true t105 t108 t111 t117 t120 t123 t130 t133 t136))) else (eggboxlaw19_TermsPrints.j0 k true t105 t108 t111 t117 t120 t123 t130 t133 t136)) else (eggboxlaw19_TermsPrints.j0 k true t105 t108 t111 t117 t120 t123 t130 t133 t136))) else (eggboxlaw19_TermsPrints.j0 k true t105 t108 t111 t117 t120 t123 t130 t133 t136)) else (eggboxlaw19_TermsPrints.j0 k true t105 t108 t111 t117 t120 t123 t130 t133 t136)) = some r := H
  have A44 := Aside0.mk A440
  clear A440
  by_cases c45 : t140 = t141
  · rw [if_pos c45] at H
    have c45b0 : (t140 == t141) = true := beq_iff_eq.mpr c45
    have c45b1 : (t140 != t141) = false := bne_eq_false_iff_eq.mpr c45
    clear c45
    (first | rw [c45b0] | (simp only [i64_w, i32_w]; rw [c45b0]) | skip)
    by_cases c46 : t113.toList = t126.toList
    · rw [if_pos c46] at H
      have c46b0 : (t113.toList == t126.toList) = true := beq_iff_eq.mpr c46
      have c46b1 : (t113.toList != t126.toList) = false := bne_eq_false_iff_eq.mpr c46
      clear c46
      replace H := Option.bind_eq_some_iff.mp H
      obtain ⟨t142, A470, H⟩ := H
      replace H : (if t142 = t127 then (if t115.toList = t128.toList then ((eggboxlaw19_num.f t116).bind fun t143 => (if t143 = t129 then ((eggboxlaw19_num.f t124).bind fun t144 => (if t144 = t137 then ((eggboxlaw19_Same.f k t105 t108 t111 l0_0 l0_1 a0_2).bind fun t145 => (if t145 = true then ((eggboxlaw19_knows.f k).bind fun t146 => (eggboxlaw19_TermsPrints.j0 k (!t146) t105 t108 t111 t117 t120 t123 t130 t133 t136)) else (eggboxlaw19_TermsPrints.j0 k true t105 t108 t111 t117 t120 t123 t130 t133 t136))) else (eggboxlaw19_TermsPrints.j0 k true t105 t108 t111 t117 t120 t123 t130 t133 t136))) else (eggboxlaw19_TermsPrints.j0 k true t105 t108 t111 t117 t120 t123 t130 t133 t136))) else (eggboxlaw19_TermsPrints.j0 k true t105 t108 t111 t117 t120 t123 t130 t133 t136)) else (eggboxlaw19_TermsPrints.j0 k true t105 t108 t111 t117 t120 t123 t130 t133 t136)) = some r := H
      have A47 := Aside0.mk A470
      clear A470
      by_cases c48 : t142 = t127
      · rw [if_pos c48] at H
        have c48b0 : (t142 == t127) = true := beq_iff_eq.mpr c48
        have c48b1 : (t142 != t127) = false := bne_eq_false_iff_eq.mpr c48
        clear c48
        by_cases c49 : t115.toList = t128.toList
        · rw [if_pos c49] at H
          have c49b0 : (t115.toList == t128.toList) = true := beq_iff_eq.mpr c49
          have c49b1 : (t115.toList != t128.toList) = false := bne_eq_false_iff_eq.mpr c49
          clear c49
          replace H := Option.bind_eq_some_iff.mp H
          obtain ⟨t143, A500, H⟩ := H
          replace H : (if t143 = t129 then ((eggboxlaw19_num.f t124).bind fun t144 => (if t144 = t137 then ((eggboxlaw19_Same.f k t105 t108 t111 l0_0 l0_1 a0_2).bind fun t145 => (if t145 = true then ((eggboxlaw19_knows.f k).bind fun t146 => (eggboxlaw19_TermsPrints.j0 k (!t146) t105 t108 t111 t117 t120 t123 t130 t133 t136)) else (eggboxlaw19_TermsPrints.j0 k true t105 t108 t111 t117 t120 t123 t130 t133 t136))) else (eggboxlaw19_TermsPrints.j0 k true t105 t108 t111 t117 t120 t123 t130 t133 t136))) else (eggboxlaw19_TermsPrints.j0 k true t105 t108 t111 t117 t120 t123 t130 t133 t136)) = some r := H
          have A50 := Aside0.mk A500
          clear A500
          by_cases c51 : t143 = t129
          · rw [if_pos c51] at H
            have c51b0 : (t143 == t129) = true := beq_iff_eq.mpr c51
            have c51b1 : (t143 != t129) = false := bne_eq_false_iff_eq.mpr c51
            clear c51
            replace H := Option.bind_eq_some_iff.mp H
            obtain ⟨t144, A520, H⟩ := H
            replace H : (if t144 = t137 then ((eggboxlaw19_Same.f k t105 t108 t111 l0_0 l0_1 a0_2).bind fun t145 => (if t145 = true then ((eggboxlaw19_knows.f k).bind fun t146 => (eggboxlaw19_TermsPrints.j0 k (!t146) t105 t108 t111 t117 t120 t123 t130 t133 t136)) else (eggboxlaw19_TermsPrints.j0 k true t105 t108 t111 t117 t120 t123 t130 t133 t136))) else (eggboxlaw19_TermsPrints.j0 k true t105 t108 t111 t117 t120 t123 t130 t133 t136)) = some r := H
            have A52 := Aside0.mk A520
            clear A520
            by_cases c53 : t144 = t137
            · rw [if_pos c53] at H
              have c53b0 : (t144 == t137) = true := beq_iff_eq.mpr c53
              have c53b1 : (t144 != t137) = false := bne_eq_false_iff_eq.mpr c53
              clear c53
              replace H := Option.bind_eq_some_iff.mp H
              obtain ⟨t145, A540, H⟩ := H
              replace H : (if t145 = true then ((eggboxlaw19_knows.f k).bind fun t146 => (eggboxlaw19_TermsPrints.j0 k (!t146) t105 t108 t111 t117 t120 t123 t130 t133 t136)) else (eggboxlaw19_TermsPrints.j0 k true t105 t108 t111 t117 t120 t123 t130 t133 t136)) = some r := H
              have A54 := Aside0.mk A540
              clear A540
              by_cases c55 : t145 = true
              · subst c55
                have H1 : ((eggboxlaw19_knows.f k).bind fun t146 => (eggboxlaw19_TermsPrints.j0 k (!t146) t105 t108 t111 t117 t120 t123 t130 t133 t136)) = some r := by rw [if_pos rfl] at H; exact H
                clear H
                have H := H1
                clear H1
                replace H := Option.bind_eq_some_iff.mp H
                obtain ⟨t146, A560, H⟩ := H
                replace H : (eggboxlaw19_TermsPrints.j0 k (!t146) t105 t108 t111 t117 t120 t123 t130 t133 t136) = some r := H
                have A56 := Aside0.mk A560
                clear A560
                have H' := Aside0.mk H
                clear H
                try go_wp2
                have n0_ : Aside0 (Kd.R k97 97 (((w35.setCell ⟨gb138, 0, none⟩ (.slice Ao36 t130.length co36)).setCell ⟨gb138, 1, none⟩ (.slice Ao41 t133.length co41)).setCell ⟨gb138, 2, none⟩ (.bool t136)) w.heap.size (fun k_ => some k_ ≠ (.slice Ao17 t108.length co17 : Value).ownBlock ∧ some k_ ≠ (.slice Ao24 t117.length co24 : Value).ownBlock ∧ some k_ ≠ (.slice Ao28 t120.length co28 : Value).ownBlock ∧ some k_ ≠ (.slice Ao36 t130.length co36 : Value).ownBlock ∧ some k_ ≠ (.slice Ao41 t133.length co41 : Value).ownBlock) (.slice Ao14 t105.length co14) t105) := ⟨by (with_reducible repeat (first | apply Kd.R_alloc | apply Kd.R_drewN | apply Kd.R_drew)); exact Kd.R_mono (Kd.R_far (p := ⟨gb138, 2, none⟩) (Kd.R_far (p := ⟨gb138, 1, none⟩) (Kd.R_far (p := ⟨gb138, 0, none⟩) (Kd.R_types HO107.out BK138.out (by decide)) (fun _ hk => hk.2) (.slice Ao36 t130.length co36)) (fun _ hk => hk.2) (.slice Ao41 t133.length co41)) (fun _ hk => hk.2) (.bool t136)) (fun _ hk => ⟨hk.1.1.1.1.1, ⟨hk.1.1.1.1.2, ⟨hk.1.1.1.2, ⟨hk.1.1.2, hk.1.2⟩⟩⟩⟩)⟩
                have n1_ : Aside0 (Kd.R k97 97 (((w35.setCell ⟨gb138, 0, none⟩ (.slice Ao36 t130.length co36)).setCell ⟨gb138, 1, none⟩ (.slice Ao41 t133.length co41)).setCell ⟨gb138, 2, none⟩ (.bool t136)) w.heap.size (fun k_ => some k_ ≠ (.slice Ao14 t105.length co14 : Value).ownBlock ∧ some k_ ≠ (.slice Ao24 t117.length co24 : Value).ownBlock ∧ some k_ ≠ (.slice Ao28 t120.length co28 : Value).ownBlock ∧ some k_ ≠ (.slice Ao36 t130.length co36 : Value).ownBlock ∧ some k_ ≠ (.slice Ao41 t133.length co41 : Value).ownBlock) (.slice Ao17 t108.length co17) t108) := ⟨by (with_reducible repeat (first | apply Kd.R_alloc | apply Kd.R_drewN | apply Kd.R_drew)); exact Kd.R_mono (Kd.R_far (p := ⟨gb138, 2, none⟩) (Kd.R_far (p := ⟨gb138, 1, none⟩) (Kd.R_far (p := ⟨gb138, 0, none⟩) (Kd.R_types HO110.out BK138.out (by decide)) (fun _ hk => hk.2) (.slice Ao36 t130.length co36)) (fun _ hk => hk.2) (.slice Ao41 t133.length co41)) (fun _ hk => hk.2) (.bool t136)) (fun _ hk => ⟨hk.1.1.1.1.1, ⟨hk.1.1.1.1.2, ⟨hk.1.1.1.2, ⟨hk.1.1.2, hk.1.2⟩⟩⟩⟩)⟩
                have n2_ : Aside0 (Kd.R k97 97 (((w35.setCell ⟨gb138, 0, none⟩ (.slice Ao36 t130.length co36)).setCell ⟨gb138, 1, none⟩ (.slice Ao41 t133.length co41)).setCell ⟨gb138, 2, none⟩ (.bool t136)) w.heap.size (fun k_ => some k_ ≠ (.slice Ao14 t105.length co14 : Value).ownBlock ∧ some k_ ≠ (.slice Ao17 t108.length co17 : Value).ownBlock ∧ some k_ ≠ (.slice Ao28 t120.length co28 : Value).ownBlock ∧ some k_ ≠ (.slice Ao36 t130.length co36 : Value).ownBlock ∧ some k_ ≠ (.slice Ao41 t133.length co41 : Value).ownBlock) (.slice Ao24 t117.length co24) t117) := ⟨by (with_reducible repeat (first | apply Kd.R_alloc | apply Kd.R_drewN | apply Kd.R_drew)); exact Kd.R_mono (Kd.R_far (p := ⟨gb138, 2, none⟩) (Kd.R_far (p := ⟨gb138, 1, none⟩) (Kd.R_far (p := ⟨gb138, 0, none⟩) (Kd.R_types HO119.out BK138.out (by decide)) (fun _ hk => hk.2) (.slice Ao36 t130.length co36)) (fun _ hk => hk.2) (.slice Ao41 t133.length co41)) (fun _ hk => hk.2) (.bool t136)) (fun _ hk => ⟨hk.1.1.1.1.2, ⟨hk.1.1.1.2, ⟨hk.1.1.1.1.1, ⟨hk.1.1.2, hk.1.2⟩⟩⟩⟩)⟩
                have n3_ : Aside0 (Kd.R k97 97 (((w35.setCell ⟨gb138, 0, none⟩ (.slice Ao36 t130.length co36)).setCell ⟨gb138, 1, none⟩ (.slice Ao41 t133.length co41)).setCell ⟨gb138, 2, none⟩ (.bool t136)) w.heap.size (fun k_ => some k_ ≠ (.slice Ao14 t105.length co14 : Value).ownBlock ∧ some k_ ≠ (.slice Ao17 t108.length co17 : Value).ownBlock ∧ some k_ ≠ (.slice Ao24 t117.length co24 : Value).ownBlock ∧ some k_ ≠ (.slice Ao36 t130.length co36 : Value).ownBlock ∧ some k_ ≠ (.slice Ao41 t133.length co41 : Value).ownBlock) (.slice Ao28 t120.length co28) t120) := ⟨by (with_reducible repeat (first | apply Kd.R_alloc | apply Kd.R_drewN | apply Kd.R_drew)); exact Kd.R_mono (Kd.R_far (p := ⟨gb138, 2, none⟩) (Kd.R_far (p := ⟨gb138, 1, none⟩) (Kd.R_far (p := ⟨gb138, 0, none⟩) (Kd.R_types HO122.out BK138.out (by decide)) (fun _ hk => hk.2) (.slice Ao36 t130.length co36)) (fun _ hk => hk.2) (.slice Ao41 t133.length co41)) (fun _ hk => hk.2) (.bool t136)) (fun _ hk => ⟨hk.1.1.1.1.2, ⟨hk.1.1.1.2, ⟨hk.1.1.1.1.1, ⟨hk.1.1.2, hk.1.2⟩⟩⟩⟩)⟩
                have n4_ : Aside0 (Kd.R k97 97 (((w35.setCell ⟨gb138, 0, none⟩ (.slice Ao36 t130.length co36)).setCell ⟨gb138, 1, none⟩ (.slice Ao41 t133.length co41)).setCell ⟨gb138, 2, none⟩ (.bool t136)) w.heap.size (fun k_ => some k_ ≠ (.slice Ao14 t105.length co14 : Value).ownBlock ∧ some k_ ≠ (.slice Ao17 t108.length co17 : Value).ownBlock ∧ some k_ ≠ (.slice Ao24 t117.length co24 : Value).ownBlock ∧ some k_ ≠ (.slice Ao28 t120.length co28 : Value).ownBlock ∧ some k_ ≠ (.slice Ao41 t133.length co41 : Value).ownBlock) (.slice Ao36 t130.length co36) t130) := ⟨by (with_reducible repeat (first | apply Kd.R_alloc | apply Kd.R_drewN | apply Kd.R_drew)); exact Kd.R_mono (Kd.R_far (p := ⟨gb138, 2, none⟩) (Kd.R_far (p := ⟨gb138, 1, none⟩) (Kd.R_far (p := ⟨gb138, 0, none⟩) (Kd.R_types HO132.out BK138.out (by decide)) (fun _ hk => hk.2) (.slice Ao36 t130.length co36)) (fun _ hk => hk.2) (.slice Ao41 t133.length co41)) (fun _ hk => hk.2) (.bool t136)) (fun _ hk => ⟨hk.1.1.1.1.2, ⟨hk.1.1.1.2, ⟨hk.1.1.2, ⟨hk.1.2, hk.1.1.1.1.1⟩⟩⟩⟩)⟩
                have n5_ : Aside0 (Kd.R k97 97 (((w35.setCell ⟨gb138, 0, none⟩ (.slice Ao36 t130.length co36)).setCell ⟨gb138, 1, none⟩ (.slice Ao41 t133.length co41)).setCell ⟨gb138, 2, none⟩ (.bool t136)) w.heap.size (fun k_ => some k_ ≠ (.slice Ao14 t105.length co14 : Value).ownBlock ∧ some k_ ≠ (.slice Ao17 t108.length co17 : Value).ownBlock ∧ some k_ ≠ (.slice Ao24 t117.length co24 : Value).ownBlock ∧ some k_ ≠ (.slice Ao28 t120.length co28 : Value).ownBlock ∧ some k_ ≠ (.slice Ao36 t130.length co36 : Value).ownBlock) (.slice Ao41 t133.length co41) t133) := ⟨by (with_reducible repeat (first | apply Kd.R_alloc | apply Kd.R_drewN | apply Kd.R_drew)); exact Kd.R_mono (Kd.R_far (p := ⟨gb138, 2, none⟩) (Kd.R_far (p := ⟨gb138, 1, none⟩) (Kd.R_far (p := ⟨gb138, 0, none⟩) (Kd.R_types HO135.out BK138.out (by decide)) (fun _ hk => hk.2) (.slice Ao36 t130.length co36)) (fun _ hk => hk.2) (.slice Ao41 t133.length co41)) (fun _ hk => hk.2) (.bool t136)) (fun _ hk => ⟨hk.1.1.1.1.2, ⟨hk.1.1.1.2, ⟨hk.1.1.2, ⟨hk.1.2, hk.1.1.1.1.1⟩⟩⟩⟩)⟩
                have n6_ : Aside0 ((((w35.setCell ⟨gb138, 0, none⟩ (.slice Ao36 t130.length co36)).setCell ⟨gb138, 1, none⟩ (.slice Ao41 t133.length co41)).setCell ⟨gb138, 2, none⟩ (.bool t136)).heap[gb104]? = some (.cells #[.slice A0_0 l0_0.length c0_0, .slice A0_1 l0_1.length c0_1, .bool a0_2] 24 (0, 0))) := ⟨by (with_reducible repeat (first | refine blk_drewN ?_ _ | refine blk_drew ?_ | refine blk_alloc ?_ _)); refine blk_far ?_ NB104_138.out _; (with_reducible repeat (first | refine blk_drewN ?_ _ | refine blk_drew ?_ | refine blk_alloc ?_ _)); refine blk_far ?_ NB104_138.out _; (with_reducible repeat (first | refine blk_drewN ?_ _ | refine blk_drew ?_ | refine blk_alloc ?_ _)); refine blk_far ?_ NB104_138.out _; (with_reducible repeat (first | refine blk_drewN ?_ _ | refine blk_drew ?_ | refine blk_alloc ?_ _)); exact BK104.out⟩
                have n7_ : Aside0 ((((w35.setCell ⟨gb138, 0, none⟩ (.slice Ao36 t130.length co36)).setCell ⟨gb138, 1, none⟩ (.slice Ao41 t133.length co41)).setCell ⟨gb138, 2, none⟩ (.bool t136)).heap[gb112]? = some (.cells #[.slice Ao14 t105.length co14, .slice Ao17 t108.length co17, .bool t111] 24 (0, 0))) := ⟨by (with_reducible repeat (first | refine blk_drewN ?_ _ | refine blk_drew ?_ | refine blk_alloc ?_ _)); refine blk_far ?_ NB112_138.out _; (with_reducible repeat (first | refine blk_drewN ?_ _ | refine blk_drew ?_ | refine blk_alloc ?_ _)); refine blk_far ?_ NB112_138.out _; (with_reducible repeat (first | refine blk_drewN ?_ _ | refine blk_drew ?_ | refine blk_alloc ?_ _)); refine blk_far ?_ NB112_138.out _; (with_reducible repeat (first | refine blk_drewN ?_ _ | refine blk_drew ?_ | refine blk_alloc ?_ _)); exact BK112.out⟩
                have n8_ : Aside0 ((((w35.setCell ⟨gb138, 0, none⟩ (.slice Ao36 t130.length co36)).setCell ⟨gb138, 1, none⟩ (.slice Ao41 t133.length co41)).setCell ⟨gb138, 2, none⟩ (.bool t136)).heap[gb125]? = some (.cells #[.slice Ao24 t117.length co24, .slice Ao28 t120.length co28, .bool t123] 24 (0, 0))) := ⟨by (with_reducible repeat (first | refine blk_drewN ?_ _ | refine blk_drew ?_ | refine blk_alloc ?_ _)); refine blk_far ?_ NB125_138.out _; (with_reducible repeat (first | refine blk_drewN ?_ _ | refine blk_drew ?_ | refine blk_alloc ?_ _)); refine blk_far ?_ NB125_138.out _; (with_reducible repeat (first | refine blk_drewN ?_ _ | refine blk_drew ?_ | refine blk_alloc ?_ _)); refine blk_far ?_ NB125_138.out _; (with_reducible repeat (first | refine blk_drewN ?_ _ | refine blk_drew ?_ | refine blk_alloc ?_ _)); exact BK125.out⟩
                have n9_ : Aside0 ((((w35.setCell ⟨gb138, 0, none⟩ (.slice Ao36 t130.length co36)).setCell ⟨gb138, 1, none⟩ (.slice Ao41 t133.length co41)).setCell ⟨gb138, 2, none⟩ (.bool t136)).heap[gb138]? = some (.cells #[.slice Ao36 t130.length co36, .slice Ao41 t133.length co41, .bool t136] 24 (0, 0))) := ⟨by (with_reducible repeat (first | refine blk_drewN ?_ _ | refine blk_drew ?_ | refine blk_alloc ?_ _)); refine blk_put (cs := #[.slice Ao36 t130.length co36, .slice Ao41 t133.length co41, .bool false]) ?_ 2 _ rfl; (with_reducible repeat (first | refine blk_drewN ?_ _ | refine blk_drew ?_ | refine blk_alloc ?_ _)); refine blk_put (cs := #[.slice Ao36 t130.length co36, .slice none 0 0, .bool false]) ?_ 1 _ rfl; (with_reducible repeat (first | refine blk_drewN ?_ _ | refine blk_drew ?_ | refine blk_alloc ?_ _)); refine blk_put (cs := #[.slice none 0 0, .slice none 0 0, .bool false]) ?_ 0 _ rfl; (with_reducible repeat (first | refine blk_drewN ?_ _ | refine blk_drew ?_ | refine blk_alloc ?_ _)); exact BK138.out⟩
                have n10_ : Aside0 (Below w.heap.size w (((w35.setCell ⟨gb138, 0, none⟩ (.slice Ao36 t130.length co36)).setCell ⟨gb138, 1, none⟩ (.slice Ao41 t133.length co41)).setCell ⟨gb138, 2, none⟩ (.bool t136))) := ⟨by repeat (first | (with_reducible first | exact HB.out | apply below_alloc | apply pw_below_drewN | apply below_drew1 | refine below_set ?_ GE104.out | refine below_set ?_ GE112.out | refine below_set ?_ GE125.out | refine below_set ?_ GE138.out) | exact HB.out)⟩
                (try clear HO107)
                (try clear HO110)
                (try clear HO119)
                (try clear HO122)
                (try clear HO132)
                (try clear HO135)
                (try clear BK104)
                (try clear BK112)
                (try clear BK125)
                (try clear BK138)
                (try clear HB)
                generalize (((w35.setCell ⟨gb138, 0, none⟩ (.slice Ao36 t130.length co36)).setCell ⟨gb138, 1, none⟩ (.slice Ao41 t133.length co41)).setCell ⟨gb138, 2, none⟩ (.bool t136)) = w57 at n0_ n1_ n2_ n3_ n4_ n5_ n6_ n7_ n8_ n9_ n10_ ⊢
                have HO107 := n0_
                have HO110 := n1_
                have HO119 := n2_
                have HO122 := n3_
                have HO132 := n4_
                have HO135 := n5_
                have BK104 := n6_
                have BK112 := n7_
                have BK125 := n8_
                have BK138 := n9_
                have HB := n10_
                clear n0_ n1_ n2_ n3_ n4_ n5_ n6_ n7_ n8_ n9_ n10_
                have n0_ := Aside0.mk (Kd.R_drew HO107.out)
                have n1_ := Aside0.mk (Kd.R_drew HO110.out)
                have n2_ := Aside0.mk (Kd.R_drew HO119.out)
                have n3_ := Aside0.mk (Kd.R_drew HO122.out)
                have n4_ := Aside0.mk (Kd.R_drew HO132.out)
                have n5_ := Aside0.mk (Kd.R_drew HO135.out)
                have n6_ := Aside0.mk (blk_drew BK104.out)
                have n7_ := Aside0.mk (blk_drew BK112.out)
                have n8_ := Aside0.mk (blk_drew BK125.out)
                have n9_ := Aside0.mk (blk_drew BK138.out)
                have n10_ := Aside0.mk (below_drew1 HB.out)
                clear HO107
                clear HO110
                clear HO119
                clear HO122
                clear HO132
                clear HO135
                clear BK104
                clear BK112
                clear BK125
                clear BK138
                clear HB
                have HO107 := n0_
                have HO110 := n1_
                have HO119 := n2_
                have HO122 := n3_
                have HO132 := n4_
                have HO135 := n5_
                have BK104 := n6_
                have BK112 := n7_
                have BK125 := n8_
                have BK138 := n9_
                have HB := n10_
                clear n0_ n1_ n2_ n3_ n4_ n5_ n6_ n7_ n8_ n9_ n10_
                refine start_ (n := 44) (S := fun w' => w'.cell? ⟨gb112, 0, none⟩ = some (.slice Ao14 t105.length co14) ∧ w'.cell? ⟨gb112, 1, none⟩ = some (.slice Ao17 t108.length co17) ∧ w'.cell? ⟨gb112, 2, none⟩ = some (.bool t111) ∧ w'.cell? ⟨gb104, 0, none⟩ = some (.slice A0_0 l0_0.length c0_0) ∧ w'.cell? ⟨gb104, 1, none⟩ = some (.slice A0_1 l0_1.length c0_1) ∧ w'.cell? ⟨gb104, 2, none⟩ = some (.bool a0_2)) (ds := []) #[false, false, false, false, false, false, false, false, false, false, false, false, false, false, false, false, false, false, false, false, false, false, false, false, false, false, false, false, false, false, false, false, false, false, false, false, false, false, false, false, false, false, false, false] (by kernel_rfl) rfl rfl ⟨(blk_cell BK112.out 0).trans rfl, (blk_cell BK112.out 1).trans rfl, (blk_cell BK112.out 2).trans rfl, (blk_cell BK104.out 0).trans rfl, (blk_cell BK104.out 1).trans rfl, (blk_cell BK104.out 2).trans rfl⟩ (fun hHeld => ?_); refine with_tabW eggboxlaw19_TermsPrints.tab8 eggboxlaw19_TermsPrints.bits8 (fun HT_ HW_ => ?_)
                generalize w57.drew = w58 at HO107 HO110 HO119 HO122 HO132 HO135 BK104 BK112 BK125 BK138 HB hHeld ⊢
                refine take_ (i := 0) (N := some 48) (v := ?_) (a' := ?_) #[true, false, false, false, false, false, false, false, false, false, false, false, false, false, false, false, false, false, false, false, false, false, false, false, false, false, false, false, false, false, false, false, false, false, false, false, false, false, false, false, false, false, false, false] rfl rfl (take_ofW HT_.out HW_.out (by kernel_rfl)) (fun _ _ _ h => h) (Or.inl ⟨by rfl, ?_⟩) hHeld ?_ ?_
                rotate_left
                · rintro w' ⟨s0, s1, s2, s3, s4, s5⟩
                  go_simp
                  with_reducible rfl
                rotate_left
                · simp only [Act.put, sA_, sZ_, sS_, i64_w, i32_w]
                  rfl
                refine take_ (i := 3) (N := some 51) (v := ?_) (a' := ?_) #[true, false, false, true, false, false, false, false, false, false, false, false, false, false, false, false, false, false, false, false, false, false, false, false, false, false, false, false, false, false, false, false, false, false, false, false, false, false, false, false, false, false, false, false] rfl rfl (take_ofW HT_.out HW_.out (by kernel_rfl)) (fun _ _ _ h => h) (Or.inl ⟨by rfl, ?_⟩) hHeld ?_ ?_
                rotate_left
                · rintro w' ⟨s0, s1, s2, s3, s4, s5⟩
                  go_simp
                  with_reducible rfl
                rotate_left
                · simp only [Act.put, sA_, sZ_, sS_, i64_w, i32_w]
                  rfl
                refine one_ (i := 1) (N := some 49) #[true, true, false, true, false, false, false, false, false, false, false, false, false, false, false, false, false, false, false, false, false, false, false, false, false, false, false, false, false, false, false, false, false, false, false, false, false, false, false, false, false, false, false, false] rfl rfl (one_of HT_.out (by kernel_rfl)) (by decide) (fun K hK => ?_)
                refine goes_ Try.func24 (by kernel_rfl) rfl #[.agg #[.slice Ao14 t105.length co14, .slice Ao17 t108.length co17, .bool t111]] (by rfl) rfl rfl (by (try simp only [List.map_toArray, List.map_cons, List.map_nil]); first | done | rfl | (simp only [List.length_drop, List.length_take]; rfl)) ?_
                with_reducible refine (terms_Check.calls k _ _ t105 _ _ t108 t111 t139 _ ?side1 ?side2 ?side3 ?side4 A42.out).mono ?_
                (case side1 => repeat (first | exact (Kd.R_reads' HO107.out).2.2 | (with_reducible refine Kd.C_alloc ?_ _) | (with_reducible refine Kd.C_drewN ?_ _) | (with_reducible refine Kd.C_drew ?_)))
                (case side2 => exact (Kd.R_reads' HO107.out).2.1)
                (case side3 => repeat (first | exact (Kd.R_reads' HO110.out).2.2 | (with_reducible refine Kd.C_alloc ?_ _) | (with_reducible refine Kd.C_drewN ?_ _) | (with_reducible refine Kd.C_drew ?_)))
                (case side4 => exact (Kd.R_reads' HO110.out).2.1)
                rintro e w59 ⟨rfl, hb⟩
                refine ⟨_, rfl, ?_⟩
                have n0_ := Aside0.mk (Kd.R_below (by (with_reducible repeat (first | apply Kd.R_alloc | apply Kd.R_drewN | apply Kd.R_drew)); exact HO107.out) hb)
                have n1_ := Aside0.mk (Kd.R_below (by (with_reducible repeat (first | apply Kd.R_alloc | apply Kd.R_drewN | apply Kd.R_drew)); exact HO110.out) hb)
                have n2_ := Aside0.mk (Kd.R_below (by (with_reducible repeat (first | apply Kd.R_alloc | apply Kd.R_drewN | apply Kd.R_drew)); exact HO119.out) hb)
                have n3_ := Aside0.mk (Kd.R_below (by (with_reducible repeat (first | apply Kd.R_alloc | apply Kd.R_drewN | apply Kd.R_drew)); exact HO122.out) hb)
                have n4_ := Aside0.mk (Kd.R_below (by (with_reducible repeat (first | apply Kd.R_alloc | apply Kd.R_drewN | apply Kd.R_drew)); exact HO132.out) hb)
                have n5_ := Aside0.mk (Kd.R_below (by (with_reducible repeat (first | apply Kd.R_alloc | apply Kd.R_drewN | apply Kd.R_drew)); exact HO135.out) hb)
                have n6_ := Aside0.mk (blk_below (g := gb104) (o := .cells #[.slice A0_0 l0_0.length c0_0, .slice A0_1 l0_1.length c0_1, .bool a0_2] 24 (0, 0)) (by (with_reducible repeat (first | refine blk_drewN ?_ _ | refine blk_drew ?_ | refine blk_alloc ?_ _)); exact BK104.out) hb)
                have n7_ := Aside0.mk (blk_below (g := gb112) (o := .cells #[.slice Ao14 t105.length co14, .slice Ao17 t108.length co17, .bool t111] 24 (0, 0)) (by (with_reducible repeat (first | refine blk_drewN ?_ _ | refine blk_drew ?_ | refine blk_alloc ?_ _)); exact BK112.out) hb)
                have n8_ := Aside0.mk (blk_below (g := gb125) (o := .cells #[.slice Ao24 t117.length co24, .slice Ao28 t120.length co28, .bool t123] 24 (0, 0)) (by (with_reducible repeat (first | refine blk_drewN ?_ _ | refine blk_drew ?_ | refine blk_alloc ?_ _)); exact BK125.out) hb)
                have n9_ := Aside0.mk (blk_below (g := gb138) (o := .cells #[.slice Ao36 t130.length co36, .slice Ao41 t133.length co41, .bool t136] 24 (0, 0)) (by (with_reducible repeat (first | refine blk_drewN ?_ _ | refine blk_drew ?_ | refine blk_alloc ?_ _)); exact BK138.out) hb)
                have n10_ := Aside0.mk (below_step (by repeat (first | (with_reducible first | exact HB.out | apply below_alloc | apply pw_below_drewN | apply below_drew1 | refine below_set ?_ GE104.out | refine below_set ?_ GE112.out | refine below_set ?_ GE125.out | refine below_set ?_ GE138.out) | exact HB.out)) hb)
                clear HO107
                clear HO110
                clear HO119
                clear HO122
                clear HO132
                clear HO135
                clear BK104
                clear BK112
                clear BK125
                clear BK138
                clear HB
                have HO107 := n0_
                have HO110 := n1_
                have HO119 := n2_
                have HO122 := n3_
                have HO132 := n4_
                have HO135 := n5_
                have BK104 := n6_
                have BK112 := n7_
                have BK125 := n8_
                have BK138 := n9_
                have HB := n10_
                clear n0_ n1_ n2_ n3_ n4_ n5_ n6_ n7_ n8_ n9_ n10_
                (try clear hb)
                (try clear hb2)
                (try clear hk)
                (try clear hi)
                refine hK.out _ _ ⟨(blk_cell BK112.out 0).trans rfl, (blk_cell BK112.out 1).trans rfl, (blk_cell BK112.out 2).trans rfl, (blk_cell BK104.out 0).trans rfl, (blk_cell BK104.out 1).trans rfl, (blk_cell BK104.out 2).trans rfl⟩ (fun hHeld => ?_)
                clear hK K
                refine norm_ (a' := ?_) ?_ ?_
                rotate_left
                · show Act.put _ (some 49) _ = _
                  simp only [Act.put, sA_, sZ_, sS_, i64_w, i32_w]
                  rfl
                refine one_ (i := 2) (N := some 50) #[true, true, true, true, false, false, false, false, false, false, false, false, false, false, false, false, false, false, false, false, false, false, false, false, false, false, false, false, false, false, false, false, false, false, false, false, false, false, false, false, false, false, false, false] rfl rfl (one_of HT_.out (by kernel_rfl)) (by decide) (fun K hK => ?_)
                refine goes_ Try.func14 (by kernel_rfl) rfl #[.int .i64 t139] (by rfl) rfl rfl (by (try simp only [List.map_toArray, List.map_cons, List.map_nil]); first | done | rfl | (simp only [List.length_drop, List.length_take]; rfl)) ?_
                with_reducible refine (eggboxlaw19_num.calls t139 t140 _ A43.out).mono ?_
                rintro e w' ⟨rfl, ⟨nd, rfl⟩⟩
                refine ⟨_, rfl, ?_⟩
                refine hK.out _ _ ⟨(blk_cell BK112.out 0).trans rfl, (blk_cell BK112.out 1).trans rfl, (blk_cell BK112.out 2).trans rfl, (blk_cell BK104.out 0).trans rfl, (blk_cell BK104.out 1).trans rfl, (blk_cell BK104.out 2).trans rfl⟩ (fun hHeld => ?_)
                clear hK K
                refine norm_ (a' := ?_) ?_ ?_
                rotate_left
                · show Act.put _ (some 50) _ = _
                  simp only [Act.put, sA_, sZ_, sS_, i64_w, i32_w]
                  rfl
                refine one_ (i := 4) (N := some 52) #[true, true, true, true, true, false, false, false, false, false, false, false, false, false, false, false, false, false, false, false, false, false, false, false, false, false, false, false, false, false, false, false, false, false, false, false, false, false, false, false, false, false, false, false] rfl rfl (one_of HT_.out (by kernel_rfl)) (by decide) (fun K hK => ?_)
                refine goes_ Try.func25 (by kernel_rfl) rfl #[.agg #[.slice A0_0 l0_0.length c0_0, .slice A0_1 l0_1.length c0_1, .bool a0_2]] (by rfl) rfl rfl (by (try simp only [List.map_toArray, List.map_cons, List.map_nil]); first | done | rfl | (simp only [List.length_drop, List.length_take]; rfl)) ?_
                with_reducible refine (eggboxref19_Check.calls k _ _ l0_0 _ _ l0_1 a0_2 t141 _ ?side1 ?side2 ?side3 ?side4 A44.out).mono ?_
                (case side1 => repeat (first | exact (Kd.C_below HR0_0.out (by repeat (first | (with_reducible first | exact HB.out | apply below_alloc | apply pw_below_drewN | apply below_drew1 | refine below_set ?_ GE104.out | refine below_set ?_ GE112.out | refine below_set ?_ GE125.out | refine below_set ?_ GE138.out) | exact HB.out))) | (with_reducible refine Kd.C_alloc ?_ _) | (with_reducible refine Kd.C_drewN ?_ _) | (with_reducible refine Kd.C_drew ?_)))
                (case side2 => exact HC0_0.out)
                (case side3 => repeat (first | exact (Kd.C_below HR0_1.out (by repeat (first | (with_reducible first | exact HB.out | apply below_alloc | apply pw_below_drewN | apply below_drew1 | refine below_set ?_ GE104.out | refine below_set ?_ GE112.out | refine below_set ?_ GE125.out | refine below_set ?_ GE138.out) | exact HB.out))) | (with_reducible refine Kd.C_alloc ?_ _) | (with_reducible refine Kd.C_drewN ?_ _) | (with_reducible refine Kd.C_drew ?_)))
                (case side4 => exact HC0_1.out)
                rintro e w60 ⟨rfl, hb⟩
                refine ⟨_, rfl, ?_⟩
                have n0_ := Aside0.mk (Kd.R_below (by (with_reducible repeat (first | apply Kd.R_alloc | apply Kd.R_drewN | apply Kd.R_drew)); exact HO107.out) hb)
                have n1_ := Aside0.mk (Kd.R_below (by (with_reducible repeat (first | apply Kd.R_alloc | apply Kd.R_drewN | apply Kd.R_drew)); exact HO110.out) hb)
                have n2_ := Aside0.mk (Kd.R_below (by (with_reducible repeat (first | apply Kd.R_alloc | apply Kd.R_drewN | apply Kd.R_drew)); exact HO119.out) hb)
                have n3_ := Aside0.mk (Kd.R_below (by (with_reducible repeat (first | apply Kd.R_alloc | apply Kd.R_drewN | apply Kd.R_drew)); exact HO122.out) hb)
                have n4_ := Aside0.mk (Kd.R_below (by (with_reducible repeat (first | apply Kd.R_alloc | apply Kd.R_drewN | apply Kd.R_drew)); exact HO132.out) hb)
                have n5_ := Aside0.mk (Kd.R_below (by (with_reducible repeat (first | apply Kd.R_alloc | apply Kd.R_drewN | apply Kd.R_drew)); exact HO135.out) hb)
                have n6_ := Aside0.mk (blk_below (g := gb104) (o := .cells #[.slice A0_0 l0_0.length c0_0, .slice A0_1 l0_1.length c0_1, .bool a0_2] 24 (0, 0)) (by (with_reducible repeat (first | refine blk_drewN ?_ _ | refine blk_drew ?_ | refine blk_alloc ?_ _)); exact BK104.out) hb)
                have n7_ := Aside0.mk (blk_below (g := gb112) (o := .cells #[.slice Ao14 t105.length co14, .slice Ao17 t108.length co17, .bool t111] 24 (0, 0)) (by (with_reducible repeat (first | refine blk_drewN ?_ _ | refine blk_drew ?_ | refine blk_alloc ?_ _)); exact BK112.out) hb)
                have n8_ := Aside0.mk (blk_below (g := gb125) (o := .cells #[.slice Ao24 t117.length co24, .slice Ao28 t120.length co28, .bool t123] 24 (0, 0)) (by (with_reducible repeat (first | refine blk_drewN ?_ _ | refine blk_drew ?_ | refine blk_alloc ?_ _)); exact BK125.out) hb)
                have n9_ := Aside0.mk (blk_below (g := gb138) (o := .cells #[.slice Ao36 t130.length co36, .slice Ao41 t133.length co41, .bool t136] 24 (0, 0)) (by (with_reducible repeat (first | refine blk_drewN ?_ _ | refine blk_drew ?_ | refine blk_alloc ?_ _)); exact BK138.out) hb)
                have n10_ := Aside0.mk (below_step (by repeat (first | (with_reducible first | exact HB.out | apply below_alloc | apply pw_below_drewN | apply below_drew1 | refine below_set ?_ GE104.out | refine below_set ?_ GE112.out | refine below_set ?_ GE125.out | refine below_set ?_ GE138.out) | exact HB.out)) hb)
                clear HO107
                clear HO110
                clear HO119
                clear HO122
                clear HO132
                clear HO135
                clear BK104
                clear BK112
                clear BK125
                clear BK138
                clear HB
                have HO107 := n0_
                have HO110 := n1_
                have HO119 := n2_
                have HO122 := n3_
                have HO132 := n4_
                have HO135 := n5_
                have BK104 := n6_
                have BK112 := n7_
                have BK125 := n8_
                have BK138 := n9_
                have HB := n10_
                clear n0_ n1_ n2_ n3_ n4_ n5_ n6_ n7_ n8_ n9_ n10_
                (try clear hb)
                (try clear hb2)
                (try clear hk)
                (try clear hi)
                refine hK.out _ _ ⟨(blk_cell BK112.out 0).trans rfl, (blk_cell BK112.out 1).trans rfl, (blk_cell BK112.out 2).trans rfl, (blk_cell BK104.out 0).trans rfl, (blk_cell BK104.out 1).trans rfl, (blk_cell BK104.out 2).trans rfl⟩ (fun hHeld => ?_)
                clear hK K
                refine norm_ (a' := ?_) ?_ ?_
                rotate_left
                · show Act.put _ (some 52) _ = _
                  simp only [Act.put, sA_, sZ_, sS_, i64_w, i32_w]
                  rfl
                refine pure_ (i := 5) (N := some 53) (v := ?_) (a' := ?_) #[true, true, true, true, true, true, false, false, false, false, false, false, false, false, false, false, false, false, false, false, false, false, false, false, false, false, false, false, false, false, false, false, false, false, false, false, false, false, false, false, false, false, false, false] rfl rfl (any_of HT_.out (by kernel_rfl)) (fun _ _ _ h => h) (Or.inl ⟨by rfl, ?_⟩) ?_ ?_
                rotate_left
                · intro w'
                  go_simp
                  with_reducible rfl
                rotate_left
                · simp only [Act.put, sA_, sZ_, sS_, i64_w, i32_w]
                  rfl
                refine pure_ (i := 6) (N := some 54) (v := ?_) (a' := ?_) #[true, true, true, true, true, true, true, false, false, false, false, false, false, false, false, false, false, false, false, false, false, false, false, false, false, false, false, false, false, false, false, false, false, false, false, false, false, false, false, false, false, false, false, false] rfl rfl (any_of HT_.out (by kernel_rfl)) (fun _ _ _ h => h) (Or.inl ⟨by rfl, ?_⟩) ?_ ?_
                rotate_left
                · intro w'
                  go_simp
                  with_reducible rfl
                rotate_left
                · simp only [Act.put, sA_, sZ_, sS_, i64_w, i32_w]
                  rfl
                refine pure_ (i := 7) (N := some 55) (v := ?_) (a' := ?_) #[true, true, true, true, true, true, true, true, false, false, false, false, false, false, false, false, false, false, false, false, false, false, false, false, false, false, false, false, false, false, false, false, false, false, false, false, false, false, false, false, false, false, false, false] rfl rfl (any_of HT_.out (by kernel_rfl)) (fun _ _ _ h => h) (Or.inl ⟨by rfl, ?_⟩) ?_ ?_
                rotate_left
                · intro w'
                  go_simp
                  with_reducible rfl
                rotate_left
                · simp only [Act.put, sA_, sZ_, sS_, i64_w, i32_w]
                  rfl
                refine pure_ (i := 8) (N := some 56) (v := ?_) (a' := ?_) #[true, true, true, true, true, true, true, true, true, false, false, false, false, false, false, false, false, false, false, false, false, false, false, false, false, false, false, false, false, false, false, false, false, false, false, false, false, false, false, false, false, false, false, false] rfl rfl (any_of HT_.out (by kernel_rfl)) (fun _ _ _ h => h) (Or.inl ⟨by rfl, ?_⟩) ?_ ?_
                rotate_left
                · intro w'
                  go_simp
                  with_reducible rfl
                rotate_left
                · simp only [Act.put, sA_, sZ_, sS_, i64_w, i32_w]
                  rfl
                refine pure_ (i := 9) (N := some 57) (v := ?_) (a' := ?_) #[true, true, true, true, true, true, true, true, true, true, false, false, false, false, false, false, false, false, false, false, false, false, false, false, false, false, false, false, false, false, false, false, false, false, false, false, false, false, false, false, false, false, false, false] rfl rfl (any_of HT_.out (by kernel_rfl)) (fun _ _ _ h => h) (Or.inl ⟨by rfl, ?_⟩) ?_ ?_
                rotate_left
                · intro w'
                  go_simp
                  with_reducible rfl
                rotate_left
                · simp only [Act.put, sA_, sZ_, sS_, i64_w, i32_w]
                  rfl
                refine pure_ (i := 10) (N := some 58) (v := ?_) (a' := ?_) #[true, true, true, true, true, true, true, true, true, true, true, false, false, false, false, false, false, false, false, false, false, false, false, false, false, false, false, false, false, false, false, false, false, false, false, false, false, false, false, false, false, false, false, false] rfl rfl (any_of HT_.out (by kernel_rfl)) (fun _ _ _ h => h) (Or.inl ⟨by rfl, ?_⟩) ?_ ?_
                rotate_left
                · intro w'
                  go_simp
                  with_reducible rfl
                rotate_left
                · simp only [Act.put, sA_, sZ_, sS_, i64_w, i32_w]
                  rfl
                refine pure_ (i := 11) (N := some 59) (v := ?_) (a' := ?_) #[true, true, true, true, true, true, true, true, true, true, true, true, false, false, false, false, false, false, false, false, false, false, false, false, false, false, false, false, false, false, false, false, false, false, false, false, false, false, false, false, false, false, false, false] rfl rfl (any_of HT_.out (by kernel_rfl)) (fun _ _ _ h => h) (Or.inl ⟨by rfl, ?_⟩) ?_ ?_
                rotate_left
                · intro w'
                  go_simp
                  with_reducible rfl
                rotate_left
                · simp only [Act.put, sA_, sZ_, sS_, i64_w, i32_w]
                  rfl
                refine pure_ (i := 12) (N := some 60) (v := ?_) (a' := ?_) #[true, true, true, true, true, true, true, true, true, true, true, true, true, false, false, false, false, false, false, false, false, false, false, false, false, false, false, false, false, false, false, false, false, false, false, false, false, false, false, false, false, false, false, false] rfl rfl (any_of HT_.out (by kernel_rfl)) (fun _ _ _ h => h) (Or.inl ⟨by rfl, ?_⟩) ?_ ?_
                rotate_left
                · intro w'
                  go_simp
                  with_reducible rfl
                rotate_left
                · simp only [Act.put, sA_, sZ_, sS_, i64_w, i32_w]
                  rfl
                refine pure_ (i := 14) (N := some 62) (v := ?_) (a' := ?_) #[true, true, true, true, true, true, true, true, true, true, true, true, true, false, true, false, false, false, false, false, false, false, false, false, false, false, false, false, false, false, false, false, false, false, false, false, false, false, false, false, false, false, false, false] rfl rfl (any_of HT_.out (by kernel_rfl)) (fun _ _ _ h => h) (Or.inl ⟨by rfl, ?_⟩) ?_ ?_
                rotate_left
                · intro w'
                  go_simp
                  with_reducible rfl
                rotate_left
                · simp only [Act.put, sA_, sZ_, sS_, i64_w, i32_w]
                  rfl
                refine one_ (i := 13) (N := some 61) #[true, true, true, true, true, true, true, true, true, true, true, true, true, true, true, false, false, false, false, false, false, false, false, false, false, false, false, false, false, false, false, false, false, false, false, false, false, false, false, false, false, false, false, false] rfl rfl (one_of HT_.out (by kernel_rfl)) (by decide) (fun K hK => ?_)
                refine goes_ Try.func14 (by kernel_rfl) rfl #[.int .i64 t114] (by rfl) rfl rfl (by (try simp only [List.map_toArray, List.map_cons, List.map_nil]); first | done | rfl | (simp only [List.length_drop, List.length_take]; rfl)) ?_
                with_reducible refine (eggboxlaw19_num.calls t114 t142 _ A47.out).mono ?_
                rintro e w' ⟨rfl, ⟨nd, rfl⟩⟩
                refine ⟨_, rfl, ?_⟩
                refine hK.out _ _ ⟨(blk_cell BK112.out 0).trans rfl, (blk_cell BK112.out 1).trans rfl, (blk_cell BK112.out 2).trans rfl, (blk_cell BK104.out 0).trans rfl, (blk_cell BK104.out 1).trans rfl, (blk_cell BK104.out 2).trans rfl⟩ (fun hHeld => ?_)
                clear hK K
                refine norm_ (a' := ?_) ?_ ?_
                rotate_left
                · show Act.put _ (some 61) _ = _
                  simp only [Act.put, sA_, sZ_, sS_, i64_w, i32_w]
                  rfl
                refine pure_ (i := 15) (N := some 63) (v := ?_) (a' := ?_) #[true, true, true, true, true, true, true, true, true, true, true, true, true, true, true, true, false, false, false, false, false, false, false, false, false, false, false, false, false, false, false, false, false, false, false, false, false, false, false, false, false, false, false, false] rfl rfl (any_of HT_.out (by kernel_rfl)) (fun _ _ _ h => h) (Or.inl ⟨by rfl, ?_⟩) ?_ ?_
                rotate_left
                · intro w'
                  go_simp
                  with_reducible rfl
                rotate_left
                · simp only [Act.put, sA_, sZ_, sS_, i64_w, i32_w]
                  rfl
                refine pure_ (i := 16) (N := some 64) (v := ?_) (a' := ?_) #[true, true, true, true, true, true, true, true, true, true, true, true, true, true, true, true, true, false, false, false, false, false, false, false, false, false, false, false, false, false, false, false, false, false, false, false, false, false, false, false, false, false, false, false] rfl rfl (any_of HT_.out (by kernel_rfl)) (fun _ _ _ h => h) (Or.inl ⟨by rfl, ?_⟩) ?_ ?_
                rotate_left
                · intro w'
                  go_simp
                  with_reducible rfl
                rotate_left
                · simp only [Act.put, sA_, sZ_, sS_, i64_w, i32_w]
                  rfl
                refine pure_ (i := 17) (N := some 65) (v := ?_) (a' := ?_) #[true, true, true, true, true, true, true, true, true, true, true, true, true, true, true, true, true, true, false, false, false, false, false, false, false, false, false, false, false, false, false, false, false, false, false, false, false, false, false, false, false, false, false, false] rfl rfl (any_of HT_.out (by kernel_rfl)) (fun _ _ _ h => h) (Or.inl ⟨by rfl, ?_⟩) ?_ ?_
                rotate_left
                · intro w'
                  go_simp
                  with_reducible rfl
                rotate_left
                · simp only [Act.put, sA_, sZ_, sS_, i64_w, i32_w]
                  rfl
                refine pure_ (i := 18) (N := some 66) (v := ?_) (a' := ?_) #[true, true, true, true, true, true, true, true, true, true, true, true, true, true, true, true, true, true, true, false, false, false, false, false, false, false, false, false, false, false, false, false, false, false, false, false, false, false, false, false, false, false, false, false] rfl rfl (any_of HT_.out (by kernel_rfl)) (fun _ _ _ h => h) (Or.inl ⟨by rfl, ?_⟩) ?_ ?_
                rotate_left
                · intro w'
                  go_simp
                  with_reducible rfl
                rotate_left
                · simp only [Act.put, sA_, sZ_, sS_, i64_w, i32_w]
                  rfl
                refine pure_ (i := 19) (N := some 67) (v := ?_) (a' := ?_) #[true, true, true, true, true, true, true, true, true, true, true, true, true, true, true, true, true, true, true, true, false, false, false, false, false, false, false, false, false, false, false, false, false, false, false, false, false, false, false, false, false, false, false, false] rfl rfl (any_of HT_.out (by kernel_rfl)) (fun _ _ _ h => h) (Or.inl ⟨by rfl, ?_⟩) ?_ ?_
                rotate_left
                · intro w'
                  go_simp
                  with_reducible rfl
                rotate_left
                · simp only [Act.put, sA_, sZ_, sS_, i64_w, i32_w]
                  rfl
                refine pure_ (i := 20) (N := some 68) (v := ?_) (a' := ?_) #[true, true, true, true, true, true, true, true, true, true, true, true, true, true, true, true, true, true, true, true, true, false, false, false, false, false, false, false, false, false, false, false, false, false, false, false, false, false, false, false, false, false, false, false] rfl rfl (any_of HT_.out (by kernel_rfl)) (fun _ _ _ h => h) (Or.inl ⟨by rfl, ?_⟩) ?_ ?_
                rotate_left
                · intro w'
                  go_simp
                  with_reducible rfl
                rotate_left
                · simp only [Act.put, sA_, sZ_, sS_, i64_w, i32_w]
                  rfl
                refine pure_ (i := 21) (N := some 69) (v := ?_) (a' := ?_) #[true, true, true, true, true, true, true, true, true, true, true, true, true, true, true, true, true, true, true, true, true, true, false, false, false, false, false, false, false, false, false, false, false, false, false, false, false, false, false, false, false, false, false, false] rfl rfl (any_of HT_.out (by kernel_rfl)) (fun _ _ _ h => h) (Or.inl ⟨by rfl, ?_⟩) ?_ ?_
                rotate_left
                · intro w'
                  go_simp
                  with_reducible rfl
                rotate_left
                · simp only [Act.put, sA_, sZ_, sS_, i64_w, i32_w]
                  rfl
                refine pure_ (i := 22) (N := some 70) (v := ?_) (a' := ?_) #[true, true, true, true, true, true, true, true, true, true, true, true, true, true, true, true, true, true, true, true, true, true, true, false, false, false, false, false, false, false, false, false, false, false, false, false, false, false, false, false, false, false, false, false] rfl rfl (any_of HT_.out (by kernel_rfl)) (fun _ _ _ h => h) (Or.inl ⟨by rfl, ?_⟩) ?_ ?_
                rotate_left
                · intro w'
                  go_simp
                  with_reducible rfl
                rotate_left
                · simp only [Act.put, sA_, sZ_, sS_, i64_w, i32_w]
                  rfl
                refine pure_ (i := 23) (N := some 71) (v := ?_) (a' := ?_) #[true, true, true, true, true, true, true, true, true, true, true, true, true, true, true, true, true, true, true, true, true, true, true, true, false, false, false, false, false, false, false, false, false, false, false, false, false, false, false, false, false, false, false, false] rfl rfl (any_of HT_.out (by kernel_rfl)) (fun _ _ _ h => h) (Or.inl ⟨by rfl, ?_⟩) ?_ ?_
                rotate_left
                · intro w'
                  go_simp
                  with_reducible rfl
                rotate_left
                · simp only [Act.put, sA_, sZ_, sS_, i64_w, i32_w]
                  rfl
                refine pure_ (i := 25) (N := some 73) (v := ?_) (a' := ?_) #[true, true, true, true, true, true, true, true, true, true, true, true, true, true, true, true, true, true, true, true, true, true, true, true, false, true, false, false, false, false, false, false, false, false, false, false, false, false, false, false, false, false, false, false] rfl rfl (any_of HT_.out (by kernel_rfl)) (fun _ _ _ h => h) (Or.inl ⟨by rfl, ?_⟩) ?_ ?_
                rotate_left
                · intro w'
                  go_simp
                  with_reducible rfl
                rotate_left
                · simp only [Act.put, sA_, sZ_, sS_, i64_w, i32_w]
                  rfl
                refine one_ (i := 24) (N := some 72) #[true, true, true, true, true, true, true, true, true, true, true, true, true, true, true, true, true, true, true, true, true, true, true, true, true, true, false, false, false, false, false, false, false, false, false, false, false, false, false, false, false, false, false, false] rfl rfl (one_of HT_.out (by kernel_rfl)) (by decide) (fun K hK => ?_)
                refine goes_ Try.func14 (by kernel_rfl) rfl #[.int .i64 t116] (by rfl) rfl rfl (by (try simp only [List.map_toArray, List.map_cons, List.map_nil]); first | done | rfl | (simp only [List.length_drop, List.length_take]; rfl)) ?_
                with_reducible refine (eggboxlaw19_num.calls t116 t143 _ A50.out).mono ?_
                rintro e w' ⟨rfl, ⟨nd, rfl⟩⟩
                refine ⟨_, rfl, ?_⟩
                refine hK.out _ _ ⟨(blk_cell BK112.out 0).trans rfl, (blk_cell BK112.out 1).trans rfl, (blk_cell BK112.out 2).trans rfl, (blk_cell BK104.out 0).trans rfl, (blk_cell BK104.out 1).trans rfl, (blk_cell BK104.out 2).trans rfl⟩ (fun hHeld => ?_)
                clear hK K
                refine norm_ (a' := ?_) ?_ ?_
                rotate_left
                · show Act.put _ (some 72) _ = _
                  simp only [Act.put, sA_, sZ_, sS_, i64_w, i32_w]
                  rfl
                refine pure_ (i := 26) (N := some 74) (v := ?_) (a' := ?_) #[true, true, true, true, true, true, true, true, true, true, true, true, true, true, true, true, true, true, true, true, true, true, true, true, true, true, true, false, false, false, false, false, false, false, false, false, false, false, false, false, false, false, false, false] rfl rfl (any_of HT_.out (by kernel_rfl)) (fun _ _ _ h => h) (Or.inl ⟨by rfl, ?_⟩) ?_ ?_
                rotate_left
                · intro w'
                  go_simp
                  with_reducible rfl
                rotate_left
                · simp only [Act.put, sA_, sZ_, sS_, i64_w, i32_w]
                  rfl
                refine pure_ (i := 27) (N := some 75) (v := ?_) (a' := ?_) #[true, true, true, true, true, true, true, true, true, true, true, true, true, true, true, true, true, true, true, true, true, true, true, true, true, true, true, true, false, false, false, false, false, false, false, false, false, false, false, false, false, false, false, false] rfl rfl (any_of HT_.out (by kernel_rfl)) (fun _ _ _ h => h) (Or.inl ⟨by rfl, ?_⟩) ?_ ?_
                rotate_left
                · intro w'
                  go_simp
                  with_reducible rfl
                rotate_left
                · simp only [Act.put, sA_, sZ_, sS_, i64_w, i32_w]
                  rfl
                refine pure_ (i := 28) (N := some 76) (v := ?_) (a' := ?_) #[true, true, true, true, true, true, true, true, true, true, true, true, true, true, true, true, true, true, true, true, true, true, true, true, true, true, true, true, true, false, false, false, false, false, false, false, false, false, false, false, false, false, false, false] rfl rfl (any_of HT_.out (by kernel_rfl)) (fun _ _ _ h => h) (Or.inl ⟨by rfl, ?_⟩) ?_ ?_
                rotate_left
                · intro w'
                  go_simp
                  with_reducible rfl
                rotate_left
                · simp only [Act.put, sA_, sZ_, sS_, i64_w, i32_w]
                  rfl
                refine pure_ (i := 29) (N := some 77) (v := ?_) (a' := ?_) #[true, true, true, true, true, true, true, true, true, true, true, true, true, true, true, true, true, true, true, true, true, true, true, true, true, true, true, true, true, true, false, false, false, false, false, false, false, false, false, false, false, false, false, false] rfl rfl (any_of HT_.out (by kernel_rfl)) (fun _ _ _ h => h) (Or.inl ⟨by rfl, ?_⟩) ?_ ?_
                rotate_left
                · intro w'
                  go_simp
                  with_reducible rfl
                rotate_left
                · simp only [Act.put, sA_, sZ_, sS_, i64_w, i32_w]
                  rfl
                refine pure_ (i := 31) (N := some 79) (v := ?_) (a' := ?_) #[true, true, true, true, true, true, true, true, true, true, true, true, true, true, true, true, true, true, true, true, true, true, true, true, true, true, true, true, true, true, false, true, false, false, false, false, false, false, false, false, false, false, false, false] rfl rfl (any_of HT_.out (by kernel_rfl)) (fun _ _ _ h => h) (Or.inl ⟨by rfl, ?_⟩) ?_ ?_
                rotate_left
                · intro w'
                  go_simp
                  with_reducible rfl
                rotate_left
                · simp only [Act.put, sA_, sZ_, sS_, i64_w, i32_w]
                  rfl
                refine one_ (i := 30) (N := some 78) #[true, true, true, true, true, true, true, true, true, true, true, true, true, true, true, true, true, true, true, true, true, true, true, true, true, true, true, true, true, true, true, true, false, false, false, false, false, false, false, false, false, false, false, false] rfl rfl (one_of HT_.out (by kernel_rfl)) (by decide) (fun K hK => ?_)
                refine goes_ Try.func14 (by kernel_rfl) rfl #[.int .i64 t124] (by rfl) rfl rfl (by (try simp only [List.map_toArray, List.map_cons, List.map_nil]); first | done | rfl | (simp only [List.length_drop, List.length_take]; rfl)) ?_
                with_reducible refine (eggboxlaw19_num.calls t124 t144 _ A52.out).mono ?_
                rintro e w' ⟨rfl, ⟨nd, rfl⟩⟩
                refine ⟨_, rfl, ?_⟩
                refine hK.out _ _ ⟨(blk_cell BK112.out 0).trans rfl, (blk_cell BK112.out 1).trans rfl, (blk_cell BK112.out 2).trans rfl, (blk_cell BK104.out 0).trans rfl, (blk_cell BK104.out 1).trans rfl, (blk_cell BK104.out 2).trans rfl⟩ (fun hHeld => ?_)
                clear hK K
                refine norm_ (a' := ?_) ?_ ?_
                rotate_left
                · show Act.put _ (some 78) _ = _
                  simp only [Act.put, sA_, sZ_, sS_, i64_w, i32_w]
                  rfl
                refine pure_ (i := 32) (N := some 80) (v := ?_) (a' := ?_) #[true, true, true, true, true, true, true, true, true, true, true, true, true, true, true, true, true, true, true, true, true, true, true, true, true, true, true, true, true, true, true, true, true, false, false, false, false, false, false, false, false, false, false, false] rfl rfl (any_of HT_.out (by kernel_rfl)) (fun _ _ _ h => h) (Or.inl ⟨by rfl, ?_⟩) ?_ ?_
                rotate_left
                · intro w'
                  go_simp
                  with_reducible rfl
                rotate_left
                · simp only [Act.put, sA_, sZ_, sS_, i64_w, i32_w]
                  rfl
                refine pure_ (i := 33) (N := some 81) (v := ?_) (a' := ?_) #[true, true, true, true, true, true, true, true, true, true, true, true, true, true, true, true, true, true, true, true, true, true, true, true, true, true, true, true, true, true, true, true, true, true, false, false, false, false, false, false, false, false, false, false] rfl rfl (any_of HT_.out (by kernel_rfl)) (fun _ _ _ h => h) (Or.inl ⟨by rfl, ?_⟩) ?_ ?_
                rotate_left
                · intro w'
                  go_simp
                  with_reducible rfl
                rotate_left
                · simp only [Act.put, sA_, sZ_, sS_, i64_w, i32_w]
                  rfl
                refine pure_ (i := 34) (N := some 82) (v := ?_) (a' := ?_) #[true, true, true, true, true, true, true, true, true, true, true, true, true, true, true, true, true, true, true, true, true, true, true, true, true, true, true, true, true, true, true, true, true, true, true, false, false, false, false, false, false, false, false, false] rfl rfl (any_of HT_.out (by kernel_rfl)) (fun _ _ _ h => h) (Or.inl ⟨by rfl, ?_⟩) ?_ ?_
                rotate_left
                · intro w'
                  go_simp
                  with_reducible rfl
                rotate_left
                · simp only [Act.put, sA_, sZ_, sS_, i64_w, i32_w]
                  rfl
                refine take_ (i := 35) (N := some 83) (v := ?_) (a' := ?_) #[true, true, true, true, true, true, true, true, true, true, true, true, true, true, true, true, true, true, true, true, true, true, true, true, true, true, true, true, true, true, true, true, true, true, true, true, false, false, false, false, false, false, false, false] rfl rfl (take_ofW HT_.out HW_.out (by kernel_rfl)) (fun _ _ _ h => h) (Or.inl ⟨by rfl, ?_⟩) hHeld ?_ ?_
                rotate_left
                · rintro w' ⟨s0, s1, s2, s3, s4, s5⟩
                  go_simp
                  with_reducible rfl
                rotate_left
                · simp only [Act.put, sA_, sZ_, sS_, i64_w, i32_w]
                  rfl
                refine take_ (i := 36) (N := some 84) (v := ?_) (a' := ?_) #[true, true, true, true, true, true, true, true, true, true, true, true, true, true, true, true, true, true, true, true, true, true, true, true, true, true, true, true, true, true, true, true, true, true, true, true, true, false, false, false, false, false, false, false] rfl rfl (take_ofW HT_.out HW_.out (by kernel_rfl)) (fun _ _ _ h => h) (Or.inl ⟨by rfl, ?_⟩) hHeld ?_ ?_
                rotate_left
                · rintro w' ⟨s0, s1, s2, s3, s4, s5⟩
                  go_simp
                  with_reducible rfl
                rotate_left
                · simp only [Act.put, sA_, sZ_, sS_, i64_w, i32_w]
                  rfl
                refine one_ (i := 37) (N := some 85) #[true, true, true, true, true, true, true, true, true, true, true, true, true, true, true, true, true, true, true, true, true, true, true, true, true, true, true, true, true, true, true, true, true, true, true, true, true, true, false, false, false, false, false, false] rfl rfl (one_of HT_.out (by kernel_rfl)) (by decide) (fun K hK => ?_)
                refine goes_ Try.func13 (by kernel_rfl) rfl #[.agg #[.slice Ao14 t105.length co14, .slice Ao17 t108.length co17, .bool t111], .agg #[.slice A0_0 l0_0.length c0_0, .slice A0_1 l0_1.length c0_1, .bool a0_2]] (by rfl) rfl rfl (by (try simp only [List.map_toArray, List.map_cons, List.map_nil]); first | done | rfl | (simp only [List.length_drop, List.length_take]; rfl)) ?_
                with_reducible refine (eggboxlaw19_Same.calls k _ _ t105 _ _ t108 t111 _ _ l0_0 _ _ l0_1 a0_2 true _ ?side1 ?side2 ?side3 ?side4 ?side5 ?side6 ?side7 ?side8 A54.out).mono ?_
                (case side1 => repeat (first | exact (Kd.R_reads' HO107.out).2.2 | (with_reducible refine Kd.C_alloc ?_ _) | (with_reducible refine Kd.C_drewN ?_ _) | (with_reducible refine Kd.C_drew ?_)))
                (case side2 => exact (Kd.R_reads' HO107.out).2.1)
                (case side3 => repeat (first | exact (Kd.R_reads' HO110.out).2.2 | (with_reducible refine Kd.C_alloc ?_ _) | (with_reducible refine Kd.C_drewN ?_ _) | (with_reducible refine Kd.C_drew ?_)))
                (case side4 => exact (Kd.R_reads' HO110.out).2.1)
                (case side5 => repeat (first | exact (Kd.C_below HR0_0.out (by repeat (first | (with_reducible first | exact HB.out | apply below_alloc | apply pw_below_drewN | apply below_drew1 | refine below_set ?_ GE104.out | refine below_set ?_ GE112.out | refine below_set ?_ GE125.out | refine below_set ?_ GE138.out) | exact HB.out))) | (with_reducible refine Kd.C_alloc ?_ _) | (with_reducible refine Kd.C_drewN ?_ _) | (with_reducible refine Kd.C_drew ?_)))
                (case side6 => exact HC0_0.out)
                (case side7 => repeat (first | exact (Kd.C_below HR0_1.out (by repeat (first | (with_reducible first | exact HB.out | apply below_alloc | apply pw_below_drewN | apply below_drew1 | refine below_set ?_ GE104.out | refine below_set ?_ GE112.out | refine below_set ?_ GE125.out | refine below_set ?_ GE138.out) | exact HB.out))) | (with_reducible refine Kd.C_alloc ?_ _) | (with_reducible refine Kd.C_drewN ?_ _) | (with_reducible refine Kd.C_drew ?_)))
                (case side8 => exact HC0_1.out)
                rintro e w61 ⟨rfl, hb⟩
                refine ⟨_, rfl, ?_⟩
                have n0_ := Aside0.mk (Kd.R_below (by (with_reducible repeat (first | apply Kd.R_alloc | apply Kd.R_drewN | apply Kd.R_drew)); exact HO107.out) hb)
                have n1_ := Aside0.mk (Kd.R_below (by (with_reducible repeat (first | apply Kd.R_alloc | apply Kd.R_drewN | apply Kd.R_drew)); exact HO110.out) hb)
                have n2_ := Aside0.mk (Kd.R_below (by (with_reducible repeat (first | apply Kd.R_alloc | apply Kd.R_drewN | apply Kd.R_drew)); exact HO119.out) hb)
                have n3_ := Aside0.mk (Kd.R_below (by (with_reducible repeat (first | apply Kd.R_alloc | apply Kd.R_drewN | apply Kd.R_drew)); exact HO122.out) hb)
                have n4_ := Aside0.mk (Kd.R_below (by (with_reducible repeat (first | apply Kd.R_alloc | apply Kd.R_drewN | apply Kd.R_drew)); exact HO132.out) hb)
                have n5_ := Aside0.mk (Kd.R_below (by (with_reducible repeat (first | apply Kd.R_alloc | apply Kd.R_drewN | apply Kd.R_drew)); exact HO135.out) hb)
                have n6_ := Aside0.mk (blk_below (g := gb104) (o := .cells #[.slice A0_0 l0_0.length c0_0, .slice A0_1 l0_1.length c0_1, .bool a0_2] 24 (0, 0)) (by (with_reducible repeat (first | refine blk_drewN ?_ _ | refine blk_drew ?_ | refine blk_alloc ?_ _)); exact BK104.out) hb)
                have n7_ := Aside0.mk (blk_below (g := gb112) (o := .cells #[.slice Ao14 t105.length co14, .slice Ao17 t108.length co17, .bool t111] 24 (0, 0)) (by (with_reducible repeat (first | refine blk_drewN ?_ _ | refine blk_drew ?_ | refine blk_alloc ?_ _)); exact BK112.out) hb)
                have n8_ := Aside0.mk (blk_below (g := gb125) (o := .cells #[.slice Ao24 t117.length co24, .slice Ao28 t120.length co28, .bool t123] 24 (0, 0)) (by (with_reducible repeat (first | refine blk_drewN ?_ _ | refine blk_drew ?_ | refine blk_alloc ?_ _)); exact BK125.out) hb)
                have n9_ := Aside0.mk (blk_below (g := gb138) (o := .cells #[.slice Ao36 t130.length co36, .slice Ao41 t133.length co41, .bool t136] 24 (0, 0)) (by (with_reducible repeat (first | refine blk_drewN ?_ _ | refine blk_drew ?_ | refine blk_alloc ?_ _)); exact BK138.out) hb)
                have n10_ := Aside0.mk (below_step (by repeat (first | (with_reducible first | exact HB.out | apply below_alloc | apply pw_below_drewN | apply below_drew1 | refine below_set ?_ GE104.out | refine below_set ?_ GE112.out | refine below_set ?_ GE125.out | refine below_set ?_ GE138.out) | exact HB.out)) hb)
                clear HO107
                clear HO110
                clear HO119
                clear HO122
                clear HO132
                clear HO135
                clear BK104
                clear BK112
                clear BK125
                clear BK138
                clear HB
                have HO107 := n0_
                have HO110 := n1_
                have HO119 := n2_
                have HO122 := n3_
                have HO132 := n4_
                have HO135 := n5_
                have BK104 := n6_
                have BK112 := n7_
                have BK125 := n8_
                have BK138 := n9_
                have HB := n10_
                clear n0_ n1_ n2_ n3_ n4_ n5_ n6_ n7_ n8_ n9_ n10_
                (try clear hb)
                (try clear hb2)
                (try clear hk)
                (try clear hi)
                refine hK.out _ _ ⟨(blk_cell BK112.out 0).trans rfl, (blk_cell BK112.out 1).trans rfl, (blk_cell BK112.out 2).trans rfl, (blk_cell BK104.out 0).trans rfl, (blk_cell BK104.out 1).trans rfl, (blk_cell BK104.out 2).trans rfl⟩ (fun hHeld => ?_)
                clear hK K
                refine norm_ (a' := ?_) ?_ ?_
                rotate_left
                · show Act.put _ (some 85) _ = _
                  simp only [Act.put, sA_, sZ_, sS_, i64_w, i32_w]
                  rfl
                refine pure_ (i := 38) (N := some 86) (v := ?_) (a' := ?_) #[true, true, true, true, true, true, true, true, true, true, true, true, true, true, true, true, true, true, true, true, true, true, true, true, true, true, true, true, true, true, true, true, true, true, true, true, true, true, true, false, false, false, false, false] rfl rfl (any_of HT_.out (by kernel_rfl)) (fun _ _ _ h => h) (Or.inl ⟨by rfl, ?_⟩) ?_ ?_
                rotate_left
                · intro w'
                  go_simp
                  with_reducible rfl
                rotate_left
                · simp only [Act.put, sA_, sZ_, sS_, i64_w, i32_w]
                  rfl
                refine pure_ (i := 39) (N := some 87) (v := ?_) (a' := ?_) #[true, true, true, true, true, true, true, true, true, true, true, true, true, true, true, true, true, true, true, true, true, true, true, true, true, true, true, true, true, true, true, true, true, true, true, true, true, true, true, true, false, false, false, false] rfl rfl (any_of HT_.out (by kernel_rfl)) (fun _ _ _ h => h) (Or.inl ⟨by rfl, ?_⟩) ?_ ?_
                rotate_left
                · intro w'
                  go_simp
                  with_reducible rfl
                rotate_left
                · simp only [Act.put, sA_, sZ_, sS_, i64_w, i32_w]
                  rfl
                refine pure_ (i := 40) (N := some 88) (v := ?_) (a' := ?_) #[true, true, true, true, true, true, true, true, true, true, true, true, true, true, true, true, true, true, true, true, true, true, true, true, true, true, true, true, true, true, true, true, true, true, true, true, true, true, true, true, true, false, false, false] rfl rfl (any_of HT_.out (by kernel_rfl)) (fun _ _ _ h => h) (Or.inl ⟨by rfl, ?_⟩) ?_ ?_
                rotate_left
                · intro w'
                  go_simp
                  with_reducible rfl
                rotate_left
                · simp only [Act.put, sA_, sZ_, sS_, i64_w, i32_w]
                  rfl
                refine one_ (i := 41) (N := some 89) #[true, true, true, true, true, true, true, true, true, true, true, true, true, true, true, true, true, true, true, true, true, true, true, true, true, true, true, true, true, true, true, true, true, true, true, true, true, true, true, true, true, true, false, false] rfl rfl (one_of HT_.out (by kernel_rfl)) (by decide) (fun K hK => ?_)
                refine goes_ Try.func15 (by kernel_rfl) rfl #[] (by rfl) rfl rfl (by (try simp only [List.map_toArray, List.map_cons, List.map_nil]); first | done | rfl | (simp only [List.length_drop, List.length_take]; rfl)) ?_
                with_reducible refine (eggboxlaw19_knows.calls k  t146 _ A56.out).mono ?_
                rintro e w62 ⟨rfl, hb⟩
                refine ⟨_, rfl, ?_⟩
                have n0_ := Aside0.mk (Kd.R_below (by (with_reducible repeat (first | apply Kd.R_alloc | apply Kd.R_drewN | apply Kd.R_drew)); exact HO107.out) hb)
                have n1_ := Aside0.mk (Kd.R_below (by (with_reducible repeat (first | apply Kd.R_alloc | apply Kd.R_drewN | apply Kd.R_drew)); exact HO110.out) hb)
                have n2_ := Aside0.mk (Kd.R_below (by (with_reducible repeat (first | apply Kd.R_alloc | apply Kd.R_drewN | apply Kd.R_drew)); exact HO119.out) hb)
                have n3_ := Aside0.mk (Kd.R_below (by (with_reducible repeat (first | apply Kd.R_alloc | apply Kd.R_drewN | apply Kd.R_drew)); exact HO122.out) hb)
                have n4_ := Aside0.mk (Kd.R_below (by (with_reducible repeat (first | apply Kd.R_alloc | apply Kd.R_drewN | apply Kd.R_drew)); exact HO132.out) hb)
                have n5_ := Aside0.mk (Kd.R_below (by (with_reducible repeat (first | apply Kd.R_alloc | apply Kd.R_drewN | apply Kd.R_drew)); exact HO135.out) hb)
                have n6_ := Aside0.mk (blk_below (g := gb104) (o := .cells #[.slice A0_0 l0_0.length c0_0, .slice A0_1 l0_1.length c0_1, .bool a0_2] 24 (0, 0)) (by (with_reducible repeat (first | refine blk_drewN ?_ _ | refine blk_drew ?_ | refine blk_alloc ?_ _)); exact BK104.out) hb)
                have n7_ := Aside0.mk (blk_below (g := gb112) (o := .cells #[.slice Ao14 t105.length co14, .slice Ao17 t108.length co17, .bool t111] 24 (0, 0)) (by (with_reducible repeat (first | refine blk_drewN ?_ _ | refine blk_drew ?_ | refine blk_alloc ?_ _)); exact BK112.out) hb)
                have n8_ := Aside0.mk (blk_below (g := gb125) (o := .cells #[.slice Ao24 t117.length co24, .slice Ao28 t120.length co28, .bool t123] 24 (0, 0)) (by (with_reducible repeat (first | refine blk_drewN ?_ _ | refine blk_drew ?_ | refine blk_alloc ?_ _)); exact BK125.out) hb)
                have n9_ := Aside0.mk (blk_below (g := gb138) (o := .cells #[.slice Ao36 t130.length co36, .slice Ao41 t133.length co41, .bool t136] 24 (0, 0)) (by (with_reducible repeat (first | refine blk_drewN ?_ _ | refine blk_drew ?_ | refine blk_alloc ?_ _)); exact BK138.out) hb)
                have n10_ := Aside0.mk (below_step (by repeat (first | (with_reducible first | exact HB.out | apply below_alloc | apply pw_below_drewN | apply below_drew1 | refine below_set ?_ GE104.out | refine below_set ?_ GE112.out | refine below_set ?_ GE125.out | refine below_set ?_ GE138.out) | exact HB.out)) hb)
                clear HO107
                clear HO110
                clear HO119
                clear HO122
                clear HO132
                clear HO135
                clear BK104
                clear BK112
                clear BK125
                clear BK138
                clear HB
                have HO107 := n0_
                have HO110 := n1_
                have HO119 := n2_
                have HO122 := n3_
                have HO132 := n4_
                have HO135 := n5_
                have BK104 := n6_
                have BK112 := n7_
                have BK125 := n8_
                have BK138 := n9_
                have HB := n10_
                clear n0_ n1_ n2_ n3_ n4_ n5_ n6_ n7_ n8_ n9_ n10_
                (try clear hb)
                (try clear hb2)
                (try clear hk)
                (try clear hi)
                refine hK.out _ _ ⟨(blk_cell BK112.out 0).trans rfl, (blk_cell BK112.out 1).trans rfl, (blk_cell BK112.out 2).trans rfl, (blk_cell BK104.out 0).trans rfl, (blk_cell BK104.out 1).trans rfl, (blk_cell BK104.out 2).trans rfl⟩ (fun hHeld => ?_)
                clear hK K
                refine norm_ (a' := ?_) ?_ ?_
                rotate_left
                · show Act.put _ (some 89) _ = _
                  simp only [Act.put, sA_, sZ_, sS_, i64_w, i32_w]
                  rfl
                refine pure_ (i := 42) (N := some 90) (v := ?_) (a' := ?_) #[true, true, true, true, true, true, true, true, true, true, true, true, true, true, true, true, true, true, true, true, true, true, true, true, true, true, true, true, true, true, true, true, true, true, true, true, true, true, true, true, true, true, true, false] rfl rfl (any_of HT_.out (by kernel_rfl)) (fun _ _ _ h => h) (Or.inl ⟨by rfl, ?_⟩) ?_ ?_
                rotate_left
                · intro w'
                  go_simp
                  with_reducible rfl
                rotate_left
                · simp only [Act.put, sA_, sZ_, sS_, i64_w, i32_w]
                  rfl
                refine pure_ (i := 43) (N := some 91) (v := ?_) (a' := ?_) #[true, true, true, true, true, true, true, true, true, true, true, true, true, true, true, true, true, true, true, true, true, true, true, true, true, true, true, true, true, true, true, true, true, true, true, true, true, true, true, true, true, true, true, true] rfl rfl (any_of HT_.out (by kernel_rfl)) (fun _ _ _ h => h) (Or.inl ⟨by rfl, ?_⟩) ?_ ?_
                rotate_left
                · intro w'
                  go_simp
                  with_reducible rfl
                rotate_left
                · simp only [Act.put, sA_, sZ_, sS_, i64_w, i32_w]
                  rfl
                refine done_ (done_of HT_.out (by kernel_rfl)) ?_
                try go_wp2
                go_meet
                case rel => exact ⟨_, (!t146), (by first | rfl | (simp; done) | (simp [*]; done)), H', ⟨by first | omega | exact Nat.le_refl _⟩, ⟨by (with_reducible repeat (first | apply Kd.R_alloc | apply Kd.R_drewN | apply Kd.R_drew)); exact HO107.out⟩, ⟨by (with_reducible repeat (first | apply Kd.R_alloc | apply Kd.R_drewN | apply Kd.R_drew)); exact HO110.out⟩, ⟨by (with_reducible repeat (first | apply Kd.R_alloc | apply Kd.R_drewN | apply Kd.R_drew)); exact HO119.out⟩, ⟨by (with_reducible repeat (first | apply Kd.R_alloc | apply Kd.R_drewN | apply Kd.R_drew)); exact HO122.out⟩, ⟨by (with_reducible repeat (first | apply Kd.R_alloc | apply Kd.R_drewN | apply Kd.R_drew)); exact HO132.out⟩, ⟨by (with_reducible repeat (first | apply Kd.R_alloc | apply Kd.R_drewN | apply Kd.R_drew)); exact HO135.out⟩, ⟨by (with_reducible repeat (first | refine blk_drewN ?_ _ | refine blk_drew ?_ | refine blk_alloc ?_ _)); exact BK104.out⟩, ⟨by (with_reducible repeat (first | refine blk_drewN ?_ _ | refine blk_drew ?_ | refine blk_alloc ?_ _)); exact BK112.out⟩, ⟨by (with_reducible repeat (first | refine blk_drewN ?_ _ | refine blk_drew ?_ | refine blk_alloc ?_ _)); exact BK125.out⟩, ⟨by (with_reducible repeat (first | refine blk_drewN ?_ _ | refine blk_drew ?_ | refine blk_alloc ?_ _)); exact BK138.out⟩, ⟨by repeat (first | (with_reducible first | exact HB.out | apply below_alloc | apply pw_below_drewN | apply below_drew1 | refine below_set ?_ GE104.out | refine below_set ?_ GE112.out | refine below_set ?_ GE125.out | refine below_set ?_ GE138.out) | exact HB.out)⟩⟩
              · replace c55 := Bool.eq_false_iff.mpr c55
                subst c55
                have H1 : (eggboxlaw19_TermsPrints.j0 k true t105 t108 t111 t117 t120 t123 t130 t133 t136) = some r := by rw [if_neg (show ¬ (false = true) by decide)] at H; exact H
                exact absurd (HRT.out.symm.trans (eggboxlaw19_TermsPrints.bad H1)) (by simp)
            · rw [if_neg c53] at H
              have c53b0 : (t144 == t137) = false := beq_eq_false_iff_ne.mpr c53
              have c53b1 : (t144 != t137) = true := bne_iff_ne.mpr c53
              exact absurd (HRT.out.symm.trans (eggboxlaw19_TermsPrints.bad H)) (by simp)
          · rw [if_neg c51] at H
            have c51b0 : (t143 == t129) = false := beq_eq_false_iff_ne.mpr c51
            have c51b1 : (t143 != t129) = true := bne_iff_ne.mpr c51
            exact absurd (HRT.out.symm.trans (eggboxlaw19_TermsPrints.bad H)) (by simp)
        · rw [if_neg c49] at H
          have c49b0 : (t115.toList == t128.toList) = false := beq_eq_false_iff_ne.mpr c49
          have c49b1 : (t115.toList != t128.toList) = true := bne_iff_ne.mpr c49
          exact absurd (HRT.out.symm.trans (eggboxlaw19_TermsPrints.bad H)) (by simp)
      · rw [if_neg c48] at H
        have c48b0 : (t142 == t127) = false := beq_eq_false_iff_ne.mpr c48
        have c48b1 : (t142 != t127) = true := bne_iff_ne.mpr c48
        exact absurd (HRT.out.symm.trans (eggboxlaw19_TermsPrints.bad H)) (by simp)
    · rw [if_neg c46] at H
      have c46b0 : (t113.toList == t126.toList) = false := beq_eq_false_iff_ne.mpr c46
      have c46b1 : (t113.toList != t126.toList) = true := bne_iff_ne.mpr c46
      exact absurd (HRT.out.symm.trans (eggboxlaw19_TermsPrints.bad H)) (by simp)
  · rw [if_neg c45] at H
    have c45b0 : (t140 == t141) = false := beq_eq_false_iff_ne.mpr c45
    have c45b1 : (t140 != t141) = true := bne_iff_ne.mpr c45
    (first | rw [c45b0] | (simp only [i64_w, i32_w]; rw [c45b0]) | skip)
    exact absurd (HRT.out.symm.trans (eggboxlaw19_TermsPrints.bad H)) (by simp)
 case rest =>
  clear HC9
  try clear c1
  try clear c2
  try clear p2
  try clear c4
  try clear c14
  try clear c24
  try clear c25
  try clear c45
  try clear c45b0
  try clear c45b1
  obtain ⟨kq, x91_8, rfl, HA, HJ8, HO_113000, HO_113001, HO_126000, HO_126001, HO_139000, HO_139001, BK104, BK112, BK125, BK138, HB⟩ := hcut
  cases kq with
  | zero => exact absurd HA.out (by simp [eggboxlaw19_TermsPrints.j0])
  | succ kj8 =>
   have H := HA.out
   clear HA
   simp only [eggboxlaw19_TermsPrints.j0] at H
   by_cases c92 : x91_8 = true
   · subst c92
     have H1 : (some false) = some r := by rw [if_pos rfl] at H; exact H
     clear H
     have H := H1
     clear H1
     obtain rfl := Option.some.inj H
     go_wp2
     go_ret
     exact ⟨by first | rfl | (simp [errW_none, errW_some] <;> rfl) | (simp [*, errW_none, errW_some] <;> rfl), by repeat (first | (with_reducible first | exact HB.out | apply below_alloc | apply pw_below_drewN | apply below_drew1 | refine below_set ?_ GE104.out | refine below_set ?_ GE112.out | refine below_set ?_ GE125.out | refine below_set ?_ GE138.out) | exact HB.out)⟩
   · replace c92 := Bool.eq_false_iff.mpr c92
     subst c92
     have H1 : ((eggboxlaw19_spoil.f kj8 t105 t108 t111).bind fun bt147 => ((eggboxlaw19_Same.f kj8 t117 t120 t123 t130 t133 t136).bind fun t149 => (some t149))) = some r := by rw [if_neg (show ¬ (false = true) by decide)] at H; exact H
     clear H
     have H := H1
     clear H1
     replace H := Option.bind_eq_some_iff.mp H
     obtain ⟨⟨t147, t148⟩, A930, H⟩ := H
     replace H : ((eggboxlaw19_Same.f kj8 t117 t120 t123 t130 t133 t136).bind fun t149 => (some t149)) = some r := H
     have A93 := Aside0.mk A930
     clear A930
     replace H := Option.bind_eq_some_iff.mp H
     obtain ⟨t149, A940, H⟩ := H
     replace H : (some t149) = some r := H
     have A94 := Aside0.mk A940
     clear A940
     obtain rfl := Option.some.inj H
     have hnb95 := NB112_104.out
     have hnc95 := NB104_112.out
     have hnb96 := NB112_125.out
     have hnc96 := NB125_112.out
     have hnb97 := NB112_138.out
     have hnc97 := NB138_112.out
     have hcz98_0 : wc.cell? ⟨gb112, 0, none⟩ = some (.slice Ao14 t105.length co14) := (blk_cell BK112.out 0).trans rfl
     have hcz98_1 : wc.cell? ⟨gb112, 1, none⟩ = some (.slice Ao17 t108.length co17) := (blk_cell BK112.out 1).trans rfl
     have hcz98_2 : wc.cell? ⟨gb112, 2, none⟩ = some (.bool t111) := (blk_cell BK112.out 2).trans rfl
     have hfz98_0 := blk_frozen BK112.out 0
     have hfz98_1 := blk_frozen BK112.out 1
     have hfz98_2 := blk_frozen BK112.out 2
     go_wp2_with (first | ((with_reducible refine gate_callee (f := 16) rfl ?_); refine goesL_ (some 93) rfl rfl Try.func16 (by kernel_rfl) rfl #[.agg #[.slice Ao14 t105.length co14, .slice Ao17 t108.length co17, .bool t111]] rfl (by (try simp only [List.map_toArray, List.map_cons, List.map_nil]); first | done | rfl | (simp only [List.length_drop, List.length_take]; rfl)) ?_; (with_reducible refine (eggboxlaw19_spoil.calls kj8 (fun k_ => some k_ = (.slice Ao14 t105.length co14 : Value).ownBlock) (.slice Ao14 t105.length co14) t105 (fun k_ => some k_ = (.slice Ao17 t108.length co17 : Value).ownBlock) (.slice Ao17 t108.length co17) t108 t111 t147 t148 w _ ?side1 ?side2 ?side3 ?side4 ?side5 A93.out).mono ?_); (case side1 => repeat (first | (with_reducible first | exact HB.out | apply below_alloc | apply pw_below_drewN | apply below_drew1 | refine below_set ?_ GE104.out | refine below_set ?_ GE112.out | refine below_set ?_ GE125.out | refine below_set ?_ GE138.out) | exact HB.out)); (case side2 => exact Kd.R_tight rfl HO_113000.out); (case side3 => exact fun k_ e_ => (HO_113000.out.1 k_ e_.symm).1); (case side4 => exact Kd.R_tight rfl HO_113001.out); (case side5 => exact fun k_ e_ => (HO_113001.out.1 k_ e_.symm).1); rintro e w99 ⟨rfl, hy0, hy1, hb, hkp⟩; refine ⟨_, rfl, ?_⟩; have n0_ := Aside0.mk (Kd.R_reok rfl hy0 (fun k_ e_ => HO_113000.out.1 k_ e_)); have n1_ := Aside0.mk (Kd.R_reok rfl hy1 (fun k_ e_ => HO_113001.out.1 k_ e_)); have n2_ := Aside0.mk (Kd.R_mono (ok' := fun k_ => some k_ ≠ (.slice Ao14 t105.length co14 : Value).ownBlock ∧ some k_ ≠ (.slice Ao17 t108.length co17 : Value).ownBlock ∧ some k_ ≠ (.slice Ao28 t120.length co28 : Value).ownBlock ∧ some k_ ≠ (.slice Ao36 t130.length co36 : Value).ownBlock ∧ some k_ ≠ (.slice Ao41 t133.length co41 : Value).ownBlock) (Kd.R_keptB (HO_126000.out) hkp (fun k_ hk_ hs_ => Or.elim hs_ (fun e_ => (hk_.1) e_) (fun e_ => (hk_.2.1) e_))) (fun k_ hk_ => ⟨hk_.1.1, hk_.1.2.1, hk_.1.2.2.1, hk_.1.2.2.2.1, hk_.1.2.2.2.2⟩)); have n3_ := Aside0.mk (Kd.R_mono (ok' := fun k_ => some k_ ≠ (.slice Ao14 t105.length co14 : Value).ownBlock ∧ some k_ ≠ (.slice Ao17 t108.length co17 : Value).ownBlock ∧ some k_ ≠ (.slice Ao24 t117.length co24 : Value).ownBlock ∧ some k_ ≠ (.slice Ao36 t130.length co36 : Value).ownBlock ∧ some k_ ≠ (.slice Ao41 t133.length co41 : Value).ownBlock) (Kd.R_keptB (HO_126001.out) hkp (fun k_ hk_ hs_ => Or.elim hs_ (fun e_ => (hk_.1) e_) (fun e_ => (hk_.2.1) e_))) (fun k_ hk_ => ⟨hk_.1.1, hk_.1.2.1, hk_.1.2.2.1, hk_.1.2.2.2.1, hk_.1.2.2.2.2⟩)); have n4_ := Aside0.mk (Kd.R_mono (ok' := fun k_ => some k_ ≠ (.slice Ao14 t105.length co14 : Value).ownBlock ∧ some k_ ≠ (.slice Ao17 t108.length co17 : Value).ownBlock ∧ some k_ ≠ (.slice Ao24 t117.length co24 : Value).ownBlock ∧ some k_ ≠ (.slice Ao28 t120.length co28 : Value).ownBlock ∧ some k_ ≠ (.slice Ao41 t133.length co41 : Value).ownBlock) (Kd.R_keptB (HO_139000.out) hkp (fun k_ hk_ hs_ => Or.elim hs_ (fun e_ => (hk_.1) e_) (fun e_ => (hk_.2.1) e_))) (fun k_ hk_ => ⟨hk_.1.1, hk_.1.2.1, hk_.1.2.2.1, hk_.1.2.2.2.1, hk_.1.2.2.2.2⟩)); have n5_ := Aside0.mk (Kd.R_mono (ok' := fun k_ => some k_ ≠ (.slice Ao14 t105.length co14 : Value).ownBlock ∧ some k_ ≠ (.slice Ao17 t108.length co17 : Value).ownBlock ∧ some k_ ≠ (.slice Ao24 t117.length co24 : Value).ownBlock ∧ some k_ ≠ (.slice Ao28 t120.length co28 : Value).ownBlock ∧ some k_ ≠ (.slice Ao36 t130.length co36 : Value).ownBlock) (Kd.R_keptB (HO_139001.out) hkp (fun k_ hk_ hs_ => Or.elim hs_ (fun e_ => (hk_.1) e_) (fun e_ => (hk_.2.1) e_))) (fun k_ hk_ => ⟨hk_.1.1, hk_.1.2.1, hk_.1.2.2.1, hk_.1.2.2.2.1, hk_.1.2.2.2.2⟩)); have n6_ := Aside0.mk (blk_kept (by (with_reducible repeat (first | refine blk_drewN ?_ _ | refine blk_drew ?_ | refine blk_alloc ?_ _)); exact BK104.out) hkp (fun hs_ => Or.elim hs_ (fun e_ => (fun e_ => (Kd.R_ne HO_113000.out BK104.out (by decide)) e_) e_) (fun e_ => (fun e_ => (Kd.R_ne HO_113001.out BK104.out (by decide)) e_) e_))); have n7_ := Aside0.mk (blk_kept (by (with_reducible repeat (first | refine blk_drewN ?_ _ | refine blk_drew ?_ | refine blk_alloc ?_ _)); exact BK112.out) hkp (fun hs_ => Or.elim hs_ (fun e_ => (fun e_ => (Kd.R_ne HO_113000.out BK112.out (by decide)) e_) e_) (fun e_ => (fun e_ => (Kd.R_ne HO_113001.out BK112.out (by decide)) e_) e_))); have n8_ := Aside0.mk (blk_kept (by (with_reducible repeat (first | refine blk_drewN ?_ _ | refine blk_drew ?_ | refine blk_alloc ?_ _)); exact BK125.out) hkp (fun hs_ => Or.elim hs_ (fun e_ => (fun e_ => (Kd.R_ne HO_113000.out BK125.out (by decide)) e_) e_) (fun e_ => (fun e_ => (Kd.R_ne HO_113001.out BK125.out (by decide)) e_) e_))); have n9_ := Aside0.mk (blk_kept (by (with_reducible repeat (first | refine blk_drewN ?_ _ | refine blk_drew ?_ | refine blk_alloc ?_ _)); exact BK138.out) hkp (fun hs_ => Or.elim hs_ (fun e_ => (fun e_ => (Kd.R_ne HO_113000.out BK138.out (by decide)) e_) e_) (fun e_ => (fun e_ => (Kd.R_ne HO_113001.out BK138.out (by decide)) e_) e_))); have n10_ := Aside0.mk (hb); clear HO_113000; clear HO_113001; clear HO_126000; clear HO_126001; clear HO_139000; clear HO_139001; clear BK104; clear BK112; clear BK125; clear BK138; clear HB; have HO_113000 := n0_; have HO_113001 := n1_; have HO_126000 := n2_; have HO_126001 := n3_; have HO_139000 := n4_; have HO_139001 := n5_; have BK104 := n6_; have BK112 := n7_; have BK125 := n8_; have BK138 := n9_; have HB := n10_; clear n0_ n1_ n2_ n3_ n4_ n5_ n6_ n7_ n8_ n9_ n10_; (try clear hb); (try clear hkp); (try clear hy0); (try clear hy1); have hnb100 := NB125_104.out; have hnc100 := NB104_125.out; have hnb101 := NB125_138.out; have hnc101 := NB138_125.out; have hcz102_0 : w99.cell? ⟨gb125, 0, none⟩ = some (.slice Ao24 t117.length co24) := (blk_cell BK125.out 0).trans rfl; have hcz102_1 : w99.cell? ⟨gb125, 1, none⟩ = some (.slice Ao28 t120.length co28) := (blk_cell BK125.out 1).trans rfl; have hcz102_2 : w99.cell? ⟨gb125, 2, none⟩ = some (.bool t123) := (blk_cell BK125.out 2).trans rfl; have hfz102_0 := blk_frozen BK125.out 0; have hfz102_1 := blk_frozen BK125.out 1; have hfz102_2 := blk_frozen BK125.out 2; have hnb103 := NB138_104.out; have hnc103 := NB104_138.out; have hcz104_0 : w99.cell? ⟨gb138, 0, none⟩ = some (.slice Ao36 t130.length co36) := (blk_cell BK138.out 0).trans rfl; have hcz104_1 : w99.cell? ⟨gb138, 1, none⟩ = some (.slice Ao41 t133.length co41) := (blk_cell BK138.out 1).trans rfl; have hcz104_2 : w99.cell? ⟨gb138, 2, none⟩ = some (.bool t136) := (blk_cell BK138.out 2).trans rfl; have hfz104_0 := blk_frozen BK138.out 0; have hfz104_1 := blk_frozen BK138.out 1; have hfz104_2 := blk_frozen BK138.out 2) | ((with_reducible refine gate_callee (f := 13) rfl ?_); refine goesL_ (some 96) rfl rfl Try.func13 (by kernel_rfl) rfl #[.agg #[.slice Ao24 t117.length co24, .slice Ao28 t120.length co28, .bool t123], .agg #[.slice Ao36 t130.length co36, .slice Ao41 t133.length co41, .bool t136]] rfl (by (try simp only [List.map_toArray, List.map_cons, List.map_nil]); first | done | rfl | (simp only [List.length_drop, List.length_take]; rfl)) ?_; (with_reducible refine (eggboxlaw19_Same.calls kj8 _ _ t117 _ _ t120 t123 _ _ t130 _ _ t133 t136 t149 _ ?side1 ?side2 ?side3 ?side4 ?side5 ?side6 ?side7 ?side8 A94.out).mono ?_); (case side1 => repeat (first | exact (Kd.R_reads' HO_126000.out).2.2 | (with_reducible refine Kd.C_alloc ?_ _) | (with_reducible refine Kd.C_drewN ?_ _) | (with_reducible refine Kd.C_drew ?_))); (case side2 => exact (Kd.R_reads' HO_126000.out).2.1); (case side3 => repeat (first | exact (Kd.R_reads' HO_126001.out).2.2 | (with_reducible refine Kd.C_alloc ?_ _) | (with_reducible refine Kd.C_drewN ?_ _) | (with_reducible refine Kd.C_drew ?_))); (case side4 => exact (Kd.R_reads' HO_126001.out).2.1); (case side5 => repeat (first | exact (Kd.R_reads' HO_139000.out).2.2 | (with_reducible refine Kd.C_alloc ?_ _) | (with_reducible refine Kd.C_drewN ?_ _) | (with_reducible refine Kd.C_drew ?_))); (case side6 => exact (Kd.R_reads' HO_139000.out).2.1); (case side7 => repeat (first | exact (Kd.R_reads' HO_139001.out).2.2 | (with_reducible refine Kd.C_alloc ?_ _) | (with_reducible refine Kd.C_drewN ?_ _) | (with_reducible refine Kd.C_drew ?_))); (case side8 => exact (Kd.R_reads' HO_139001.out).2.1); rintro e w105 ⟨rfl, hb⟩; refine ⟨_, rfl, ?_⟩; have n0_ := Aside0.mk (Kd.R_below (by (with_reducible repeat (first | apply Kd.R_alloc | apply Kd.R_drewN | apply Kd.R_drew)); exact HO_113000.out) hb); have n1_ := Aside0.mk (Kd.R_below (by (with_reducible repeat (first | apply Kd.R_alloc | apply Kd.R_drewN | apply Kd.R_drew)); exact HO_113001.out) hb); have n2_ := Aside0.mk (Kd.R_below (by (with_reducible repeat (first | apply Kd.R_alloc | apply Kd.R_drewN | apply Kd.R_drew)); exact HO_126000.out) hb); have n3_ := Aside0.mk (Kd.R_below (by (with_reducible repeat (first | apply Kd.R_alloc | apply Kd.R_drewN | apply Kd.R_drew)); exact HO_126001.out) hb); have n4_ := Aside0.mk (Kd.R_below (by (with_reducible repeat (first | apply Kd.R_alloc | apply Kd.R_drewN | apply Kd.R_drew)); exact HO_139000.out) hb); have n5_ := Aside0.mk (Kd.R_below (by (with_reducible repeat (first | apply Kd.R_alloc | apply Kd.R_drewN | apply Kd.R_drew)); exact HO_139001.out) hb); have n6_ := Aside0.mk (blk_below (g := gb104) (o := .cells #[.slice A0_0 l0_0.length c0_0, .slice A0_1 l0_1.length c0_1, .bool a0_2] 24 (0, 0)) (by (with_reducible repeat (first | refine blk_drewN ?_ _ | refine blk_drew ?_ | refine blk_alloc ?_ _)); exact BK104.out) hb); have n7_ := Aside0.mk (blk_below (g := gb112) (o := .cells #[.slice Ao14 t105.length co14, .slice Ao17 t108.length co17, .bool t111] 24 (0, 0)) (by (with_reducible repeat (first | refine blk_drewN ?_ _ | refine blk_drew ?_ | refine blk_alloc ?_ _)); exact BK112.out) hb); have n8_ := Aside0.mk (blk_below (g := gb125) (o := .cells #[.slice Ao24 t117.length co24, .slice Ao28 t120.length co28, .bool t123] 24 (0, 0)) (by (with_reducible repeat (first | refine blk_drewN ?_ _ | refine blk_drew ?_ | refine blk_alloc ?_ _)); exact BK125.out) hb); have n9_ := Aside0.mk (blk_below (g := gb138) (o := .cells #[.slice Ao36 t130.length co36, .slice Ao41 t133.length co41, .bool t136] 24 (0, 0)) (by (with_reducible repeat (first | refine blk_drewN ?_ _ | refine blk_drew ?_ | refine blk_alloc ?_ _)); exact BK138.out) hb); have n10_ := Aside0.mk (below_step (by repeat (first | (with_reducible first | exact HB.out | apply below_alloc | apply pw_below_drewN | apply below_drew1 | refine below_set ?_ GE104.out | refine below_set ?_ GE112.out | refine below_set ?_ GE125.out | refine below_set ?_ GE138.out) | exact HB.out)) hb); clear HO_113000; clear HO_113001; clear HO_126000; clear HO_126001; clear HO_139000; clear HO_139001; clear BK104; clear BK112; clear BK125; clear BK138; clear HB; have HO_113000 := n0_; have HO_113001 := n1_; have HO_126000 := n2_; have HO_126001 := n3_; have HO_139000 := n4_; have HO_139001 := n5_; have BK104 := n6_; have BK112 := n7_; have BK125 := n8_; have BK138 := n9_; have HB := n10_; clear n0_ n1_ n2_ n3_ n4_ n5_ n6_ n7_ n8_ n9_ n10_; (try clear hb); (try clear hb2); (try clear hk); (try clear hi)))
     go_ret
     exact ⟨by first | rfl | (simp [errW_none, errW_some] <;> rfl) | (simp [*, errW_none, errW_some] <;> rfl), by repeat (first | (with_reducible first | exact HB.out | apply below_alloc | apply pw_below_drewN | apply below_drew1 | refine below_set ?_ GE104.out | refine below_set ?_ GE112.out | refine below_set ?_ GE125.out | refine below_set ?_ GE138.out) | exact HB.out)⟩

end Go.Proofs.Ytcbkihhpnndpkaa.PV
