/- Several texts of this session in one: HRefRead, PRx0, PRx1, PSx0, PSx1, HRefSide, HRefParse. -/
import Derived.Test.YtcbkihhpnndpkaaQ1
import Derived.Test.YtcbkihhpnndpkaaProg
import Derived.Below
import Derived.Deep.Draws
import Derived.Deep.AppendLies
import Derived.Maps.AppendAt
import Derived.OwnWalk
import Derived.Laws.BytesArg
import Derived.Laws.MakeOwn
import Derived.Laws.OwnMore
import Derived.Deep.OwnRows
import Derived.Tactics
import Derived.Lib.ConvBytes
import Derived.Laws.Slices
import Derived.WalkKit
import Derived.KernelRfl
import Derived.RowKit3
import Derived.Deep.LoopGhost
import Derived.Deep.QuietTactic
import Derived.BigQuiet
import Derived.WideLaws
import Derived.Deep.DeepCutAuto
import Derived.Deep.CutBlock
import Derived.Deep.RegionHeld3
import Derived.Laws.Rows
import Derived.Lib.AppendStr
import Derived.ArgAppend
import Derived.Laws.IdiomCopy
import Derived.OrdersHeld
import Derived.Laws.BitsLemmas
import Derived.RowKit
import Derived.Test.YtcbkihhpnndpkaaPAx3
import Derived.Test.YtcbkihhpnndpkaaWWords
import Derived.Test.YtcbkihhpnndpkaaWLast
import Derived.Test.YtcbkihhpnndpkaaWTab
import Derived.Test.YtcbkihhpnndpkaaWFour
import Derived.Test.YtcbkihhpnndpkaaWQPut
import Derived.Test.YtcbkihhpnndpkaaWApart
import Derived.Test.YtcbkihhpnndpkaaWArr
import Derived.Test.YtcbkihhpnndpkaaWZeros
import Derived.Test.YtcbkihhpnndpkaaWFoot
import Derived.Test.YtcbkihhpnndpkaaWKept
import Derived.Test.YtcbkihhpnndpkaaWShare
import Derived.Test.YtcbkihhpnndpkaaWN
import Derived.Test.YtcbkihhpnndpkaaWFootNe
import Derived.Test.YtcbkihhpnndpkaaWAt
import Derived.Test.YtcbkihhpnndpkaaWEqStruct
import Derived.Test.YtcbkihhpnndpkaaWRepsOne
import Derived.Test.YtcbkihhpnndpkaaWInv
import Derived.Test.YtcbkihhpnndpkaaWInvWords
import Derived.Test.YtcbkihhpnndpkaaWGuard
import Derived.Test.YtcbkihhpnndpkaaWNEv
import Derived.Test.YtcbkihhpnndpkaaWMore
import Derived.Test.YtcbkihhpnndpkaaQ2
import Derived.Outline
set_option linter.unusedVariables false
set_option linter.unusedSimpArgs false
namespace Go.Proofs.Ytcbkihhpnndpkaa.HRefRead
open Go.RowKit Go.Proofs.YtcbkihhpnndpkaaW.PrintWords Go.Proofs.YtcbkihhpnndpkaaW.PrintLast Go.Proofs.YtcbkihhpnndpkaaW.PrintMore
open Go.Proofs.Ytcbkihhpnndpkaa Go.Proofs.Ytcbkihhpnndpkaa.PA Go.Proofs.Ytcbkihhpnndpkaa.HTake Go.Proofs.Ytcbkihhpnndpkaa.HRead Go.Proofs.Ytcbkihhpnndpkaa.HAtom

/-- How a rule of the reference's reader ends: a0 is where it began. -/
def RPost (g : Nat) (s : ByteArray) (a0 : Nat) (w0 w : World) : Rd → Ending → World → Prop
  | .broke p, e, w' => ∃ v l, e = .returned v ∧ Kd.R k97 97 w' w.heap.size (fun _ => True) v l ∧ l.length ≤ 2 * (p - a0) + 1 ∧ a0 ≤ p ∧ p ≤ s.size ∧ IsS92 w0 w' g s p true ∧ Below w0.heap.size w0 w' ∧ KeepBut w w' g none
  | .read l d, e, w' => ∃ v, e = .returned v ∧ Kd.R k97 97 w' w.heap.size (fun _ => True) v l ∧ IsS92 w0 w' g s d false ∧ Below w0.heap.size w0 w' ∧ KeepBut w w' g none

theorem next (g : Nat) (s : ByteArray) (hs : s.size ≤ 1000) (a : Nat) (ha : a ≤ s.size) (b : Bool) (w0 w : World) (hI : IsS92 w0 w g s a b) (hB : Below w0.heap.size w0 w) :
    Calls Try.prog 45 #[.pointer (some ⟨g, 0, none⟩)] w fun e w' => e = .returned (.int .u8 (ch s (lk s a))) ∧ IsS92 w0 w' g s (lk s a : Nat) b ∧ Below w0.heap.size w0 w' ∧ KeepBut w w' g none := by
  obtain ⟨K, hK⟩ := next_ok s hs b a ha
  exact eggboxref19_reader_next.calls K g s a b _ _ _ _ w0 w hI hB (hK K (Nat.le_refl _))
theorem blanks (g : Nat) (s : ByteArray) (hs : s.size ≤ 1000) (a : Nat) (ha : a ≤ s.size) (b : Bool) (w0 w : World) (hI : IsS92 w0 w g s a b) (hB : Below w0.heap.size w0 w) :
    Calls Try.prog 97 #[.pointer (some ⟨g, 0, none⟩)] w fun e w' => e = .returned (.tuple #[]) ∧ IsS92 w0 w' g s (lk s a : Nat) b ∧ Below w0.heap.size w0 w' ∧ KeepBut w w' g none := by
  obtain ⟨K, hK⟩ := blanks_ok s hs b a ha
  exact eggboxref19_reader_blanks.calls K g s a b _ _ _ w0 w hI hB (hK K (Nat.le_refl _))
theorem take (g : Nat) (s : ByteArray) (hs : s.size ≤ 1000) (a : Nat) (ha : a ≤ s.size) (c : Int) (w0 w : World) (hI : IsS92 w0 w g s a false) (hB : Below w0.heap.size w0 w) :
    Calls Try.prog 46 #[.pointer (some ⟨g, 0, none⟩), .int .u8 c] w fun e w' => e = .returned (.tuple #[]) ∧ IsS92 w0 w' g s ((if takeP s a c then a + 1 else a : Nat) : Int) (!takeP s a c) ∧ Below w0.heap.size w0 w' ∧ KeepBut w w' g none := by
  refine eggboxref19_reader_take.calls g s a false c _ _ _ w0 w hI hB ?_
  unfold eggboxref19_reader_take.f takeP
  rw [if_neg (by simp)]
  by_cases h1 : a < s.size
  · rw [if_neg (by omega), if_pos (by omega), if_pos (by omega)]
    by_cases h2 : bt s (a : Int) = c
    · rw [if_pos h2, w64 (by omega) (by omega)]
      simp [h1, h2]
    · rw [if_neg h2]
      simp [h1, h2]
  · rw [if_pos (by omega)]
    simp [h1]
theorem begins_ok (c : Int) (hc : 0 ≤ c) : eggboxref19_begins.f c = some (begins c) := by
  unfold eggboxref19_begins.f eggboxref19_Place.f strings_IndexByte.f begins
  have e : Lib.indexByte (⟨#[120, 121, 122, 116]⟩ : ByteArray).data.toList c.toNat.toUInt8 = pl c := rfl
  rw [e]
  simp only [Option.bind_some]
  generalize pl c = q
  by_cases h1 : q ≥ 0
  · rw [if_pos h1]
    by_cases h2 : c = 0
    · subst h2; simp
    · rw [if_neg h2]
      have : decide (c = 49 ∨ c = 40 ∨ (c ≠ 0 ∧ 0 ≤ q)) = true := decide_eq_true (by omega)
      rw [this]
  · rw [if_neg h1]
    by_cases h3 : c = 49
    · subst h3; simp
    · rw [if_neg h3]
      by_cases h4 : c = 40
      · subst h4; simp
      · have e1 : decide (c = 49 ∨ c = 40 ∨ (c ≠ 0 ∧ 0 ≤ q)) = false := decide_eq_false (by omega)
        have e2 : (c == 40) = false := beq_eq_false_iff_ne.2 h4
        rw [e1, e2]
end Go.Proofs.Ytcbkihhpnndpkaa.HRefRead
namespace Go.Proofs.Ytcbkihhpnndpkaa.PR
open Go.RowKit Go.Proofs.YtcbkihhpnndpkaaW.PrintWords Go.Proofs.YtcbkihhpnndpkaaW.PrintLast Go.Proofs.YtcbkihhpnndpkaaW.PrintMore
attribute [local go_sem] max2_int min2_int max_two min_two max_three min_three max_four min_four   -- for this text's walks alone
open PA
set_option linter.unusedVariables false
set_option linter.unusedSimpArgs false



/-! #### struct type 97 -/
end Go.Proofs.Ytcbkihhpnndpkaa.PR
namespace Go.Proofs.Ytcbkihhpnndpkaa.PR
open Go.RowKit Go.Proofs.YtcbkihhpnndpkaaW.PrintWords Go.Proofs.YtcbkihhpnndpkaaW.PrintLast Go.Proofs.YtcbkihhpnndpkaaW.PrintMore
attribute [local go_sem] max2_int min2_int max_two min_two max_three min_three max_four min_four   -- for this text's walks alone
open PA
set_option linter.unusedVariables false
set_option linter.unusedSimpArgs false

/-! ### eggboxref19_reader_side: function 44 -/
/-- The other rule, as it is known so far. -/
structure eggboxref19_reader_sideC where
  f : Nat → ByteArray → Int → Bool → Option ((List S97) × ByteArray × Int × Bool)
  mono : ∀ a0 a1 a2 k, LeO (f k a0 a1 a2) (f (k + 1) a0 a1 a2)
  calls : ∀ (k : Nat) (g : Nat) (s0_0 : ByteArray) (s0_1 : Int) (s0_2 : Bool) (r1 : List (S97)) (r2 : ByteArray) (r3 : Int) (r4 : Bool) (w0 w : World), IsS92 w0 w g s0_0 s0_1 s0_2 → Below w0.heap.size w0 w → f k s0_0 s0_1 s0_2 = some (r1, r2, r3, r4) →
    Calls Try.prog 44 #[.pointer (some ⟨g, 0, none⟩)] w fun e w' => ∃ v0_ : Value, e = .returned (v0_) ∧ Kd.R k97 97 w' w.heap.size (fun _ => True) v0_ r1 ∧ IsS92 w0 w' g r2 r3 r4 ∧ Below w0.heap.size w0 w' ∧ KeepBut w w' g none
def eggboxref19_reader_side.f [Inhabited eggboxref19_reader_sideC] (k : Nat) (s0_0 : ByteArray) (s0_1 : Int) (s0_2 : Bool) : Option ((List S97) × ByteArray × Int × Bool) := (default : eggboxref19_reader_sideC).f k s0_0 s0_1 s0_2
theorem eggboxref19_reader_side.mono [Inhabited eggboxref19_reader_sideC] : ∀ a0 a1 a2 k, LeO (eggboxref19_reader_side.f k a0 a1 a2) (eggboxref19_reader_side.f (k + 1) a0 a1 a2) := (default : eggboxref19_reader_sideC).mono
theorem eggboxref19_reader_side.calls [Inhabited eggboxref19_reader_sideC] (k : Nat) (g : Nat) (s0_0 : ByteArray) (s0_1 : Int) (s0_2 : Bool) (r1 : List (S97)) (r2 : ByteArray) (r3 : Int) (r4 : Bool) (w0 w : World) (hI : IsS92 w0 w g s0_0 s0_1 s0_2) (hB : Below w0.heap.size w0 w) (h : eggboxref19_reader_side.f k s0_0 s0_1 s0_2 = some (r1, r2, r3, r4)) :
    Calls Try.prog 44 #[.pointer (some ⟨g, 0, none⟩)] w fun e w' => ∃ v0_ : Value, e = .returned (v0_) ∧ Kd.R k97 97 w' w.heap.size (fun _ => True) v0_ r1 ∧ IsS92 w0 w' g r2 r3 r4 ∧ Below w0.heap.size w0 w' ∧ KeepBut w w' g none :=
  (default : eggboxref19_reader_sideC).calls k g s0_0 s0_1 s0_2 r1 r2 r3 r4 w0 w hI hB h





/-! ### eggboxref19_reader_power: function 95 -/
mutual
def eggboxref19_reader_power.j0 : Nat → List (S97) → ByteArray → Int → Bool → Option ((List (S97)) × ByteArray × Int × Bool)
  | 0, _, _, _, _ => none
  | k + 1, x4, x1000, x1001, x1002 => eggboxref19_reader_power.l0 k x4 x1000 x1001 x1002
def eggboxref19_reader_power.l0 : Nat → List (S97) → ByteArray → Int → Bool → Option ((List (S97)) × ByteArray × Int × Bool)
  | 0, _, _, _, _ => none
  | k + 1, x4, x1000, x1001, x1002 => if x1002 = true then (some (x4, x1000, x1001, x1002)) else ((eggboxref19_reader_next.f k x1000 x1001 x1002).bind fun bt124 => (if bt124.1 = 94 then ((eggboxref19_reader_take.f bt124.2.1 (wrap64 (bt124.2.2.1 + 1)) bt124.2.2.2 119).bind fun bt128 => (if x4.length < 8796093022208 then (eggboxref19_reader_power.l0 k (x4 ++ [(⟨4, 0⟩ : S97)]) bt128.1 bt128.2.1 bt128.2.2) else (none))) else (some (x4, bt124.2.1, bt124.2.2.1, bt124.2.2.2))))
end
def eggboxref19_reader_power.f [Inhabited eggboxref19_reader_sideC] (k : Nat) (s0_0 : ByteArray) (s0_1 : Int) (s0_2 : Bool) : Option ((List (S97)) × ByteArray × Int × Bool) := (eggboxref19_reader_next.f k s0_0 s0_1 s0_2).bind fun bt101 => ((eggboxref19_begins.f bt101.1).bind fun t105 => (if t105 = true then (if bt101.1 = 49 then (eggboxref19_reader_power.j0 k (([(⟨1, 0⟩ : S97)] : List (S97))) bt101.2.1 (wrap64 (bt101.2.2.1 + 1)) bt101.2.2.2) else (if bt101.1 = 40 then ((eggboxref19_reader_side.f k bt101.2.1 (wrap64 (bt101.2.2.1 + 1)) bt101.2.2.2).bind fun bt109 => (if bt109.2.2.2 = true then (eggboxref19_reader_power.j0 k bt109.1 bt109.2.1 bt109.2.2.1 bt109.2.2.2) else ((eggboxref19_reader_blanks.f k bt109.2.1 bt109.2.2.1 bt109.2.2.2).bind fun bt115 => ((eggboxref19_reader_take.f bt115.1 bt115.2.1 bt115.2.2 41).bind fun bt118 => (eggboxref19_reader_power.j0 k bt109.1 bt118.1 bt118.2.1 bt118.2.2))))) else (eggboxref19_reader_power.j0 k (([(⟨2, bt101.1⟩ : S97)] : List (S97))) bt101.2.1 (wrap64 (bt101.2.2.1 + 1)) bt101.2.2.2))) else (some (([] : List (S97)), bt101.2.1, bt101.2.2.1, true))))
theorem eggboxref19_reader_power.mono_l [Inhabited eggboxref19_reader_sideC] : ∀ k, (∀ y0 y1 y2 y3, LeO (eggboxref19_reader_power.j0 k y0 y1 y2 y3) (eggboxref19_reader_power.j0 (k + 1) y0 y1 y2 y3)) ∧ (∀ y0 y1 y2 y3, LeO (eggboxref19_reader_power.l0 k y0 y1 y2 y3) (eggboxref19_reader_power.l0 (k + 1) y0 y1 y2 y3))
  | 0 => ⟨fun _ _ _ _ r h => by simp [eggboxref19_reader_power.j0] at h, fun _ _ _ _ r h => by simp [eggboxref19_reader_power.l0] at h⟩
  | k + 1 => by
    obtain ⟨ih0, ih1⟩ := eggboxref19_reader_power.mono_l k
    refine ⟨?_, ?_⟩
    · intro y0 y1 y2 y3
      unfold eggboxref19_reader_power.j0
      repeat' first
      | (with_reducible exact ih0 _ _ _ _)
      | (with_reducible exact ih1 _ _ _ _)
      | (with_reducible exact eggboxref19_reader_blanks.mono _ _ _ _)
      | (with_reducible exact eggboxref19_reader_next.mono _ _ _ _)
      | (with_reducible exact eggboxref19_reader_side.mono _ _ _ _)
      | (with_reducible exact LeO.refl _)
      | (with_reducible exact LeO.none _)
      | (with_reducible refine LeO.ite ?_ ?_)
      | (with_reducible refine LeO.bind ?_ (fun _ => ?_))
      | exact ih0 _ _ _ _
      | exact ih1 _ _ _ _
      | exact eggboxref19_reader_blanks.mono _ _ _ _
      | exact eggboxref19_reader_next.mono _ _ _ _
      | exact eggboxref19_reader_side.mono _ _ _ _
      | exact LeO.none _
      | refine LeO.ite ?_ ?_
      | refine LeO.bind ?_ (fun _ => ?_)
    · intro y0 y1 y2 y3
      unfold eggboxref19_reader_power.l0
      repeat' first
      | (with_reducible exact ih0 _ _ _ _)
      | (with_reducible exact ih1 _ _ _ _)
      | (with_reducible exact eggboxref19_reader_blanks.mono _ _ _ _)
      | (with_reducible exact eggboxref19_reader_next.mono _ _ _ _)
      | (with_reducible exact eggboxref19_reader_side.mono _ _ _ _)
      | (with_reducible exact LeO.refl _)
      | (with_reducible exact LeO.none _)
      | (with_reducible refine LeO.ite ?_ ?_)
      | (with_reducible refine LeO.bind ?_ (fun _ => ?_))
      | exact ih0 _ _ _ _
      | exact ih1 _ _ _ _
      | exact eggboxref19_reader_blanks.mono _ _ _ _
      | exact eggboxref19_reader_next.mono _ _ _ _
      | exact eggboxref19_reader_side.mono _ _ _ _
      | exact LeO.none _
      | refine LeO.ite ?_ ?_
      | refine LeO.bind ?_ (fun _ => ?_)
theorem eggboxref19_reader_power.mono [Inhabited eggboxref19_reader_sideC] : ∀ a0 a1 a2 k, LeO (eggboxref19_reader_power.f k a0 a1 a2) (eggboxref19_reader_power.f (k + 1) a0 a1 a2) := by
  intro a0 a1 a2 k
  obtain ⟨ih0, ih1⟩ := eggboxref19_reader_power.mono_l k
  unfold eggboxref19_reader_power.f
  repeat' first
      | (with_reducible exact ih0 _ _ _ _)
      | (with_reducible exact ih1 _ _ _ _)
      | (with_reducible exact eggboxref19_reader_blanks.mono _ _ _ _)
      | (with_reducible exact eggboxref19_reader_next.mono _ _ _ _)
      | (with_reducible exact eggboxref19_reader_side.mono _ _ _ _)
      | (with_reducible exact LeO.refl _)
      | (with_reducible exact LeO.none _)
      | (with_reducible refine LeO.ite ?_ ?_)
      | (with_reducible refine LeO.bind ?_ (fun _ => ?_))
      | exact ih0 _ _ _ _
      | exact ih1 _ _ _ _
      | exact eggboxref19_reader_blanks.mono _ _ _ _
      | exact eggboxref19_reader_next.mono _ _ _ _
      | exact eggboxref19_reader_side.mono _ _ _ _
      | exact LeO.none _
      | refine LeO.ite ?_ ?_
      | refine LeO.bind ?_ (fun _ => ?_)
set_option maxHeartbeats 8000000 in
set_option maxRecDepth 100000 in
theorem eggboxref19_reader_power.calls [Inhabited eggboxref19_reader_sideC] (k : Nat) (g : Nat) (s0_0 : ByteArray) (s0_1 : Int) (s0_2 : Bool) (r1 : List (S97)) (r2 : ByteArray) (r3 : Int) (r4 : Bool) (w0 w : World) (hI : IsS92 w0 w g s0_0 s0_1 s0_2) (hB : Below w0.heap.size w0 w) (h : eggboxref19_reader_power.f k s0_0 s0_1 s0_2 = some (r1, r2, r3, r4)) :
    Calls Try.prog 95 #[.pointer (some ⟨g, 0, none⟩)] w fun e w' => ∃ v0_ : Value, e = .returned (v0_) ∧ Kd.R k97 97 w' w.heap.size (fun _ => True) v0_ r1 ∧ IsS92 w0 w' g r2 r3 r4 ∧ Below w0.heap.size w0 w' ∧ KeepBut w w' g none := by
  have hu97 := Try.underlying97
  have HI0 := Aside0.mk hI
  have HK := Aside0.mk (KeepBut.refl w g none)
  have HL := Aside0.mk hB.size
  clear hI
  have HW0 := Aside0.mk hB.size
  have HB := Aside0.mk hB
  clear hB
  have H : ((eggboxref19_reader_next.f k s0_0 s0_1 s0_2).bind fun bt101 => ((eggboxref19_begins.f bt101.1).bind fun t105 => (if t105 = true then (if bt101.1 = 49 then (eggboxref19_reader_power.j0 k (([(⟨1, 0⟩ : S97)] : List (S97))) bt101.2.1 (wrap64 (bt101.2.2.1 + 1)) bt101.2.2.2) else (if bt101.1 = 40 then ((eggboxref19_reader_side.f k bt101.2.1 (wrap64 (bt101.2.2.1 + 1)) bt101.2.2.2).bind fun bt109 => (if bt109.2.2.2 = true then (eggboxref19_reader_power.j0 k bt109.1 bt109.2.1 bt109.2.2.1 bt109.2.2.2) else ((eggboxref19_reader_blanks.f k bt109.2.1 bt109.2.2.1 bt109.2.2.2).bind fun bt115 => ((eggboxref19_reader_take.f bt115.1 bt115.2.1 bt115.2.2 41).bind fun bt118 => (eggboxref19_reader_power.j0 k bt109.1 bt118.1 bt118.2.1 bt118.2.2))))) else (eggboxref19_reader_power.j0 k (([(⟨2, bt101.1⟩ : S97)] : List (S97))) bt101.2.1 (wrap64 (bt101.2.2.1 + 1)) bt101.2.2.2))) else (some (([] : List (S97)), bt101.2.1, bt101.2.2.1, true))))) = some (r1, r2, r3, r4) := h
  clear h
  replace H := Option.bind_eq_some_iff.mp H
  obtain ⟨⟨t101, t102, t103, t104⟩, A20, H⟩ := H
  replace H : ((eggboxref19_begins.f t101).bind fun t105 => (if t105 = true then (if t101 = 49 then (eggboxref19_reader_power.j0 k (([(⟨1, 0⟩ : S97)] : List (S97))) t102 (wrap64 (t103 + 1)) t104) else (if t101 = 40 then ((eggboxref19_reader_side.f k t102 (wrap64 (t103 + 1)) t104).bind fun bt109 => (if bt109.2.2.2 = true then (eggboxref19_reader_power.j0 k bt109.1 bt109.2.1 bt109.2.2.1 bt109.2.2.2) else ((eggboxref19_reader_blanks.f k bt109.2.1 bt109.2.2.1 bt109.2.2.2).bind fun bt115 => ((eggboxref19_reader_take.f bt115.1 bt115.2.1 bt115.2.2 41).bind fun bt118 => (eggboxref19_reader_power.j0 k bt109.1 bt118.1 bt118.2.1 bt118.2.2))))) else (eggboxref19_reader_power.j0 k (([(⟨2, t101⟩ : S97)] : List (S97))) t102 (wrap64 (t103 + 1)) t104))) else (some (([] : List (S97)), t102, t103, true)))) = some (r1, r2, r3, r4) := H
  have A2 := Aside0.mk A20
  clear A20
  replace H := Option.bind_eq_some_iff.mp H
  obtain ⟨t105, A30, H⟩ := H
  replace H : (if t105 = true then (if t101 = 49 then (eggboxref19_reader_power.j0 k (([(⟨1, 0⟩ : S97)] : List (S97))) t102 (wrap64 (t103 + 1)) t104) else (if t101 = 40 then ((eggboxref19_reader_side.f k t102 (wrap64 (t103 + 1)) t104).bind fun bt109 => (if bt109.2.2.2 = true then (eggboxref19_reader_power.j0 k bt109.1 bt109.2.1 bt109.2.2.1 bt109.2.2.2) else ((eggboxref19_reader_blanks.f k bt109.2.1 bt109.2.2.1 bt109.2.2.2).bind fun bt115 => ((eggboxref19_reader_take.f bt115.1 bt115.2.1 bt115.2.2 41).bind fun bt118 => (eggboxref19_reader_power.j0 k bt109.1 bt118.1 bt118.2.1 bt118.2.2))))) else (eggboxref19_reader_power.j0 k (([(⟨2, t101⟩ : S97)] : List (S97))) t102 (wrap64 (t103 + 1)) t104))) else (some (([] : List (S97)), t102, t103, true))) = some (r1, r2, r3, r4) := H
  have A3 := Aside0.mk A30
  clear A30
  by_cases c4 : t105 = true
  · subst c4
    have H1 : (if t101 = 49 then (eggboxref19_reader_power.j0 k (([(⟨1, 0⟩ : S97)] : List (S97))) t102 (wrap64 (t103 + 1)) t104) else (if t101 = 40 then ((eggboxref19_reader_side.f k t102 (wrap64 (t103 + 1)) t104).bind fun bt109 => (if bt109.2.2.2 = true then (eggboxref19_reader_power.j0 k bt109.1 bt109.2.1 bt109.2.2.1 bt109.2.2.2) else ((eggboxref19_reader_blanks.f k bt109.2.1 bt109.2.2.1 bt109.2.2.2).bind fun bt115 => ((eggboxref19_reader_take.f bt115.1 bt115.2.1 bt115.2.2 41).bind fun bt118 => (eggboxref19_reader_power.j0 k bt109.1 bt118.1 bt118.2.1 bt118.2.2))))) else (eggboxref19_reader_power.j0 k (([(⟨2, t101⟩ : S97)] : List (S97))) t102 (wrap64 (t103 + 1)) t104))) = some (r1, r2, r3, r4) := by rw [if_pos rfl] at H; exact H
    clear H
    have H := H1
    clear H1
    have HC5 := Aside0.mk H
    clear H
    go_enter Try.func95, Try.ntmps95
    go_upto_block 0 with (first | ((with_reducible refine gate_callee (f := 45) rfl ?_); refine goesL_ (some 6) rfl rfl Try.func45 (by kernel_rfl) rfl #[.pointer (some ⟨g, 0, none⟩)] rfl (by (try simp only [List.map_toArray, List.map_cons, List.map_nil]); first | done | rfl | (simp only [List.length_drop, List.length_take]; rfl)) ?_; (with_reducible refine (eggboxref19_reader_next.calls k g s0_0 s0_1 s0_2 t101 t102 t103 t104 w0 _ ?side1 ?side2 A2.out).mono ?_); (case side1 => repeat (first | (with_reducible first | exact HI0.out | apply IsS92.alloc | apply IsS92.drewN | apply IsS92.drew | apply IsS92.set_0 | apply IsS92.set_1 | apply IsS92.set_2) | exact HI0.out)); (case side2 => repeat (first | (with_reducible first | exact HB.out | apply below_alloc | apply pw_below_drewN | apply below_drew1 | refine below_set ?_ (IsS92.ge HI0.out)) | exact HB.out)); rintro e w6 ⟨rfl, hi, hb, hk⟩; refine ⟨_, rfl, ?_⟩; have n0_ := Aside0.mk (KeepBut.trans (by repeat (first | (with_reducible first | exact HK.out | apply KeepBut.set_ | apply keep_drewN | apply keep_drew | apply keep_alloc) | exact HK.out)) hk (.inl rfl)); have n1_ := Aside0.mk (hb); have n2_ := Aside0.mk (hi); clear HK; clear HB; clear HI0; have HK := n0_; have HB := n1_; have HI0 := n2_; clear n0_ n1_ n2_; (try clear hb); (try clear hb2); (try clear hk); (try clear hi)) | ((with_reducible refine gate_callee (f := 96) rfl ?_); refine goesL_ (some 8) rfl rfl Try.func96 (by kernel_rfl) rfl #[.int .u8 t101] rfl (by (try simp only [List.map_toArray, List.map_cons, List.map_nil]); first | done | rfl | (simp only [List.length_drop, List.length_take]; rfl)) ?_; (with_reducible refine (eggboxref19_begins.calls t101 true _ A3.out).mono ?_); rintro e w' ⟨rfl, ⟨nd, rfl⟩⟩; refine ⟨_, rfl, ?_⟩; (try (rw [drewN_self w6]; generalize hq_ : World.drewN w6 _ = w6; have n0_ : Aside0 (IsS92 w0 w6 g t102 t103 t104) := ⟨by rw [← hq_]; exact (by repeat (first | (with_reducible first | exact HI0.out | apply IsS92.alloc | apply IsS92.drewN | apply IsS92.drew | apply IsS92.set_0 | apply IsS92.set_1 | apply IsS92.set_2) | exact HI0.out))⟩; have n1_ : Aside0 (KeepBut w w6 g none) := ⟨by rw [← hq_]; exact (by repeat (first | (with_reducible first | exact HK.out | apply KeepBut.set_ | apply keep_drewN | apply keep_drew | apply keep_alloc) | exact HK.out))⟩; have n2_ : Aside0 (Below w0.heap.size w0 w6) := ⟨by rw [← hq_]; exact (by repeat (first | (with_reducible first | exact HB.out | apply below_alloc | apply pw_below_drewN | apply below_drew1 | refine below_set ?_ (IsS92.ge HI0.out)) | exact HB.out))⟩; clear HI0 HK HB hq_; have HI0 := n0_; have HK := n1_; have HB := n2_; clear n0_ n1_ n2_)); obtain ⟨HGz7, hgz7⟩ := HI0.out; have hcz7_0 := cellS92_0 HGz7; have hcz7_1 := cellS92_1 HGz7; have hcz7_2 := cellS92_2 HGz7; have hfz7_0 := blk_frozen HGz7 0; have hfz7_1 := blk_frozen HGz7 1; have hfz7_2 := blk_frozen HGz7 2; clear HGz7 hgz7))
    (try simp only [Act.put, List.setIfInBounds_toArray, List.set_cons_zero, List.set_cons_succ])
    go_cut [4] (fun v4 wc => ∃ (kq : Nat) (x4_4 : List (S97)) (x1000_4 : ByteArray) (x1001_4 : Int) (x1002_4 : Bool), Aside0 (eggboxref19_reader_power.j0 kq x4_4 x1000_4 x1001_4 x1002_4 = some (r1, r2, r3, r4)) ∧ Aside0 (kq ≤ k) ∧ Aside0 (Kd.R k97 97 wc w.heap.size (fun _ => True) v4 x4_4) ∧ Aside0 (IsS92 w0 wc g x1000_4 x1001_4 x1002_4) ∧ Aside0 (KeepBut w wc g none) ∧ Aside0 (Below w0.heap.size w0 wc))
    case first =>
      have H := HC5.out
      clear HC5
      by_cases c8 : t101 = 49
      · rw [if_pos c8] at H
        have c8b0 : (t101 == 49) = true := beq_iff_eq.mpr c8
        have c8b1 : (t101 != 49) = false := bne_eq_false_iff_eq.mpr c8
        clear c8
        (first | rw [c8b0] | (simp only [i64_w, i32_w]; rw [c8b0]) | skip)
        obtain ⟨y106, hy106⟩ : ∃ y_ : List (S97), y_ = (([(⟨1, 0⟩ : S97)] : List (S97))) := ⟨_, rfl⟩
        replace H : (eggboxref19_reader_power.j0 k y106 t102 (wrap64 (t103 + 1)) t104) = some (r1, r2, r3, r4) := by first | (rw [hy106]; with_reducible exact H) | (have H2_ := (Option.bind_some _ _).symm.trans H; rw [hy106]; with_reducible exact H2_) | (have H2_ := (Option.bind_some _ _).symm.trans H; with_reducible exact H2_) | with_reducible exact H | (rw [hy106]; exact H) | exact H
        have Ny106 := Aside0.mk hy106
        clear hy106
        have H' := Aside0.mk H
        clear H
        go_wp2_with (first | ((with_reducible refine gate_dst (N := 27) rfl ?_); refine Kd.R_lit k97 _ 97 ?hg (N := 27) ?hd (xs := ([(⟨1, 0⟩ : S97)] : List (S97))) (inner := [.int .i64 1, .int .u8 0]) (ok := fun _ => True) (okp := fun _ => True) ?hr ?hp (fun _ hk => hk) trivial (Below.refl _ _) (Nat.le_refl _) (by simp) ?_; (case hd => rfl); (case hg => rfl); (case hr => first | (go_simp; done) | (go_simp; rfl)); (case hp => exact (Reps.c2 (show Kd.M k97 _ _ _ (⟨1, 0⟩ : S97) [.int .i64 1, .int .u8 0] from (k97_mkM _ _ _ (⟨1, 0⟩ : S97) )) (Reps.none _ _))); intro v107 w9 ho10 hb hg_ hnew_; clear hg_ hnew_; (first | rw [← Ny106.out] at ho10 | (simp only [Int.reduceToNat] at ho10; rw [← Ny106.out] at ho10)); have n0_ := Aside0.mk (Kd.R_lower ho10 (keep_size (w := w) (g := g) (row := none) (by repeat (first | (with_reducible first | exact HK.out | apply KeepBut.set_ | apply keep_drewN | apply keep_drew | apply keep_alloc) | exact HK.out)))); have n1_ := Aside0.mk (IsS92.below (show IsS92 w0 (w6.setCell ⟨g, 1, none⟩ (.int .i64 (wrap64 (t103 + 1)))) g t102 (wrap64 (t103 + 1)) t104 from by repeat (first | (with_reducible first | exact HI0.out | apply IsS92.alloc | apply IsS92.drewN | apply IsS92.drew | apply IsS92.set_0 | apply IsS92.set_1 | apply IsS92.set_2) | exact HI0.out)) hb); have n2_ := Aside0.mk (KeepBut.trans (by repeat (first | (with_reducible first | exact HK.out | apply KeepBut.set_ | apply keep_drewN | apply keep_drew | apply keep_alloc) | exact HK.out)) (KeepBut.of_below hb g none) (.inl rfl)); have n3_ := Aside0.mk (below_step (by repeat (first | (with_reducible first | exact HB.out | apply below_alloc | apply pw_below_drewN | apply below_drew1 | refine below_set ?_ (IsS92.ge HI0.out)) | exact HB.out)) hb); clear HI0; clear HK; clear HB; have HO108 := n0_; have HI0 := n1_; have HK := n2_; have HB := n3_; clear n0_ n1_ n2_ n3_; clear hb ho10))
        go_meet
        case rel => exact ⟨_, (y106), (t102), (wrap64 (t103 + 1)), (t104), H', ⟨by first | omega | exact Nat.le_refl _⟩, ⟨by (with_reducible repeat (first | apply Kd.R_alloc | apply Kd.R_drewN | apply Kd.R_drew)); exact HO108.out⟩, ⟨by repeat (first | (with_reducible first | exact HI0.out | apply IsS92.alloc | apply IsS92.drewN | apply IsS92.drew | apply IsS92.set_0 | apply IsS92.set_1 | apply IsS92.set_2) | exact HI0.out)⟩, ⟨by repeat (first | (with_reducible first | exact HK.out | apply KeepBut.set_ | apply keep_drewN | apply keep_drew | apply keep_alloc) | exact HK.out)⟩, ⟨by repeat (first | (with_reducible first | exact HB.out | apply below_alloc | apply pw_below_drewN | apply below_drew1 | refine below_set ?_ (IsS92.ge HI0.out)) | exact HB.out)⟩⟩
      · rw [if_neg c8] at H
        have c8b0 : (t101 == 49) = false := beq_eq_false_iff_ne.mpr c8
        have c8b1 : (t101 != 49) = true := bne_iff_ne.mpr c8
        (first | rw [c8b0] | (simp only [i64_w, i32_w]; rw [c8b0]) | skip)
        by_cases c11 : t101 = 40
        · rw [if_pos c11] at H
          have c11b0 : (t101 == 40) = true := beq_iff_eq.mpr c11
          have c11b1 : (t101 != 40) = false := bne_eq_false_iff_eq.mpr c11
          clear c11
          replace H := Option.bind_eq_some_iff.mp H
          obtain ⟨⟨t109, t112, t113, t114⟩, A120, H⟩ := H
          replace H : (if t114 = true then (eggboxref19_reader_power.j0 k t109 t112 t113 t114) else ((eggboxref19_reader_blanks.f k t112 t113 t114).bind fun bt115 => ((eggboxref19_reader_take.f bt115.1 bt115.2.1 bt115.2.2 41).bind fun bt118 => (eggboxref19_reader_power.j0 k t109 bt118.1 bt118.2.1 bt118.2.2)))) = some (r1, r2, r3, r4) := H
          have A12 := Aside0.mk A120
          clear A120
          by_cases c13 : t114 = true
          · subst c13
            have H1 : (eggboxref19_reader_power.j0 k t109 t112 t113 true) = some (r1, r2, r3, r4) := by rw [if_pos rfl] at H; exact H
            clear H
            have H := H1
            clear H1
            have H' := Aside0.mk H
            clear H
            go_wp2_with (first | ((with_reducible refine gate_callee (f := 44) rfl ?_); refine goesL_ (some 31) rfl rfl Try.func44 (by kernel_rfl) rfl #[.pointer (some ⟨g, 0, none⟩)] rfl (by (try simp only [List.map_toArray, List.map_cons, List.map_nil]); first | done | rfl | (simp only [List.length_drop, List.length_take]; rfl)) ?_; (with_reducible refine (eggboxref19_reader_side.calls k g t102 (wrap64 (t103 + 1)) t104 t109 t112 t113 true w0 _ ?side1 ?side2 A12.out).mono ?_); (case side1 => repeat (first | (with_reducible first | exact HI0.out | apply IsS92.alloc | apply IsS92.drewN | apply IsS92.drew | apply IsS92.set_0 | apply IsS92.set_1 | apply IsS92.set_2) | exact HI0.out)); (case side2 => repeat (first | (with_reducible first | exact HB.out | apply below_alloc | apply pw_below_drewN | apply below_drew1 | refine below_set ?_ (IsS92.ge HI0.out)) | exact HB.out)); rintro e w14 ⟨v110, rfl, ho0, hi, hb, hk⟩; refine ⟨_, rfl, ?_⟩; have n0_ := Aside0.mk (Kd.R_lower ho0 (keep_size (w := w) (g := g) (row := none) (by repeat (first | (with_reducible first | exact HK.out | apply KeepBut.set_ | apply keep_drewN | apply keep_drew | apply keep_alloc) | exact HK.out)))); have n1_ := Aside0.mk (KeepBut.trans (by repeat (first | (with_reducible first | exact HK.out | apply KeepBut.set_ | apply keep_drewN | apply keep_drew | apply keep_alloc) | exact HK.out)) hk (.inl rfl)); have n2_ := Aside0.mk (hb); have n3_ := Aside0.mk (hi); clear HK; clear HB; clear HI0; have HO111 := n0_; have HK := n1_; have HB := n2_; have HI0 := n3_; clear n0_ n1_ n2_ n3_; (try clear hb); (try clear hb2); (try clear hk); (try clear hi); (try clear ho0); obtain ⟨HGz15, hgz15⟩ := HI0.out; have hcz15_0 := cellS92_0 HGz15; have hcz15_1 := cellS92_1 HGz15; have hcz15_2 := cellS92_2 HGz15; have hfz15_0 := blk_frozen HGz15 0; have hfz15_1 := blk_frozen HGz15 1; have hfz15_2 := blk_frozen HGz15 2; clear HGz15 hgz15))
            go_meet
            case rel => exact ⟨_, (t109), (t112), (t113), (true), H', ⟨by first | omega | exact Nat.le_refl _⟩, ⟨by (with_reducible repeat (first | apply Kd.R_alloc | apply Kd.R_drewN | apply Kd.R_drew)); exact HO111.out⟩, ⟨by repeat (first | (with_reducible first | exact HI0.out | apply IsS92.alloc | apply IsS92.drewN | apply IsS92.drew | apply IsS92.set_0 | apply IsS92.set_1 | apply IsS92.set_2) | exact HI0.out)⟩, ⟨by repeat (first | (with_reducible first | exact HK.out | apply KeepBut.set_ | apply keep_drewN | apply keep_drew | apply keep_alloc) | exact HK.out)⟩, ⟨by repeat (first | (with_reducible first | exact HB.out | apply below_alloc | apply pw_below_drewN | apply below_drew1 | refine below_set ?_ (IsS92.ge HI0.out)) | exact HB.out)⟩⟩
          · replace c13 := Bool.eq_false_iff.mpr c13
            subst c13
            have H1 : ((eggboxref19_reader_blanks.f k t112 t113 false).bind fun bt115 => ((eggboxref19_reader_take.f bt115.1 bt115.2.1 bt115.2.2 41).bind fun bt118 => (eggboxref19_reader_power.j0 k t109 bt118.1 bt118.2.1 bt118.2.2))) = some (r1, r2, r3, r4) := by rw [if_neg (show ¬ (false = true) by decide)] at H; exact H
            clear H
            have H := H1
            clear H1
            replace H := Option.bind_eq_some_iff.mp H
            obtain ⟨⟨t115, t116, t117⟩, A160, H⟩ := H
            replace H : ((eggboxref19_reader_take.f t115 t116 t117 41).bind fun bt118 => (eggboxref19_reader_power.j0 k t109 bt118.1 bt118.2.1 bt118.2.2)) = some (r1, r2, r3, r4) := H
            have A16 := Aside0.mk A160
            clear A160
            replace H := Option.bind_eq_some_iff.mp H
            obtain ⟨⟨t118, t119, t120⟩, A170, H⟩ := H
            replace H : (eggboxref19_reader_power.j0 k t109 t118 t119 t120) = some (r1, r2, r3, r4) := H
            have A17 := Aside0.mk A170
            clear A170
            have H' := Aside0.mk H
            clear H
            go_wp2_with (first | ((with_reducible refine gate_callee (f := 44) rfl ?_); refine goesL_ (some 31) rfl rfl Try.func44 (by kernel_rfl) rfl #[.pointer (some ⟨g, 0, none⟩)] rfl (by (try simp only [List.map_toArray, List.map_cons, List.map_nil]); first | done | rfl | (simp only [List.length_drop, List.length_take]; rfl)) ?_; (with_reducible refine (eggboxref19_reader_side.calls k g t102 (wrap64 (t103 + 1)) t104 t109 t112 t113 false w0 _ ?side1 ?side2 A12.out).mono ?_); (case side1 => repeat (first | (with_reducible first | exact HI0.out | apply IsS92.alloc | apply IsS92.drewN | apply IsS92.drew | apply IsS92.set_0 | apply IsS92.set_1 | apply IsS92.set_2) | exact HI0.out)); (case side2 => repeat (first | (with_reducible first | exact HB.out | apply below_alloc | apply pw_below_drewN | apply below_drew1 | refine below_set ?_ (IsS92.ge HI0.out)) | exact HB.out)); rintro e w18 ⟨v110, rfl, ho0, hi, hb, hk⟩; refine ⟨_, rfl, ?_⟩; have n0_ := Aside0.mk (Kd.R_lower ho0 (keep_size (w := w) (g := g) (row := none) (by repeat (first | (with_reducible first | exact HK.out | apply KeepBut.set_ | apply keep_drewN | apply keep_drew | apply keep_alloc) | exact HK.out)))); have n1_ := Aside0.mk (KeepBut.trans (by repeat (first | (with_reducible first | exact HK.out | apply KeepBut.set_ | apply keep_drewN | apply keep_drew | apply keep_alloc) | exact HK.out)) hk (.inl rfl)); have n2_ := Aside0.mk (hb); have n3_ := Aside0.mk (hi); clear HK; clear HB; clear HI0; have HO111 := n0_; have HK := n1_; have HB := n2_; have HI0 := n3_; clear n0_ n1_ n2_ n3_; (try clear hb); (try clear hb2); (try clear hk); (try clear hi); (try clear ho0); obtain ⟨HGz19, hgz19⟩ := HI0.out; have hcz19_0 := cellS92_0 HGz19; have hcz19_1 := cellS92_1 HGz19; have hcz19_2 := cellS92_2 HGz19; have hfz19_0 := blk_frozen HGz19 0; have hfz19_1 := blk_frozen HGz19 1; have hfz19_2 := blk_frozen HGz19 2; clear HGz19 hgz19) | ((with_reducible refine gate_callee (f := 97) rfl ?_); refine goesL_ (some 38) rfl rfl Try.func97 (by kernel_rfl) rfl #[.pointer (some ⟨g, 0, none⟩)] rfl (by (try simp only [List.map_toArray, List.map_cons, List.map_nil]); first | done | rfl | (simp only [List.length_drop, List.length_take]; rfl)) ?_; (with_reducible refine (eggboxref19_reader_blanks.calls k g t112 t113 false t115 t116 t117 w0 _ ?side1 ?side2 A16.out).mono ?_); (case side1 => repeat (first | (with_reducible first | exact HI0.out | apply IsS92.alloc | apply IsS92.drewN | apply IsS92.drew | apply IsS92.set_0 | apply IsS92.set_1 | apply IsS92.set_2) | exact HI0.out)); (case side2 => repeat (first | (with_reducible first | exact HB.out | apply below_alloc | apply pw_below_drewN | apply below_drew1 | refine below_set ?_ (IsS92.ge HI0.out)) | exact HB.out)); rintro e w20 ⟨rfl, hi, hb, hk⟩; refine ⟨_, rfl, ?_⟩; have n0_ := Aside0.mk (Kd.R_mono (Kd.R_keep (IsS92.apart (show IsS92 w0 _ g t112 t113 false from by repeat (first | (with_reducible first | exact HI0.out | apply IsS92.alloc | apply IsS92.drewN | apply IsS92.drew | apply IsS92.set_0 | apply IsS92.set_1 | apply IsS92.set_2) | exact HI0.out)) (by (with_reducible repeat (first | apply Kd.R_alloc | apply Kd.R_drewN | apply Kd.R_drew)); exact HO111.out) (by decide)) hk (fun _ h => h.2)) (fun _ h => h.1)); have n1_ := Aside0.mk (KeepBut.trans (by repeat (first | (with_reducible first | exact HK.out | apply KeepBut.set_ | apply keep_drewN | apply keep_drew | apply keep_alloc) | exact HK.out)) hk (.inl rfl)); have n2_ := Aside0.mk (hb); have n3_ := Aside0.mk (hi); clear HO111; clear HK; clear HB; clear HI0; have HO111 := n0_; have HK := n1_; have HB := n2_; have HI0 := n3_; clear n0_ n1_ n2_ n3_; (try clear hb); (try clear hb2); (try clear hk); (try clear hi)) | ((with_reducible refine gate_callee (f := 46) rfl ?_); refine goesL_ (some 40) rfl rfl Try.func46 (by kernel_rfl) rfl #[.pointer (some ⟨g, 0, none⟩), .int .u8 41] rfl (by (try simp only [List.map_toArray, List.map_cons, List.map_nil]); first | done | rfl | (simp only [List.length_drop, List.length_take]; rfl)) ?_; (with_reducible refine (eggboxref19_reader_take.calls g t115 t116 t117 41 t118 t119 t120 w0 _ ?side1 ?side2 A17.out).mono ?_); (case side1 => repeat (first | (with_reducible first | exact HI0.out | apply IsS92.alloc | apply IsS92.drewN | apply IsS92.drew | apply IsS92.set_0 | apply IsS92.set_1 | apply IsS92.set_2) | exact HI0.out)); (case side2 => repeat (first | (with_reducible first | exact HB.out | apply below_alloc | apply pw_below_drewN | apply below_drew1 | refine below_set ?_ (IsS92.ge HI0.out)) | exact HB.out)); rintro e w21 ⟨rfl, hi, hb, hk⟩; refine ⟨_, rfl, ?_⟩; have n0_ := Aside0.mk (Kd.R_mono (Kd.R_keep (IsS92.apart (show IsS92 w0 _ g t115 t116 t117 from by repeat (first | (with_reducible first | exact HI0.out | apply IsS92.alloc | apply IsS92.drewN | apply IsS92.drew | apply IsS92.set_0 | apply IsS92.set_1 | apply IsS92.set_2) | exact HI0.out)) (by (with_reducible repeat (first | apply Kd.R_alloc | apply Kd.R_drewN | apply Kd.R_drew)); exact HO111.out) (by decide)) hk (fun _ h => h.2)) (fun _ h => h.1)); have n1_ := Aside0.mk (KeepBut.trans (by repeat (first | (with_reducible first | exact HK.out | apply KeepBut.set_ | apply keep_drewN | apply keep_drew | apply keep_alloc) | exact HK.out)) hk (.inl rfl)); have n2_ := Aside0.mk (hb); have n3_ := Aside0.mk (hi); clear HO111; clear HK; clear HB; clear HI0; have HO111 := n0_; have HK := n1_; have HB := n2_; have HI0 := n3_; clear n0_ n1_ n2_ n3_; (try clear hb); (try clear hb2); (try clear hk); (try clear hi)))
            go_meet
            case rel => exact ⟨_, (t109), (t118), (t119), (t120), H', ⟨by first | omega | exact Nat.le_refl _⟩, ⟨by (with_reducible repeat (first | apply Kd.R_alloc | apply Kd.R_drewN | apply Kd.R_drew)); exact HO111.out⟩, ⟨by repeat (first | (with_reducible first | exact HI0.out | apply IsS92.alloc | apply IsS92.drewN | apply IsS92.drew | apply IsS92.set_0 | apply IsS92.set_1 | apply IsS92.set_2) | exact HI0.out)⟩, ⟨by repeat (first | (with_reducible first | exact HK.out | apply KeepBut.set_ | apply keep_drewN | apply keep_drew | apply keep_alloc) | exact HK.out)⟩, ⟨by repeat (first | (with_reducible first | exact HB.out | apply below_alloc | apply pw_below_drewN | apply below_drew1 | refine below_set ?_ (IsS92.ge HI0.out)) | exact HB.out)⟩⟩
        · rw [if_neg c11] at H
          have c11b0 : (t101 == 40) = false := beq_eq_false_iff_ne.mpr c11
          have c11b1 : (t101 != 40) = true := bne_iff_ne.mpr c11
          obtain ⟨y121, hy121⟩ : ∃ y_ : List (S97), y_ = (([(⟨2, t101⟩ : S97)] : List (S97))) := ⟨_, rfl⟩
          replace H : (eggboxref19_reader_power.j0 k y121 t102 (wrap64 (t103 + 1)) t104) = some (r1, r2, r3, r4) := by first | (rw [hy121]; with_reducible exact H) | (have H2_ := (Option.bind_some _ _).symm.trans H; rw [hy121]; with_reducible exact H2_) | (have H2_ := (Option.bind_some _ _).symm.trans H; with_reducible exact H2_) | with_reducible exact H | (rw [hy121]; exact H) | exact H
          have Ny121 := Aside0.mk hy121
          clear hy121
          have H' := Aside0.mk H
          clear H
          go_wp2_with (first | ((with_reducible refine gate_dst (N := 23) rfl ?_); refine Kd.R_lit k97 _ 97 ?hg (N := 23) ?hd (xs := ([(⟨2, t101⟩ : S97)] : List (S97))) (inner := [.int .i64 2, .int .u8 t101]) (ok := fun _ => True) (okp := fun _ => True) ?hr ?hp (fun _ hk => hk) trivial (Below.refl _ _) (Nat.le_refl _) (by simp) ?_; (case hd => rfl); (case hg => rfl); (case hr => first | (go_simp; done) | (go_simp; rfl)); (case hp => exact (Reps.c2 (show Kd.M k97 _ _ _ (⟨2, t101⟩ : S97) [.int .i64 2, .int .u8 t101] from (k97_mkM _ _ _ (⟨2, t101⟩ : S97) )) (Reps.none _ _))); intro v122 w22 ho23 hb hg_ hnew_; clear hg_ hnew_; (first | rw [← Ny121.out] at ho23 | (simp only [Int.reduceToNat] at ho23; rw [← Ny121.out] at ho23)); have n0_ := Aside0.mk (Kd.R_lower ho23 (keep_size (w := w) (g := g) (row := none) (by repeat (first | (with_reducible first | exact HK.out | apply KeepBut.set_ | apply keep_drewN | apply keep_drew | apply keep_alloc) | exact HK.out)))); have n1_ := Aside0.mk (IsS92.below (show IsS92 w0 (w6.setCell ⟨g, 1, none⟩ (.int .i64 (wrap64 (t103 + 1)))) g t102 (wrap64 (t103 + 1)) t104 from by repeat (first | (with_reducible first | exact HI0.out | apply IsS92.alloc | apply IsS92.drewN | apply IsS92.drew | apply IsS92.set_0 | apply IsS92.set_1 | apply IsS92.set_2) | exact HI0.out)) hb); have n2_ := Aside0.mk (KeepBut.trans (by repeat (first | (with_reducible first | exact HK.out | apply KeepBut.set_ | apply keep_drewN | apply keep_drew | apply keep_alloc) | exact HK.out)) (KeepBut.of_below hb g none) (.inl rfl)); have n3_ := Aside0.mk (below_step (by repeat (first | (with_reducible first | exact HB.out | apply below_alloc | apply pw_below_drewN | apply below_drew1 | refine below_set ?_ (IsS92.ge HI0.out)) | exact HB.out)) hb); clear HI0; clear HK; clear HB; have HO123 := n0_; have HI0 := n1_; have HK := n2_; have HB := n3_; clear n0_ n1_ n2_ n3_; clear hb ho23))
          go_meet
          case rel => exact ⟨_, (y121), (t102), (wrap64 (t103 + 1)), (t104), H', ⟨by first | omega | exact Nat.le_refl _⟩, ⟨by (with_reducible repeat (first | apply Kd.R_alloc | apply Kd.R_drewN | apply Kd.R_drew)); exact HO123.out⟩, ⟨by repeat (first | (with_reducible first | exact HI0.out | apply IsS92.alloc | apply IsS92.drewN | apply IsS92.drew | apply IsS92.set_0 | apply IsS92.set_1 | apply IsS92.set_2) | exact HI0.out)⟩, ⟨by repeat (first | (with_reducible first | exact HK.out | apply KeepBut.set_ | apply keep_drewN | apply keep_drew | apply keep_alloc) | exact HK.out)⟩, ⟨by repeat (first | (with_reducible first | exact HB.out | apply below_alloc | apply pw_below_drewN | apply below_drew1 | refine below_set ?_ (IsS92.ge HI0.out)) | exact HB.out)⟩⟩
    case rest =>
      clear HC5
      try clear c1
      try clear c2
      try clear p2
      try clear c4
      try clear p6
      try clear c8
      try clear c8b0
      try clear c8b1
      try clear c9
      try clear c11
      try clear c11b0
      try clear c11b1
      try clear c13
      try clear hcz15_0
      try clear hcz15_1
      try clear hcz15_2
      try clear hcz19_0
      try clear hcz19_1
      try clear hcz19_2
      try clear hcz7_0
      try clear hcz7_1
      try clear hcz7_2
      try clear hfz15_0
      try clear hfz15_1
      try clear hfz15_2
      try clear hfz19_0
      try clear hfz19_1
      try clear hfz19_2
      try clear hfz7_0
      try clear hfz7_1
      try clear hfz7_2
      obtain ⟨kq, x4_4, x1000_4, x1001_4, x1002_4, HA, HJ4, HO_4, HI0, HK, HB⟩ := hcut
      cases kq with
      | zero => exact absurd HA.out (by simp [eggboxref19_reader_power.j0])
      | succ kj4 =>
        have H := HA.out
        clear HA
        simp only [eggboxref19_reader_power.j0] at H
        have H' := Aside0.mk H
        clear H
        go_wp2
        go_loopg [4] kj4 (fun kq v4 w' => ∃ (x4_2 : List (S97)) (x1000_2 : ByteArray) (x1001_2 : Int) (x1002_2 : Bool), Aside0 (eggboxref19_reader_power.l0 kq x4_2 x1000_2 x1001_2 x1002_2 = some (r1, r2, r3, r4)) ∧ Aside0 (kq ≤ kj4) ∧ Aside0 (Kd.R k97 97 w' w.heap.size (fun _ => True) v4 x4_2) ∧ Aside0 (IsS92 w0 w' g x1000_2 x1001_2 x1002_2) ∧ Aside0 (KeepBut w w' g none) ∧ Aside0 (Below w0.heap.size w0 w'))
        case atStart => exact ⟨(x4_4), (x1000_4), (x1001_4), (x1002_4), H', ⟨Nat.le_refl _⟩, ⟨by (with_reducible repeat (first | apply Kd.R_alloc | apply Kd.R_drewN | apply Kd.R_drew)); exact HO_4.out⟩, ⟨by repeat (first | (with_reducible first | exact HI0.out | apply IsS92.alloc | apply IsS92.drewN | apply IsS92.drew | apply IsS92.set_0 | apply IsS92.set_1 | apply IsS92.set_2) | exact HI0.out)⟩, ⟨by repeat (first | (with_reducible first | exact HK.out | apply KeepBut.set_ | apply keep_drewN | apply keep_drew | apply keep_alloc) | exact HK.out)⟩, ⟨by repeat (first | (with_reducible first | exact HB.out | apply below_alloc | apply pw_below_drewN | apply below_drew1 | refine below_set ?_ (IsS92.ge HI0.out)) | exact HB.out)⟩⟩
        case round =>
          clear H'
          try clear c1
          try clear c2
          try clear p2
          try clear c4
          try clear p6
          try clear c8
          try clear c8b0
          try clear c8b1
          try clear c9
          try clear c11
          try clear c11b0
          try clear c11b1
          try clear c13
          try clear hcz15_0
          try clear hcz15_1
          try clear hcz15_2
          try clear hcz19_0
          try clear hcz19_1
          try clear hcz19_2
          try clear hcz7_0
          try clear hcz7_1
          try clear hcz7_2
          try clear hfz15_0
          try clear hfz15_1
          try clear hfz15_2
          try clear hfz19_0
          try clear hfz19_1
          try clear hfz19_2
          try clear hfz7_0
          try clear hfz7_1
          try clear hfz7_2
          try clear p2
          try clear p6
          obtain ⟨x4_2, x1000_2, x1001_2, x1002_2, HA, HK2, HO_4, HI0, HK, HB⟩ := hrel
          cases gk with
          | zero => exact absurd HA.out (by simp [eggboxref19_reader_power.l0])
          | succ k2 =>
            have H := HA.out
            clear HA
            simp only [eggboxref19_reader_power.l0] at H
            by_cases c24 : x1002_2 = true
            · subst c24
              have H1 : (some (x4_2, x1000_2, x1001_2, true)) = some (r1, r2, r3, r4) := by rw [if_pos rfl] at H; exact H
              clear H
              have H := H1
              clear H1
              simp only [Option.some.injEq, Prod.mk.injEq] at H
              obtain ⟨rfl, rfl, rfl, rfl⟩ := H
              obtain ⟨HGz25, hgz25⟩ := HI0.out
              have hcz25_0 := cellS92_0 HGz25
              have hcz25_1 := cellS92_1 HGz25
              have hcz25_2 := cellS92_2 HGz25
              have hfz25_0 := blk_frozen HGz25 0
              have hfz25_1 := blk_frozen HGz25 1
              have hfz25_2 := blk_frozen HGz25 2
              clear HGz25 hgz25
              go_wp2
              go_ret
              exact ⟨_, by first | rfl | (simp [errW_none, errW_some] <;> rfl) | (simp [*, errW_none, errW_some] <;> rfl), by (with_reducible repeat (first | apply Kd.R_alloc | apply Kd.R_drewN | apply Kd.R_drew)); exact HO_4.out, by repeat (first | (with_reducible first | exact HI0.out | apply IsS92.alloc | apply IsS92.drewN | apply IsS92.drew | apply IsS92.set_0 | apply IsS92.set_1 | apply IsS92.set_2) | exact HI0.out), by repeat (first | (with_reducible first | exact HB.out | apply below_alloc | apply pw_below_drewN | apply below_drew1 | refine below_set ?_ (IsS92.ge HI0.out)) | exact HB.out), by repeat (first | (with_reducible first | exact HK.out | apply KeepBut.set_ | apply keep_drewN | apply keep_drew | apply keep_alloc) | exact HK.out)⟩
            · replace c24 := Bool.eq_false_iff.mpr c24
              subst c24
              have H1 : ((eggboxref19_reader_next.f k2 x1000_2 x1001_2 false).bind fun bt124 => (if bt124.1 = 94 then ((eggboxref19_reader_take.f bt124.2.1 (wrap64 (bt124.2.2.1 + 1)) bt124.2.2.2 119).bind fun bt128 => (if x4_2.length < 8796093022208 then (eggboxref19_reader_power.l0 k2 (x4_2 ++ [(⟨4, 0⟩ : S97)]) bt128.1 bt128.2.1 bt128.2.2) else (none))) else (some (x4_2, bt124.2.1, bt124.2.2.1, bt124.2.2.2)))) = some (r1, r2, r3, r4) := by rw [if_neg (show ¬ (false = true) by decide)] at H; exact H
              clear H
              have H := H1
              clear H1
              replace H := Option.bind_eq_some_iff.mp H
              obtain ⟨⟨t124, t125, t126, t127⟩, A260, H⟩ := H
              replace H : (if t124 = 94 then ((eggboxref19_reader_take.f t125 (wrap64 (t126 + 1)) t127 119).bind fun bt128 => (if x4_2.length < 8796093022208 then (eggboxref19_reader_power.l0 k2 (x4_2 ++ [(⟨4, 0⟩ : S97)]) bt128.1 bt128.2.1 bt128.2.2) else (none))) else (some (x4_2, t125, t126, t127))) = some (r1, r2, r3, r4) := H
              have A26 := Aside0.mk A260
              clear A260
              by_cases c27 : t124 = 94
              · rw [if_pos c27] at H
                have c27b0 : (t124 == 94) = true := beq_iff_eq.mpr c27
                have c27b1 : (t124 != 94) = false := bne_eq_false_iff_eq.mpr c27
                clear c27
                replace H := Option.bind_eq_some_iff.mp H
                obtain ⟨⟨t128, t129, t130⟩, A280, H⟩ := H
                replace H : (if x4_2.length < 8796093022208 then (eggboxref19_reader_power.l0 k2 (x4_2 ++ [(⟨4, 0⟩ : S97)]) t128 t129 t130) else (none)) = some (r1, r2, r3, r4) := H
                have A28 := Aside0.mk A280
                clear A280
                by_cases c29 : x4_2.length < 8796093022208
                · rw [if_pos c29] at H
                  have LMc29 := Aside0.mk c29
                  clear c29
                  obtain ⟨y131, hy131⟩ : ∃ y_ : List (S97), y_ = (x4_2 ++ [(⟨4, 0⟩ : S97)]) := ⟨_, rfl⟩
                  replace H : (eggboxref19_reader_power.l0 k2 y131 t128 t129 t130) = some (r1, r2, r3, r4) := by first | (rw [hy131]; with_reducible exact H) | (have H2_ := (Option.bind_some _ _).symm.trans H; rw [hy131]; with_reducible exact H2_) | (have H2_ := (Option.bind_some _ _).symm.trans H; with_reducible exact H2_) | with_reducible exact H | (rw [hy131]; exact H) | exact H
                  have Ny131 := Aside0.mk hy131
                  clear hy131
                  have H' := Aside0.mk H
                  clear H
                  obtain ⟨HGz30, hgz30⟩ := HI0.out
                  have hcz30_0 := cellS92_0 HGz30
                  have hcz30_1 := cellS92_1 HGz30
                  have hcz30_2 := cellS92_2 HGz30
                  have hfz30_0 := blk_frozen HGz30 0
                  have hfz30_1 := blk_frozen HGz30 1
                  have hfz30_2 := blk_frozen HGz30 2
                  clear HGz30 hgz30
                  go_wp2_with (first | (go_at_call 45; (with_reducible refine (eggboxref19_reader_next.calls k2 g x1000_2 x1001_2 false t124 t125 t126 t127 w0 _ ?side1 ?side2 A26.out).mono ?_); (case side1 => repeat (first | (with_reducible first | exact HI0.out | apply IsS92.alloc | apply IsS92.drewN | apply IsS92.drew | apply IsS92.set_0 | apply IsS92.set_1 | apply IsS92.set_2) | exact HI0.out)); (case side2 => repeat (first | (with_reducible first | exact HB.out | apply below_alloc | apply pw_below_drewN | apply below_drew1 | refine below_set ?_ (IsS92.ge HI0.out)) | exact HB.out)); rintro e w31 ⟨rfl, hi, hb, hk⟩; have n0_ := Aside0.mk (Kd.R_mono (Kd.R_keep (IsS92.apart (show IsS92 w0 _ g x1000_2 x1001_2 false from by repeat (first | (with_reducible first | exact HI0.out | apply IsS92.alloc | apply IsS92.drewN | apply IsS92.drew | apply IsS92.set_0 | apply IsS92.set_1 | apply IsS92.set_2) | exact HI0.out)) (by (with_reducible repeat (first | apply Kd.R_alloc | apply Kd.R_drewN | apply Kd.R_drew)); exact HO_4.out) (by decide)) hk (fun _ h => h.2)) (fun _ h => h.1)); have n1_ := Aside0.mk (KeepBut.trans (by repeat (first | (with_reducible first | exact HK.out | apply KeepBut.set_ | apply keep_drewN | apply keep_drew | apply keep_alloc) | exact HK.out)) hk (.inl rfl)); have n2_ := Aside0.mk (hb); have n3_ := Aside0.mk (hi); clear HO_4; clear HK; clear HB; clear HI0; have HO_4 := n0_; have HK := n1_; have HB := n2_; have HI0 := n3_; clear n0_ n1_ n2_ n3_; (try clear hb); (try clear hb2); (try clear hk); (try clear hi); obtain ⟨HGz32, hgz32⟩ := HI0.out; have hcz32_0 := cellS92_0 HGz32; have hcz32_1 := cellS92_1 HGz32; have hcz32_2 := cellS92_2 HGz32; have hfz32_0 := blk_frozen HGz32 0; have hfz32_1 := blk_frozen HGz32 1; have hfz32_2 := blk_frozen HGz32 2; clear HGz32 hgz32) | ((with_reducible refine gate_callee (f := 46) rfl ?_); refine goesL_ (some 59) rfl rfl Try.func46 (by kernel_rfl) rfl #[.pointer (some ⟨g, 0, none⟩), .int .u8 119] rfl (by (try simp only [List.map_toArray, List.map_cons, List.map_nil]); first | done | rfl | (simp only [List.length_drop, List.length_take]; rfl)) ?_; (with_reducible refine (eggboxref19_reader_take.calls g t125 (wrap64 (t126 + 1)) t127 119 t128 t129 t130 w0 _ ?side1 ?side2 A28.out).mono ?_); (case side1 => repeat (first | (with_reducible first | exact HI0.out | apply IsS92.alloc | apply IsS92.drewN | apply IsS92.drew | apply IsS92.set_0 | apply IsS92.set_1 | apply IsS92.set_2) | exact HI0.out)); (case side2 => repeat (first | (with_reducible first | exact HB.out | apply below_alloc | apply pw_below_drewN | apply below_drew1 | refine below_set ?_ (IsS92.ge HI0.out)) | exact HB.out)); rintro e w33 ⟨rfl, hi, hb, hk⟩; refine ⟨_, rfl, ?_⟩; have n0_ := Aside0.mk (Kd.R_mono (Kd.R_keep (IsS92.apart (show IsS92 w0 _ g t125 (wrap64 (t126 + 1)) t127 from by repeat (first | (with_reducible first | exact HI0.out | apply IsS92.alloc | apply IsS92.drewN | apply IsS92.drew | apply IsS92.set_0 | apply IsS92.set_1 | apply IsS92.set_2) | exact HI0.out)) (by (with_reducible repeat (first | apply Kd.R_alloc | apply Kd.R_drewN | apply Kd.R_drew)); exact (Kd.R_mono (Kd.R_far (p := ⟨g, 1, none⟩) (IsS92.apart HI0.out HO_4.out (by decide)) (fun _ hk => hk.2) (.int .i64 (wrap64 (t126 + 1)))) (fun _ h_ => h_.1))) (by decide)) hk (fun _ h => h.2)) (fun _ h => h.1)); have n1_ := Aside0.mk (KeepBut.trans (by repeat (first | (with_reducible first | exact HK.out | apply KeepBut.set_ | apply keep_drewN | apply keep_drew | apply keep_alloc) | exact HK.out)) hk (.inl rfl)); have n2_ := Aside0.mk (hb); have n3_ := Aside0.mk (hi); clear HO_4; clear HK; clear HB; clear HI0; have HO_4 := n0_; have HK := n1_; have HB := n2_; have HI0 := n3_; clear n0_ n1_ n2_ n3_; (try clear hb); (try clear hb2); (try clear hk); (try clear hi)) | ((with_reducible refine gate_builtin (b := .append) (xs := #[.tmp 60, .tmp 62]) rfl ?_); at_builtin; refine Kd.R_append k97 w.heap.size rfl (.tmp 60) (.tmp 62) 22 97 (.agg #[(.int .i64 0), (.int .u8 0)]) 16 rfl Try.underlying22 info97 rfl (by decide) (by omega) u4 x4_2 (⟨4, 0⟩ : S97) [.int .i64 4, .int .u8 0] (fun _ => True) (fun _ => False) rfl rfl ?aP (fun _ hk => hk.elim) ?aF ?aO (Below.refl _ _) ?aS ?aL ?_; (case aP => exact k97_mkM _ _ _ (⟨4, 0⟩ : S97)); (case aF => exact (fun _ _ => trivial)); (case aO => exact (by (with_reducible repeat (first | apply Kd.R_alloc | apply Kd.R_drewN | apply Kd.R_drew)); exact HO_4.out)); (case aS => exact (keep_size (w := w) (g := g) (row := none) (by repeat (first | (with_reducible first | exact HK.out | apply KeepBut.set_ | apply keep_drewN | apply keep_drew | apply keep_alloc) | exact HK.out)))); (case aL => have := LMc29.out; omega); intro v132 w34 ho hb hg hat; rw [← Ny131.out] at ho; have n0_ := Aside0.mk (IsS92.grown (by repeat (first | (with_reducible first | exact HI0.out | apply IsS92.alloc | apply IsS92.drewN | apply IsS92.drew | apply IsS92.set_0 | apply IsS92.set_1 | apply IsS92.set_2) | exact HI0.out)) hg (IsS92.own_ne HI0.out HO_4.out (by decide))); have n1_ := Aside0.mk (below_weaken (by repeat (first | (with_reducible first | exact HB.out | apply below_alloc | apply pw_below_drewN | apply below_drew1 | refine below_set ?_ (IsS92.ge HI0.out)) | exact HB.out)) HL.out hb); have n2_ := Aside0.mk (KeepBut.trans (by repeat (first | (with_reducible first | exact HK.out | apply KeepBut.set_ | apply keep_drewN | apply keep_drew | apply keep_alloc) | exact HK.out)) (KeepBut.of_grown hg g) (Kd.R_base2 HO_4.out)); have n3_ := Aside0.mk (ho); clear HI0; clear HB; clear HK; clear HO_4; have HI0 := n0_; have HB := n1_; have HK := n2_; have HO133 := n3_; clear n0_ n1_ n2_ n3_; clear ho hb hg hat))
                  go_roundg k2
                  case measure => have := HJ4.out; have := HK2.out; omega
                  case rel => exact ⟨(y131), (t128), (t129), (t130), H', ⟨by have := HJ4.out; have := HK2.out; omega⟩, ⟨by (with_reducible repeat (first | apply Kd.R_alloc | apply Kd.R_drewN | apply Kd.R_drew)); exact HO133.out⟩, ⟨by repeat (first | (with_reducible first | exact HI0.out | apply IsS92.alloc | apply IsS92.drewN | apply IsS92.drew | apply IsS92.set_0 | apply IsS92.set_1 | apply IsS92.set_2) | exact HI0.out)⟩, ⟨by repeat (first | (with_reducible first | exact HK.out | apply KeepBut.set_ | apply keep_drewN | apply keep_drew | apply keep_alloc) | exact HK.out)⟩, ⟨by repeat (first | (with_reducible first | exact HB.out | apply below_alloc | apply pw_below_drewN | apply below_drew1 | refine below_set ?_ (IsS92.ge HI0.out)) | exact HB.out)⟩⟩
                · rw [if_neg c29] at H
                  exact absurd H (by simp)
              · rw [if_neg c27] at H
                have c27b0 : (t124 == 94) = false := beq_eq_false_iff_ne.mpr c27
                have c27b1 : (t124 != 94) = true := bne_iff_ne.mpr c27
                simp only [Option.some.injEq, Prod.mk.injEq] at H
                obtain ⟨rfl, rfl, rfl, rfl⟩ := H
                obtain ⟨HGz35, hgz35⟩ := HI0.out
                have hcz35_0 := cellS92_0 HGz35
                have hcz35_1 := cellS92_1 HGz35
                have hcz35_2 := cellS92_2 HGz35
                have hfz35_0 := blk_frozen HGz35 0
                have hfz35_1 := blk_frozen HGz35 1
                have hfz35_2 := blk_frozen HGz35 2
                clear HGz35 hgz35
                go_wp2_with (first | (go_at_call 45; (with_reducible refine (eggboxref19_reader_next.calls k2 g x1000_2 x1001_2 false t124 t125 t126 t127 w0 _ ?side1 ?side2 A26.out).mono ?_); (case side1 => repeat (first | (with_reducible first | exact HI0.out | apply IsS92.alloc | apply IsS92.drewN | apply IsS92.drew | apply IsS92.set_0 | apply IsS92.set_1 | apply IsS92.set_2) | exact HI0.out)); (case side2 => repeat (first | (with_reducible first | exact HB.out | apply below_alloc | apply pw_below_drewN | apply below_drew1 | refine below_set ?_ (IsS92.ge HI0.out)) | exact HB.out)); rintro e w36 ⟨rfl, hi, hb, hk⟩; have n0_ := Aside0.mk (Kd.R_mono (Kd.R_keep (IsS92.apart (show IsS92 w0 _ g x1000_2 x1001_2 false from by repeat (first | (with_reducible first | exact HI0.out | apply IsS92.alloc | apply IsS92.drewN | apply IsS92.drew | apply IsS92.set_0 | apply IsS92.set_1 | apply IsS92.set_2) | exact HI0.out)) (by (with_reducible repeat (first | apply Kd.R_alloc | apply Kd.R_drewN | apply Kd.R_drew)); exact HO_4.out) (by decide)) hk (fun _ h => h.2)) (fun _ h => h.1)); have n1_ := Aside0.mk (KeepBut.trans (by repeat (first | (with_reducible first | exact HK.out | apply KeepBut.set_ | apply keep_drewN | apply keep_drew | apply keep_alloc) | exact HK.out)) hk (.inl rfl)); have n2_ := Aside0.mk (hb); have n3_ := Aside0.mk (hi); clear HO_4; clear HK; clear HB; clear HI0; have HO_4 := n0_; have HK := n1_; have HB := n2_; have HI0 := n3_; clear n0_ n1_ n2_ n3_; (try clear hb); (try clear hb2); (try clear hk); (try clear hi)))
                go_ret
                exact ⟨_, by first | rfl | (simp [errW_none, errW_some] <;> rfl) | (simp [*, errW_none, errW_some] <;> rfl), by (with_reducible repeat (first | apply Kd.R_alloc | apply Kd.R_drewN | apply Kd.R_drew)); exact HO_4.out, by repeat (first | (with_reducible first | exact HI0.out | apply IsS92.alloc | apply IsS92.drewN | apply IsS92.drew | apply IsS92.set_0 | apply IsS92.set_1 | apply IsS92.set_2) | exact HI0.out), by repeat (first | (with_reducible first | exact HB.out | apply below_alloc | apply pw_below_drewN | apply below_drew1 | refine below_set ?_ (IsS92.ge HI0.out)) | exact HB.out), by repeat (first | (with_reducible first | exact HK.out | apply KeepBut.set_ | apply keep_drewN | apply keep_drew | apply keep_alloc) | exact HK.out)⟩
  · replace c4 := Bool.eq_false_iff.mpr c4
    subst c4
    have H1 : (some (([] : List (S97)), t102, t103, true)) = some (r1, r2, r3, r4) := by rw [if_neg (show ¬ (false = true) by decide)] at H; exact H
    clear H
    have H := H1
    clear H1
    simp only [Option.some.injEq, Prod.mk.injEq] at H
    obtain ⟨rfl, rfl, rfl, rfl⟩ := H
    go_enter Try.func95, Try.ntmps95
    go_wp2_with (first | ((with_reducible refine gate_callee (f := 45) rfl ?_); refine goesL_ (some 6) rfl rfl Try.func45 (by kernel_rfl) rfl #[.pointer (some ⟨g, 0, none⟩)] rfl (by (try simp only [List.map_toArray, List.map_cons, List.map_nil]); first | done | rfl | (simp only [List.length_drop, List.length_take]; rfl)) ?_; (with_reducible refine (eggboxref19_reader_next.calls k g s0_0 s0_1 s0_2 t101 t102 t103 t104 w0 _ ?side1 ?side2 A2.out).mono ?_); (case side1 => repeat (first | (with_reducible first | exact HI0.out | apply IsS92.alloc | apply IsS92.drewN | apply IsS92.drew | apply IsS92.set_0 | apply IsS92.set_1 | apply IsS92.set_2) | exact HI0.out)); (case side2 => repeat (first | (with_reducible first | exact HB.out | apply below_alloc | apply pw_below_drewN | apply below_drew1 | refine below_set ?_ (IsS92.ge HI0.out)) | exact HB.out)); rintro e w37 ⟨rfl, hi, hb, hk⟩; refine ⟨_, rfl, ?_⟩; have n0_ := Aside0.mk (KeepBut.trans (by repeat (first | (with_reducible first | exact HK.out | apply KeepBut.set_ | apply keep_drewN | apply keep_drew | apply keep_alloc) | exact HK.out)) hk (.inl rfl)); have n1_ := Aside0.mk (hb); have n2_ := Aside0.mk (hi); clear HK; clear HB; clear HI0; have HK := n0_; have HB := n1_; have HI0 := n2_; clear n0_ n1_ n2_; (try clear hb); (try clear hb2); (try clear hk); (try clear hi)) | ((with_reducible refine gate_callee (f := 96) rfl ?_); refine goesL_ (some 8) rfl rfl Try.func96 (by kernel_rfl) rfl #[.int .u8 t101] rfl (by (try simp only [List.map_toArray, List.map_cons, List.map_nil]); first | done | rfl | (simp only [List.length_drop, List.length_take]; rfl)) ?_; (with_reducible refine (eggboxref19_begins.calls t101 false _ A3.out).mono ?_); rintro e w' ⟨rfl, ⟨nd, rfl⟩⟩; refine ⟨_, rfl, ?_⟩; (try (rw [drewN_self w37]; generalize hq_ : World.drewN w37 _ = w37; have n0_ : Aside0 (IsS92 w0 w37 g t102 t103 t104) := ⟨by rw [← hq_]; exact (by repeat (first | (with_reducible first | exact HI0.out | apply IsS92.alloc | apply IsS92.drewN | apply IsS92.drew | apply IsS92.set_0 | apply IsS92.set_1 | apply IsS92.set_2) | exact HI0.out))⟩; have n1_ : Aside0 (KeepBut w w37 g none) := ⟨by rw [← hq_]; exact (by repeat (first | (with_reducible first | exact HK.out | apply KeepBut.set_ | apply keep_drewN | apply keep_drew | apply keep_alloc) | exact HK.out))⟩; have n2_ : Aside0 (Below w0.heap.size w0 w37) := ⟨by rw [← hq_]; exact (by repeat (first | (with_reducible first | exact HB.out | apply below_alloc | apply pw_below_drewN | apply below_drew1 | refine below_set ?_ (IsS92.ge HI0.out)) | exact HB.out))⟩; clear HI0 HK HB hq_; have HI0 := n0_; have HK := n1_; have HB := n2_; clear n0_ n1_ n2_)); obtain ⟨HGz38, hgz38⟩ := HI0.out; have hcz38_0 := cellS92_0 HGz38; have hcz38_1 := cellS92_1 HGz38; have hcz38_2 := cellS92_2 HGz38; have hfz38_0 := blk_frozen HGz38 0; have hfz38_1 := blk_frozen HGz38 1; have hfz38_2 := blk_frozen HGz38 2; clear HGz38 hgz38))
    go_ret
    exact ⟨_, by first | rfl | (simp [errW_none, errW_some] <;> rfl) | (simp [*, errW_none, errW_some] <;> rfl), by first | exact Kd.R_nil _ _ _ _ _ | exact Kd.N_nil _ _ _ _ _ | exact Kd.V_nil _ _ _ _ _ | exact Kd.Q_nil _ _ _ _ _ | exact Kd.S_nil _ _ _ _ _, by repeat (first | (with_reducible first | exact HI0.out | apply IsS92.alloc | apply IsS92.drewN | apply IsS92.drew | apply IsS92.set_0 | apply IsS92.set_1 | apply IsS92.set_2) | exact HI0.out), by repeat (first | (with_reducible first | exact HB.out | apply below_alloc | apply pw_below_drewN | apply below_drew1 | refine below_set ?_ (IsS92.ge HI0.out)) | exact HB.out), by repeat (first | (with_reducible first | exact HK.out | apply KeepBut.set_ | apply keep_drewN | apply keep_drew | apply keep_alloc) | exact HK.out)⟩

end Go.Proofs.Ytcbkihhpnndpkaa.PR
namespace Go.Proofs.Ytcbkihhpnndpkaa.PS
open Go.RowKit Go.Proofs.YtcbkihhpnndpkaaW.PrintWords Go.Proofs.YtcbkihhpnndpkaaW.PrintLast Go.Proofs.YtcbkihhpnndpkaaW.PrintMore
attribute [local go_sem] max2_int min2_int max_two min_two max_three min_three max_four min_four   -- for this text's walks alone
open PA PR
set_option linter.unusedVariables false
set_option linter.unusedSimpArgs false



/-! #### struct type 97 -/
end Go.Proofs.Ytcbkihhpnndpkaa.PS
namespace Go.Proofs.Ytcbkihhpnndpkaa.PS
open Go.RowKit Go.Proofs.YtcbkihhpnndpkaaW.PrintWords Go.Proofs.YtcbkihhpnndpkaaW.PrintLast Go.Proofs.YtcbkihhpnndpkaaW.PrintMore
attribute [local go_sem] max2_int min2_int max_two min_two max_three min_three max_four min_four   -- for this text's walks alone
open PA PR
set_option linter.unusedVariables false
set_option linter.unusedSimpArgs false




/-! ### eggboxref19_reader_side: function 44 -/
def eggboxref19_reader_side.l0 [Inhabited PR.eggboxref19_reader_sideC] : Nat → List (S97) → ByteArray → Int → Bool → Option ((List (S97)) × ByteArray × Int × Bool)
  | 0, _, _, _, _ => none
  | k + 1, x3, x1000, x1001, x1002 => if x1002 = true then (some (x3, x1000, x1001, x1002)) else ((eggboxref19_reader_next.f k x1000 x1001 x1002).bind fun bt107 => ((eggboxref19_begins.f bt107.1).bind fun t111 => (if t111 = true then ((eggboxref19_reader_power.f k bt107.2.1 bt107.2.2.1 bt107.2.2.2).bind fun bt112 => (if x3.length + bt112.1.length < 8796093022208 then ((some (x3 ++ bt112.1 : List (S97))).bind fun y118 => (if y118.length < 8796093022208 then (eggboxref19_reader_side.l0 k (y118 ++ [(⟨3, 0⟩ : S97)]) bt112.2.1 bt112.2.2.1 bt112.2.2.2) else (none))) else (none))) else (some (x3, bt107.2.1, bt107.2.2.1, bt107.2.2.2)))))
def eggboxref19_reader_side.f [Inhabited PR.eggboxref19_reader_sideC] (k : Nat) (s0_0 : ByteArray) (s0_1 : Int) (s0_2 : Bool) : Option ((List (S97)) × ByteArray × Int × Bool) := (eggboxref19_reader_power.f k s0_0 s0_1 s0_2).bind fun bt101 => (eggboxref19_reader_side.l0 k bt101.1 bt101.2.1 bt101.2.2.1 bt101.2.2.2)
theorem eggboxref19_reader_side.mono_l [Inhabited PR.eggboxref19_reader_sideC] : ∀ k, (∀ y0 y1 y2 y3, LeO (eggboxref19_reader_side.l0 k y0 y1 y2 y3) (eggboxref19_reader_side.l0 (k + 1) y0 y1 y2 y3))
  | 0 => fun _ _ _ _ r h => by simp [eggboxref19_reader_side.l0] at h
  | k + 1 => by
    have ih0 := eggboxref19_reader_side.mono_l k
    · intro y0 y1 y2 y3
      unfold eggboxref19_reader_side.l0
      repeat' first
      | (with_reducible exact ih0 _ _ _ _)
      | (with_reducible exact eggboxref19_reader_next.mono _ _ _ _)
      | (with_reducible exact eggboxref19_reader_power.mono _ _ _ _)
      | (with_reducible exact LeO.refl _)
      | (with_reducible exact LeO.none _)
      | (with_reducible refine LeO.ite ?_ ?_)
      | (with_reducible refine LeO.bind ?_ (fun _ => ?_))
      | exact ih0 _ _ _ _
      | exact eggboxref19_reader_next.mono _ _ _ _
      | exact eggboxref19_reader_power.mono _ _ _ _
      | exact LeO.none _
      | refine LeO.ite ?_ ?_
      | refine LeO.bind ?_ (fun _ => ?_)
theorem eggboxref19_reader_side.mono [Inhabited PR.eggboxref19_reader_sideC] : ∀ a0 a1 a2 k, LeO (eggboxref19_reader_side.f k a0 a1 a2) (eggboxref19_reader_side.f (k + 1) a0 a1 a2) := by
  intro a0 a1 a2 k
  have ih0 := eggboxref19_reader_side.mono_l k
  unfold eggboxref19_reader_side.f
  repeat' first
      | (with_reducible exact ih0 _ _ _ _)
      | (with_reducible exact eggboxref19_reader_next.mono _ _ _ _)
      | (with_reducible exact eggboxref19_reader_power.mono _ _ _ _)
      | (with_reducible exact LeO.refl _)
      | (with_reducible exact LeO.none _)
      | (with_reducible refine LeO.ite ?_ ?_)
      | (with_reducible refine LeO.bind ?_ (fun _ => ?_))
      | exact ih0 _ _ _ _
      | exact eggboxref19_reader_next.mono _ _ _ _
      | exact eggboxref19_reader_power.mono _ _ _ _
      | exact LeO.none _
      | refine LeO.ite ?_ ?_
      | refine LeO.bind ?_ (fun _ => ?_)
set_option maxHeartbeats 8000000 in
set_option maxRecDepth 100000 in
theorem eggboxref19_reader_side.calls [Inhabited PR.eggboxref19_reader_sideC] (k : Nat) (g : Nat) (s0_0 : ByteArray) (s0_1 : Int) (s0_2 : Bool) (r1 : List (S97)) (r2 : ByteArray) (r3 : Int) (r4 : Bool) (w0 w : World) (hI : IsS92 w0 w g s0_0 s0_1 s0_2) (hB : Below w0.heap.size w0 w) (h : eggboxref19_reader_side.f k s0_0 s0_1 s0_2 = some (r1, r2, r3, r4)) :
    Calls Try.prog 44 #[.pointer (some ⟨g, 0, none⟩)] w fun e w' => ∃ v0_ : Value, e = .returned (v0_) ∧ Kd.R k97 97 w' w.heap.size (fun _ => True) v0_ r1 ∧ IsS92 w0 w' g r2 r3 r4 ∧ Below w0.heap.size w0 w' ∧ KeepBut w w' g none := by
  have hu97 := Try.underlying97
  have HI0 := Aside0.mk hI
  have HK := Aside0.mk (KeepBut.refl w g none)
  have HL := Aside0.mk hB.size
  clear hI
  have HW0 := Aside0.mk hB.size
  have HB := Aside0.mk hB
  clear hB
  have H : ((eggboxref19_reader_power.f k s0_0 s0_1 s0_2).bind fun bt101 => (eggboxref19_reader_side.l0 k bt101.1 bt101.2.1 bt101.2.2.1 bt101.2.2.2)) = some (r1, r2, r3, r4) := h
  clear h
  replace H := Option.bind_eq_some_iff.mp H
  obtain ⟨⟨t101, t104, t105, t106⟩, A20, H⟩ := H
  replace H : (eggboxref19_reader_side.l0 k t101 t104 t105 t106) = some (r1, r2, r3, r4) := H
  have A2 := Aside0.mk A20
  clear A20
  have H' := Aside0.mk H
  clear H
  go_enter Try.func44, Try.ntmps44
  go_wp2_with (first | ((with_reducible refine gate_callee (f := 95) rfl ?_); refine goesL_ (some 5) rfl rfl Try.func95 (by kernel_rfl) rfl #[.pointer (some ⟨g, 0, none⟩)] rfl (by (try simp only [List.map_toArray, List.map_cons, List.map_nil]); first | done | rfl | (simp only [List.length_drop, List.length_take]; rfl)) ?_; (with_reducible refine (eggboxref19_reader_power.calls k g s0_0 s0_1 s0_2 t101 t104 t105 t106 w0 _ ?side1 ?side2 A2.out).mono ?_); (case side1 => repeat (first | (with_reducible first | exact HI0.out | apply IsS92.alloc | apply IsS92.drewN | apply IsS92.drew | apply IsS92.set_0 | apply IsS92.set_1 | apply IsS92.set_2) | exact HI0.out)); (case side2 => repeat (first | (with_reducible first | exact HB.out | apply below_alloc | apply pw_below_drewN | apply below_drew1 | refine below_set ?_ (IsS92.ge HI0.out)) | exact HB.out)); rintro e w3 ⟨v102, rfl, ho0, hi, hb, hk⟩; refine ⟨_, rfl, ?_⟩; have n0_ := Aside0.mk (Kd.R_lower ho0 (keep_size (w := w) (g := g) (row := none) (by repeat (first | (with_reducible first | exact HK.out | apply KeepBut.set_ | apply keep_drewN | apply keep_drew | apply keep_alloc) | exact HK.out)))); have n1_ := Aside0.mk (KeepBut.trans (by repeat (first | (with_reducible first | exact HK.out | apply KeepBut.set_ | apply keep_drewN | apply keep_drew | apply keep_alloc) | exact HK.out)) hk (.inl rfl)); have n2_ := Aside0.mk (hb); have n3_ := Aside0.mk (hi); clear HK; clear HB; clear HI0; have HO103 := n0_; have HK := n1_; have HB := n2_; have HI0 := n3_; clear n0_ n1_ n2_ n3_; (try clear hb); (try clear hb2); (try clear hk); (try clear hi); (try clear ho0)))
  go_loopg [3] k (fun kq v3 w' => ∃ (x3_1 : List (S97)) (x1000_1 : ByteArray) (x1001_1 : Int) (x1002_1 : Bool), Aside0 (eggboxref19_reader_side.l0 kq x3_1 x1000_1 x1001_1 x1002_1 = some (r1, r2, r3, r4)) ∧ Aside0 (kq ≤ k) ∧ Aside0 (Kd.R k97 97 w' w.heap.size (fun _ => True) v3 x3_1) ∧ Aside0 (IsS92 w0 w' g x1000_1 x1001_1 x1002_1) ∧ Aside0 (KeepBut w w' g none) ∧ Aside0 (Below w0.heap.size w0 w'))
  case atStart => exact ⟨(t101), (t104), (t105), (t106), H', ⟨Nat.le_refl _⟩, ⟨by (with_reducible repeat (first | apply Kd.R_alloc | apply Kd.R_drewN | apply Kd.R_drew)); exact HO103.out⟩, ⟨by repeat (first | (with_reducible first | exact HI0.out | apply IsS92.alloc | apply IsS92.drewN | apply IsS92.drew | apply IsS92.set_0 | apply IsS92.set_1 | apply IsS92.set_2) | exact HI0.out)⟩, ⟨by repeat (first | (with_reducible first | exact HK.out | apply KeepBut.set_ | apply keep_drewN | apply keep_drew | apply keep_alloc) | exact HK.out)⟩, ⟨by repeat (first | (with_reducible first | exact HB.out | apply below_alloc | apply pw_below_drewN | apply below_drew1 | refine below_set ?_ (IsS92.ge HI0.out)) | exact HB.out)⟩⟩
  case round =>
    clear H'
    try clear p2
    obtain ⟨x3_1, x1000_1, x1001_1, x1002_1, HA, HK1, HO_3, HI0, HK, HB⟩ := hrel
    cases gk with
    | zero => exact absurd HA.out (by simp [eggboxref19_reader_side.l0])
    | succ k1 =>
      have H := HA.out
      clear HA
      simp only [eggboxref19_reader_side.l0] at H
      by_cases c4 : x1002_1 = true
      · subst c4
        have H1 : (some (x3_1, x1000_1, x1001_1, true)) = some (r1, r2, r3, r4) := by rw [if_pos rfl] at H; exact H
        clear H
        have H := H1
        clear H1
        simp only [Option.some.injEq, Prod.mk.injEq] at H
        obtain ⟨rfl, rfl, rfl, rfl⟩ := H
        obtain ⟨HGz5, hgz5⟩ := HI0.out
        have hcz5_0 := cellS92_0 HGz5
        have hcz5_1 := cellS92_1 HGz5
        have hcz5_2 := cellS92_2 HGz5
        have hfz5_0 := blk_frozen HGz5 0
        have hfz5_1 := blk_frozen HGz5 1
        have hfz5_2 := blk_frozen HGz5 2
        clear HGz5 hgz5
        go_wp2
        go_ret
        exact ⟨_, by first | rfl | (simp [errW_none, errW_some] <;> rfl) | (simp [*, errW_none, errW_some] <;> rfl), by (with_reducible repeat (first | apply Kd.R_alloc | apply Kd.R_drewN | apply Kd.R_drew)); exact HO_3.out, by repeat (first | (with_reducible first | exact HI0.out | apply IsS92.alloc | apply IsS92.drewN | apply IsS92.drew | apply IsS92.set_0 | apply IsS92.set_1 | apply IsS92.set_2) | exact HI0.out), by repeat (first | (with_reducible first | exact HB.out | apply below_alloc | apply pw_below_drewN | apply below_drew1 | refine below_set ?_ (IsS92.ge HI0.out)) | exact HB.out), by repeat (first | (with_reducible first | exact HK.out | apply KeepBut.set_ | apply keep_drewN | apply keep_drew | apply keep_alloc) | exact HK.out)⟩
      · replace c4 := Bool.eq_false_iff.mpr c4
        subst c4
        have H1 : ((eggboxref19_reader_next.f k1 x1000_1 x1001_1 false).bind fun bt107 => ((eggboxref19_begins.f bt107.1).bind fun t111 => (if t111 = true then ((eggboxref19_reader_power.f k1 bt107.2.1 bt107.2.2.1 bt107.2.2.2).bind fun bt112 => (if x3_1.length + bt112.1.length < 8796093022208 then ((some (x3_1 ++ bt112.1 : List (S97))).bind fun y118 => (if y118.length < 8796093022208 then (eggboxref19_reader_side.l0 k1 (y118 ++ [(⟨3, 0⟩ : S97)]) bt112.2.1 bt112.2.2.1 bt112.2.2.2) else (none))) else (none))) else (some (x3_1, bt107.2.1, bt107.2.2.1, bt107.2.2.2))))) = some (r1, r2, r3, r4) := by rw [if_neg (show ¬ (false = true) by decide)] at H; exact H
        clear H
        have H := H1
        clear H1
        replace H := Option.bind_eq_some_iff.mp H
        obtain ⟨⟨t107, t108, t109, t110⟩, A60, H⟩ := H
        replace H : ((eggboxref19_begins.f t107).bind fun t111 => (if t111 = true then ((eggboxref19_reader_power.f k1 t108 t109 t110).bind fun bt112 => (if x3_1.length + bt112.1.length < 8796093022208 then ((some (x3_1 ++ bt112.1 : List (S97))).bind fun y118 => (if y118.length < 8796093022208 then (eggboxref19_reader_side.l0 k1 (y118 ++ [(⟨3, 0⟩ : S97)]) bt112.2.1 bt112.2.2.1 bt112.2.2.2) else (none))) else (none))) else (some (x3_1, t108, t109, t110)))) = some (r1, r2, r3, r4) := H
        have A6 := Aside0.mk A60
        clear A60
        replace H := Option.bind_eq_some_iff.mp H
        obtain ⟨t111, A70, H⟩ := H
        replace H : (if t111 = true then ((eggboxref19_reader_power.f k1 t108 t109 t110).bind fun bt112 => (if x3_1.length + bt112.1.length < 8796093022208 then ((some (x3_1 ++ bt112.1 : List (S97))).bind fun y118 => (if y118.length < 8796093022208 then (eggboxref19_reader_side.l0 k1 (y118 ++ [(⟨3, 0⟩ : S97)]) bt112.2.1 bt112.2.2.1 bt112.2.2.2) else (none))) else (none))) else (some (x3_1, t108, t109, t110))) = some (r1, r2, r3, r4) := H
        have A7 := Aside0.mk A70
        clear A70
        by_cases c8 : t111 = true
        · subst c8
          have H1 : ((eggboxref19_reader_power.f k1 t108 t109 t110).bind fun bt112 => (if x3_1.length + bt112.1.length < 8796093022208 then ((some (x3_1 ++ bt112.1 : List (S97))).bind fun y118 => (if y118.length < 8796093022208 then (eggboxref19_reader_side.l0 k1 (y118 ++ [(⟨3, 0⟩ : S97)]) bt112.2.1 bt112.2.2.1 bt112.2.2.2) else (none))) else (none))) = some (r1, r2, r3, r4) := by rw [if_pos rfl] at H; exact H
          clear H
          have H := H1
          clear H1
          replace H := Option.bind_eq_some_iff.mp H
          obtain ⟨⟨t112, t115, t116, t117⟩, A90, H⟩ := H
          replace H : (if x3_1.length + t112.length < 8796093022208 then ((some (x3_1 ++ t112 : List (S97))).bind fun y118 => (if y118.length < 8796093022208 then (eggboxref19_reader_side.l0 k1 (y118 ++ [(⟨3, 0⟩ : S97)]) t115 t116 t117) else (none))) else (none)) = some (r1, r2, r3, r4) := H
          have A9 := Aside0.mk A90
          clear A90
          by_cases c10 : x3_1.length + t112.length < 8796093022208
          · rw [if_pos c10] at H
            have LMc10 := Aside0.mk c10
            clear c10
            obtain ⟨y118, hy118⟩ : ∃ y_ : List (S97), y_ = (x3_1 ++ t112) := ⟨_, rfl⟩
            replace H : (if y118.length < 8796093022208 then (eggboxref19_reader_side.l0 k1 (y118 ++ [(⟨3, 0⟩ : S97)]) t115 t116 t117) else (none)) = some (r1, r2, r3, r4) := by first | (rw [hy118]; with_reducible exact H) | (have H2_ := (Option.bind_some _ _).symm.trans H; rw [hy118]; with_reducible exact H2_) | (have H2_ := (Option.bind_some _ _).symm.trans H; with_reducible exact H2_) | with_reducible exact H | (rw [hy118]; exact H) | exact H
            have Ny118 := Aside0.mk hy118
            clear hy118
            by_cases c11 : y118.length < 8796093022208
            · rw [if_pos c11] at H
              have LMc11 := Aside0.mk c11
              clear c11
              obtain ⟨y121, hy121⟩ : ∃ y_ : List (S97), y_ = (y118 ++ [(⟨3, 0⟩ : S97)]) := ⟨_, rfl⟩
              replace H : (eggboxref19_reader_side.l0 k1 y121 t115 t116 t117) = some (r1, r2, r3, r4) := by first | (rw [hy121]; with_reducible exact H) | (have H2_ := (Option.bind_some _ _).symm.trans H; rw [hy121]; with_reducible exact H2_) | (have H2_ := (Option.bind_some _ _).symm.trans H; with_reducible exact H2_) | with_reducible exact H | (rw [hy121]; exact H) | exact H
              have Ny121 := Aside0.mk hy121
              clear hy121
              have H' := Aside0.mk H
              clear H
              obtain ⟨HGz12, hgz12⟩ := HI0.out
              have hcz12_0 := cellS92_0 HGz12
              have hcz12_1 := cellS92_1 HGz12
              have hcz12_2 := cellS92_2 HGz12
              have hfz12_0 := blk_frozen HGz12 0
              have hfz12_1 := blk_frozen HGz12 1
              have hfz12_2 := blk_frozen HGz12 2
              clear HGz12 hgz12
              go_wp2_with (first | (go_at_call 45; (with_reducible refine (eggboxref19_reader_next.calls k1 g x1000_1 x1001_1 false t107 t108 t109 t110 w0 _ ?side1 ?side2 A6.out).mono ?_); (case side1 => repeat (first | (with_reducible first | exact HI0.out | apply IsS92.alloc | apply IsS92.drewN | apply IsS92.drew | apply IsS92.set_0 | apply IsS92.set_1 | apply IsS92.set_2) | exact HI0.out)); (case side2 => repeat (first | (with_reducible first | exact HB.out | apply below_alloc | apply pw_below_drewN | apply below_drew1 | refine below_set ?_ (IsS92.ge HI0.out)) | exact HB.out)); rintro e w13 ⟨rfl, hi, hb, hk⟩; have n0_ := Aside0.mk (Kd.R_mono (Kd.R_keep (IsS92.apart (show IsS92 w0 _ g x1000_1 x1001_1 false from by repeat (first | (with_reducible first | exact HI0.out | apply IsS92.alloc | apply IsS92.drewN | apply IsS92.drew | apply IsS92.set_0 | apply IsS92.set_1 | apply IsS92.set_2) | exact HI0.out)) (by (with_reducible repeat (first | apply Kd.R_alloc | apply Kd.R_drewN | apply Kd.R_drew)); exact HO_3.out) (by decide)) hk (fun _ h => h.2)) (fun _ h => h.1)); have n1_ := Aside0.mk (KeepBut.trans (by repeat (first | (with_reducible first | exact HK.out | apply KeepBut.set_ | apply keep_drewN | apply keep_drew | apply keep_alloc) | exact HK.out)) hk (.inl rfl)); have n2_ := Aside0.mk (hb); have n3_ := Aside0.mk (hi); clear HO_3; clear HK; clear HB; clear HI0; have HO_3 := n0_; have HK := n1_; have HB := n2_; have HI0 := n3_; clear n0_ n1_ n2_ n3_; (try clear hb); (try clear hb2); (try clear hk); (try clear hi)) | (go_at_call 96; (with_reducible refine (eggboxref19_begins.calls t107 true _ A7.out).mono ?_); rintro e w' ⟨rfl, ⟨nd, rfl⟩⟩) | ((with_reducible refine gate_callee (f := 95) rfl ?_); refine goesL_ (some 18) rfl rfl Try.func95 (by kernel_rfl) rfl #[.pointer (some ⟨g, 0, none⟩)] rfl (by (try simp only [List.map_toArray, List.map_cons, List.map_nil]); first | done | rfl | (simp only [List.length_drop, List.length_take]; rfl)) ?_; (with_reducible refine (eggboxref19_reader_power.calls k1 g t108 t109 t110 t112 t115 t116 t117 w0 _ ?side1 ?side2 A9.out).mono ?_); (case side1 => repeat (first | (with_reducible first | exact HI0.out | apply IsS92.alloc | apply IsS92.drewN | apply IsS92.drew | apply IsS92.set_0 | apply IsS92.set_1 | apply IsS92.set_2) | exact HI0.out)); (case side2 => repeat (first | (with_reducible first | exact HB.out | apply below_alloc | apply pw_below_drewN | apply below_drew1 | refine below_set ?_ (IsS92.ge HI0.out)) | exact HB.out)); rintro e w14 ⟨v113, rfl, ho0, hi, hb, hk⟩; refine ⟨_, rfl, ?_⟩; have n0_ := Aside0.mk (Kd.R_mono (Kd.R_told (Kd.R_oldK (IsS92.apart (show IsS92 w0 _ g t108 t109 t110 from by repeat (first | (with_reducible first | exact HI0.out | apply IsS92.alloc | apply IsS92.drewN | apply IsS92.drew | apply IsS92.set_0 | apply IsS92.set_1 | apply IsS92.set_2) | exact HI0.out)) (by (with_reducible repeat (first | apply Kd.R_alloc | apply Kd.R_drewN | apply Kd.R_drew)); exact HO_3.out) (by decide)) hk) (Kd.R_base ho0)) (fun _ h_ => h_.1)); have n1_ := Aside0.mk (Kd.R_lower (Kd.R_new' ho0 (Kd.R_lt (by (with_reducible repeat (first | apply Kd.R_alloc | apply Kd.R_drewN | apply Kd.R_drew)); exact HO_3.out))) (keep_size (w := w) (g := g) (row := none) (by repeat (first | (with_reducible first | exact HK.out | apply KeepBut.set_ | apply keep_drewN | apply keep_drew | apply keep_alloc) | exact HK.out)))); have n2_ := Aside0.mk (KeepBut.trans (by repeat (first | (with_reducible first | exact HK.out | apply KeepBut.set_ | apply keep_drewN | apply keep_drew | apply keep_alloc) | exact HK.out)) hk (.inl rfl)); have n3_ := Aside0.mk (hb); have n4_ := Aside0.mk (hi); clear HO_3; clear HK; clear HB; clear HI0; have HO_3 := n0_; have HO114 := n1_; have HK := n2_; have HB := n3_; have HI0 := n4_; clear n0_ n1_ n2_ n3_ n4_; (try clear hb); (try clear hb2); (try clear hk); (try clear hi); (try clear ho0); obtain ⟨Ao16, co16, eo16⟩ := Kd.R_slice HO114.out; subst eo16) | ((with_reducible refine gate_builtin (b := .append) (xs := #[.tmp 16, .tmp 18]) rfl ?_); at_builtin; refine Kd.R_append_rows k97 w.heap.size rfl (.tmp 16) (.tmp 18) 22 97 (.agg #[(.int .i64 0), (.int .u8 0)]) 16 rfl Try.underlying22 info97 rfl (by decide) (by omega) u3 x3_1 t112 _ _ _ (fun k_ => some k_ ≠ (.slice Ao16 t112.length co16 : Value).ownBlock) (fun _ => False) rfl rfl ?aO ?aR (fun _ _ h => h) (fun _ h => h.elim) ?aF (Below.refl _ _) ?aS ?aL ?_; (case aR => repeat (first | exact (Kd.R_reads' HO114.out).2.2 | (with_reducible refine Kd.C_alloc ?_ _) | (with_reducible refine Kd.C_drewN ?_ _) | (with_reducible refine Kd.C_drew ?_))); (case aF => exact (fun k_ hk => Kd.fresh' (Kd.R_lt (by (with_reducible repeat (first | apply Kd.R_alloc | apply Kd.R_drewN | apply Kd.R_drew)); exact HO114.out)) k_ hk)); (case aO => exact (by (with_reducible repeat (first | apply Kd.R_alloc | apply Kd.R_drewN | apply Kd.R_drew)); exact Kd.R_mono HO_3.out (fun _ hk => hk.2))); (case aS => exact (keep_size (w := w) (g := g) (row := none) (by repeat (first | (with_reducible first | exact HK.out | apply KeepBut.set_ | apply keep_drewN | apply keep_drew | apply keep_alloc) | exact HK.out)))); (case aL => have := LMc10.out; omega); intro v119 w15 ho hb hg hat; rw [← Ny118.out] at ho; have n0_ := Aside0.mk (IsS92.grown (by repeat (first | (with_reducible first | exact HI0.out | apply IsS92.alloc | apply IsS92.drewN | apply IsS92.drew | apply IsS92.set_0 | apply IsS92.set_1 | apply IsS92.set_2) | exact HI0.out)) hg (IsS92.own_ne HI0.out HO_3.out (by decide))); have n1_ := Aside0.mk (Kd.R_after (ok := (fun _ => True)) (by (with_reducible repeat (first | apply Kd.R_alloc | apply Kd.R_drewN | apply Kd.R_drew)); exact HO114.out) hg hat); have n2_ := Aside0.mk (below_weaken (by repeat (first | (with_reducible first | exact HB.out | apply below_alloc | apply pw_below_drewN | apply below_drew1 | refine below_set ?_ (IsS92.ge HI0.out)) | exact HB.out)) HL.out hb); have n3_ := Aside0.mk (KeepBut.trans (by repeat (first | (with_reducible first | exact HK.out | apply KeepBut.set_ | apply keep_drewN | apply keep_drew | apply keep_alloc) | exact HK.out)) (KeepBut.of_grown hg g) (Kd.R_base2 HO_3.out)); have n4_ := Aside0.mk (ho); clear HI0; clear HO114; clear HB; clear HK; clear HO_3; have HI0 := n0_; have HO114 := n1_; have HB := n2_; have HK := n3_; have HO120 := n4_; clear n0_ n1_ n2_ n3_ n4_; clear ho hb hg hat) | ((with_reducible refine gate_builtin (b := .append) (xs := #[.tmp 20, .tmp 22]) rfl ?_); at_builtin; refine Kd.R_append k97 w.heap.size rfl (.tmp 20) (.tmp 22) 22 97 (.agg #[(.int .i64 0), (.int .u8 0)]) 16 rfl Try.underlying22 info97 rfl (by decide) (by omega) v119 y118 (⟨3, 0⟩ : S97) [.int .i64 3, .int .u8 0] (fun k_ => some k_ ≠ (.slice Ao16 t112.length co16 : Value).ownBlock) (fun _ => False) rfl rfl ?aP (fun _ hk => hk.elim) ?aF ?aO (Below.refl _ _) ?aS ?aL ?_; (case aP => exact k97_mkM _ _ _ (⟨3, 0⟩ : S97)); (case aF => exact (fun k_ hk => Kd.fresh' (Kd.R_lt (by (with_reducible repeat (first | apply Kd.R_alloc | apply Kd.R_drewN | apply Kd.R_drew)); exact HO114.out)) k_ hk)); (case aO => exact (by (with_reducible repeat (first | apply Kd.R_alloc | apply Kd.R_drewN | apply Kd.R_drew)); exact HO120.out)); (case aS => exact (keep_size (w := w) (g := g) (row := none) (by repeat (first | (with_reducible first | exact HK.out | apply KeepBut.set_ | apply keep_drewN | apply keep_drew | apply keep_alloc) | exact HK.out)))); (case aL => have := LMc11.out; omega); intro v122 w17 ho hb hg hat; rw [← Ny121.out] at ho; have n0_ := Aside0.mk (IsS92.grown (by repeat (first | (with_reducible first | exact HI0.out | apply IsS92.alloc | apply IsS92.drewN | apply IsS92.drew | apply IsS92.set_0 | apply IsS92.set_1 | apply IsS92.set_2) | exact HI0.out)) hg (IsS92.own_ne HI0.out HO120.out (by decide))); have n1_ := Aside0.mk (Kd.R_after (ok := (fun _ => True)) (by (with_reducible repeat (first | apply Kd.R_alloc | apply Kd.R_drewN | apply Kd.R_drew)); exact HO114.out) hg hat); have n2_ := Aside0.mk (below_weaken (by repeat (first | (with_reducible first | exact HB.out | apply below_alloc | apply pw_below_drewN | apply below_drew1 | refine below_set ?_ (IsS92.ge HI0.out)) | exact HB.out)) HL.out hb); have n3_ := Aside0.mk (KeepBut.trans (by repeat (first | (with_reducible first | exact HK.out | apply KeepBut.set_ | apply keep_drewN | apply keep_drew | apply keep_alloc) | exact HK.out)) (KeepBut.of_grown hg g) (Kd.R_base2 HO120.out)); have n4_ := Aside0.mk (ho); clear HI0; clear HO114; clear HB; clear HK; clear HO120; have HI0 := n0_; have HO114 := n1_; have HB := n2_; have HK := n3_; have HO123 := n4_; clear n0_ n1_ n2_ n3_ n4_; clear ho hb hg hat))
              go_roundg k1
              case measure => have := HK1.out; omega
              case rel => exact ⟨(y121), (t115), (t116), (t117), H', ⟨by have := HK1.out; omega⟩, ⟨by (with_reducible repeat (first | apply Kd.R_alloc | apply Kd.R_drewN | apply Kd.R_drew)); exact Kd.R_mono HO123.out (fun _ hk => trivial)⟩, ⟨by repeat (first | (with_reducible first | exact HI0.out | apply IsS92.alloc | apply IsS92.drewN | apply IsS92.drew | apply IsS92.set_0 | apply IsS92.set_1 | apply IsS92.set_2) | exact HI0.out)⟩, ⟨by repeat (first | (with_reducible first | exact HK.out | apply KeepBut.set_ | apply keep_drewN | apply keep_drew | apply keep_alloc) | exact HK.out)⟩, ⟨by repeat (first | (with_reducible first | exact HB.out | apply below_alloc | apply pw_below_drewN | apply below_drew1 | refine below_set ?_ (IsS92.ge HI0.out)) | exact HB.out)⟩⟩
            · rw [if_neg c11] at H
              exact absurd H (by simp)
          · rw [if_neg c10] at H
            exact absurd H (by simp)
        · replace c8 := Bool.eq_false_iff.mpr c8
          subst c8
          have H1 : (some (x3_1, t108, t109, t110)) = some (r1, r2, r3, r4) := by rw [if_neg (show ¬ (false = true) by decide)] at H; exact H
          clear H
          have H := H1
          clear H1
          simp only [Option.some.injEq, Prod.mk.injEq] at H
          obtain ⟨rfl, rfl, rfl, rfl⟩ := H
          obtain ⟨HGz18, hgz18⟩ := HI0.out
          have hcz18_0 := cellS92_0 HGz18
          have hcz18_1 := cellS92_1 HGz18
          have hcz18_2 := cellS92_2 HGz18
          have hfz18_0 := blk_frozen HGz18 0
          have hfz18_1 := blk_frozen HGz18 1
          have hfz18_2 := blk_frozen HGz18 2
          clear HGz18 hgz18
          go_wp2_with (first | (go_at_call 45; (with_reducible refine (eggboxref19_reader_next.calls k1 g x1000_1 x1001_1 false t107 t108 t109 t110 w0 _ ?side1 ?side2 A6.out).mono ?_); (case side1 => repeat (first | (with_reducible first | exact HI0.out | apply IsS92.alloc | apply IsS92.drewN | apply IsS92.drew | apply IsS92.set_0 | apply IsS92.set_1 | apply IsS92.set_2) | exact HI0.out)); (case side2 => repeat (first | (with_reducible first | exact HB.out | apply below_alloc | apply pw_below_drewN | apply below_drew1 | refine below_set ?_ (IsS92.ge HI0.out)) | exact HB.out)); rintro e w19 ⟨rfl, hi, hb, hk⟩; have n0_ := Aside0.mk (Kd.R_mono (Kd.R_keep (IsS92.apart (show IsS92 w0 _ g x1000_1 x1001_1 false from by repeat (first | (with_reducible first | exact HI0.out | apply IsS92.alloc | apply IsS92.drewN | apply IsS92.drew | apply IsS92.set_0 | apply IsS92.set_1 | apply IsS92.set_2) | exact HI0.out)) (by (with_reducible repeat (first | apply Kd.R_alloc | apply Kd.R_drewN | apply Kd.R_drew)); exact HO_3.out) (by decide)) hk (fun _ h => h.2)) (fun _ h => h.1)); have n1_ := Aside0.mk (KeepBut.trans (by repeat (first | (with_reducible first | exact HK.out | apply KeepBut.set_ | apply keep_drewN | apply keep_drew | apply keep_alloc) | exact HK.out)) hk (.inl rfl)); have n2_ := Aside0.mk (hb); have n3_ := Aside0.mk (hi); clear HO_3; clear HK; clear HB; clear HI0; have HO_3 := n0_; have HK := n1_; have HB := n2_; have HI0 := n3_; clear n0_ n1_ n2_ n3_; (try clear hb); (try clear hb2); (try clear hk); (try clear hi)) | (go_at_call 96; (with_reducible refine (eggboxref19_begins.calls t107 false _ A7.out).mono ?_); rintro e w' ⟨rfl, ⟨nd, rfl⟩⟩))
          go_ret
          exact ⟨_, by first | rfl | (simp [errW_none, errW_some] <;> rfl) | (simp [*, errW_none, errW_some] <;> rfl), by (with_reducible repeat (first | apply Kd.R_alloc | apply Kd.R_drewN | apply Kd.R_drew)); exact HO_3.out, by repeat (first | (with_reducible first | exact HI0.out | apply IsS92.alloc | apply IsS92.drewN | apply IsS92.drew | apply IsS92.set_0 | apply IsS92.set_1 | apply IsS92.set_2) | exact HI0.out), by repeat (first | (with_reducible first | exact HB.out | apply below_alloc | apply pw_below_drewN | apply below_drew1 | refine below_set ?_ (IsS92.ge HI0.out)) | exact HB.out), by repeat (first | (with_reducible first | exact HK.out | apply KeepBut.set_ | apply keep_drewN | apply keep_drew | apply keep_alloc) | exact HK.out)⟩

end Go.Proofs.Ytcbkihhpnndpkaa.PS
set_option linter.unusedVariables false
set_option linter.unusedSimpArgs false
namespace Go.Proofs.Ytcbkihhpnndpkaa.HRefSide
open Go.RowKit Go.Proofs.YtcbkihhpnndpkaaW.PrintWords Go.Proofs.YtcbkihhpnndpkaaW.PrintLast Go.Proofs.YtcbkihhpnndpkaaW.PrintMore
open Go.Proofs.Ytcbkihhpnndpkaa Go.Proofs.Ytcbkihhpnndpkaa.PA Go.Proofs.Ytcbkihhpnndpkaa.HTake Go.Proofs.Ytcbkihhpnndpkaa.HRead Go.Proofs.Ytcbkihhpnndpkaa.HAtom Go.Proofs.Ytcbkihhpnndpkaa.HRefRead

abbrev C := PR.eggboxref19_reader_sideC
def base : C := ⟨fun _ _ _ _ => none, fun _ _ _ _ => LeO.none _, fun _ _ _ _ _ _ _ _ _ _ _ _ _ h => by cases h⟩
def step (c : C) : C := ⟨@PS.eggboxref19_reader_side.f ⟨c⟩, @PS.eggboxref19_reader_side.mono ⟨c⟩, @PS.eggboxref19_reader_side.calls ⟨c⟩⟩
def at_ : Nat → C
  | 0 => base
  | n + 1 => step (at_ n)

/-- What a rule that began at a0 comes to. -/
def Ref (s : ByteArray) (a0 : Nat) (g : Nat → Option (List S97 × ByteArray × Int × Bool)) : Rd → Prop
  | .broke p => ∃ l' : List S97, l'.length ≤ 2 * (p - a0) + 1 ∧ a0 ≤ p ∧ p ≤ s.size ∧ Ev g (l', s, (p : Int), true)
  | .read l d => Ev g (l, s, (d : Int), false)
theorem Ref.step {s : ByteArray} {a0 : Nat} {g f : Nat → Option (List S97 × ByteArray × Int × Bool)} {r : Rd} (h : ∀ k, g (k + 1) = f k) (k : Ref s a0 f r) : Ref s a0 g r := by
  cases r with
  | broke p => obtain ⟨l, h1, h2, h3, h4⟩ := k; exact ⟨l, h1, h2, h3, Ev.step h h4⟩
  | read l d => exact Ev.step h k
theorem Ref.congr {s : ByteArray} {a0 : Nat} {g f : Nat → Option (List S97 × ByteArray × Int × Bool)} {r : Rd} (h : ∀ k, g k = f k) (k : Ref s a0 f r) : Ref s a0 g r := by
  cases r with
  | broke p => obtain ⟨l, h1, h2, h3, h4⟩ := k; exact ⟨l, h1, h2, h3, Ev.congr h h4⟩
  | read l d => exact Ev.congr h k
theorem Ref.bind {α : Type} {s : ByteArray} {a0 : Nat} {g : Nat → Option α} {F : Nat → α → Option (List S97 × ByteArray × Int × Bool)} {a : α} {r : Rd} (h : Ev g a) (k : Ref s a0 (fun n => F n a) r) : Ref s a0 (fun n => (g n).bind (F n)) r := by
  cases r with
  | broke p => obtain ⟨l, h1, h2, h3, h4⟩ := k; exact ⟨l, h1, h2, h3, Ev.bind h h4⟩
  | read l d => exact Ev.bind h k
theorem take_eq (s : ByteArray) (hs : s.size ≤ 1000) (a : Nat) (ha : a ≤ s.size) (c : Int) : eggboxref19_reader_take.f s (a : Int) false c = some (s, ((if takeP s a c then a + 1 else a : Nat) : Int), !takeP s a c) := by
  unfold eggboxref19_reader_take.f takeP
  rw [if_neg (by simp)]
  by_cases h1 : a < s.size
  · rw [if_neg (by omega), if_pos (by omega), if_pos (by omega)]
    by_cases h2 : bt s (a : Int) = c
    · rw [if_pos h2, w64 (by omega) (by omega)]
      simp [h1, h2]
    · rw [if_neg h2]
      simp [h1, h2]
  · rw [if_pos (by omega)]
    simp [h1]

theorem l0_bad (l : List S97) (s : ByteArray) (p : Int) : Ev (fun k => PR.eggboxref19_reader_power.l0 k l s p true) (l, s, p, true) :=
  Ev.step (f := fun _ => some (l, s, p, true)) (fun k => by simp only [PR.eggboxref19_reader_power.l0]; rfl) (Ev.now _)
theorem j0_of {l : List S97} {s : ByteArray} {p : Int} {b : Bool} {a0 : Nat} {r : Rd} (h : Ref s a0 (fun k => PR.eggboxref19_reader_power.l0 k l s p b) r) : Ref s a0 (fun k => PR.eggboxref19_reader_power.j0 k l s p b) r :=
  Ref.step (fun k => by simp only [PR.eggboxref19_reader_power.j0]) h

theorem powL_ref (s : ByteArray) (hs : s.size ≤ 1000) : ∀ (f : Nat) (l : List S97) (a0 a : Nat) (r : Rd), a ≤ s.size → a0 ≤ a → l.length + 1 ≤ 2 * (a - a0) → powL s f l a = some r → Ref s a0 (fun k => PR.eggboxref19_reader_power.l0 k l s (a : Int) false) r := by
  intro f
  induction f with
  | zero => intro l a0 a r _ _ _ h; simp [powL] at h
  | succ f ih =>
    intro l a0 a r ha h0 hl h
    have hk := lk_le s a ha
    unfold powL at h
    refine Ref.step (f := fun k => (eggboxref19_reader_next.f k s (a : Int) false).bind fun bt124 => (if bt124.1 = 94 then ((eggboxref19_reader_take.f bt124.2.1 (wrap64 (bt124.2.2.1 + 1)) bt124.2.2.2 119).bind fun bt128 => (if l.length < 8796093022208 then (PR.eggboxref19_reader_power.l0 k (l ++ [(⟨4, 0⟩ : S97)]) bt128.1 bt128.2.1 bt128.2.2) else (none))) else (some (l, bt124.2.1, bt124.2.2.1, bt124.2.2.2)))) (fun k => by simp only [PR.eggboxref19_reader_power.l0]; rfl) ?_
    refine Ref.bind (next_ok s hs false a ha) ?_
    by_cases hc : ch s (lk s a) = 94
    · rw [if_pos hc] at h
      have hlt := ch_lt (s := s) (a := lk s a) (by omega)
      have e1 : wrap64 (((lk s a : Nat) : Int) + 1) = ((lk s a + 1 : Nat) : Int) := by rw [w64 (by omega) (by omega)]; rfl
      simp only [if_pos hc, e1, take_eq s hs (lk s a + 1) (by omega), Option.bind_some, if_pos (show l.length < 8796093022208 by omega)]
      cases ht : takeP s (lk s a + 1) 119 with
      | true =>
        have hlt2 := takeP_lt ht
        rw [ht, if_pos rfl] at h
        simp only [if_true, Bool.not_true]
        exact ih _ _ _ _ (by omega) (by omega) (by simp; omega) h
      | false =>
        rw [ht, if_neg (by simp)] at h
        obtain rfl := Option.some.inj h
        simp only [Bool.false_eq_true, if_false, Bool.not_false]
        exact ⟨_, by simp; omega, by omega, by omega, l0_bad _ _ _⟩
    · rw [if_neg hc] at h
      obtain rfl := Option.some.inj h
      simp only [if_neg hc]
      exact Ev.now _

variable [I : Inhabited PR.eggboxref19_reader_sideC]
theorem power_ref (s : ByteArray) (hs : s.size ≤ 1000) (f : Nat) (hside : ∀ f' : Nat, f' < f → ∀ (a : Nat) (r : Rd), a ≤ s.size → sideP s f' a = some r → Ref s a (fun k => PR.eggboxref19_reader_side.f k s (a : Int) false) r)
    (a : Nat) (r : Rd) (ha : a ≤ s.size) (h : powerP s f a = some r) : Ref s a (fun k => PR.eggboxref19_reader_power.f k s (a : Int) false) r := by
  have hk := lk_le s a ha
  have hfit0 := (fits s f).2.1 a r ha h
  cases f with
  | zero => simp [powerP] at h
  | succ f =>
  unfold powerP at h
  cases hq : atomP s f a with
  | none => rw [hq] at h; cases h
  | some r1 =>
  rw [hq] at h
  have hfit := (fits s f).1 a r1 ha hq
  cases f with
  | zero => simp [atomP] at hq
  | succ f =>
  unfold atomP at hq
  unfold PR.eggboxref19_reader_power.f
  refine Ref.bind (next_ok s hs false a ha) ?_
  have hr := ch_range s (lk s a)
  simp only [begins_ok _ hr.1, Option.bind_some]
  by_cases h1 : ch s (lk s a) = 49
  · rw [if_pos h1] at hq
    obtain rfl := Option.some.inj hq
    have hb : begins (ch s (lk s a)) = true := by rw [h1]; rfl
    have hlt := ch_lt (s := s) (a := lk s a) (by omega)
    have e1 : wrap64 (((lk s a : Nat) : Int) + 1) = ((lk s a + 1 : Nat) : Int) := by rw [w64 (by omega) (by omega)]; rfl
    simp only [hb, if_true, if_pos h1, e1]
    exact j0_of (powL_ref s hs _ _ _ _ _ (by omega) (by omega) (by simp; omega) h)
  · rw [if_neg h1] at hq
    by_cases h2 : ch s (lk s a) = 40
    · rw [if_pos h2] at hq
      have hb : begins (ch s (lk s a)) = true := by rw [h2]; rfl
      have hlt := ch_lt (s := s) (a := lk s a) (by omega)
      have e1 : wrap64 (((lk s a : Nat) : Int) + 1) = ((lk s a + 1 : Nat) : Int) := by rw [w64 (by omega) (by omega)]; rfl
      simp only [hb, if_true, if_neg h1, if_pos h2, e1]
      cases hs2 : sideP s f (lk s a + 1) with
      | none => rw [hs2] at hq; cases hq
      | some r2 =>
      rw [hs2] at hq
      have hS := hside f (by omega) _ r2 (by omega) hs2
      have hF := (fits s f).2.2.1 _ r2 (by omega) hs2
      cases r2 with
      | broke p =>
        obtain rfl := Option.some.inj hq
        obtain rfl := Option.some.inj h
        obtain ⟨l', g1, g2, g3, g4⟩ := hS
        refine ⟨l', by omega, by omega, g3, Ev.bind g4 ?_⟩
        simp only [if_true]
        exact Ev.step (fun k => by simp only [PR.eggboxref19_reader_power.j0]) (l0_bad _ _ _)
      | read l d =>
        obtain ⟨f1, f2, f3⟩ := hF
        have hk2 := lk_le s d f2
        refine Ref.bind hS ?_
        simp only [Bool.false_eq_true, if_false]
        refine Ref.bind (blanks_ok s hs false d f2) ?_
        simp only [take_eq s hs (lk s d) hk2.2, Option.bind_some]
        cases ht : takeP s (lk s d) 41 with
        | true =>
          have hlt2 := takeP_lt ht
          simp only [ht, if_true] at hq
          obtain rfl := Option.some.inj hq
          simp only [if_true, Bool.not_true]
          exact j0_of (powL_ref s hs _ _ _ _ _ (by omega) (by omega) (by omega) h)
        | false =>
          simp only [ht, Bool.false_eq_true, if_false] at hq
          obtain rfl := Option.some.inj hq
          obtain rfl := Option.some.inj h
          simp only [Bool.false_eq_true, if_false, Bool.not_false]
          exact ⟨l, by omega, by omega, by omega, Ev.step (fun k => by simp only [PR.eggboxref19_reader_power.j0]) (l0_bad _ _ _)⟩
    · rw [if_neg h2] at hq
      by_cases h3 : ch s (lk s a) = 0 ∨ pl (ch s (lk s a)) < 0
      · rw [if_pos h3] at hq
        obtain rfl := Option.some.inj hq
        obtain rfl := Option.some.inj h
        have hb : begins (ch s (lk s a)) = false := by
          simp only [begins, decide_eq_false_iff_not]
          omega
        simp only [hb, Bool.false_eq_true, if_false]
        exact ⟨[], by simp, by omega, by omega, Ev.now _⟩
      · rw [if_neg h3] at hq
        obtain rfl := Option.some.inj hq
        have hlt := ch_lt (s := s) (a := lk s a) (fun e => h3 (.inl e))
        have hb : begins (ch s (lk s a)) = true := by
          simp only [begins, decide_eq_true_eq]
          omega
        have e1 : wrap64 (((lk s a : Nat) : Int) + 1) = ((lk s a + 1 : Nat) : Int) := by rw [w64 (by omega) (by omega)]; rfl
        simp only [hb, if_true, if_neg h1, if_neg h2, e1]
        exact j0_of (powL_ref s hs _ _ _ _ _ (by omega) (by omega) (by simp; omega) h)

theorem sideL_ref (s : ByteArray) (hs : s.size ≤ 1000) (F : Nat) (hside : ∀ f' : Nat, f' < F → ∀ (a : Nat) (r : Rd), a ≤ s.size → sideP s f' a = some r → Ref s a (fun k => PR.eggboxref19_reader_side.f k s (a : Int) false) r) :
    ∀ (f : Nat), f ≤ F → ∀ (l : List S97) (a0 a : Nat) (r : Rd), a ≤ s.size → a0 ≤ a → l.length + 1 ≤ 2 * (a - a0) → sideL s f l a = some r → Ref s a0 (fun k => PS.eggboxref19_reader_side.l0 k l s (a : Int) false) r := by
  intro f
  induction f with
  | zero => intro _ l a0 a r _ _ _ h; simp [sideL] at h
  | succ f ih =>
    intro hF l a0 a r ha h0 hl h
    have hk := lk_le s a ha
    unfold sideL at h
    refine Ref.step (f := fun k => ((eggboxref19_reader_next.f k s (a : Int) false).bind fun bt107 => ((eggboxref19_begins.f bt107.1).bind fun t111 => (if t111 = true then ((PR.eggboxref19_reader_power.f k bt107.2.1 bt107.2.2.1 bt107.2.2.2).bind fun bt112 => (if l.length + bt112.1.length < 8796093022208 then ((some (l ++ bt112.1 : List (S97))).bind fun y118 => (if y118.length < 8796093022208 then (PS.eggboxref19_reader_side.l0 k (y118 ++ [(⟨3, 0⟩ : S97)]) bt112.2.1 bt112.2.2.1 bt112.2.2.2) else (none))) else (none))) else (some (l, bt107.2.1, bt107.2.2.1, bt107.2.2.2)))))) (fun k => by simp only [PS.eggboxref19_reader_side.l0]; rfl) ?_
    refine Ref.bind (next_ok s hs false a ha) ?_
    have hr := ch_range s (lk s a)
    simp only [begins_ok _ hr.1, Option.bind_some]
    cases hb : begins (ch s (lk s a)) with
    | false =>
      rw [hb, if_neg (by simp)] at h
      obtain rfl := Option.some.inj h
      simp only [Bool.false_eq_true, if_false]
      exact Ev.now _
    | true =>
      rw [hb, if_pos rfl] at h
      simp only [if_true]
      cases hq : powerP s f (lk s a) with
      | none => rw [hq] at h; cases h
      | some r1 =>
      rw [hq] at h
      have hP := power_ref s hs f (fun f' hf => hside f' (by omega)) (lk s a) r1 hk.2 hq
      have hfit := (fits s f).2.1 _ r1 hk.2 hq
      cases r1 with
      | broke p =>
        obtain rfl := Option.some.inj h
        obtain ⟨l', g1, g2, g3, g4⟩ := hP
        refine ⟨l ++ l' ++ [⟨3, 0⟩], by simp; omega, by omega, g3, Ev.bind g4 ?_⟩
        simp only [if_pos (show l.length + l'.length < 8796093022208 by omega), if_pos (show (l ++ l').length < 8796093022208 by simp; omega)]
        exact Ev.step (f := fun _ => some (l ++ l' ++ [⟨3, 0⟩], s, (p : Int), true)) (fun k => by simp only [PS.eggboxref19_reader_side.l0]; rfl) (Ev.now _)
      | read m d =>
        obtain ⟨f1, f2, f3⟩ := hfit
        refine Ref.bind hP ?_
        simp only [if_pos (show l.length + m.length < 8796093022208 by omega), if_pos (show (l ++ m).length < 8796093022208 by simp; omega)]
        exact ih (by omega) _ _ _ _ (by omega) (by omega) (by simp; omega) h

theorem side_ref (s : ByteArray) (hs : s.size ≤ 1000) (F : Nat) (hside : ∀ f' : Nat, f' < F → ∀ (a : Nat) (r : Rd), a ≤ s.size → sideP s f' a = some r → Ref s a (fun k => PR.eggboxref19_reader_side.f k s (a : Int) false) r)
    (a : Nat) (r : Rd) (ha : a ≤ s.size) (h : sideP s (F + 1) a = some r) : Ref s a (fun k => PS.eggboxref19_reader_side.f k s (a : Int) false) r := by
  unfold sideP at h
  unfold PS.eggboxref19_reader_side.f
  cases hq : powerP s F a with
  | none => rw [hq] at h; cases h
  | some r1 =>
  rw [hq] at h
  have hP := power_ref s hs F hside a r1 ha hq
  have hfit := (fits s F).2.1 _ r1 ha hq
  cases r1 with
  | broke p =>
    obtain rfl := Option.some.inj h
    obtain ⟨l', g1, g2, g3, g4⟩ := hP
    refine ⟨l', g1, g2, g3, Ev.bind g4 ?_⟩
    exact Ev.step (f := fun _ => some (l', s, (p : Int), true)) (fun k => by simp only [PS.eggboxref19_reader_side.l0]; rfl) (Ev.now _)
  | read m d =>
    obtain ⟨f1, f2, f3⟩ := hfit
    refine Ref.bind hP ?_
    exact sideL_ref s hs F hside F (Nat.le_refl _) _ _ _ _ (by omega) (by omega) (by omega) h
end Go.Proofs.Ytcbkihhpnndpkaa.HRefSide
namespace Go.Proofs.Ytcbkihhpnndpkaa.HRefSide
open Go.RowKit Go.Proofs.YtcbkihhpnndpkaaW.PrintWords Go.Proofs.YtcbkihhpnndpkaaW.PrintLast Go.Proofs.YtcbkihhpnndpkaaW.PrintMore
open Go.Proofs.Ytcbkihhpnndpkaa Go.Proofs.Ytcbkihhpnndpkaa.PA Go.Proofs.Ytcbkihhpnndpkaa.HTake Go.Proofs.Ytcbkihhpnndpkaa.HRead Go.Proofs.Ytcbkihhpnndpkaa.HAtom Go.Proofs.Ytcbkihhpnndpkaa.HRefRead
theorem at_ref (s : ByteArray) (hs : s.size ≤ 1000) : ∀ (n f : Nat), f ≤ n → ∀ (a : Nat) (r : Rd), a ≤ s.size → sideP s f a = some r → Ref s a (fun k => (at_ n).f k s (a : Int) false) r := by
  intro n
  induction n with
  | zero =>
    intro f hf a r ha h
    obtain rfl : f = 0 := by omega
    simp [sideP] at h
  | succ n ih =>
    intro f hf a r ha h
    cases f with
    | zero => simp [sideP] at h
    | succ f =>
      exact @side_ref ⟨at_ n⟩ s hs f (fun f' h' a r ha h => ih f' (by omega) a r ha h) a r ha h
/-- The rule, deep enough for every text. -/
def top : C := at_ 4096
theorem top_ref (s : ByteArray) (hs : s.size ≤ 1000) (a : Nat) (r : Rd) (ha : a ≤ s.size) (h : sideP s 4096 a = some r) : Ref s a (fun k => top.f k s (a : Int) false) r := at_ref s hs 4096 4096 (Nat.le_refl _) a r ha h

theorem powL_total (s : ByteArray) : ∀ (f : Nat) (l : List S97) (a : Nat), a ≤ s.size → s.size - a + 1 ≤ f → ∃ r, powL s f l a = some r := by
  intro f
  induction f with
  | zero => intro l a _ h; omega
  | succ f ih =>
    intro l a ha h
    have hk := lk_le s a ha
    unfold powL
    by_cases hc : ch s (lk s a) = 94
    · rw [if_pos hc]
      have hlt := ch_lt (s := s) (a := lk s a) (by omega)
      cases ht : takeP s (lk s a + 1) 119 with
      | true => rw [if_pos rfl]; have := takeP_lt ht; exact ih _ _ (by omega) (by omega)
      | false => rw [if_neg (by simp)]; exact ⟨_, rfl⟩
    · rw [if_neg hc]; exact ⟨_, rfl⟩
theorem total (s : ByteArray) : ∀ f, (∀ a, a ≤ s.size → 4 * (s.size - a) + 1 ≤ f → ∃ r, atomP s f a = some r) ∧ (∀ a, a ≤ s.size → 4 * (s.size - a) + 2 ≤ f → ∃ r, powerP s f a = some r) ∧
    (∀ a, a ≤ s.size → 4 * (s.size - a) + 3 ≤ f → ∃ r, sideP s f a = some r) ∧ (∀ a l, a ≤ s.size → 4 * (s.size - a) + 3 ≤ f → ∃ r, sideL s f l a = some r)
  | 0 => ⟨fun a _ h => by omega, fun a _ h => by omega, fun a _ h => by omega, fun a l _ h => by omega⟩
  | f + 1 => by
    obtain ⟨i1, i2, i3, i4⟩ := total s f
    refine ⟨fun a ha h => ?_, fun a ha h => ?_, fun a ha h => ?_, fun a l ha h => ?_⟩
    · have hk := lk_le s a ha
      unfold atomP
      by_cases h1 : ch s (lk s a) = 49
      · rw [if_pos h1]; exact ⟨_, rfl⟩
      · rw [if_neg h1]
        by_cases h2 : ch s (lk s a) = 40
        · rw [if_pos h2]
          have hlt := ch_lt (s := s) (a := lk s a) (by omega)
          obtain ⟨r, hr⟩ := i3 (lk s a + 1) (by omega) (by omega)
          rw [hr]
          cases r with
          | broke p => exact ⟨_, rfl⟩
          | read l d =>
            simp only
            by_cases ht : takeP s (lk s d) 41 = true
            · rw [if_pos ht]; exact ⟨_, rfl⟩
            · rw [if_neg ht]; exact ⟨_, rfl⟩
        · rw [if_neg h2]
          by_cases h3 : ch s (lk s a) = 0 ∨ pl (ch s (lk s a)) < 0
          · rw [if_pos h3]; exact ⟨_, rfl⟩
          · rw [if_neg h3]; exact ⟨_, rfl⟩
    · unfold powerP
      obtain ⟨r, hr⟩ := i1 a ha (by omega)
      have hf := (fits s f).1 a r ha hr
      rw [hr]
      cases r with
      | broke p => exact ⟨_, rfl⟩
      | read l d => obtain ⟨f1, f2, f3⟩ := hf; exact powL_total s f l d f2 (by omega)
    · unfold sideP
      obtain ⟨r, hr⟩ := i2 a ha (by omega)
      have hf := (fits s f).2.1 a r ha hr
      rw [hr]
      cases r with
      | broke p => exact ⟨_, rfl⟩
      | read l d => obtain ⟨f1, f2, f3⟩ := hf; exact i4 d l f2 (by omega)
    · have hk := lk_le s a ha
      unfold sideL
      cases hb : begins (ch s (lk s a)) with
      | false => rw [if_neg (by simp)]; exact ⟨_, rfl⟩
      | true =>
        rw [if_pos rfl]
        obtain ⟨r, hr⟩ := i2 (lk s a) hk.2 (by omega)
        have hf := (fits s f).2.1 _ r hk.2 hr
        rw [hr]
        cases r with
        | broke p => exact ⟨_, rfl⟩
        | read m d => obtain ⟨f1, f2, f3⟩ := hf; exact i4 d _ f2 (by omega)
theorem side_total (s : ByteArray) (hs : s.size ≤ 1000) (a : Nat) (ha : a ≤ s.size) : ∃ r, sideP s 4096 a = some r := (total s 4096).2.2.1 a ha (by omega)
end Go.Proofs.Ytcbkihhpnndpkaa.HRefSide
set_option linter.unusedVariables false
set_option linter.unusedSimpArgs false
namespace Go.Proofs.Ytcbkihhpnndpkaa.HRefParse
open Go.RowKit Go.Proofs.YtcbkihhpnndpkaaW.PrintWords Go.Proofs.YtcbkihhpnndpkaaW.PrintLast Go.Proofs.YtcbkihhpnndpkaaW.PrintMore
open Go.Proofs.Ytcbkihhpnndpkaa Go.Proofs.Ytcbkihhpnndpkaa.PA Go.Proofs.Ytcbkihhpnndpkaa.HTake Go.Proofs.Ytcbkihhpnndpkaa.HRead Go.Proofs.Ytcbkihhpnndpkaa.HAtom Go.Proofs.Ytcbkihhpnndpkaa.HIdent Go.Proofs.Ytcbkihhpnndpkaa.HParse Go.Proofs.Ytcbkihhpnndpkaa.HParsed Go.Proofs.Ytcbkihhpnndpkaa.HRefRead Go.Proofs.Ytcbkihhpnndpkaa.HRefSide

/-- The identity that is made, at block n; the result's cell; the reader. -/
structure Sr (w W : World) (s : ByteArray) (d : Nat) (bad : Bool) (n : Nat) (v1 v2 : Value) (b : Bool) (l m : List S97) : Prop where
  i : IsS92 w W (w.heap.size + 1) s d bad
  bl : Below w.heap.size w W
  c : W.heap[n]? = some (.cells #[v1, v2, .bool b] 24 (0, 0))
  c2 : W.heap[w.heap.size]? = some (.cells #[.slice none 0 0, .slice none 0 0, .bool false] 24 (0, 0))
  r1 : Kd.R k97 97 W w.heap.size (fun k => some k ≠ v2.ownBlock) v1 l
  r2 : Kd.R k97 97 W w.heap.size (fun k => some k ≠ v1.ownBlock) v2 m
  z : w.heap.size + 1 < n
theorem Sr.keep {w W W' : World} {s : ByteArray} {n d d' : Nat} {bad bad' : Bool} {v1 v2 : Value} {b : Bool} {l m : List S97} (h : Sr w W s d bad n v1 v2 b l m) (hi : IsS92 w W' (w.heap.size + 1) s d' bad') (hb : Below w.heap.size w W') (hk : KeepBut W W' (w.heap.size + 1) none) :
    Sr w W' s d' bad' n v1 v2 b l m :=
  ⟨hi, hb, hk.blk h.c (by have := h.z; omega) (by simp), hk.blk h.c2 (by omega) (by simp),
    Kd.R_mono (Kd.R_keep (IsS92.apart h.i h.r1 (by decide)) hk (fun _ q => q.2)) (fun _ q => q.1),
    Kd.R_mono (Kd.R_keep (IsS92.apart h.i h.r2 (by decide)) hk (fun _ q => q.2)) (fun _ q => q.1), h.z⟩
theorem Sr.pos {w W : World} {s : ByteArray} {n d d' : Nat} {bad : Bool} {v1 v2 : Value} {b : Bool} {l m : List S97} (h : Sr w W s d bad n v1 v2 b l m) {x : Int} (hx : x = (d' : Int)) :
    Sr w (W.setCell ⟨w.heap.size + 1, 1, none⟩ (.int .i64 x)) s d' bad n v1 v2 b l m := by
  subst hx
  exact h.keep (IsS92.set_1 h.i _) (below_set h.bl (IsS92.ge h.i)) (KeepBut.set_ (KeepBut.refl W _ none) 1 _)
theorem Sr.spoil {w W : World} {s : ByteArray} {n d : Nat} {bad : Bool} {v1 v2 : Value} {b : Bool} {l m : List S97} (h : Sr w W s d bad n v1 v2 b l m) :
    Sr w (W.setCell ⟨w.heap.size + 1, 2, none⟩ (.bool true)) s d true n v1 v2 b l m :=
  h.keep (IsS92.set_2 h.i _) (below_set h.bl (IsS92.ge h.i)) (KeepBut.set_ (KeepBut.refl W _ none) 2 _)
theorem Sr.right {w W W' : World} {s : ByteArray} {n d d' : Nat} {bad bad' : Bool} {v1 v2 v : Value} {b : Bool} {l m m' : List S97} (h : Sr w W s d bad n v1 v2 b l m)
    (hi : IsS92 w W' (w.heap.size + 1) s d' bad') (hb : Below w.heap.size w W') (hk : KeepBut W W' (w.heap.size + 1) none) (ho : Kd.R k97 97 W' W.heap.size (fun _ => True) v m') :
    Sr w (W'.setCell ⟨n, 1, none⟩ v) s d' bad' n v1 v b l m' := by
  have h1 := h.keep hi hb hk
  have hz := h.z
  have hw := h.bl.size
  have hkn := KeepBut.set_ (KeepBut.refl W' n none) 1 v
  have hlt := Kd.R_lt h.r1
  have hbs := Kd.R_base ho
  refine ⟨IsS92.far hi (show w.heap.size + 1 ≠ n by omega) v, below_set hb (by show _ ≤ n; omega), ?_, ?_, ?_, ?_, h.z⟩
  · simpa using blk_set h1.c 1 v
  · exact blk_far h1.c2 (by show w.heap.size ≠ n; omega) v
  · refine Kd.R_mono (Kd.R_keep (Kd.R_types (Kd.R_keep (IsS92.apart h.i (Kd.R_bound h.r1) (by decide)) hk (fun _ q => q.2)) h1.c (by decide)) hkn (fun _ q => q.2)) (fun k q e => ?_)
    have := hbs k e.symm
    have := q.1.1.2.2.1
    omega
  · refine Kd.R_mono (Kd.R_keep (Kd.R_types (Kd.R_lower (Kd.R_new' ho hlt) (by omega)) h1.c (by decide)) hkn (fun _ q => q.2)) (fun k q => q.1.2)
theorem Sr.less {w W : World} {s : ByteArray} {n d : Nat} {bad : Bool} {v1 v2 : Value} {b : Bool} {l m : List S97} (h : Sr w W s d bad n v1 v2 b l m) :
    Sr w (W.setCell ⟨n, 2, none⟩ (.bool true)) s d bad n v1 v2 true l m := by
  have hkn := KeepBut.set_ (KeepBut.refl W n none) 2 (.bool true)
  have hz := h.z
  refine ⟨IsS92.far h.i (show w.heap.size + 1 ≠ n by omega) _, below_set h.bl (by show _ ≤ n; omega), ?_, ?_, ?_, ?_, h.z⟩
  · simpa using blk_set h.c 2 (.bool true)
  · exact blk_far h.c2 (by show w.heap.size ≠ n; omega) _
  · exact Kd.R_mono (Kd.R_keep (Kd.R_types h.r1 h.c (by decide)) hkn (fun _ q => q.2)) (fun _ q => q.1)
  · exact Kd.R_mono (Kd.R_keep (Kd.R_types h.r2 h.c (by decide)) hkn (fun _ q => q.2)) (fun _ q => q.1)
theorem Sr.drewN {w W : World} {s : ByteArray} {n d : Nat} {bad : Bool} {v1 v2 : Value} {b : Bool} {l m : List S97} (h : Sr w W s d bad n v1 v2 b l m) (k : Nat) : Sr w (W.drewN k) s d bad n v1 v2 b l m :=
  h.keep (IsS92.drewN h.i k) (pw_below_drewN h.bl k) (keep_drewN (KeepBut.refl W _ none) k)
/-- The first side is there: the identity is laid. -/
theorem Sr.start {w W W' : World} {s : ByteArray} {d : Nat} {bad : Bool} {v : Value} {l : List S97} (hi : IsS92 w W' (w.heap.size + 1) s d bad) (hb : Below w.heap.size w W')
    (c2 : W'.heap[w.heap.size]? = some (.cells #[.slice none 0 0, .slice none 0 0, .bool false] 24 (0, 0))) (hz : w.heap.size ≤ W.heap.size) (ho : Kd.R k97 97 W' W.heap.size (fun _ => True) v l) :
    Sr w (W'.alloc (.cells #[v, .slice none 0 0, .bool false] 24)) s d bad W'.heap.size v (.slice none 0 0) false l [] :=
  ⟨IsS92.alloc hi _, below_alloc hb _, blk_new W' _, blk_alloc c2 _, Kd.R_mono (Kd.R_below (Kd.R_lower ho hz) (below_alloc (Below.refl _ _) _)) (fun _ _ => by simp [Value.ownBlock]), Kd.R_nil _ _ _ _ _, IsS92.lt hi⟩

theorem side_call (g : Nat) (s : ByteArray) (hs : s.size ≤ 1000) (a : Nat) (ha : a ≤ s.size) (r : Rd) (h : sideP s 4096 a = some r) (w0 w : World) (hI : IsS92 w0 w g s a false) (hB : Below w0.heap.size w0 w) :
    Calls Try.prog 44 #[.pointer (some ⟨g, 0, none⟩)] w (RPost g s a w0 w r) := by
  have hr := top_ref s hs a r ha h
  cases r with
  | broke p =>
    obtain ⟨l', h1, h2, h3, K, hK⟩ := hr
    refine (HRefSide.top.calls K g s a false l' s p true w0 w hI hB (hK K (Nat.le_refl _))).mono ?_
    rintro e w' ⟨v, rfl, h4, h5, h6, h7⟩
    exact ⟨v, l', rfl, h4, h1, h2, h3, h5, h6, h7⟩
  | read l d =>
    obtain ⟨K, hK⟩ := hr
    exact HRefSide.top.calls K g s a false l s d false w0 w hI hB (hK K (Nat.le_refl _))

/-- Behind the sign. -/
def Mid (s : ByteArray) (r : Pr) (l : List S97) (d : Nat) (bad b : Bool) : Prop := if bad then r = .broke d else d ≤ s.size ∧ endP s 4096 l b d = some r
/-- Behind the second side. -/
def Mid2 (s : ByteArray) (r : Pr) (l m : List S97) (d : Nat) (bad b : Bool) : Prop := if bad then r = .broke d else d ≤ s.size ∧ r = (if lk s d < s.size then .broke (lk s d) else .read l m b)
def Mid3 (s : ByteArray) (r : Pr) (l m : List S97) (d : Nat) (bad b : Bool) : Prop := if bad then r = .broke d else d ≤ s.size ∧ r = (if d < s.size then .broke d else .read l m b)
def Mid4 (r : Pr) (l m : List S97) (d : Nat) (bad b : Bool) : Prop := if bad then r = .broke d else r = .read l m b
/-- How Parse ends. -/
def Fin (w : World) (r : Pr) (e : Ending) (w' : World) : Prop :=
  match r with
  | .broke p => Back w [] [] false p 41 e w'
  | .read l m b => if 400 < l.length ∨ 400 < m.length then Back w [] [] false 0 6 e w' else Back w l m b 0 0 e w'

theorem Fin.big {w : World} {l m : List S97} {b : Bool} {e : Ending} {w' : World} (h : 400 < l.length ∨ 400 < m.length) (hb : Back w [] [] false 0 6 e w') : Fin w (.read l m b) e w' := by
  show (if 400 < l.length ∨ 400 < m.length then Back w [] [] false 0 6 e w' else Back w l m b 0 0 e w')
  rw [if_pos h]
  exact hb
theorem Fin.fine {w : World} {l m : List S97} {b : Bool} {e : Ending} {w' : World} (h : ¬ (400 < l.length ∨ 400 < m.length)) (hb : Back w l m b 0 0 e w') : Fin w (.read l m b) e w' := by
  show (if 400 < l.length ∨ 400 < m.length then Back w [] [] false 0 6 e w' else Back w l m b 0 0 e w')
  rw [if_neg h]
  exact hb

set_option maxHeartbeats 4000000 in
set_option maxRecDepth 100000 in
theorem mid (s : ByteArray) (hs : s.size ≤ 1000) (r : Pr) (h : idP s 4096 = some r) (w : World) : Calls Try.prog 12 #[.string s] w (Fin w r) := by
  have t1 : decide ((1000 : Int) < (s.size : Int)) = false := decide_eq_false (by omega)
  unfold idP at h
  cases hq : sideP s 4096 0 with
  | none => rw [hq] at h; cases h
  | some r1 =>
  rw [hq] at h
  have hf := (fits s 4096).2.2.1 0 r1 (by omega) hq
  go_enter Try.func12, Try.ntmps12
  go_wp2_with fail
  refine (side_call (w.heap.size + 1) s hs 0 (by omega) r1 hq w _ (by have := IsS92.new w (w.alloc (.cells #[.slice none 0 0, .slice none 0 0, .bool false] 24)) s 0 false (below_alloc (Below.refl _ _) _); simpa using this) (below_alloc (below_alloc (Below.refl _ _) _) _)).mono ?_
  intro e w1 hp
  have HE : ∃ (v : Value) (l : List S97) (d : Nat) (bad : Bool), e = .returned v ∧ Aside0 (Kd.R k97 97 w1 ((w.alloc (.cells #[.slice none 0 0, .slice none 0 0, .bool false] 24)).alloc (.cells #[.string s, .int .i64 0, .bool false] 92)).heap.size (fun _ => True) v l) ∧ Aside0 (IsS92 w w1 (w.heap.size + 1) s d bad) ∧ Aside0 (Below w.heap.size w w1) ∧ Aside0 (w1.heap[w.heap.size]? = some (.cells #[.slice none 0 0, .slice none 0 0, .bool false] 24 (0, 0))) ∧ Aside0 (if bad then r = .broke d else d ≤ s.size ∧ (if ch s (lk s d) = 61 then endP s 4096 l false (lk s d + 1)
    else if ch s (lk s d) = 60 then (if takeP s (lk s d + 1) 61 then endP s 4096 l true (lk s d + 2) else some (.broke (lk s d + 1)))
    else some (.broke (lk s d))) = some r) := by
    have hb0 := blk_alloc (blk_new w (.cells #[.slice none 0 0, .slice none 0 0, .bool false] 24)) (.cells #[.string s, .int .i64 0, .bool false] 92)
    cases r1 with
    | broke p =>
      obtain ⟨v, l, rfl, h1, h2, h3, h4, h5, h6, h7⟩ := hp
      obtain rfl := Option.some.inj h
      exact ⟨v, l, p, true, rfl, ⟨h1⟩, ⟨h5⟩, ⟨h6⟩, ⟨h7.blk hb0 (by omega) (by simp)⟩, ⟨rfl⟩⟩
    | read l d =>
      obtain ⟨v, rfl, h1, h5, h6, h7⟩ := hp
      exact ⟨v, l, d, false, rfl, ⟨h1⟩, ⟨h5⟩, ⟨h6⟩, ⟨h7.blk hb0 (by omega) (by simp)⟩, ⟨hf.2.1, h⟩⟩
  clear hp hf hq h
  obtain ⟨v, l, d, bad, rfl, HO, HI, HB, HC, HM⟩ := HE
  obtain ⟨A1, c1, rfl⟩ := Kd.R_slice HO.out
  have S1 := Aside0.mk (Sr.start HI.out HB.out HC.out (by simp; omega) HO.out)
  obtain ⟨HG, hg⟩ := S1.out.i
  have hc0 := cellS92_0 HG
  have hc1 := cellS92_1 HG
  have hc2 := cellS92_2 HG
  have hf1 := blk_frozen HG 1
  have hf2 := blk_frozen HG 2
  clear HG hg HO HB HC HI
  go_upto_if 21 with fail
  generalize w1.heap.size = n at *
  generalize w1.alloc (.cells #[.slice A1 l.length c1, .slice none 0 0, .bool false] 24) = w2 at *
  go_cut [] (fun wc => ∃ (d : Nat) (bad b : Bool), Aside0 (Mid s r l d bad b) ∧ Aside0 (Sr w wc s d bad n (.slice A1 l.length c1) (.slice none 0 0) b l []))
  case first =>
    cases bad with
    | true =>
      go_wp2_with fail
      go_meet
      exact ⟨d, true, false, HM, S1⟩
    | false =>
      obtain ⟨hd, h⟩ := HM.out
      clear HM
      have hk := lk_le s d hd
      go_wp2_with fail
      refine (HRefRead.next (w.heap.size + 1) s hs d hd false w _ S1.out.i S1.out.bl).mono ?_
      rintro e w3 ⟨rfl, hi3, hb3, hk3⟩
      have S3 := Aside0.mk (S1.out.keep hi3 hb3 hk3)
      clear hc0 hc1 hc2 hf1 hf2 S1
      obtain ⟨HG, hg⟩ := hi3
      have hc1 := cellS92_1 HG
      have hf1 := blk_frozen HG 1
      have hc2 := cellS92_2 HG
      have hf2 := blk_frozen HG 2
      clear HG hg hb3 hk3
      by_cases h1 : ch s (lk s d) = 61
      · rw [if_pos h1] at h
        have hlt := ch_lt (s := s) (a := lk s d) (by omega)
        rw [h1]
        have S4 := Aside0.mk (Sr.pos (d' := lk s d + 1) S3.out (x := ((lk s d : Nat) : Int) + 1) rfl)
        clear h1
        go_wp2_with fail
        go_meet
        exact ⟨lk s d + 1, false, false, ⟨by omega, h⟩, S4⟩
      · rw [if_neg h1] at h
        by_cases h2 : ch s (lk s d) = 60
        · rw [if_pos h2] at h
          have hlt := ch_lt (s := s) (a := lk s d) (by omega)
          rw [h2]
          have S4 := Aside0.mk (Sr.pos (d' := lk s d + 1) S3.out (x := ((lk s d : Nat) : Int) + 1) rfl)
          clear h1 h2
          go_wp2_with fail
          refine (HRefRead.take (w.heap.size + 1) s hs (lk s d + 1) (by omega) 61 w _ S4.out.i S4.out.bl).mono ?_
          rintro e w5 ⟨rfl, hi5, hb5, hk5⟩
          have S5 := Aside0.mk (S4.out.keep hi5 hb5 hk5)
          have S6 := Aside0.mk S5.out.less
          have n2 : w5.cell? ⟨n, 2, none⟩ = some (.bool false) := (blk_cell S5.out.c 2).trans rfl
          have q2 := blk_frozen S5.out.c 2
          clear hi5 hb5 hk5 hc1 hf1 hc2 hf2
          go_wp2_with fail
          go_meet
          cases ht : takeP s (lk s d + 1) 61 with
          | true =>
            have hlt2 := takeP_lt ht
            rw [ht, if_pos rfl] at h
            rw [ht] at S6
            exact ⟨lk s d + 1 + 1, false, true, ⟨by omega, h⟩, S6⟩
          | false =>
            rw [ht, if_neg (by simp)] at h
            rw [ht] at S6
            exact ⟨lk s d + 1, true, true, ⟨(Option.some.inj h).symm⟩, S6⟩
        · rw [if_neg h2] at h
          have b1 : (ch s (lk s d) == 61) = false := beq_eq_false_iff_ne.mpr h1
          have b2 : (ch s (lk s d) == 60) = false := beq_eq_false_iff_ne.mpr h2
          have S4 := Aside0.mk S3.out.spoil
          clear h1 h2
          go_wp2_with fail
          go_meet
          exact ⟨lk s d, true, false, ⟨(Option.some.inj h).symm⟩, S4⟩
  case rest =>
  clear S1 hc0 hc1 hc2 hf1 hf2 HM
  obtain ⟨d, bad, b, HM, S1⟩ := hcut
  obtain ⟨HG, hg⟩ := S1.out.i
  have hc2 := cellS92_2 HG
  clear HG hg
  go_upto_if 52 with fail
  go_cut [] (fun wd => ∃ (d : Nat) (bad : Bool) (A2 : Option Addr) (c2 : Nat) (m : List S97), Aside0 (Mid2 s r l m d bad b) ∧ Aside0 (Sr w wd s d bad n (.slice A1 l.length c1) (.slice A2 m.length c2) b l m))
  case first =>
    cases bad with
    | true =>
      go_wp2_with fail
      go_meet
      exact ⟨d, true, none, 0, [], ⟨HM.out⟩, S1⟩
    | false =>
      obtain ⟨hd, h⟩ := HM.out
      clear HM
      unfold endP at h
      cases hq : sideP s 4096 d with
      | none => rw [hq] at h; cases h
      | some r2 =>
      rw [hq] at h
      have hf := (fits s 4096).2.2.1 d r2 hd hq
      go_wp2_with fail
      refine (side_call (w.heap.size + 1) s hs d hd r2 hq w _ S1.out.i S1.out.bl).mono ?_
      intro e w1 hp
      have HE : ∃ (v : Value) (m : List S97) (d2 : Nat) (bad : Bool), e = .returned v ∧ Aside0 (Mid2 s r l m d2 bad b) ∧ Aside0 (Kd.R k97 97 w1 wc.heap.size (fun _ => True) v m) ∧ Aside0 (IsS92 w w1 (w.heap.size + 1) s d2 bad) ∧ Aside0 (Below w.heap.size w w1) ∧ Aside0 (KeepBut wc w1 (w.heap.size + 1) none) := by
        cases r2 with
        | broke p =>
          obtain ⟨v, m, rfl, h1, h2, h3, h4, h5, h6, h7⟩ := hp
          exact ⟨v, m, p, true, rfl, ⟨(Option.some.inj h).symm⟩, ⟨h1⟩, ⟨h5⟩, ⟨h6⟩, ⟨h7⟩⟩
        | read m d2 =>
          obtain ⟨v, rfl, h1, h5, h6, h7⟩ := hp
          refine ⟨v, m, d2, false, rfl, ⟨hf.2.1, ?_⟩, ⟨h1⟩, ⟨h5⟩, ⟨h6⟩, ⟨h7⟩⟩
          simp only at h
          split at h <;> (rename_i hz; first | rw [if_pos hz] | rw [if_neg hz]) <;> exact (Option.some.inj h).symm
      clear hp hf hq h
      obtain ⟨v, m, d2, bad, rfl, HM2, HO, HI, HB, HK⟩ := HE
      obtain ⟨A2, c2, rfl⟩ := Kd.R_slice HO.out
      have S2 := Aside0.mk (Sr.right S1.out HI.out HB.out HK.out HO.out)
      have C := (S1.out.keep HI.out HB.out HK.out).c
      have n1 : w1.cell? ⟨n, 1, none⟩ = some (.slice none 0 0) := (blk_cell C 1).trans rfl
      have q1 := blk_frozen C 1
      clear C HO HI HB HK hc2
      go_wp2_with fail
      go_meet
      exact ⟨d2, bad, A2, c2, m, HM2, S2⟩
  case rest =>
  clear S1 hc2 HM
  obtain ⟨d, bad, A2, c2, m, HM, S1⟩ := hcut
  obtain ⟨HG, hg⟩ := S1.out.i
  have hc2 := cellS92_2 HG
  have hf2 := blk_frozen HG 2
  clear HG hg
  go_upto_region 16 with fail
  go_cut [65] (fun v65 wd => ∃ (d : Nat) (bad c : Bool), v65 = .bool c ∧ Aside0 (Mid3 s r l m d bad b) ∧ Aside0 (c = true → bad = false ∧ d < s.size) ∧ Aside0 (Sr w wd s d bad n (.slice A1 l.length c1) (.slice A2 m.length c2) b l m))
  case first =>
    cases bad with
    | true =>
      go_wp2_with fail
      go_meet
      exact ⟨d, true, false, rfl, ⟨HM.out⟩, ⟨fun h => by cases h⟩, S1⟩
    | false =>
      have hd := HM.out.1
      have hk := lk_le s d hd
      go_wp2_with fail
      refine (HRefRead.next (w.heap.size + 1) s hs d hd false w _ S1.out.i S1.out.bl).mono ?_
      rintro e w3 ⟨rfl, hi3, hb3, hk3⟩
      have S3 := Aside0.mk (S1.out.keep hi3 hb3 hk3)
      clear hc2 hf2 S1 hi3 hb3 hk3
      go_wp2_with fail
      go_meet
      refine ⟨lk s d, false, ch s (lk s d) != 0, rfl, ⟨hk.2, HM.out.2⟩, ⟨fun e => ⟨rfl, ch_lt (bne_iff_ne.mp e)⟩⟩, S3⟩
  case rest =>
  clear S1 hc2 hf2 HM
  obtain ⟨d, bad, c, rfl, HM, HC, S1⟩ := hcut
  obtain ⟨HG, hg⟩ := S1.out.i
  have hc2 := cellS92_2 HG
  have hf2 := blk_frozen HG 2
  clear HG hg
  go_upto_if 65 with fail
  go_cut [] (fun wd => ∃ (d : Nat) (bad : Bool), Aside0 (Mid3 s r l m d bad b) ∧ Aside0 (Sr w wd s d bad n (.slice A1 l.length c1) (.slice A2 m.length c2) b l m))
  case first =>
    cases c with
    | false =>
      go_wp2_with fail
      go_meet
      exact ⟨d, bad, HM, S1⟩
    | true =>
      obtain ⟨rfl, hlt⟩ := HC.out rfl
      have hr := HM.out.2
      rw [if_pos hlt] at hr
      have HR := Aside0.mk hr
      have S4 := Aside0.mk S1.out.spoil
      clear HM HC hr
      go_wp2_with fail
      go_meet
      exact ⟨d, true, HR, S4⟩
  case rest =>
  clear S1 hc2 hf2 HM HC
  obtain ⟨d, bad, HM, S1⟩ := hcut
  obtain ⟨HG, hg⟩ := S1.out.i
  have hc0 := cellS92_0 HG
  have hc1 := cellS92_1 HG
  have hc2 := cellS92_2 HG
  have hf2 := blk_frozen HG 2
  clear HG hg
  go_upto_region 18 with fail
  go_cut [85] (fun v85 wd => ∃ (c : Bool), v85 = .bool c ∧ Aside0 (c = (!bad && decide ((d : Int) < (s.size : Int)))) ∧ Aside0 (Sr w wd s d bad n (.slice A1 l.length c1) (.slice A2 m.length c2) b l m))
  case first =>
    cases bad with
    | true =>
      go_quiet (fail)
      go_wp2_with fail
      go_meet
      exact ⟨false, rfl, ⟨rfl⟩, ⟨Sr.drewN S1.out _⟩⟩
    | false =>
      go_quiet (fail)
      go_wp2_with fail
      go_meet
      exact ⟨_, rfl, ⟨by simp⟩, ⟨Sr.drewN S1.out _⟩⟩
  case rest =>
  clear S1 hc0 hc1 hc2 hf2
  obtain ⟨c, rfl, HC, S1⟩ := hcut
  obtain ⟨HG, hg⟩ := S1.out.i
  have hc2 := cellS92_2 HG
  have hf2 := blk_frozen HG 2
  clear HG hg
  go_upto_if 85 with fail
  go_cut [] (fun wd => ∃ (bad : Bool), Aside0 (Mid4 r l m d bad b) ∧ Aside0 (Sr w wd s d bad n (.slice A1 l.length c1) (.slice A2 m.length c2) b l m))
  case first =>
    cases c with
    | false =>
      have HR : Aside0 (Mid4 r l m d bad b) := by
        have h := HC.out
        have hm := HM.out
        cases bad with
        | true => exact ⟨hm⟩
        | false =>
          have h2 : ¬ (d < s.size) := by simpa using h.symm
          have h3 := hm.2
          rw [if_neg h2] at h3
          exact ⟨h3⟩
      clear HC HM
      go_wp2_with fail
      go_meet
      exact ⟨bad, HR, S1⟩
    | true =>
      have HR : bad = false ∧ d < s.size := by simpa using HC.out.symm
      obtain ⟨rfl, hlt⟩ := HR
      have hr := HM.out.2
      rw [if_pos hlt] at hr
      have HR := Aside0.mk hr
      have S4 := Aside0.mk S1.out.spoil
      clear HM HC hr
      go_wp2_with fail
      go_meet
      exact ⟨true, HR, S4⟩
  case rest =>
  clear S1 hc2 hf2 HM HC
  obtain ⟨bad, HM, S1⟩ := hcut
  obtain ⟨HG, hg⟩ := S1.out.i
  have hc1 := cellS92_1 HG
  have hc2 := cellS92_2 HG
  clear HG hg
  have m0 := (blk_cell S1.out.c2 0).trans rfl
  have m1 := (blk_cell S1.out.c2 1).trans rfl
  have m2 := (blk_cell S1.out.c2 2).trans rfl
  have p0 := blk_frozen S1.out.c2 0
  have p1 := blk_frozen S1.out.c2 1
  have p2 := blk_frozen S1.out.c2 2
  have n0 := (blk_cell S1.out.c 0).trans rfl
  have n1 := (blk_cell S1.out.c 1).trans rfl
  have n2 := (blk_cell S1.out.c 2).trans rfl
  cases bad with
  | true =>
    obtain rfl : r = .broke d := HM.out
    clear n0 n1 n2
    go_wp2_with fail
    go_region
    all_goals (
      go_wp2_with fail
      refine bodyPost_ret (results_ctt rfl _ _ w.heap.size 24 #[.slice none 0 0, .slice none 0 0, .bool false] (0, 0) _ rfl (set3 (by first | exact S1.out.c2 | exact (Sr.drewN S1.out 1).c2) _ _ _) Try.underlying24 rfl (by kernel_rfl)) rfl ?_
      exact ⟨_, _, rfl, Kd.R_nil _ _ _ _ _, Kd.R_nil _ _ _ _ _, by first | exact below_drew1 (below_set (below_set (below_set S1.out.bl (Nat.le_refl _)) (Nat.le_refl _)) (Nat.le_refl _)) | exact below_set (below_set (below_set (below_drew1 S1.out.bl) (Nat.le_refl _)) (Nat.le_refl _)) (Nat.le_refl _)⟩)
  | false =>
    obtain rfl : r = .read l m b := HM.out
    clear hc1
    by_cases hl : 400 < l.length
    · have t2 : decide ((400 : Int) < (l.length : Int)) = true := decide_eq_true (by omega)
      have HL := Aside0.mk hl
      clear hl
      go_wp2_with fail
      refine bodyPost_ret (results_ctt rfl _ _ w.heap.size 24 #[.slice none 0 0, .slice none 0 0, .bool false] (0, 0) _ rfl (set3 S1.out.c2 _ _ _) Try.underlying24 rfl (by kernel_rfl)) rfl ?_
      exact Fin.big (.inl HL.out) ⟨_, _, rfl, Kd.R_nil _ _ _ _ _, Kd.R_nil _ _ _ _ _, below_set (below_set (below_set S1.out.bl (Nat.le_refl _)) (Nat.le_refl _)) (Nat.le_refl _)⟩
    · have t2 : decide ((400 : Int) < (l.length : Int)) = false := decide_eq_false (by omega)
      by_cases hm : 400 < m.length
      · have t3 : decide ((400 : Int) < (m.length : Int)) = true := decide_eq_true (by omega)
        have HL := Aside0.mk hm
        clear hl hm
        go_wp2_with fail
        refine bodyPost_ret (results_ctt rfl _ _ w.heap.size 24 #[.slice none 0 0, .slice none 0 0, .bool false] (0, 0) _ rfl (set3 S1.out.c2 _ _ _) Try.underlying24 rfl (by kernel_rfl)) rfl ?_
        exact Fin.big (.inr HL.out) ⟨_, _, rfl, Kd.R_nil _ _ _ _ _, Kd.R_nil _ _ _ _ _, below_set (below_set (below_set S1.out.bl (Nat.le_refl _)) (Nat.le_refl _)) (Nat.le_refl _)⟩
      · have t3 : decide ((400 : Int) < (m.length : Int)) = false := decide_eq_false (by omega)
        have HL := Aside0.mk (show ¬ (400 < l.length ∨ 400 < m.length) by omega)
        clear hl hm
        go_wp2_with fail
        refine bodyPost_ret (results_ctt rfl _ _ w.heap.size 24 #[.slice A1 l.length c1, .slice A2 m.length c2, .bool b] (0, 0) _ rfl (set3 S1.out.c2 _ _ _) Try.underlying24 rfl (by kernel_rfl)) rfl ?_
        exact Fin.fine HL.out ⟨_, _, rfl, R_set3 S1.out.r1 S1.out.c2 _ _ _, R_set3 S1.out.r2 S1.out.c2 _ _ _, below_set (below_set (below_set S1.out.bl (Nat.le_refl _)) (Nat.le_refl _)) (Nat.le_refl _)⟩

set_option maxHeartbeats 4000000 in
set_option maxRecDepth 100000 in
theorem long (s : ByteArray) (hs : 1000 < s.size) (w : World) : Calls Try.prog 12 #[.string s] w (Back w [] [] false 0 40) := by
  have t1 : decide ((1000 : Int) < (s.size : Int)) = true := decide_eq_true (by omega)
  go_enter Try.func12, Try.ntmps12
  go_wp2_with fail
  refine bodyPost_ret (results_ctt rfl _ _ w.heap.size 24 #[.slice none 0 0, .slice none 0 0, .bool false] (0, 0) _ rfl (by first | exact blk_new w _ | exact set3 (blk_new w _) _ _ _) Try.underlying24 rfl (by kernel_rfl)) rfl ?_
  exact ⟨_, _, rfl, Kd.R_nil _ _ _ _ _, Kd.R_nil _ _ _ _ _, by first | exact below_alloc (Below.refl _ _) _ | exact below_set (below_set (below_set (below_alloc (Below.refl _ _) _) (Nat.le_refl _)) (Nat.le_refl _)) (Nat.le_refl _)⟩

theorem calls (s : ByteArray) (r : Pd) (h : parseP s 4096 = some r) (w : World) :
    Calls Try.prog 12 #[.string s] w (Back w r.l r.m r.b r.p r.e) := by
  unfold parseP at h
  by_cases hs : 1000 < s.size
  · rw [if_pos hs] at h
    obtain rfl := Option.some.inj h
    exact long s hs w
  · rw [if_neg hs] at h
    cases hi : idP s 4096 with
    | none => rw [hi] at h; cases h
    | some q =>
      rw [hi] at h
      have hm := mid s (by omega) q hi w
      cases q with
      | broke p =>
        obtain rfl := Option.some.inj h
        exact hm
      | read l m b =>
        simp only at h
        by_cases hl : 400 < l.length ∨ 400 < m.length
        · rw [if_pos hl] at h
          obtain rfl := Option.some.inj h
          refine hm.mono (fun e w' q => ?_)
          have q' : (if 400 < l.length ∨ 400 < m.length then Back w [] [] false 0 6 e w' else Back w l m b 0 0 e w') := q
          rw [if_pos hl] at q'
          exact q'
        · rw [if_neg hl] at h
          obtain rfl := Option.some.inj h
          refine hm.mono (fun e w' q => ?_)
          have q' : (if 400 < l.length ∨ 400 < m.length then Back w [] [] false 0 6 e w' else Back w l m b 0 0 e w') := q
          rw [if_neg hl] at q'
          exact q'
/-- Every text is read. -/
theorem parse_total (s : ByteArray) : ∃ r, parseP s 4096 = some r := by
  unfold parseP
  by_cases hs : 1000 < s.size
  · rw [if_pos hs]; exact ⟨_, rfl⟩
  · rw [if_neg hs]
    have hq : ∃ q, idP s 4096 = some q := by
      unfold idP
      obtain ⟨r1, h1⟩ := side_total s (by omega) 0 (by omega)
      have hf := (fits s 4096).2.2.1 0 r1 (by omega) h1
      rw [h1]
      cases r1 with
      | broke p => exact ⟨_, rfl⟩
      | read l d =>
        obtain ⟨f1, f2, f3⟩ := hf
        have hk := lk_le s d f2
        have hend : ∀ b a, a ≤ s.size → ∃ q, endP s 4096 l b a = some q := by
          intro b a ha
          unfold endP
          obtain ⟨r2, h2⟩ := side_total s (by omega) a ha
          rw [h2]
          cases r2 with
          | broke p => exact ⟨_, rfl⟩
          | read m d2 =>
            simp only
            by_cases hd : lk s d2 < s.size
            · rw [if_pos hd]; exact ⟨_, rfl⟩
            · rw [if_neg hd]; exact ⟨_, rfl⟩
        simp only
        by_cases h3 : ch s (lk s d) = 61
        · rw [if_pos h3]
          have := ch_lt (s := s) (a := lk s d) (by omega)
          exact hend _ _ (by omega)
        · rw [if_neg h3]
          by_cases h4 : ch s (lk s d) = 60
          · rw [if_pos h4]
            by_cases h5 : takeP s (lk s d + 1) 61 = true
            · rw [if_pos h5]
              have := takeP_lt h5
              exact hend _ _ (by omega)
            · rw [if_neg h5]; exact ⟨_, rfl⟩
          · rw [if_neg h4]; exact ⟨_, rfl⟩
    obtain ⟨q, hq⟩ := hq
    rw [hq]
    cases q with
    | broke p => exact ⟨_, rfl⟩
    | read l m b =>
      simp only
      by_cases hl : 400 < l.length ∨ 400 < m.length
      · rw [if_pos hl]; exact ⟨_, rfl⟩
      · rw [if_neg hl]; exact ⟨_, rfl⟩
end Go.Proofs.Ytcbkihhpnndpkaa.HRefParse
