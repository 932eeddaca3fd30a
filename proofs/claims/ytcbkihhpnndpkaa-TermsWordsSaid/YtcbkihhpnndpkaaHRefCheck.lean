/- The document's answers on sides: Check, Cut, the text, the variables, a side from behind; as plain laws. -/
import Derived.Test.YtcbkihhpnndpkaaHTree
import Derived.Test.YtcbkihhpnndpkaaPAx6
import Derived.Test.YtcbkihhpnndpkaaPAx7
import Derived.Test.YtcbkihhpnndpkaaHUsed
import Derived.Outline
import Derived.Test.YtcbkihhpnndpkaaQ1
import Derived.Deep.CutBlock
import Derived.Deep.DeepCutAuto
import Derived.Deep.RegionHeld3
import Derived.IntWalk
import Derived.Test.YtcbkihhpnndpkaaProg
import Derived.Below
import Derived.Deep.Draws
import Derived.Deep.AppendLies
import Derived.Maps.AppendAt
import Derived.OwnWalk
import Derived.Laws.BytesArg
import Derived.Laws.MakeOwn
import Derived.Laws.OwnMore
import Derived.Deep.OwnRows
import Derived.Tactics
import Derived.Lib.ConvBytes
import Derived.Laws.Slices
import Derived.WalkKit
import Derived.KernelRfl
import Derived.RowKit3
import Derived.Deep.LoopGhost
import Derived.Deep.QuietTactic
import Derived.BigQuiet
import Derived.WideLaws
import Derived.Laws.Rows
import Derived.Lib.AppendStr
import Derived.ArgAppend
import Derived.Laws.IdiomCopy
import Derived.OrdersHeld
import Derived.Laws.BitsLemmas
import Derived.RowKit
import Derived.Test.YtcbkihhpnndpkaaPAx3
import Derived.Test.YtcbkihhpnndpkaaWWords
import Derived.Test.YtcbkihhpnndpkaaWLast
import Derived.Test.YtcbkihhpnndpkaaWTab
import Derived.Test.YtcbkihhpnndpkaaWApart
import Derived.Test.YtcbkihhpnndpkaaWFoot
import Derived.Test.YtcbkihhpnndpkaaWKept
import Derived.Test.YtcbkihhpnndpkaaWShare
import Derived.Test.YtcbkihhpnndpkaaWN
import Derived.Test.YtcbkihhpnndpkaaWAt
import Derived.Test.YtcbkihhpnndpkaaWEqStruct
import Derived.Test.YtcbkihhpnndpkaaWRepsOne
import Derived.Test.YtcbkihhpnndpkaaWInv
import Derived.Test.YtcbkihhpnndpkaaWInvWords
import Derived.Test.YtcbkihhpnndpkaaWGuard
import Derived.Test.YtcbkihhpnndpkaaWMore
import Derived.Laws.EntriesVeiled
set_option linter.unusedVariables false
set_option linter.unusedSimpArgs false
namespace Go.Proofs.Ytcbkihhpnndpkaa.HRefLaw
open Go.RowKit Go.Proofs.YtcbkihhpnndpkaaW.PrintWords Go.Proofs.YtcbkihhpnndpkaaW.PrintLast Go.Proofs.YtcbkihhpnndpkaaW.PrintMore
open Go.Proofs.Ytcbkihhpnndpkaa Go.Proofs.Ytcbkihhpnndpkaa.PA Go.Proofs.Ytcbkihhpnndpkaa.PG Go.Proofs.Ytcbkihhpnndpkaa.HRead Go.Proofs.Ytcbkihhpnndpkaa.HSpell Go.Proofs.Ytcbkihhpnndpkaa.HTree Go.Proofs.Ytcbkihhpnndpkaa.HUsed

/-! ### Check -/
theorem arity_ok (a : Int) : eggboxref19_arity.f a = some (ar a : Int) := by
 unfold eggboxref19_arity.f ar
 by_cases h3 : a = 3
 · simp [h3]
 · by_cases h4 : a = 4
   · simp [h4]
   · simp [h3, h4]
theorem good_ok (s : S97) : eggboxref19_good.f s.f0 s.f1 = some (HTree.gd s) := by
 have hN : eggboxref19_Place.f s.f1 = some (pl s.f1) := rfl
 unfold eggboxref19_good.f HTree.gd
 by_cases k2 : s.f0 = 2
 · rw [if_pos k2, if_pos k2, hN]; rfl
 · rw [if_neg k2, if_neg k2]
   by_cases q1 : s.f0 ≥ 1
   · rw [if_pos q1]
     by_cases q4 : s.f0 ≤ 4
     · rw [if_pos q4]
       congr 1
       by_cases z : s.f1 = 0
       · simp [z, q1, q4]
       · simp [z]
     · rw [if_neg q4]
       simp; omega
   · rw [if_neg q1]
     simp; omega
theorem term_loop (l : List S97) (hl : l.length ≤ 400) : ∀ (n i hv : Nat), l.length - i ≤ n → i ≤ l.length → hv ≤ i → Ev (fun k => eggboxref19_term.l0 k l (hv : Int) (i : Int)) (scan (l.drop i) hv) := by
 intro n
 induction n with
 | zero =>
  intro i hv h hi hh
  obtain rfl : i = l.length := by omega
  rw [List.drop_length]
  refine Ev.step (f := fun _ => some ((hv : Int) == 1)) (fun k => by simp only [eggboxref19_term.l0]; rw [if_neg (by omega)]) ?_
  have : ((hv : Int) == 1) = (hv == 1) := by
   rw [Bool.eq_iff_iff]
   simp only [beq_iff_eq]
   omega
  rw [this]
  exact Ev.now _
 | succ n ih =>
  intro i hv h hi hh
  by_cases hlt : i < l.length
  · rw [rd_drop l i hlt]
    generalize hs : rd_T97 l (i : Int) = s at *
    refine Ev.step (f := fun k => if HTree.gd s = true then (if (hv : Int) < (ar s.f0 : Int) then some false else eggboxref19_term.l0 k l (wrap64 ((wrap64 ((hv : Int) - (ar s.f0 : Int))) + 1)) (wrap64 ((i : Int) + 1))) else some false) (fun k => by simp only [eggboxref19_term.l0]; rw [if_pos (by omega), if_pos (by omega), hs, good_ok, arity_ok]; rfl) ?_
    unfold scan
    cases hg : HTree.gd s with
    | false => simp; exact Ev.now _
    | true =>
     simp only [if_true, true_and]
     have ha : ar s.f0 ≤ 2 := by unfold ar; split <;> (try split) <;> omega
     by_cases hle : ar s.f0 ≤ hv
     · have hn1 : ¬ ((hv : Int) < (ar s.f0 : Int)) := by omega
       simp only [if_neg hn1, if_pos hle]
       have e1 : wrap64 (wrap64 ((hv : Int) - (ar s.f0 : Int)) + 1) = ((hv - ar s.f0 + 1 : Nat) : Int) := by
        rw [w64 (x := (hv : Int) - (ar s.f0 : Int)) (by omega) (by omega), w64 (by omega) (by omega)]
        omega
       have e2 : wrap64 ((i : Int) + 1) = ((i + 1 : Nat) : Int) := by rw [w64 (by omega) (by omega)]; rfl
       simp only [e1, e2]
       exact ih (i + 1) _ (by omega) (by omega) (by omega)
     · have hn1 : (hv : Int) < (ar s.f0 : Int) := by omega
       simp only [if_pos hn1, if_neg hle]
       exact Ev.now _
  · exact ih i hv (by omega) hi hh
theorem term_ok (l : List S97) (hl : l.length ≤ 400) : Ev (fun k => eggboxref19_term.f k l) (scan l 0) :=
 term_loop l hl l.length 0 0 (by omega) (by omega) (by omega)
/-! ### Cut -/
theorem rd_at (p : List S97) (s : S97) (r : List S97) : rd_T97 (p ++ s :: r) (p.length : Int) = s := by simp [rd_T97]
/-! ### The text -/
end Go.Proofs.Ytcbkihhpnndpkaa.HRefLaw
