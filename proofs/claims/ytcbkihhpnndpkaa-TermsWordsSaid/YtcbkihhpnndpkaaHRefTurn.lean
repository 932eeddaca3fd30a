/- The variables and a side from behind: plain laws of both answers. -/
import Derived.Test.YtcbkihhpnndpkaaHRefCheck
import Derived.Test.YtcbkihhpnndpkaaProg
import Derived.Below
import Derived.Deep.Draws
import Derived.Deep.AppendLies
import Derived.Maps.AppendAt
import Derived.OwnWalk
import Derived.Laws.BytesArg
import Derived.Laws.MakeOwn
import Derived.Laws.OwnMore
import Derived.Deep.OwnRows
import Derived.Tactics
import Derived.Lib.ConvBytes
import Derived.Laws.Slices
import Derived.WalkKit
import Derived.KernelRfl
import Derived.RowKit3
import Derived.Deep.LoopGhost
import Derived.Deep.QuietTactic
import Derived.BigQuiet
import Derived.WideLaws
import Derived.Deep.DeepCutAuto
import Derived.Deep.CutBlock
import Derived.Deep.RegionHeld3
import Derived.Laws.Rows
import Derived.Lib.AppendStr
import Derived.ArgAppend
import Derived.Laws.IdiomCopy
import Derived.OrdersHeld
import Derived.Laws.BitsLemmas
import Derived.RowKit
import Derived.Test.YtcbkihhpnndpkaaPAx3
import Derived.Test.YtcbkihhpnndpkaaQ1
import Derived.IntWalk
import Derived.Outline
import Derived.Test.YtcbkihhpnndpkaaWWords
import Derived.Test.YtcbkihhpnndpkaaWLast
import Derived.Test.YtcbkihhpnndpkaaWTab
import Derived.Test.YtcbkihhpnndpkaaWApart
import Derived.Test.YtcbkihhpnndpkaaWFoot
import Derived.Test.YtcbkihhpnndpkaaWKept
import Derived.Test.YtcbkihhpnndpkaaWShare
import Derived.Test.YtcbkihhpnndpkaaWN
import Derived.Test.YtcbkihhpnndpkaaWAt
import Derived.Test.YtcbkihhpnndpkaaWEqStruct
import Derived.Test.YtcbkihhpnndpkaaWRepsOne
import Derived.Test.YtcbkihhpnndpkaaWInv
import Derived.Test.YtcbkihhpnndpkaaWInvWords
import Derived.Test.YtcbkihhpnndpkaaWGuard
import Derived.Test.YtcbkihhpnndpkaaWMore
import Derived.Laws.EntriesVeiled
import Derived.Test.YtcbkihhpnndpkaaHUsed
set_option linter.unusedVariables false
set_option linter.unusedSimpArgs false
namespace Go.Proofs.Ytcbkihhpnndpkaa.HRefTurn
open Go.RowKit Go.Proofs.YtcbkihhpnndpkaaW.PrintWords Go.Proofs.YtcbkihhpnndpkaaW.PrintLast Go.Proofs.YtcbkihhpnndpkaaW.PrintMore
open Go.Proofs.Ytcbkihhpnndpkaa Go.Proofs.Ytcbkihhpnndpkaa.PA Go.Proofs.Ytcbkihhpnndpkaa.HRead Go.Proofs.Ytcbkihhpnndpkaa.HTree Go.Proofs.Ytcbkihhpnndpkaa.HUsed Go.Proofs.Ytcbkihhpnndpkaa.HRefLaw

/-! ### The variables -/
theorem in_loop (l : List S97) (c : Int) (hl : l.length ≤ 400) : ∀ (n i : Nat), l.length - i ≤ n → Ev (fun k => eggboxref19_in.l0 k l c (i : Int)) (has (l.drop i) c) := by
 intro n
 induction n with
 | zero =>
  intro i h
  rw [List.drop_eq_nil_of_le (by omega)]
  refine Ev.step (f := fun _ => some false) (fun k => by simp only [eggboxref19_in.l0]; rw [if_neg (by omega)]) (Ev.now _)
 | succ n ih =>
  intro i h
  by_cases hlt : i < l.length
  · rw [rd_drop l i hlt]
    generalize hs : rd_T97 l (i : Int) = s at *
    have e2 : wrap64 ((i : Int) + 1) = ((i + 1 : Nat) : Int) := by rw [w64 (by omega) (by omega)]; rfl
    refine Ev.step (f := fun k => if s.f0 = 2 then (if s.f1 = c then some true else eggboxref19_in.l0 k l c ((i + 1 : Nat) : Int)) else eggboxref19_in.l0 k l c ((i + 1 : Nat) : Int)) (fun k => by simp only [eggboxref19_in.l0]; rw [if_pos (by omega), if_pos (by omega), hs, e2]) ?_
    have := ih (i + 1) (by omega)
    by_cases k2 : s.f0 = 2
    · simp only [if_pos k2]
      by_cases kc : s.f1 = c
      · simp only [if_pos kc]
        have e : has (s :: l.drop (i + 1)) c = true := by simp [has, k2, kc]
        rw [e]
        exact Ev.now _
      · simp only [if_neg kc]
        have e : has (s :: l.drop (i + 1)) c = has (l.drop (i + 1)) c := by simp [has, kc]
        rw [e]
        exact this
    · simp only [if_neg k2]
      have e : has (s :: l.drop (i + 1)) c = has (l.drop (i + 1)) c := by simp [has, k2]
      rw [e]
      exact this
  · exact ih i (by omega)
theorem in_ok (l : List S97) (c : Int) (hl : l.length ≤ 400) : Ev (fun k => eggboxref19_in.f k l c) (has l c) := in_loop l c hl l.length 0 (by omega)

/-! ### From behind -/
end Go.Proofs.Ytcbkihhpnndpkaa.HRefTurn
