/- Contracts of Go functions, each with the walk through its code, written by a program of this session. -/
import Derived.Test.YtjkajepkeepelaaProg
import Derived.Below
import Derived.Deep.Draws
import Derived.Deep.AppendLies
import Derived.Maps.AppendAt
import Derived.OwnWalk
import Derived.Laws.BytesArg
import Derived.Laws.MakeOwn
import Derived.Laws.OwnMore
import Derived.Deep.OwnRows
import Derived.Tactics
import Derived.Lib.ConvBytes
import Derived.Laws.Slices
import Derived.WalkKit
import Derived.KernelRfl
import Derived.RowKit3
import Derived.Deep.LoopGhost
import Derived.Deep.QuietTactic
import Derived.BigQuiet
import Derived.WideLaws
import Derived.Deep.DeepCutAuto
import Derived.Deep.CutBlock
import Derived.Deep.RegionHeld3
import Derived.Laws.Rows
import Derived.Lib.AppendStr
import Derived.ArgAppend
import Derived.Laws.IdiomCopy
import Derived.OrdersHeld
import Derived.Laws.BitsLemmas
import Derived.RowKit
import Derived.Test.YtjkajepkeepelaaPWx2
import Derived.Test.YtjkajepkeepelaaHAfter
import Derived.Test.YtjkajepkeepelaaHNext
import Derived.Test.YtjkajepkeepelaaHRank
import Derived.Test.YtjkajepkeepelaaHRefRank
import Derived.Test.YtjkajepkeepelaaShelf
import Derived.Test.YtjkajepkeepelaaWWords
import Derived.Test.YtjkajepkeepelaaWLast
import Derived.Test.YtjkajepkeepelaaWTab
import Derived.Test.YtjkajepkeepelaaWFour
import Derived.Test.YtjkajepkeepelaaWQPut
import Derived.Test.YtjkajepkeepelaaWApart
import Derived.Test.YtjkajepkeepelaaWArr
import Derived.Test.YtjkajepkeepelaaWZeros
import Derived.Test.YtjkajepkeepelaaWFoot
import Derived.Test.YtjkajepkeepelaaWKept
import Derived.Test.YtjkajepkeepelaaWShare
import Derived.Test.YtjkajepkeepelaaWN
import Derived.Test.YtjkajepkeepelaaWFootNe
import Derived.Test.YtjkajepkeepelaaWAt
import Derived.Test.YtjkajepkeepelaaWEqStruct
import Derived.Test.YtjkajepkeepelaaWRepsOne
import Derived.Test.YtjkajepkeepelaaWInv
import Derived.Test.YtjkajepkeepelaaWInvWords
import Derived.Test.YtjkajepkeepelaaWGuard
import Derived.Test.YtjkajepkeepelaaWNEv
import Derived.Test.YtjkajepkeepelaaWMore
namespace Go.Proofs.Ytjkajepkeepelaa.PN
open Go.RowKit Go.Proofs.YtjkajepkeepelaaW.PrintWords Go.Proofs.YtjkajepkeepelaaW.PrintLast Go.Proofs.YtjkajepkeepelaaW.PrintMore
attribute [local go_sem] max2_int min2_int max_two min_two max_three min_three max_four min_four   -- for this text's walks alone
open Go.Proofs.Ytjkajepkeepelaa.PA Go.Proofs.Ytjkajepkeepelaa.PW
set_option linter.unusedVariables false
set_option linter.unusedSimpArgs false



def errW : Option Int → Value
  | none => .nilIface
  | some c => .iface 0 (.int .i64 c)
theorem errW_none : errW none = .nilIface := rfl
theorem errW_some (c : Int) : errW (some c) = .iface 0 (.int .i64 c) := rfl

theorem info5 : (Try.prog.info? 5).map (fun i => (i.zero, i.size, i.bytes)) = some (some (.int .u8 0), 1, 1) := by kernel_rfl
-- the values' own types

end Go.Proofs.Ytjkajepkeepelaa.PN
