/- Contracts of Go functions, each with the walk through its code, written by a program of this session. -/
import Derived.Test.YtjkajepkeepelaaPWx0
import Derived.Test.YtjkajepkeepelaaPWx1
import Derived.Test.YtjkajepkeepelaaPWx2
import Derived.Test.YtjkajepkeepelaaPWx3
namespace Go.Proofs.Ytjkajepkeepelaa.PW
open Go.RowKit Go.Proofs.YtjkajepkeepelaaW.PrintWords Go.Proofs.YtjkajepkeepelaaW.PrintLast Go.Proofs.YtjkajepkeepelaaW.PrintMore
attribute [local go_sem] max2_int min2_int max_two min_two max_three min_three max_four min_four   -- for this text's walks alone
open Go.Proofs.Ytjkajepkeepelaa.PA
set_option linter.unusedVariables false
set_option linter.unusedSimpArgs false

end Go.Proofs.Ytjkajepkeepelaa.PW
