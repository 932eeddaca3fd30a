/- Plain laws of the statements' helpers: Same of itself, spoil, knows. -/
import Derived.Test.YtcbkihhpnndpkaaPLx1
import Derived.Test.YtcbkihhpnndpkaaPAx10
import Derived.Test.YtcbkihhpnndpkaaQ5
set_option linter.unusedVariables false
set_option linter.unusedSimpArgs false
namespace Go.Proofs.Ytcbkihhpnndpkaa.HLaw
open Go.RowKit Go.Proofs.YtcbkihhpnndpkaaW.PrintWords Go.Proofs.YtcbkihhpnndpkaaW.PrintLast Go.Proofs.YtcbkihhpnndpkaaW.PrintMore
open Go.Proofs.Ytcbkihhpnndpkaa Go.Proofs.Ytcbkihhpnndpkaa.PA Go.Proofs.Ytcbkihhpnndpkaa.PZ Go.Proofs.Ytcbkihhpnndpkaa.PG Go.Proofs.Ytcbkihhpnndpkaa.PL Go.Proofs.Ytcbkihhpnndpkaa.HRead Go.Proofs.Ytcbkihhpnndpkaa.HParsed

theorem parse_one : parseP (⟨#[32, 120, 32, 121, 32, 60, 61, 32, 40, 121, 41, 94, 119, 32]⟩ : ByteArray) 4096 = some ⟨[⟨2, 120⟩, ⟨2, 121⟩, ⟨3, 0⟩], [⟨2, 121⟩, ⟨4, 0⟩], true, 0, 0⟩ := by kernel_rfl
theorem print_one : terms_Print.f 50 [⟨2, 120⟩, ⟨2, 121⟩, ⟨3, 0⟩] [⟨2, 121⟩, ⟨4, 0⟩] true = some (⟨#[120, 121, 32, 60, 61, 32, 121, 94, 119]⟩, 0) := by kernel_rfl
theorem knows_ok : Ev (fun k => eggboxlaw19_knows.f k) true := by
 unfold eggboxlaw19_knows.f
 unfold terms_Parse.f
 rw [parse_one]
 simp only [Option.map_some, Option.bind_some]
 refine Ev.bind (Ev.of (k := 50) (fun k => terms_Print.mono _ _ _ k) print_one) ?_
 simp only [eggboxlaw19_num.f, Option.bind_some]
 exact ⟨0, fun _ _ => by kernel_rfl⟩
end Go.Proofs.Ytcbkihhpnndpkaa.HLaw
