/- The plain law of TermsParses: both readers read a text as the same. -/
import Derived.Test.YtcbkihhpnndpkaaPLx2
import Derived.Test.YtcbkihhpnndpkaaHLaw
import Derived.Test.YtcbkihhpnndpkaaQ3
set_option linter.unusedVariables false
set_option linter.unusedSimpArgs false
namespace Go.Proofs.Ytcbkihhpnndpkaa.Pure
open Go.RowKit Go.Proofs.Ytcbkihhpnndpkaa.PA Go.Proofs.Ytcbkihhpnndpkaa.PZ Go.Proofs.Ytcbkihhpnndpkaa.PG Go.Proofs.Ytcbkihhpnndpkaa.PL Go.Proofs.YtcbkihhpnndpkaaW.PrintWords Go.Proofs.YtcbkihhpnndpkaaW.PrintLast

theorem TermsParses : eggboxlaw19_TermsParses.Pure := by
  intro s _
  obtain ⟨r, hr⟩ := HRefParse.parse_total s
  obtain ⟨h1, h2⟩ := HLaw.parse_len s 4096 r hr
  have hT : terms_Parse.f s = some (r.l, r.m, r.b, r.p, r.e) := by unfold terms_Parse.f; rw [hr]; rfl
  have hR : eggboxref19_Parse.f s = some (r.l, r.m, r.b, r.p, r.e) := by unfold eggboxref19_Parse.f; rw [hr]; rfl
  have hS := HLaw.same_self r.l r.m r.b (by omega) (by omega)
  obtain ⟨q, hq⟩ := HLaw.spoil_some r.l r.m r.b (by omega) (by omega)
  refine Ev.rounds ?_
  unfold eggboxlaw19_TermsParses.f
  simp only [hT, hR, Option.bind_some]
  refine Ev.bind hS ?_
  simp only [if_true, eggboxlaw19_num.f, Option.bind_some]
  refine Ev.bind HLaw.knows_ok ?_
  refine Ev.step (f := fun k => (eggboxlaw19_spoil.f k r.l r.m r.b).bind fun bt152 => ((PZ.eggboxlaw19_Same.f k r.l r.m r.b r.l r.m r.b).bind fun t154 => (some t154))) (fun k => by simp only [eggboxlaw19_TermsParses.j0]; rfl) ?_
  refine Ev.bind hq ?_
  exact Ev.bind hS (Ev.now _)
end Go.Proofs.Ytcbkihhpnndpkaa.Pure
