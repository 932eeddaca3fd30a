/- The plain law of TermsBack: what is printed is parsed as it was. -/
import Derived.Test.YtcbkihhpnndpkaaPLx3
import Derived.Test.YtcbkihhpnndpkaaHLaw
import Derived.Test.YtcbkihhpnndpkaaHGram
set_option linter.unusedVariables false
set_option linter.unusedSimpArgs false
namespace Go.Proofs.Ytcbkihhpnndpkaa.PureBack
open Go.RowKit Go.Proofs.Ytcbkihhpnndpkaa.PA Go.Proofs.Ytcbkihhpnndpkaa.PZ Go.Proofs.Ytcbkihhpnndpkaa.PG Go.Proofs.Ytcbkihhpnndpkaa.PL Go.Proofs.YtcbkihhpnndpkaaW.PrintWords Go.Proofs.YtcbkihhpnndpkaaW.PrintLast
open Go.Proofs.Ytcbkihhpnndpkaa.HTree Go.Proofs.Ytcbkihhpnndpkaa.HStr Go.Proofs.Ytcbkihhpnndpkaa.HGram

theorem T_of {s : ByteArray} {r : HParsed.Pd} (h : HParsed.parseP s 4096 = some r) : terms_Parse.f s = some (r.l, r.m, r.b, r.p, r.e) := by
  unfold terms_Parse.f
  rw [h]
  rfl
/-- Of two good sides that Print takes, and what is parsed back. -/
theorem back (a c : T) (b : Bool) (ha : a.wf) (hc : c.wf) (h1 : (toL a).length ≤ 400) (h2 : (toL c).length ≤ 400) (hz : (txt a c b).size ≤ 1000) : terms_Parse.f (txt a c b) = some (toL a, toL c, b, 0, 0) :=
  T_of (parse_txt a c b ha hc h1 h2 hz)

theorem j1_true (l m : List S97) (b : Bool) : Ev (fun k => eggboxlaw19_TermsBack.j1 k true l m b) true := by
  refine Ev.step (f := fun k => (eggboxlaw19_knows.f k).bind fun t183 => (some t183)) (fun k => by simp only [eggboxlaw19_TermsBack.j1]; rfl) ?_
  exact Ev.bind HLaw.knows_ok (Ev.now _)
theorem j1_false (a c : T) (b : Bool) (ha : a.wf) (hc : c.wf) (h1 : (toL a).length ≤ 400) (h2 : (toL c).length ≤ 400) : Ev (fun k => eggboxlaw19_TermsBack.j1 k false (toL a) (toL c) b) true := by
  refine Ev.step (f := fun k => ((terms_Print.f k (toL a) (toL c) b).bind fun bt184 => ((eggboxlaw19_num.f bt184.2).bind fun t186 => (if t186 = 0 then ((terms_Parse.f bt184.1).bind fun bt188 => ((terms_Print.f k bt188.1 bt188.2.1 bt188.2.2.1).bind fun bt198 => ((eggboxlaw19_num.f bt188.2.2.2.2).bind fun t200 => ((eggboxlaw19_num.f bt198.2).bind fun t201 => (if (wrap64 (t200 + t201)) = 0 then (if bt188.2.2.2.1 = 0 then ((eggboxlaw19_Same.f k bt188.1 bt188.2.1 bt188.2.2.1 (toL a) (toL c) b).bind fun t202 => (if t202 = true then (some (bt198.1.toList == bt184.1.toList)) else (some false))) else (some false)) else (some false)))))) else ((eggboxlaw19_num.f bt184.2).bind fun t187 => (some (t187 == 6))))))) (fun k => by simp only [eggboxlaw19_TermsBack.j1]; rfl) ?_
  have hp := print_ok a c b ha hc h1 h2
  refine Ev.bind hp ?_
  by_cases hz : 1000 < (txt a c b).size
  · rw [if_pos hz]
    simp [eggboxlaw19_num.f]
    exact Ev.now _
  · rw [if_neg hz] at hp ⊢
    have hb := back a c b ha hc h1 h2 (by omega)
    simp only [eggboxlaw19_num.f, Option.bind_some, if_true, hb]
    refine Ev.bind hp ?_
    have hw : wrap64 ((0 : Int) + 0) = 0 := by decide +kernel
    simp only [Option.bind_some, hw, if_true]
    refine Ev.bind (HLaw.same_self _ _ b (by omega) (by omega)) ?_
    simp only [if_true, beq_self_eq_true]
    exact Ev.now _
theorem j0_ok (s : ByteArray) : Ev (fun k => eggboxlaw19_TermsBack.j0 k s) true := by
  refine Ev.step (f := fun k => ((terms_Parse.f s).bind fun bt171 => ((eggboxlaw19_num.f bt171.2.2.2.2).bind fun t181 => (if t181 = 0 then ((eggboxlaw19_knows.f k).bind fun t182 => (eggboxlaw19_TermsBack.j1 k (!t182) bt171.1 bt171.2.1 bt171.2.2.1)) else (eggboxlaw19_TermsBack.j1 k true bt171.1 bt171.2.1 bt171.2.2.1))))) (fun k => by simp only [eggboxlaw19_TermsBack.j0]) ?_
  obtain ⟨r, hr⟩ := HRefParse.parse_total s
  obtain ⟨g1, g2⟩ := HLaw.parse_len s 4096 r hr
  simp only [T_of hr, Option.bind_some, eggboxlaw19_num.f]
  by_cases he : r.e = 0
  · simp only [if_pos he]
    refine Ev.bind HLaw.knows_ok ?_
    simp only [Bool.not_true]
    obtain ⟨⟨a, ha, ea⟩, ⟨c, hc, ec⟩⟩ := parse_good s r hr he
    rw [ea] at g1 ⊢
    rw [ec] at g2 ⊢
    exact j1_false a c r.b ha hc g1 g2
  · simp only [if_neg he]
    exact j1_true _ _ _

theorem print_some (l m : List S97) (b : Bool) (hl : Byte l) (hm : Byte m) :
    (∃ a c : T, a.wf ∧ c.wf ∧ l = toL a ∧ m = toL c ∧ l.length ≤ 400 ∧ m.length ≤ 400) ∨ ∃ e, e ≠ 0 ∧ Ev (fun k => terms_Print.f k l m b) (⟨#[]⟩, e) := by
  by_cases h0 : chk l m = 0
  · left
    unfold chk at h0
    by_cases hs : 400 < l.length ∨ 400 < m.length
    · rw [if_pos hs] at h0; exact absurd h0 (by decide)
    · rw [if_neg hs] at h0
      by_cases hc : scan l 0 = true ∧ scan m 0 = true
      · obtain ⟨a, ha, ea⟩ := tree_of l hl hc.1
        obtain ⟨c, hc2, ec⟩ := tree_of m hm hc.2
        exact ⟨a, c, ha, hc2, ea, ec, by omega, by omega⟩
      · rw [if_neg hc] at h0; exact absurd h0 (by decide)
  · right
    refine ⟨chk l m, h0, ?_⟩
    unfold terms_Print.f
    refine Ev.bind (check_ok l m b hl hm) ?_
    simp only [if_neg h0]
    exact Ev.now _
theorem TermsBack (l m : List S97) (b : Bool) (s : ByteArray) (hl : Byte l) (hm : Byte m) : Ev (fun k => eggboxlaw19_TermsBack.f k l m b s) true := by
  unfold eggboxlaw19_TermsBack.f
  rcases print_some l m b hl hm with ⟨a, c, ha, hc, rfl, rfl, h1, h2⟩ | ⟨e, he, hp⟩
  · refine Ev.bind (print_ok a c b ha hc h1 h2) ?_
    by_cases hz : 1000 < (txt a c b).size
    · rw [if_pos hz]
      simp only [eggboxlaw19_num.f, Option.bind_some, if_neg (show ¬ ((6 : Int) = 0) by decide)]
      exact j0_ok s
    · rw [if_neg hz]
      simp only [eggboxlaw19_num.f, Option.bind_some, if_true, back a c b ha hc h1 h2 (by omega)]
      refine Ev.bind (HLaw.same_self _ _ b (by omega) (by omega)) ?_
      simp only [if_true]
      exact j0_ok s
  · refine Ev.bind hp ?_
    simp only [eggboxlaw19_num.f, Option.bind_some, if_neg he]
    exact j0_ok s
theorem byte_of {l : List S97} {B : Nat} (h : (∀ y ∈ l, (Lit.int .i64 y.f0).wf = true ∧ (Lit.int .u8 y.f1).wf = true) ∧ l.length * B ≤ reachBytes) : Byte l := fun x hx => by
  have := (h.1 x hx).2
  simp [Lit.wf, IntKind.min, IntKind.max, IntKind.signed, IntKind.bits] at this
  omega
theorem law (l m : List S97) (b : Bool) (s : ByteArray) {B C : Nat} (hl : (∀ y ∈ l, (Lit.int .i64 y.f0).wf = true ∧ (Lit.int .u8 y.f1).wf = true) ∧ l.length * B ≤ reachBytes) (hm : (∀ y ∈ m, (Lit.int .i64 y.f0).wf = true ∧ (Lit.int .u8 y.f1).wf = true) ∧ m.length * C ≤ reachBytes) (hs : s.size ≤ 140737488351232) : Ev (fun k => eggboxlaw19_TermsBack.f k l m b s) true :=
  TermsBack l m b s (byte_of hl) (byte_of hm)
end Go.Proofs.Ytcbkihhpnndpkaa.PureBack
