/- The plain law of TermsPrints: the program's text, variables and side from behind are the document's. -/
import Derived.Test.YtcbkihhpnndpkaaPVx2
import Derived.Test.YtcbkihhpnndpkaaHLaw
import Derived.Test.YtcbkihhpnndpkaaHRefTurn
set_option linter.unusedVariables false
set_option linter.unusedSimpArgs false
namespace Go.Proofs.Ytcbkihhpnndpkaa.PurePrints
open Go.RowKit Go.Proofs.Ytcbkihhpnndpkaa.PA Go.Proofs.Ytcbkihhpnndpkaa.PZ Go.Proofs.Ytcbkihhpnndpkaa.PG Go.Proofs.Ytcbkihhpnndpkaa.PU Go.Proofs.Ytcbkihhpnndpkaa.PL Go.Proofs.Ytcbkihhpnndpkaa.PV Go.Proofs.YtcbkihhpnndpkaaW.PrintWords Go.Proofs.YtcbkihhpnndpkaaW.PrintLast
open Go.Proofs.Ytcbkihhpnndpkaa.HTree Go.Proofs.Ytcbkihhpnndpkaa.HStr Go.Proofs.Ytcbkihhpnndpkaa.HVars Go.Proofs.Ytcbkihhpnndpkaa.HRefLaw Go.Proofs.Ytcbkihhpnndpkaa.HRefTurn

theorem lent_ok (l m : List S97) (b : Bool) (hl : l.length < 8796093022208) (hm : m.length < 8796093022208) : eggboxlaw19_lent.f l m b = some (l, m, b) := by
 unfold eggboxlaw19_lent.f
 simp [hl, hm]
theorem fin (l m : List S97) (b : Bool) (t v : ByteArray) (e f g c : Int) (u1 u2 : List S97) (u3 : Bool) (hl : l.length < 8796093022208) (hm : m.length < 8796093022208)
 (hP : Ev (fun k => terms_Print.f k l m b) (t, e)) (hV : Ev (fun k => terms_Vars.f k l m b) (v, f)) (hU : Ev (fun k => terms_Turn.f k l m b) (u1, u2, u3, g))
 (rP : Ev (fun k => eggboxref19_Print.f k l m b) (t, e)) (rV : Ev (fun k => eggboxref19_Vars.f k l m b) (v, f)) (rU : Ev (fun k => eggboxref19_Turn.f k l m b) (u1, u2, u3, g))
 (hC : Ev (fun k => terms_Check.f k l m b) c) (rC : Ev (fun k => eggboxref19_Check.f k l m b) c) (k1 : u1.length ≤ 400) (k2 : u2.length ≤ 400) :
 Ev (fun k => eggboxlaw19_TermsPrints.f k l m b) true := by
 unfold eggboxlaw19_TermsPrints.f
 simp only [lent_ok l m b hl hm, Option.bind_some]
 refine Ev.bind hP ?_
 refine Ev.bind hV ?_
 refine Ev.bind hU ?_
 refine Ev.bind rP ?_
 refine Ev.bind rV ?_
 refine Ev.bind rU ?_
 refine Ev.bind hC ?_
 simp only [eggboxlaw19_num.f, Option.bind_some]
 refine Ev.bind rC ?_
 simp only [if_true]
 refine Ev.bind (HLaw.same_self l m b (by omega) (by omega)) ?_
 simp only [if_true]
 refine Ev.bind HLaw.knows_ok ?_
 simp only [Bool.not_true]
 obtain ⟨r, hr⟩ := HLaw.spoil_some l m b (by omega) (by omega)
 refine Ev.step (f := fun k => ((eggboxlaw19_spoil.f k l m b).bind fun bt147 => ((eggboxlaw19_Same.f k u1 u2 u3 u1 u2 u3).bind fun t149 => (some t149)))) (fun k => by simp only [eggboxlaw19_TermsPrints.j0]; rfl) ?_
 refine Ev.bind hr ?_
 refine Ev.bind (HLaw.same_self u1 u2 u3 (by omega) (by omega)) ?_
 exact Ev.now _
theorem chk_good (l m : List S97) (hl : Byte l) (hm : Byte m) (h0 : chk l m = 0) : ∃ a c : T, a.wf ∧ c.wf ∧ l = toL a ∧ m = toL c ∧ l.length ≤ 400 ∧ m.length ≤ 400 := by
 unfold chk at h0
 by_cases hs : 400 < l.length ∨ 400 < m.length
 · rw [if_pos hs] at h0; exact absurd h0 (by decide)
 · rw [if_neg hs] at h0
   by_cases hc : scan l 0 = true ∧ scan m 0 = true
   · obtain ⟨a, ha, ea⟩ := tree_of l hl hc.1
     obtain ⟨c, hc2, ec⟩ := tree_of m hm hc.2
     exact ⟨a, c, ha, hc2, ea, ec, by omega, by omega⟩
   · rw [if_neg hc] at h0; exact absurd h0 (by decide)
theorem TermsPrints (l m : List S97) (b : Bool) (hl : Byte l) (hm : Byte m) (h1 : l.length < 8796093022208) (h2 : m.length < 8796093022208) : Ev (fun k => eggboxlaw19_TermsPrints.f k l m b) true := by
 have hC := check_ok l m b hl hm
 have rC := rcheck_ok l m b
 by_cases h0 : chk l m = 0
 · obtain ⟨a, c, ha, hc, rfl, rfl, g1, g2⟩ := chk_good l m hl hm h0
   have hV : Ev (fun k => terms_Vars.f k (toL a) (toL c) b) (strOfNums (namesOf (toL a) (toL c) 4), 0) := by
    unfold terms_Vars.f varsP
    rw [h0] at hC
    refine Ev.bind hC ?_
    simp only [if_true, named_toL a ha, named_toL c hc, Bool.and_true]
    exact Ev.now _
   have hp := print_ok a c b ha hc g1 g2
   have rp := rprint_ok a c b ha hc g1 g2 h0
   have r1 := rev_len a
   have r2 := rev_len c
   by_cases hz : 1000 < (txt a c b).size
   · rw [if_pos hz] at hp rp
     exact fin _ _ b _ _ _ _ _ _ _ _ _ h1 h2 hp hV (turn_ok a c b ha hc g1 g2 h0) rp (rvars_ok _ _ b g1 g2 h0) (rturn_ok a c b g1 g2 h0) hC rC (by omega) (by omega)
   · rw [if_neg hz] at hp rp
     exact fin _ _ b _ _ _ _ _ _ _ _ _ h1 h2 hp hV (turn_ok a c b ha hc g1 g2 h0) rp (rvars_ok _ _ b g1 g2 h0) (rturn_ok a c b g1 g2 h0) hC rC (by omega) (by omega)
 · refine fin l m b (⟨#[]⟩ : ByteArray) (⟨#[]⟩ : ByteArray) (chk l m) (chk l m) (chk l m) (chk l m) [] [] false h1 h2 ?_ ?_ ?_ ?_ ?_ ?_ hC rC (by simp) (by simp)
   · unfold terms_Print.f
     refine Ev.bind hC ?_
     simp only [if_neg h0]
     exact Ev.now _
   · unfold terms_Vars.f varsP
     refine Ev.bind hC ?_
     simp only [if_neg h0]
     exact Ev.now _
   · unfold terms_Turn.f
     refine Ev.bind hC ?_
     simp only [if_neg h0]
     exact Ev.now _
   · unfold eggboxref19_Print.f
     refine Ev.bind rC ?_
     simp only [if_neg h0]
     exact Ev.now _
   · unfold eggboxref19_Vars.f
     refine Ev.bind rC ?_
     simp only [if_neg h0]
     exact Ev.now _
   · unfold eggboxref19_Turn.f
     refine Ev.bind rC ?_
     simp only [if_neg h0]
     exact Ev.now _
theorem byte_of {l : List S97} {B : Nat} (h : (∀ y ∈ l, (Lit.int .i64 y.f0).wf = true ∧ (Lit.int .u8 y.f1).wf = true) ∧ l.length * B ≤ reachBytes) : Byte l := fun x hx => by
 have := (h.1 x hx).2
 simp [Lit.wf, IntKind.min, IntKind.max, IntKind.signed, IntKind.bits] at this
 omega
/-- The law, where it says true. -/
def good.f (k : Nat) (l m : List S97) (b : Bool) : Option Bool := if eggboxlaw19_TermsPrints.f k l m b = some true then some true else none
theorem good.calls (k : Nat) (A0_0 : Option Addr) (c0_0 : Nat) (l0_0 : List (S97)) (A0_1 : Option Addr) (c0_1 : Nat) (l0_1 : List (S97)) (a0_2 : Bool) (r : Bool) (w : World) (hr0_0 : Kd.C k97 w A0_0 l0_0.length l0_0) (hc0_0 : l0_0.length ≤ c0_0) (hr0_1 : Kd.C k97 w A0_1 l0_1.length l0_1) (hc0_1 : l0_1.length ≤ c0_1) (h : good.f k l0_0 l0_1 a0_2 = some r) :
 Calls Try.prog 5 #[.agg #[.slice A0_0 l0_0.length c0_0, .slice A0_1 l0_1.length c0_1, .bool a0_2]] w fun e w' => e = .returned (.bool r) ∧ Below w.heap.size w w' := by
 unfold good.f at h
 by_cases hg : eggboxlaw19_TermsPrints.f k l0_0 l0_1 a0_2 = some true
 · rw [if_pos hg] at h
   obtain rfl := Option.some.inj h
   exact eggboxlaw19_TermsPrints.calls k A0_0 c0_0 l0_0 A0_1 c0_1 l0_1 a0_2 true w hr0_0 hc0_0 hr0_1 hc0_1 hg rfl
 · rw [if_neg hg] at h
   cases h
theorem law (l m : List S97) (b : Bool) (hl : (∀ y ∈ l, (Lit.int .i64 y.f0).wf = true ∧ (Lit.int .u8 y.f1).wf = true) ∧ l.length * 16 ≤ reachBytes) (hm : (∀ y ∈ m, (Lit.int .i64 y.f0).wf = true ∧ (Lit.int .u8 y.f1).wf = true) ∧ m.length * 16 ≤ reachBytes) : Ev (fun k => good.f k l m b) true := by
 have q1 := hl.2
 have q2 := hm.2
 have hr : reachBytes = 140737488351232 := by decide +kernel
 rw [hr] at q1 q2
 obtain ⟨K, h⟩ := TermsPrints l m b (byte_of hl) (byte_of hm) (by omega) (by omega)
 exact ⟨K, fun k hk => by show good.f k l m b = some true; unfold good.f; exact if_pos (h k hk)⟩
end Go.Proofs.Ytcbkihhpnndpkaa.PurePrints
