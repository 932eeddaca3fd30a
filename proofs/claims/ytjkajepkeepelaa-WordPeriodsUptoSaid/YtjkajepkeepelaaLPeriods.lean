/- WordPeriods: the plain law and the walk of the statement's own code. -/
import Derived.Test.YtjkajepkeepelaaPPx1
import Derived.Test.YtjkajepkeepelaaLRoots
import Derived.Test.YtjkajepkeepelaaHApart
set_option linter.unusedVariables false
set_option linter.unusedSimpArgs false
namespace Go.Proofs.Ytjkajepkeepelaa.LPeriods
open Go.RowKit Go.Proofs.YtjkajepkeepelaaW.PrintWords Go.Proofs.YtjkajepkeepelaaW.PrintLast Go.Proofs.YtjkajepkeepelaaW.PrintMore
open Go.Proofs.Ytjkajepkeepelaa Go.Proofs.Ytjkajepkeepelaa.HMath Go.Proofs.Ytjkajepkeepelaa.HBord Go.Proofs.Ytjkajepkeepelaa.HOver Go.Proofs.Ytjkajepkeepelaa.HComp Go.Proofs.Ytjkajepkeepelaa.HRoots

theorem per_no (s : ByteArray) (hs : s.size ≤ 1048576) (p : Nat) (hp : p ≤ 1048577) : ∀ (d i : Nat), s.size - i ≤ d → i ≤ s.size → (∀ j, j < i → j + p < s.size → gb s j = gb s (j + p)) →
    ∃ b, Ev (fun k => PP.eggboxref01_period.l0 k s (p : Int) (i : Int)) b ∧ (b = true ↔ Per (gb s) s.size p) := by
  intro d
  induction d with
  | zero =>
    intro i hd hi hx
    refine ⟨true, Ev.step (f := fun _ => some true) (fun k => ?_) (Ev.now _), fun _ j hj => hx j (by omega) hj, fun _ => rfl⟩
    simp only [PP.eggboxref01_period.l0]
    rw [w64 (by omega) (by omega), if_neg (by omega)]
  | succ d ih =>
    intro i hd hi hx
    by_cases hlt : i + p < s.size
    · by_cases he : bt s (i : Int) = bt s ((i + p : Nat) : Int)
      · obtain ⟨b, hb, hb2⟩ := ih (i + 1) (by omega) (by omega) (fun j hj hjp => by
          by_cases e : j = i
          · subst e; exact he
          · exact hx j (by omega) hjp)
        refine ⟨b, Ev.step (f := fun k => PP.eggboxref01_period.l0 k s (p : Int) ((i + 1 : Nat) : Int)) (fun k => ?_) hb, hb2⟩
        simp only [PP.eggboxref01_period.l0]
        have e : wrap64 ((i : Int) + (p : Int)) = ((i + p : Nat) : Int) := by rw [w64 (by omega) (by omega)]; rfl
        rw [e, if_pos (by omega), if_pos (by omega), if_pos (by omega), if_pos (by omega), if_pos he, w64 (by omega) (by omega)]
        rfl
      · refine ⟨false, Ev.step (f := fun _ => some false) (fun k => ?_) (Ev.now _), ⟨fun h => (by cases h), fun h => absurd (h i hlt) he⟩⟩
        simp only [PP.eggboxref01_period.l0]
        have e : wrap64 ((i : Int) + (p : Int)) = ((i + p : Nat) : Int) := by rw [w64 (by omega) (by omega)]; rfl
        rw [e, if_pos (by omega), if_pos (by omega), if_pos (by omega), if_pos (by omega), if_neg he]
    · refine ⟨true, Ev.step (f := fun _ => some true) (fun k => ?_) (Ev.now _), fun _ j hj => hx j (by omega) hj, fun _ => rfl⟩
      simp only [PP.eggboxref01_period.l0]
      rw [w64 (by omega) (by omega), if_neg (by omega)]

theorem period_ok (s : ByteArray) (hs : s.size ≤ 1048576) (p : Nat) (hp : p ≤ 1048577) : ∃ b, Ev (fun k => PP.eggboxref01_period.f k s (p : Int)) b ∧ (b = true ↔ Per (gb s) s.size p) := by
  have := per_no s hs p hp s.size 0 (by omega) (by omega) (fun j hj => by omega)
  exact this

theorem pers_loop (s : ByteArray) (hs : s.size ≤ 1048576) : ∀ (d p : Nat) (l : List Int), s.size + 1 - p ≤ d → 1 ≤ p → p ≤ s.size + 1 → PList s p l → ∃ r, Ev (fun k => PP.eggboxref01_Periods.l0 k s l (p : Int)) (r, 0) ∧ PList s (s.size + 1) r := by
  intro d
  induction d with
  | zero =>
    intro p l hd h1 hp hl
    obtain rfl : p = s.size + 1 := by omega
    refine ⟨l, Ev.step (f := fun _ => some (l, 0)) (fun k => ?_) (Ev.now _), hl⟩
    simp only [PP.eggboxref01_Periods.l0]
    rw [if_neg (by omega)]
  | succ d ih =>
    intro p l hd h1 hp hl
    by_cases hlt : p ≤ s.size
    · have hlen := hl.len
      obtain ⟨b, hb, hb2⟩ := period_ok s hs p (by omega)
      have next : ∀ l', PList s (p + 1) l' → ∃ r, Ev (fun k => PP.eggboxref01_Periods.l0 k s l' (wrap64 ((p : Int) + 1))) (r, 0) ∧ PList s (s.size + 1) r := fun l' hl' => by
        rw [w64 (by omega) (by omega)]
        exact ih (p + 1) l' (by omega) (by omega) (by omega) hl'
      cases b with
      | true =>
        obtain ⟨r, hr, hP⟩ := next (l ++ [(p : Int)]) (hl.snoc h1 (hb2.1 rfl) (by omega) (fun q a b => by omega))
        refine ⟨r, Ev.step (f := fun k => (PP.eggboxref01_period.f k s (p : Int)).bind fun t => if t = true then (if l.length < 17592186044416 then PP.eggboxref01_Periods.l0 k s (l ++ [(p : Int)]) (wrap64 ((p : Int) + 1)) else none) else PP.eggboxref01_Periods.l0 k s l (wrap64 ((p : Int) + 1))) (fun k => ?_) (Ev.bind hb ?_), hP⟩
        · simp only [PP.eggboxref01_Periods.l0]
          rw [if_pos (by omega)]
        · simp only [if_true, if_pos (show l.length < 17592186044416 by omega)]
          exact hr
      | false =>
        have hnp : ¬ Per (gb s) s.size p := fun h => by have := hb2.2 h; cases this
        obtain ⟨r, hr, hP⟩ := next l ⟨fun x hx => by obtain ⟨q, e, a, b, c⟩ := hl.isPer x hx; exact ⟨q, e, a, by omega, c⟩, fun q a b c => by
          by_cases e : q = p
          · subst e; exact absurd c hnp
          · exact hl.all q a (by omega) c, hl.rise⟩
        refine ⟨r, Ev.step (f := fun k => (PP.eggboxref01_period.f k s (p : Int)).bind fun t => if t = true then (if l.length < 17592186044416 then PP.eggboxref01_Periods.l0 k s (l ++ [(p : Int)]) (wrap64 ((p : Int) + 1)) else none) else PP.eggboxref01_Periods.l0 k s l (wrap64 ((p : Int) + 1))) (fun k => ?_) (Ev.bind hb ?_), hP⟩
        · simp only [PP.eggboxref01_Periods.l0]
          rw [if_pos (by omega)]
        · simp only [Bool.false_eq_true, if_false]
          exact hr
    · exact ih p l (by omega) h1 hp hl

theorem sorted_unique : ∀ (a b : List Int), a.Pairwise (· < ·) → b.Pairwise (· < ·) → (∀ x, x ∈ a ↔ x ∈ b) → a = b
  | [], [], _, _, _ => rfl
  | [], y :: b, _, _, h => by have := (h y).2 (by simp); cases this
  | x :: a, [], _, _, h => by have := (h x).1 (by simp); cases this
  | x :: a, y :: b, ha, hb, h => by
    rw [List.pairwise_cons] at ha hb
    have e : x = y := by
      rcases List.mem_cons.1 ((h x).1 (by simp)) with e | e
      · exact e
      · rcases List.mem_cons.1 ((h y).2 (by simp)) with e2 | e2
        · exact e2.symm
        · have := hb.1 x e
          have := ha.1 y e2
          omega
    subst e
    rw [sorted_unique a b ha.2 hb.2 (fun z => ⟨fun hz => by
      rcases List.mem_cons.1 ((h z).1 (by simp [hz])) with e | e
      · have := ha.1 z hz; omega
      · exact e, fun hz => by
      rcases List.mem_cons.1 ((h z).2 (by simp [hz])) with e | e
      · have := hb.1 z hz; omega
      · exact e⟩)]

theorem plist_unique {s : ByteArray} {b : Nat} {r l : List Int} (h : PList s b r) (k : PList s b l) : r = l := by
  refine sorted_unique r l h.rise k.rise (fun x => ⟨fun hx => ?_, fun hx => ?_⟩)
  · obtain ⟨p, rfl, a, b, c⟩ := h.isPer x hx
    exact k.all p a b c
  · obtain ⟨p, rfl, a, b, c⟩ := k.isPer x hx
    exact h.all p a b c

/-- Both Periods tell the same. -/
theorem periods_both (k : Int) (s : ByteArray) (hs : s.size ≤ 1048576) : ∃ r : List Int × Int, Ev (fun n => HPer.f n k s) r ∧ Ev (fun n => PP.eggboxref01_Periods.f n k s) r ∧ r.1.length ≤ 1048577 := by
  by_cases hc : HCheck.chk k s = 0
  · obtain ⟨r, hr, hP⟩ := periods_ok k s hs hc
    obtain ⟨l, hl, hL⟩ := pers_loop s hs (s.size + 1) 1 [] (by omega) (by omega) (by omega) ⟨by simp, fun p a b => by omega, by simp⟩
    have e := plist_unique hP hL
    subst e
    have hlen := hP.len
    refine ⟨(r, 0), hr, ?_, by show r.length ≤ _; omega⟩
    unfold PP.eggboxref01_Periods.f
    refine Ev.bind (refCheck_ok k s (by omega)) ?_
    simp only [if_pos hc]
    exact hl
  · refine ⟨([], HCheck.chk k s), periods_bad k s hc, ?_, by simp⟩
    unfold PP.eggboxref01_Periods.f
    refine Ev.bind (refCheck_ok k s (by omega)) ?_
    simp only [if_neg hc]
    exact Ev.now _

theorem refRoot_loop (s : ByteArray) (hs : s.size ≤ 1048576) (q : Nat) (hR : RL (gb s) s.size q) (h0 : 0 < s.size) : ∀ (d p : Nat), s.size - p ≤ d → 1 ≤ p → p ≤ q →
    Ev (fun k => PP.eggboxref01_Root.l0 k s (p : Int)) (s.extract 0 q, ((s.size / q : Nat) : Int), 0) := by
  have hq := Nat.le_of_dvd h0 hR.dvd
  have hend : q = s.size → Ev (fun k => PP.eggboxref01_Root.l0 k s (s.size : Int)) (s.extract 0 q, ((s.size / q : Nat) : Int), 0) := fun e => by
    have e2 : s.extract 0 s.size = s := by simp
    refine Ev.step (f := fun _ => some (s, 1, 0)) (fun k => ?_) ?_
    · simp only [PP.eggboxref01_Root.l0]
      rw [if_neg (by omega)]
    · rw [e, e2, Nat.div_self h0]
      exact Ev.now _
  intro d
  induction d with
  | zero =>
    intro p hd h1 hp
    obtain rfl : p = s.size := by omega
    exact hend (by omega)
  | succ d ih =>
    intro p hd h1 hp
    by_cases hlt : p < s.size
    · obtain ⟨b, hb, hb2⟩ := period_ok s hs p (by omega)
      have e1 : ((s.size : Int) % (p : Int) = 0) ↔ p ∣ s.size := by
        rw [← Int.natCast_emod]
        constructor
        · intro h; exact Nat.dvd_of_mod_eq_zero (by omega)
        · intro h; have := Nat.mod_eq_zero_of_dvd h; omega
      have next : p < q → Ev (fun k => PP.eggboxref01_Root.l0 k s (wrap64 ((p : Int) + 1))) (s.extract 0 q, ((s.size / q : Nat) : Int), 0) := fun h => by
        rw [w64 (by omega) (by omega)]
        exact ih (p + 1) (by omega) (by omega) (by omega)
      by_cases hd2 : p ∣ s.size
      · cases b with
        | true =>
          have hle := hR.min p (by omega) hd2 (hb2.1 rfl)
          obtain rfl : p = q := by omega
          refine Ev.step (f := fun k => (PP.eggboxref01_period.f k s (p : Int)).bind fun t => if t = true then (if 0 ≤ (p : Int) then (if (p : Int) ≤ (s.size : Int) then some (s.extract 0 (p : Int).toNat, wrap64 ((s.size : Int) / (p : Int)), 0) else none) else none) else PP.eggboxref01_Root.l0 k s (wrap64 ((p : Int) + 1))) (fun k => ?_) (Ev.bind hb ?_)
          · simp only [PP.eggboxref01_Root.l0]
            rw [if_pos (by omega), if_neg (by omega), if_pos (e1.2 hd2)]
          · have e3 : (s.size : Int) / (p : Int) = ((s.size / p : Nat) : Int) := by simp
            have hle2 : s.size / p ≤ s.size := Nat.div_le_self _ _
            simp only [if_true, if_pos (show 0 ≤ (p : Int) by omega), if_pos (show (p : Int) ≤ (s.size : Int) by omega), e3, Int.toNat_natCast]
            generalize s.size / p = z at *
            rw [w64 (by omega) (by omega)]
            exact Ev.now _
        | false =>
          have hne : p ≠ q := fun e => by
            have := hb2.2 (by rw [e]; exact hR.per)
            cases this
          refine Ev.step (f := fun k => (PP.eggboxref01_period.f k s (p : Int)).bind fun t => if t = true then (if 0 ≤ (p : Int) then (if (p : Int) ≤ (s.size : Int) then some (s.extract 0 (p : Int).toNat, wrap64 ((s.size : Int) / (p : Int)), 0) else none) else none) else PP.eggboxref01_Root.l0 k s (wrap64 ((p : Int) + 1))) (fun k => ?_) (Ev.bind hb ?_)
          · simp only [PP.eggboxref01_Root.l0]
            rw [if_pos (by omega), if_neg (by omega), if_pos (e1.2 hd2)]
          · simp only [Bool.false_eq_true, if_false]
            exact next (by omega)
      · have hne : p ≠ q := fun e => hd2 (by rw [e]; exact hR.dvd)
        refine Ev.step (f := fun k => PP.eggboxref01_Root.l0 k s (wrap64 ((p : Int) + 1))) (fun k => ?_) (next (by omega))
        simp only [PP.eggboxref01_Root.l0]
        rw [if_pos (by omega), if_neg (by omega), if_neg (fun h => hd2 (e1.1 h))]
    · obtain rfl : p = s.size := by omega
      exact hend (by omega)

/-- Both Roots tell the same. -/
theorem roots_both (k : Int) (s : ByteArray) (hs : s.size ≤ 1048576) : ∃ r : ByteArray × Int × Int, Ev (fun n => HRoot.f n k s) r ∧ Ev (fun n => PP.eggboxref01_Root.f n k s) r := by
  have start : ∀ r, (HCheck.chk k s = 0 → Ev (fun n => PP.eggboxref01_Root.j0 n s 0 (s.toList == ([] : List UInt8))) r) → (HCheck.chk k s ≠ 0 → Ev (fun n => PP.eggboxref01_Root.j0 n s (HCheck.chk k s) true) r) → Ev (fun n => PP.eggboxref01_Root.f n k s) r := fun r h1 h2 => by
    unfold PP.eggboxref01_Root.f
    refine Ev.bind (refCheck_ok k s (by omega)) ?_
    by_cases hc : HCheck.chk k s = 0
    · simp only [if_pos hc]
      rw [hc]
      exact h1 hc
    · simp only [if_neg hc]
      exact h2 hc
  by_cases hc : HCheck.chk k s = 0
  · by_cases h0 : s.size = 0
    · refine ⟨(⟨#[]⟩, 0, 0), root_nil k s hc h0, start _ (fun _ => ?_) (fun h => absurd hc h)⟩
      refine Ev.step (f := fun _ => some (⟨#[]⟩, 0, 0)) (fun n => ?_) (Ev.now _)
      simp only [PP.eggboxref01_Root.j0]
      rw [(tl_nil s).2 h0]
      rfl
    · obtain ⟨q, hq, hR⟩ := root_ok k s hs hc (by omega)
      refine ⟨_, hq, start _ (fun _ => ?_) (fun h => absurd hc h)⟩
      refine Ev.step (f := fun n => PP.eggboxref01_Root.l0 n s ((1 : Nat) : Int)) (fun n => ?_) (refRoot_loop s hs q hR (by omega) s.size 1 (by omega) (by omega) hR.pos)
      have e : (s.toList == ([] : List UInt8)) = false := beq_eq_false_iff_ne.2 (fun h => h0 ((tl_nil s).1 h))
      simp only [PP.eggboxref01_Root.j0]
      rw [e]
      rfl
  · refine ⟨(⟨#[]⟩, 0, HCheck.chk k s), Ev.congr (f := fun _ => some (⟨#[]⟩, 0, HCheck.chk k s)) (fun n => by unfold HRoot.f; rw [if_neg hc]) (Ev.now _), start _ (fun h => absurd h hc) (fun _ => ?_)⟩
    refine Ev.step (f := fun _ => some (⟨#[]⟩, 0, HCheck.chk k s)) (fun n => ?_) (Ev.now _)
    simp only [PP.eggboxref01_Root.j0]
    rfl

theorem same_loop (l : List Int) (hl : l.length ≤ 4000000) : ∀ (d i : Nat), l.length - i ≤ d → Ev (fun k => PW.eggboxlaw01_SameInts.l0 k l l (i : Int)) true := by
  intro d
  induction d with
  | zero =>
    intro i hd
    refine Ev.step (f := fun _ => some true) (fun k => ?_) (Ev.now _)
    simp only [PW.eggboxlaw01_SameInts.l0]
    rw [if_neg (by omega)]
  | succ d ih =>
    intro i hd
    by_cases hi : i < l.length
    · refine Ev.step (f := fun k => PW.eggboxlaw01_SameInts.l0 k l l ((i + 1 : Nat) : Int)) (fun k => ?_) (ih (i + 1) (by omega))
      simp only [PW.eggboxlaw01_SameInts.l0]
      rw [if_pos (by omega), if_pos (by omega), if_pos (by omega), if_pos trivial, w64 (by omega) (by omega)]
      rfl
    · exact ih i (by omega)
theorem same_ok (l : List Int) (hl : l.length ≤ 4000000) : Ev (fun k => PW.eggboxlaw01_SameInts.f k l l) true := by
  have := same_loop l hl l.length 0 (by omega)
  unfold PW.eggboxlaw01_SameInts.f
  simpa using this
end Go.Proofs.Ytjkajepkeepelaa.LPeriods
