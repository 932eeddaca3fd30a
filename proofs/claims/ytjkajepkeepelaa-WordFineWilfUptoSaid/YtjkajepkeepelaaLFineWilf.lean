/- WordFineWilf: the plain law. -/
import Derived.Test.YtjkajepkeepelaaPWordFineWilfx2
import Derived.Test.YtjkajepkeepelaaHOver
set_option linter.unusedVariables false
set_option linter.unusedSimpArgs false
namespace Go.Proofs.Ytjkajepkeepelaa.LFineWilf
open Go.RowKit Go.Proofs.YtjkajepkeepelaaW.PrintWords Go.Proofs.YtjkajepkeepelaaW.PrintLast Go.Proofs.YtjkajepkeepelaaW.PrintMore
open Go.Proofs.Ytjkajepkeepelaa Go.Proofs.Ytjkajepkeepelaa.HMath Go.Proofs.Ytjkajepkeepelaa.HBord Go.Proofs.Ytjkajepkeepelaa.HOver Go.Proofs.Ytjkajepkeepelaa.PWordFineWilf

theorem knows_ok : Ev (fun k => eggboxlaw01_knows.f k) true := Ev.of eggboxlaw01_knows.mono (k := 40) (by kernel_rfl)

theorem rd_mem {l : List Int} {i : Nat} (h : i < l.length) : rd l (i : Int) ∈ l := by
  simp only [rd, Int.toNat_natCast]
  rw [List.getD_eq_getElem?_getD, List.getElem?_eq_getElem h]
  exact List.getElem_mem h

theorem in_loop (l : List Int) (x : Int) (hl : l.length ≤ 4000000) : ∀ (d i : Nat), l.length - i ≤ d → Ev (fun k => eggboxlaw01_in.l0 k l x (i : Int)) (decide (x ∈ l.drop i)) := by
  intro d
  induction d with
  | zero =>
    intro i hd
    refine Ev.step (f := fun _ => some (decide (x ∈ l.drop i))) (fun k => ?_) (Ev.now _)
    simp only [eggboxlaw01_in.l0]
    rw [if_neg (by omega), List.drop_of_length_le (by omega)]
    simp
  | succ d ih =>
    intro i hd
    by_cases hi : i < l.length
    · have e : l.drop i = rd l (i : Int) :: l.drop (i + 1) := by
        rw [List.drop_eq_getElem_cons hi]
        simp [rd, List.getD_eq_getElem?_getD, List.getElem?_eq_getElem hi]
      by_cases hx : rd l (i : Int) = x
      · refine Ev.step (f := fun _ => some (decide (x ∈ l.drop i))) (fun k => ?_) (Ev.now _)
        simp only [eggboxlaw01_in.l0]
        rw [if_pos (by omega), if_pos (by omega), if_pos hx, e]
        simp [hx]
      · have := ih (i + 1) (by omega)
        refine Ev.step (f := fun k => eggboxlaw01_in.l0 k l x ((i + 1 : Nat) : Int)) (fun k => ?_) ?_
        · simp only [eggboxlaw01_in.l0]
          rw [if_pos (by omega), if_pos (by omega), if_neg hx, w64 (by omega) (by omega)]
          rfl
        · rw [e]
          have h2 : decide (x ∈ rd l (i : Int) :: l.drop (i + 1)) = decide (x ∈ l.drop (i + 1)) := by
            simp [show x ≠ rd l (i : Int) from fun h => hx h.symm]
          rw [h2]
          exact this
    · exact ih i (by omega)

theorem in_ok (l : List Int) (x : Int) (hl : l.length ≤ 4000000) : Ev (fun k => eggboxlaw01_in.f k l x) (decide (x ∈ l)) := by
  have := in_loop l x hl l.length 0 (by omega)
  simpa [eggboxlaw01_in.f] using this

theorem gcd_ok : ∀ (d a b : Nat), b ≤ d → Ev (fun k => eggboxlaw01_gcd.f k (a : Int) (b : Int)) ((Nat.gcd a b : Nat) : Int) := by
  intro d
  induction d with
  | zero =>
    intro a b hb
    obtain rfl : b = 0 := by omega
    refine Ev.step (f := fun _ => some (a : Int)) (fun k => ?_) (by rw [Nat.gcd_zero_right]; exact Ev.now _)
    simp only [eggboxlaw01_gcd.f, eggboxlaw01_gcd.l0]
    rw [if_neg (by omega)]
  | succ d ih =>
    intro a b hb
    by_cases hz : b = 0
    · exact ih a b (by omega)
    have hlt := Nat.mod_lt a (show 0 < b by omega)
    have := ih b (a % b) (by omega)
    have hg : Nat.gcd b (a % b) = Nat.gcd a b := by rw [Nat.gcd_comm b, ← Nat.gcd_rec, Nat.gcd_comm]
    rw [hg] at this
    refine Ev.step (f := fun k => eggboxlaw01_gcd.f k (b : Int) ((a % b : Nat) : Int)) (fun k => ?_) this
    simp only [eggboxlaw01_gcd.f, eggboxlaw01_gcd.l0]
    rw [if_pos (by omega), if_neg (by omega), Int.tmod_eq_emod_of_nonneg (by omega)]
    rfl

theorem rise_at {l : List Int} (h : l.Pairwise (· < ·)) {i j : Nat} (hij : i < j) (hj : j < l.length) : rd l (i : Int) < rd l (j : Int) := by
  have := List.pairwise_iff_getElem.1 h i j (by omega) hj hij
  simpa [rd, List.getD_eq_getElem?_getD, List.getElem?_eq_getElem hj, List.getElem?_eq_getElem (show i < l.length by omega)] using this

theorem loops_ok (s : ByteArray) (hs : s.size ≤ 1048576) (l : List Int) (hP : PList s (s.size + 1) l) :
    ∀ (d i : Nat), l.length - i ≤ d → Ev (fun k => eggboxlaw01_WordFineWilf.l0 k s l (i : Int)) true := by
  have hlen := hP.len
  intro d
  induction d with
  | zero =>
    intro i hd
    refine Ev.step (f := fun _ => some true) (fun k => ?_) (Ev.now _)
    simp only [eggboxlaw01_WordFineWilf.l0]
    rw [if_neg (by omega)]
  | succ d ih =>
    intro i hd
    by_cases hi : i < l.length
    · obtain ⟨p, ep, p1, p2, p3⟩ := hP.isPer _ (rd_mem hi)
      have inner : ∀ (e j : Nat), i - j ≤ e → Ev (fun k => eggboxlaw01_WordFineWilf.l1 k s l (i : Int) (j : Int)) true := by
        intro e
        induction e with
        | zero =>
          intro j hj
          refine Ev.step (f := fun k => eggboxlaw01_WordFineWilf.l0 k s l ((i + 1 : Nat) : Int)) (fun k => ?_) (ih (i + 1) (by omega))
          simp only [eggboxlaw01_WordFineWilf.l1]
          rw [if_neg (by omega), w64 (by omega) (by omega)]
          rfl
        | succ e ihe =>
          intro j hj
          by_cases hji : j < i
          · obtain ⟨q, eq, q1, q2, q3⟩ := hP.isPer _ (rd_mem (show j < l.length by omega))
            have hlt := rise_at hP.rise hji hi
            have hg1 := gcd_ok q p q (Nat.le_refl _)
            have hgle : Nat.gcd p q ≤ q := Nat.le_of_dvd (by omega) (Nat.gcd_dvd_right _ _)
            have hgpos : 0 < Nat.gcd p q := Nat.gcd_pos_of_pos_left _ (by omega)
            have hnext : Ev (fun k => eggboxlaw01_WordFineWilf.l1 k s l (i : Int) (wrap64 ((j : Int) + 1))) true := by
              rw [w64 (by omega) (by omega)]
              exact ihe (j + 1) (by omega)
            refine Ev.step (f := fun k => (eggboxlaw01_gcd.f k (rd l i) (rd l j)).bind fun t140 => (if (s.size : Int) ≥ (wrap64 ((wrap64 ((rd l i) + (rd l j))) - t140)) then ((eggboxlaw01_in.f k l t140).bind fun t143 => (if t143 = true then (eggboxlaw01_WordFineWilf.l1 k s l i (wrap64 (j + 1))) else (some false))) else (eggboxlaw01_WordFineWilf.l1 k s l i (wrap64 (j + 1))))) (fun k => ?_) ?_
            · simp only [eggboxlaw01_WordFineWilf.l1]
              rw [if_pos (by omega), if_pos (by omega), if_pos (by omega), if_pos (by omega), if_pos (by omega), if_neg (by omega)]
            · refine Ev.bind (f := fun k t140 => (if (s.size : Int) ≥ (wrap64 ((wrap64 ((rd l i) + (rd l j))) - t140)) then ((eggboxlaw01_in.f k l t140).bind fun t143 => (if t143 = true then (eggboxlaw01_WordFineWilf.l1 k s l i (wrap64 (j + 1))) else (some false))) else (eggboxlaw01_WordFineWilf.l1 k s l i (wrap64 (j + 1))))) (a := ((Nat.gcd p q : Nat) : Int)) (by rw [ep, eq]; exact hg1) ?_
              rw [w64 (x := rd l i + rd l j) (by omega) (by omega), w64 (by omega) (by omega)]
              by_cases hc : (s.size : Int) ≥ rd l i + rd l j - ((Nat.gcd p q : Nat) : Int)
              · refine Ev.congr (f := fun k => (eggboxlaw01_in.f k l ((Nat.gcd p q : Nat) : Int)).bind fun t143 => (if t143 = true then (eggboxlaw01_WordFineWilf.l1 k s l i (wrap64 (j + 1))) else (some false))) (fun k => by rw [if_pos hc]) ?_
                refine Ev.bind (f := fun k t143 => (if t143 = true then (eggboxlaw01_WordFineWilf.l1 k s l i (wrap64 (j + 1))) else (some false))) (in_ok l _ (by omega)) ?_
                have hin : decide (((Nat.gcd p q : Nat) : Int) ∈ l) = true := decide_eq_true (hP.all _ hgpos (by omega) (fine_wilf _ _ _ _ (Nat.le_refl _) (by omega) (by omega) p3 q3 (by omega)))
                refine Ev.congr (f := fun k => eggboxlaw01_WordFineWilf.l1 k s l i (wrap64 (j + 1))) (fun k => by rw [if_pos hin]) hnext
              · exact Ev.congr (f := fun k => eggboxlaw01_WordFineWilf.l1 k s l i (wrap64 (j + 1))) (fun k => by rw [if_neg hc]) hnext
          · exact ihe j (by omega)
      refine Ev.step (f := fun k => eggboxlaw01_WordFineWilf.j2 k s l (i : Int) false) (fun k => ?_) ?_
      · simp only [eggboxlaw01_WordFineWilf.l0]
        rw [if_pos (by omega), if_pos (by omega), if_neg (by omega)]
        rw [decide_eq_false (by omega)]
      · refine Ev.step (f := fun k => eggboxlaw01_WordFineWilf.l1 k s l (i : Int) ((0 : Nat) : Int)) (fun k => ?_) (inner i 0 (by omega))
        simp only [eggboxlaw01_WordFineWilf.j2]
        rfl
    · exact ih i (by omega)

theorem law (a0 : Int) (a1 : ByteArray) (hs : a1.size ≤ 1048576) : Ev (fun k => eggboxlaw01_WordFineWilf.f k a0 a1) true := by
  obtain ⟨g1, g2⟩ := letters_ok a0
  unfold eggboxlaw01_WordFineWilf.f
  simp only [eggboxlaw01_letters.f, eggboxlaw01_num.f, Option.bind_some]
  generalize wrap64 (1 + (Int.tmod (wrap64 ((Int.tmod a0 8) + 8)) 8)) = m at *
  obtain ⟨s, hs1, hs2, hs3⟩ := over_ok m g1 g2 a1 hs
  refine Ev.bind hs1 ?_
  obtain ⟨l, hl, hP⟩ := periods_ok m s (by omega) hs3
  refine Ev.bind (g := fun k => word_Periods.f k m s) hl ?_
  refine Ev.bind (g := fun k => eggboxlaw01_knows.f k) knows_ok ?_
  have hlen := hP.len
  have hin : s.size > 0 → decide ((s.size : Int) ∈ l) = true := fun h => decide_eq_true (hP.all _ h (by omega) (fun i hi => by omega))
  have fin : Ev (fun k => eggboxlaw01_WordFineWilf.j0 k s l false) true := Ev.step (f := fun k => eggboxlaw01_WordFineWilf.l0 k s l ((0 : Nat) : Int)) (fun k => by simp only [eggboxlaw01_WordFineWilf.j0]; rfl) (loops_ok s (by omega) l hP l.length 0 (by omega))
  by_cases h0 : (s.size : Int) > 0
  · refine Ev.congr (f := fun k => (eggboxlaw01_in.f k l (s.size : Int)).bind fun t133 => (eggboxlaw01_WordFineWilf.j0 k s l (!t133))) (fun k => by simp only [if_true]; rw [if_pos h0]) ?_
    refine Ev.bind (f := fun k t133 => (eggboxlaw01_WordFineWilf.j0 k s l (!t133))) (in_ok l _ (by omega)) ?_
    rw [hin (by omega)]
    exact fin
  · refine Ev.congr (f := fun k => eggboxlaw01_WordFineWilf.j0 k s l false) (fun k => by simp only [if_true]; rw [if_neg h0]) fin
end Go.Proofs.Ytjkajepkeepelaa.LFineWilf
