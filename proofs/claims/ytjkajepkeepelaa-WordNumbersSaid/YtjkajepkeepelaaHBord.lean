/- What word.borders and word.Periods come to: the longest borders; all periods, rising. -/
import Derived.Test.YtjkajepkeepelaaHPer
import Derived.Test.YtjkajepkeepelaaHMath
set_option linter.unusedVariables false
set_option linter.unusedSimpArgs false
namespace Go.Proofs.Ytjkajepkeepelaa.HBord
open Go.RowKit Go.Proofs.YtjkajepkeepelaaW.PrintWords Go.Proofs.YtjkajepkeepelaaW.PrintLast Go.Proofs.YtjkajepkeepelaaW.PrintMore
open Go.Proofs.Ytjkajepkeepelaa Go.Proofs.Ytjkajepkeepelaa.HMath

def gb (s : ByteArray) (i : Nat) : Int := bt s (i : Int)

theorem w64 {x : Int} (h0 : -9223372036854775808 ≤ x) (h1 : x ≤ 9223372036854775807) : wrap64 x = x := by
  unfold wrap64
  omega

theorem rd_set_same (l : List Int) (i : Nat) (v : Int) (h : i < l.length) : rd (l.set i v) (i : Int) = v := by
  simp [rd, List.getD_eq_getElem?_getD, List.getElem?_set, h]
theorem rd_set_ne (l : List Int) (i j : Nat) (v : Int) (h : i ≠ j) : rd (l.set i v) (j : Int) = rd l (j : Int) := by
  simp [rd, List.getD_eq_getElem?_getD, List.getElem?_set, h]

/-- The borders up to place i are known. -/
def Known (s : ByteArray) (l : List Int) (i : Nat) : Prop := l.length = s.size + 1 ∧ ∀ j, 1 ≤ j → j ≤ i → j ≤ s.size → ∃ b : Nat, rd l (j : Int) = b ∧ LB (gb s) j b

theorem Known.set {s : ByteArray} {l : List Int} {i b : Nat} (h : Known s l i) (hi : i < s.size) (hb : LB (gb s) (i + 1) b) : Known s (l.set (i + 1) (b : Int)) (i + 1) := by
  refine ⟨by simp [h.1], fun j h1 h2 h3 => ?_⟩
  by_cases e : j = i + 1
  · subst e
    exact ⟨b, rd_set_same _ _ _ (by have := h.1; omega), hb⟩
  · obtain ⟨c, hc, hl⟩ := h.2 j h1 (by omega) h3
    exact ⟨c, by rw [rd_set_ne _ _ _ _ (by omega)]; exact hc, hl⟩

theorem inner (s : ByteArray) (hs : s.size ≤ 1048576) (l : List Int) (i : Nat) (h1 : 1 ≤ i) (hi : i < s.size) (hK : Known s l i) (P : List Int → Prop)
    (next : ∀ l', Known s l' (i + 1) → ∃ r, Ev (fun k => PA.word_borders.l0 k s l' ((i : Int) + 1)) r ∧ P r) :
    ∀ (d m : Nat), m ≤ d → Cand (gb s) i m → ∃ r, Ev (fun k => PA.word_borders.l1 k s l (i : Int) (m : Int)) r ∧ P r := by
  intro d
  induction d with
  | zero =>
    intro m hm hC
    obtain rfl : m = 0 := by omega
    have hl := hK.1
    by_cases e : bt s 0 = bt s (i : Int)
    · obtain ⟨r, hr, hp⟩ := next _ (hK.set hi (Cand_end hC e))
      refine ⟨r, Ev.step (f := fun k => PA.word_borders.l0 k s (l.set (i + 1) ((0 + 1 : Nat) : Int)) ((i : Int) + 1)) (fun k => ?_) hr, hp⟩
      simp only [PA.word_borders.l1]
      rw [if_neg (by omega), if_pos (by omega), if_pos (by omega), if_pos (by omega), if_pos (by omega)]
      rw [if_pos (by exact e), w64 (by omega) (by omega), if_pos (by omega), if_pos (by omega), w64 (by omega) (by omega)]
      rfl
    · obtain ⟨r, hr, hp⟩ := next _ (hK.set hi (Cand_none hC e))
      refine ⟨r, Ev.step (f := fun k => PA.word_borders.l0 k s (l.set (i + 1) ((0 : Nat) : Int)) ((i : Int) + 1)) (fun k => ?_) hr, hp⟩
      simp only [PA.word_borders.l1]
      rw [if_neg (by omega), if_pos (by omega), if_pos (by omega), if_pos (by omega), if_pos (by omega)]
      rw [if_neg (by exact e), w64 (by omega) (by omega), if_pos (by omega), if_pos (by omega)]
      rfl
  | succ d ih =>
    intro m hm hC
    by_cases h0 : m = 0
    · exact ih m (by omega) hC
    have hmi := hC.1.1
    have hl := hK.1
    by_cases e : bt s (m : Int) = bt s (i : Int)
    · obtain ⟨r, hr, hp⟩ := next _ (hK.set hi (Cand_end hC e))
      refine ⟨r, Ev.step (f := fun k => PA.word_borders.l0 k s (l.set (i + 1) ((m + 1 : Nat) : Int)) ((i : Int) + 1)) (fun k => ?_) hr, hp⟩
      simp only [PA.word_borders.l1]
      rw [if_pos (by omega), if_pos (by omega), if_pos (by omega), if_pos (by omega), if_pos (by omega)]
      rw [if_pos (by exact e), w64 (by omega) (by omega), if_pos (by omega), if_pos (by omega), w64 (by omega) (by omega)]
      rfl
    · obtain ⟨b, hb, hL⟩ := hK.2 m (by omega) (by omega) (by omega)
      obtain ⟨r, hr, hp⟩ := ih b (by have := hL.1.1; omega) (Cand_next hC e hL)
      refine ⟨r, Ev.step (f := fun k => PA.word_borders.l1 k s l (i : Int) (b : Int)) (fun k => ?_) hr, hp⟩
      simp only [PA.word_borders.l1]
      rw [if_pos (by omega), if_pos (by omega), if_pos (by omega), if_pos (by omega), if_pos (by omega)]
      rw [if_neg (by exact e), if_pos (by omega), hb]

theorem outer (s : ByteArray) (hs : s.size ≤ 1048576) : ∀ (d i : Nat) (l : List Int), s.size - i ≤ d → 1 ≤ i → Known s l i → ∃ r, Ev (fun k => PA.word_borders.l0 k s l (i : Int)) r ∧ Known s r s.size := by
  intro d
  induction d with
  | zero =>
    intro i l hd h1 hK
    refine ⟨l, Ev.step (f := fun _ => some l) (fun k => ?_) (Ev.now _), hK.1, fun j a b c => hK.2 j a (by omega) c⟩
    simp only [PA.word_borders.l0]
    rw [if_neg (by omega)]
  | succ d ih =>
    intro i l hd h1 hK
    by_cases hi : i < s.size
    · obtain ⟨b, hb, hL⟩ := hK.2 i h1 (Nat.le_refl _) (by omega)
      obtain ⟨r, hr, hp⟩ := inner s hs l i h1 hi hK (fun r => Known s r s.size) (fun l' hK' => by
        have := ih (i + 1) l' (by omega) (by omega) hK'
        simpa using this) b b (Nat.le_refl _) (Cand_start hL)
      refine ⟨r, Ev.step (f := fun k => PA.word_borders.l1 k s l (i : Int) (b : Int)) (fun k => ?_) hr, hp⟩
      have hl := hK.1
      simp only [PA.word_borders.l0]
      rw [if_pos (by omega), if_pos (by omega), if_pos (by omega), hb]
    · exact ih i l (by omega) h1 hK

theorem borders_ok (s : ByteArray) (hs : s.size ≤ 1048576) : ∃ l, Ev (fun k => PA.word_borders.f k s) l ∧ Known s l s.size := by
  obtain ⟨r, hr, hp⟩ := outer s hs s.size 1 (List.replicate (s.size + 1) 0) (by omega) (by omega) ⟨by simp, fun j a b c => by
    obtain rfl : j = 1 := by omega
    exact ⟨0, by simp [rd, List.getD_eq_getElem?_getD, List.getElem?_replicate]; split <;> rfl, LB_one _⟩⟩
  refine ⟨r, Ev.congr (fun k => ?_) hr, hp⟩
  unfold PA.word_borders.f
  rw [w64 (by omega) (by omega), if_pos (by omega), if_pos (by omega)]
  rw [show (((s.size : Int) + 1) : Int).toNat = s.size + 1 by omega]
  rfl

/-- The list of the periods less than b, rising. -/
structure PList (s : ByteArray) (b : Nat) (r : List Int) : Prop where
  isPer : ∀ x, x ∈ r → ∃ p : Nat, x = p ∧ 1 ≤ p ∧ p < b ∧ Per (gb s) s.size p
  all : ∀ p : Nat, 1 ≤ p → p < b → Per (gb s) s.size p → (p : Int) ∈ r
  rise : r.Pairwise (· < ·)

theorem PList.snoc {s : ByteArray} {b b' : Nat} {r : List Int} (h : PList s b r) (hb : 1 ≤ b) (hp : Per (gb s) s.size b) (hlt : b < b') (no : ∀ p, b < p → p < b' → ¬ Per (gb s) s.size p) : PList s b' (r ++ [(b : Int)]) := by
  refine ⟨fun x hx => ?_, fun p h1 h2 h3 => ?_, ?_⟩
  · rcases List.mem_append.1 hx with hx | hx
    · obtain ⟨p, e, a1, a2, a3⟩ := h.isPer x hx
      exact ⟨p, e, a1, by omega, a3⟩
    · rw [List.mem_singleton.1 hx]
      exact ⟨b, rfl, hb, hlt, hp⟩
  · rcases Nat.lt_trichotomy p b with e | e | e
    · exact List.mem_append_left _ (h.all p h1 e h3)
    · subst e
      exact List.mem_append_right _ (by simp)
    · exact absurd h3 (no p e h2)
  · rw [List.pairwise_append]
    refine ⟨h.rise, by simp, fun x hx y hy => ?_⟩
    rw [List.mem_singleton.1 hy]
    obtain ⟨p, e, _, a2, _⟩ := h.isPer x hx
    omega

theorem PList.len {s : ByteArray} {b : Nat} {r : List Int} (h : PList s b r) : r.length ≤ b := by
  have key : ∀ (l : List Int) (c : Int), (∀ x, x ∈ l → c ≤ x ∧ x < b) → l.Pairwise (· < ·) → (l.length : Int) ≤ max 0 ((b : Int) - c) := by
    intro l
    induction l with
    | nil => intro c _ _; simp; omega
    | cons a l ih =>
      intro c h1 h2
      rw [List.pairwise_cons] at h2
      have ha := h1 a (by simp)
      have := ih (a + 1) (fun x hx => ⟨by have := h2.1 x hx; omega, (h1 x (by simp [hx])).2⟩) h2.2
      simp only [List.length_cons]
      omega
  have := key r 0 (fun x hx => by obtain ⟨p, e, a, b, _⟩ := h.isPer x hx; omega) h.rise
  omega

theorem lp_ok (s : ByteArray) (hs : s.size ≤ 1048576) (h0 : 0 < s.size) (l : List Int) (hK : Known s l s.size) :
    ∀ (d m : Nat) (out : List Int), m ≤ d → Bd (gb s) s.size m → PList s (s.size - m) out → ∃ r, Ev (fun k => HPer.lp k s l out (m : Int)) r ∧ PList s (s.size + 1) r := by
  intro d
  induction d with
  | zero =>
    intro m out hm hB hP
    obtain rfl : m = 0 := by omega
    have hl := hP.len
    refine ⟨out ++ [(s.size : Int)], Ev.step (f := fun _ => some (out ++ [(s.size : Int)])) (fun k => ?_) (Ev.now _), ?_⟩
    · simp only [HPer.lp]
      rw [if_pos (by omega), if_neg (by omega), w64 (by omega) (by omega)]
      simp
    · have := hP.snoc (b' := s.size + 1) (by omega) (fun i hi => by omega) (by omega) (fun p a b => by omega)
      simpa using this
  | succ d ih =>
    intro m out hm hB hP
    by_cases hz : m = 0
    · exact ih m out (by omega) hB hP
    have hms := hB.1
    have hl := hP.len
    obtain ⟨b, hb, hL⟩ := hK.2 m (by omega) (by omega) (by omega)
    have hbm := hL.1.1
    obtain ⟨r, hr, hp⟩ := ih b (out ++ [((s.size - m : Nat) : Int)]) (by omega) (Bd_trans hB hL.1) (by
      refine hP.snoc (by omega) ((Bd_per hms).1 hB) (by omega) (fun p a c hp => ?_)
      have e : s.size - (s.size - p) = p := by omega
      have h1 : Bd (gb s) s.size (s.size - p) := (Bd_per (by omega)).2 (by rw [e]; exact hp)
      have := hL.2 _ (Bd_down hB h1 (by omega))
      omega)
    refine ⟨r, Ev.step (f := fun k => HPer.lp k s l (out ++ [((s.size - m : Nat) : Int)]) (b : Int)) (fun k => ?_) hr, hp⟩
    have hlen := hK.1
    simp only [HPer.lp]
    rw [if_pos (by omega), if_pos (by omega), if_pos (by omega), hb, w64 (by omega) (by omega), Int.ofNat_sub (by omega)]

/-- Periods of a word that is none. -/
theorem periods_bad (a0 : Int) (s : ByteArray) (h : HCheck.chk a0 s ≠ 0) : Ev (fun k => HPer.f k a0 s) ([], HCheck.chk a0 s) :=
  Ev.congr (f := fun _ => some ([], HCheck.chk a0 s)) (fun k => by unfold HPer.f; rw [if_neg h]) (Ev.now _)

theorem periods_ok (a0 : Int) (s : ByteArray) (hs : s.size ≤ 1048576) (h : HCheck.chk a0 s = 0) : ∃ r, Ev (fun k => HPer.f k a0 s) (r, 0) ∧ PList s (s.size + 1) r := by
  by_cases hz : s.size = 0
  · refine ⟨[], Ev.congr (f := fun _ => some ([], 0)) (fun k => by unfold HPer.f; rw [if_pos h, if_pos (by omega)]) (Ev.now _), by simp, fun p a b => by omega, by simp⟩
  obtain ⟨l, hl, hK⟩ := borders_ok s hs
  obtain ⟨m, hm, hL⟩ := hK.2 s.size (by omega) (Nat.le_refl _) (Nat.le_refl _)
  have hms := hL.1.1
  obtain ⟨r, hr, hp⟩ := lp_ok s hs (by omega) l hK m m [] (Nat.le_refl _) hL.1 ⟨by simp, fun p a b c => by
    have e : s.size - (s.size - p) = p := by omega
    have h1 : Bd (gb s) s.size (s.size - p) := (Bd_per (by omega)).2 (by rw [e]; exact c)
    have := hL.2 _ h1
    omega, by simp⟩
  refine ⟨r, Ev.congr (f := fun k => (PA.word_borders.f k s).bind fun l => if (s.size : Int) < (l.length : Int) then (HPer.lp k s l [] (rd l s.size)).bind fun out => some (out, 0) else none) (fun k => by unfold HPer.f; rw [if_pos h, if_neg (by omega)]) ?_, hp⟩
  refine Ev.bind (f := fun k l => if (s.size : Int) < (l.length : Int) then (HPer.lp k s l [] (rd l s.size)).bind fun out => some (out, (0 : Int)) else none) hl ?_
  have hlen := hK.1
  refine Ev.congr (f := fun k => (HPer.lp k s l [] (m : Int)).bind fun out => some (out, (0 : Int))) (fun k => by rw [if_pos (by omega), hm]) ?_
  exact Ev.bind (f := fun k out => some (out, (0 : Int))) hr (Ev.now _)
end Go.Proofs.Ytjkajepkeepelaa.HBord
