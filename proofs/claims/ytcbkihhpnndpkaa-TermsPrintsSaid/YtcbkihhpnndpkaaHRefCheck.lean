/- The document's answers on sides: Check, Cut, the text, the variables, a side from behind; as plain laws. -/
import Derived.Test.YtcbkihhpnndpkaaHStr
import Derived.Test.YtcbkihhpnndpkaaPAx6
import Derived.Test.YtcbkihhpnndpkaaPAx7
import Derived.Test.YtcbkihhpnndpkaaHVars
import Derived.Test.YtcbkihhpnndpkaaHTurned
set_option linter.unusedVariables false
set_option linter.unusedSimpArgs false
namespace Go.Proofs.Ytcbkihhpnndpkaa.HRefLaw
open Go.RowKit Go.Proofs.YtcbkihhpnndpkaaW.PrintWords Go.Proofs.YtcbkihhpnndpkaaW.PrintLast Go.Proofs.YtcbkihhpnndpkaaW.PrintMore
open Go.Proofs.Ytcbkihhpnndpkaa Go.Proofs.Ytcbkihhpnndpkaa.PA Go.Proofs.Ytcbkihhpnndpkaa.PG Go.Proofs.Ytcbkihhpnndpkaa.HRead Go.Proofs.Ytcbkihhpnndpkaa.HSpell Go.Proofs.Ytcbkihhpnndpkaa.HTree Go.Proofs.Ytcbkihhpnndpkaa.HStr Go.Proofs.Ytcbkihhpnndpkaa.HUsed Go.Proofs.Ytcbkihhpnndpkaa.HVars

/-! ### Check -/
theorem arity_ok (a : Int) : eggboxref19_arity.f a = some (ar a : Int) := by
 unfold eggboxref19_arity.f ar
 by_cases h3 : a = 3
 · simp [h3]
 · by_cases h4 : a = 4
   · simp [h4]
   · simp [h3, h4]
theorem good_ok (s : S97) : eggboxref19_good.f s.f0 s.f1 = some (HTree.gd s) := by
 have hN : eggboxref19_Place.f s.f1 = some (pl s.f1) := rfl
 unfold eggboxref19_good.f HTree.gd
 by_cases k2 : s.f0 = 2
 · rw [if_pos k2, if_pos k2, hN]; rfl
 · rw [if_neg k2, if_neg k2]
   by_cases q1 : s.f0 ≥ 1
   · rw [if_pos q1]
     by_cases q4 : s.f0 ≤ 4
     · rw [if_pos q4]
       congr 1
       by_cases z : s.f1 = 0
       · simp [z, q1, q4]
       · simp [z]
     · rw [if_neg q4]
       simp; omega
   · rw [if_neg q1]
     simp; omega
theorem term_loop (l : List S97) (hl : l.length ≤ 400) : ∀ (n i hv : Nat), l.length - i ≤ n → i ≤ l.length → hv ≤ i → Ev (fun k => eggboxref19_term.l0 k l (hv : Int) (i : Int)) (scan (l.drop i) hv) := by
 intro n
 induction n with
 | zero =>
  intro i hv h hi hh
  obtain rfl : i = l.length := by omega
  rw [List.drop_length]
  refine Ev.step (f := fun _ => some ((hv : Int) == 1)) (fun k => by simp only [eggboxref19_term.l0]; rw [if_neg (by omega)]) ?_
  have : ((hv : Int) == 1) = (hv == 1) := by
   rw [Bool.eq_iff_iff]
   simp only [beq_iff_eq]
   omega
  rw [this]
  exact Ev.now _
 | succ n ih =>
  intro i hv h hi hh
  by_cases hlt : i < l.length
  · rw [rd_drop l i hlt]
    generalize hs : rd_T97 l (i : Int) = s at *
    refine Ev.step (f := fun k => if HTree.gd s = true then (if (hv : Int) < (ar s.f0 : Int) then some false else eggboxref19_term.l0 k l (wrap64 ((wrap64 ((hv : Int) - (ar s.f0 : Int))) + 1)) (wrap64 ((i : Int) + 1))) else some false) (fun k => by simp only [eggboxref19_term.l0]; rw [if_pos (by omega), if_pos (by omega), hs, good_ok, arity_ok]; rfl) ?_
    unfold scan
    cases hg : HTree.gd s with
    | false => simp; exact Ev.now _
    | true =>
     simp only [if_true, true_and]
     have ha : ar s.f0 ≤ 2 := by unfold ar; split <;> (try split) <;> omega
     by_cases hle : ar s.f0 ≤ hv
     · have hn1 : ¬ ((hv : Int) < (ar s.f0 : Int)) := by omega
       simp only [if_neg hn1, if_pos hle]
       have e1 : wrap64 (wrap64 ((hv : Int) - (ar s.f0 : Int)) + 1) = ((hv - ar s.f0 + 1 : Nat) : Int) := by
        rw [w64 (x := (hv : Int) - (ar s.f0 : Int)) (by omega) (by omega), w64 (by omega) (by omega)]
        omega
       have e2 : wrap64 ((i : Int) + 1) = ((i + 1 : Nat) : Int) := by rw [w64 (by omega) (by omega)]; rfl
       simp only [e1, e2]
       exact ih (i + 1) _ (by omega) (by omega) (by omega)
     · have hn1 : (hv : Int) < (ar s.f0 : Int) := by omega
       simp only [if_pos hn1, if_neg hle]
       exact Ev.now _
  · exact ih i hv (by omega) hi hh
theorem term_ok (l : List S97) (hl : l.length ≤ 400) : Ev (fun k => eggboxref19_term.f k l) (scan l 0) :=
 term_loop l hl l.length 0 0 (by omega) (by omega) (by omega)
theorem rcheck_ok (l m : List S97) (b : Bool) : Ev (fun k => eggboxref19_Check.f k l m b) (chk l m) := by
 unfold eggboxref19_Check.f chk
 by_cases h1 : 400 < l.length
 · have : (l.length : Int) > 400 := by omega
   simp only [if_pos this, if_pos (Or.inl h1 : 400 < l.length ∨ 400 < m.length)]
   exact Ev.step (f := fun _ => some 6) (fun k => by simp only [eggboxref19_Check.j0]; rfl) (Ev.now _)
 · have : ¬ ((l.length : Int) > 400) := by omega
   simp only [if_neg this]
   by_cases h2 : 400 < m.length
   · have e : decide ((m.length : Int) > 400) = true := by simp; omega
     rw [if_pos (Or.inr h2 : 400 < l.length ∨ 400 < m.length), e]
     exact Ev.step (f := fun _ => some 6) (fun k => by simp only [eggboxref19_Check.j0]; rfl) (Ev.now _)
   · have e : decide ((m.length : Int) > 400) = false := by simp; omega
     rw [if_neg (by omega : ¬ (400 < l.length ∨ 400 < m.length)), e]
     refine Ev.step (f := fun k => ((eggboxref19_term.f k l).bind fun t133 => (if t133 = true then ((eggboxref19_term.f k m).bind fun t134 => (if t134 = true then (some 0) else (some 190))) else (some 190)))) (fun k => by simp only [eggboxref19_Check.j0]; rfl) ?_
     refine Ev.bind (term_ok l (by omega)) ?_
     cases q1 : scan l 0 with
     | false => simp; exact Ev.now _
     | true =>
      simp only [if_true]
      refine Ev.bind (term_ok m (by omega)) ?_
      cases q2 : scan m 0 with
      | false => simp; exact Ev.now _
      | true => simp; exact Ev.now _

/-! ### Cut -/
theorem ar_le (a : Int) : ar a ≤ 2 := by unfold ar; split <;> (try split) <;> omega
theorem rd_at (p : List S97) (s : S97) (r : List S97) : rd_T97 (p ++ s :: r) (p.length : Int) = s := by simp [rd_T97]
/-- One step back. -/
theorem cut_step (l p r : List S97) (s : S97) (x3 n : Nat) (R : List (List S97)) (hl : l = p ++ s :: r) (hn : 1 ≤ n) (hn2 : n ≤ 1000) (h400 : l.length ≤ 400) (hx : p.length ≤ x3) (hx2 : x3 ≤ l.length)
 (h1 : n - 1 + ar s.f0 = 0 → R = [l.take p.length, (l.take x3).drop p.length]) (h2 : n - 1 + ar s.f0 ≠ 0 → Ev (fun k => eggboxref19_Cut.l0 k l (x3 : Int) ((p.length : Int) - 1) ((n - 1 + ar s.f0 : Nat) : Int)) R) :
 Ev (fun k => eggboxref19_Cut.l0 k l (x3 : Int) (p.length : Int) (n : Int)) R := by
 have hlen : l.length = p.length + (r.length + 1) := by rw [hl]; simp
 have hrd : rd_T97 l (p.length : Int) = s := by rw [hl]; exact rd_at p s r
 have ha := ar_le s.f0
 have e1 : wrap64 ((wrap64 ((n : Int) - 1)) + (ar s.f0 : Int)) = ((n - 1 + ar s.f0 : Nat) : Int) := by
  rw [w64 (x := (n : Int) - 1) (by omega) (by omega), w64 (by omega) (by omega)]
  omega
 have e2 : wrap64 ((p.length : Int) - 1) = (p.length : Int) - 1 := w64 (by omega) (by omega)
 by_cases hz : n - 1 + ar s.f0 = 0
 · rw [h1 hz]
   refine Ev.step (f := fun _ => some [l.take p.length, (l.take x3).drop p.length]) (fun k => ?_) (Ev.now _)
   simp only [eggboxref19_Cut.l0]
   rw [if_pos (by omega), if_pos (by omega), hrd, arity_ok]
   simp only [Option.bind_some, e1]
   rw [if_pos (by omega), if_pos (by omega), if_pos (by omega), if_pos (by omega)]
   simp
 · refine Ev.step (f := fun k => eggboxref19_Cut.l0 k l (x3 : Int) ((p.length : Int) - 1) ((n - 1 + ar s.f0 : Nat) : Int)) (fun k => ?_) (h2 hz)
   simp only [eggboxref19_Cut.l0]
   rw [if_pos (by omega), if_pos (by omega), hrd, arity_ok]
   simp only [Option.bind_some, e1, e2]
   rw [if_neg (by omega)]
theorem cut_tree (l : List S97) (x3 : Nat) (R : List (List S97)) (h400 : l.length ≤ 400) (hx2 : x3 ≤ l.length) : ∀ (t : T) (p r : List S97) (n : Nat), l = p ++ toL t ++ r → 1 ≤ n → n + (toL t).length ≤ 1000 → (p ++ toL t).length ≤ x3 →
 (n = 1 → R = [l.take p.length, (l.take x3).drop p.length]) → (1 < n → Ev (fun k => eggboxref19_Cut.l0 k l (x3 : Int) ((p.length : Int) - 1) ((n - 1 : Nat) : Int)) R) →
 Ev (fun k => eggboxref19_Cut.l0 k l (x3 : Int) (((p ++ toL t).length : Int) - 1) (n : Int)) R
 | .one, p, r, n, hl, hn, hn2, hx, h1, h2 => by
  have e : (((p ++ toL .one).length : Int) - 1) = (p.length : Int) := by simp [toL]
  rw [e]
  refine cut_step l p r ⟨1, 0⟩ x3 n R (by simpa [toL] using hl) hn (by omega) h400 (by simp [toL] at hx; omega) hx2 (fun h => h1 (by simp [ar] at h; omega)) (fun h => by simpa [ar] using h2 (by simp [ar] at h; omega))
 | .var c, p, r, n, hl, hn, hn2, hx, h1, h2 => by
  have e : (((p ++ toL (.var c)).length : Int) - 1) = (p.length : Int) := by simp [toL]
  rw [e]
  refine cut_step l p r ⟨2, c⟩ x3 n R (by simpa [toL] using hl) hn (by omega) h400 (by simp [toL] at hx; omega) hx2 (fun h => h1 (by simp [ar] at h; omega)) (fun h => by simpa [ar] using h2 (by simp [ar] at h; omega))
 | .om a, p, r, n, hl, hn, hn2, hx, h1, h2 => by
  have e : (((p ++ toL (.om a)).length : Int) - 1) = ((p ++ toL a).length : Int) := by simp [toL]; omega
  rw [e]
  have hn3 : n + (toL a).length ≤ 1000 := by simp [toL] at hn2; omega
  refine cut_step l (p ++ toL a) r ⟨4, 0⟩ x3 n R (by simpa [toL] using hl) hn (by omega) h400 (by simp [toL] at hx ⊢; omega) hx2 (fun h => by simp [ar] at h) (fun h => ?_)
  have e2 : n - 1 + ar (4 : Int) = n := by simp [ar]; omega
  show Ev (fun k => eggboxref19_Cut.l0 k l (x3 : Int) (((p ++ toL a).length : Int) - 1) ((n - 1 + ar (4 : Int) : Nat) : Int)) R
  rw [e2]
  exact cut_tree l x3 R h400 hx2 a p (⟨4, 0⟩ :: r) n (by simpa [toL] using hl) hn hn3 (by simp [toL] at hx ⊢; omega) h1 h2
 | .mul a b, p, r, n, hl, hn, hn2, hx, h1, h2 => by
  have e : (((p ++ toL (.mul a b)).length : Int) - 1) = ((p ++ toL a ++ toL b).length : Int) := by simp [toL]; omega
  rw [e]
  have hn3 : n + (toL a).length + (toL b).length + 1 ≤ 1000 := by simp [toL] at hn2; omega
  refine cut_step l (p ++ toL a ++ toL b) r ⟨3, 0⟩ x3 n R (by simpa [toL] using hl) hn (by omega) h400 (by simp [toL] at hx ⊢; omega) hx2 (fun h => by simp [ar] at h) (fun h => ?_)
  have e2 : n - 1 + ar (3 : Int) = n + 1 := by simp [ar]; omega
  show Ev (fun k => eggboxref19_Cut.l0 k l (x3 : Int) (((p ++ toL a ++ toL b).length : Int) - 1) ((n - 1 + ar (3 : Int) : Nat) : Int)) R
  rw [e2]
  refine cut_tree l x3 R h400 hx2 b (p ++ toL a) (⟨3, 0⟩ :: r) (n + 1) (by simpa [toL] using hl) (by omega) (by omega) (by simp [toL] at hx ⊢; omega) (fun h => by omega) (fun _ => ?_)
  show Ev (fun k => eggboxref19_Cut.l0 k l (x3 : Int) (((p ++ toL a).length : Int) - 1) ((n : Nat) : Int)) R
  exact cut_tree l x3 R h400 hx2 a p (toL b ++ ⟨3, 0⟩ :: r) n (by simpa [toL] using hl) hn (by omega) (by simp [toL] at hx ⊢; omega) h1 h2
def cuts : T → List (List S97)
 | .om a => [toL a]
 | .mul a b => [toL a, toL b]
 | _ => []
theorem cut_ok (t : T) (h : (toL t).length ≤ 400) : Ev (fun k => eggboxref19_Cut.f k (toL t)) (cuts t) := by
 unfold eggboxref19_Cut.f
 cases t with
 | one => exact ⟨0, fun _ _ => by simp [toL, wrap64, rd_T97, arity_ok, ar, cuts]⟩
 | var c => exact ⟨0, fun _ _ => by simp [toL, wrap64, rd_T97, arity_ok, ar, cuts]⟩
 | om a =>
  have hl : wrap64 (((toL (.om a)).length : Int) - 1) = ((toL a).length : Int) := by
   rw [w64 (by omega) (by omega)]; simp [toL]
  have hr : rd_T97 (toL (.om a)) ((toL a).length : Int) = ⟨4, 0⟩ := rd_at (toL a) ⟨4, 0⟩ []
  have hlt : ((toL a).length : Int) < ((toL (.om a)).length : Int) := by simp [toL]; omega
  simp only [hl, hr, arity_ok]
  refine ⟨0, fun _ _ => ?_⟩
  show (if (0 : Int) ≤ _ then _ else _) = _
  rw [if_pos (by omega), if_pos hlt]
  have ht : (toL (.om a)).take (toL a).length = toL a := by simp [toL]
  simp [ar, cuts, ht]
  omega
 | mul a b =>
  have hl : wrap64 (((toL (.mul a b)).length : Int) - 1) = ((toL a ++ toL b).length : Int) := by
   rw [w64 (by omega) (by omega)]; simp [toL]; omega
  have hr : rd_T97 (toL (.mul a b)) ((toL a ++ toL b).length : Int) = ⟨3, 0⟩ := rd_at (toL a ++ toL b) ⟨3, 0⟩ []
  have hlen : (toL (.mul a b)).length = (toL a ++ toL b).length + 1 := by simp [toL]; omega
  simp only [hl, hr, arity_ok]
  have hw : wrap64 (((toL a ++ toL b).length : Int) - 1) = ((toL a ++ toL b).length : Int) - 1 := w64 (by omega) (by omega)
  have := cut_tree (toL (.mul a b)) (toL a ++ toL b).length (cuts (.mul a b)) h (by omega) b (toL a) [⟨3, 0⟩] 1 (by simp [toL]) (by omega) (by have q : (toL b).length ≤ (toL a ++ toL b).length := (by simp); omega) (Nat.le_refl _) (fun _ => ?_) (fun h => by omega)
  · refine Ev.congr (fun k => ?_) this
    rw [if_pos (by omega), if_pos (by omega)]
    simp only [Option.bind_some, hw]
    rw [show ((ar (3 : Int) : Nat) : Int) = 2 from rfl]
    simp
  · show [toL a, toL b] = _
    simp [toL, List.take_append, List.drop_append]

/-! ### The text -/
theorem root_several (t : T) (h : (toL t).length ≤ 400) : (rd_T97 (toL t) (wrap64 (((toL t).length : Int) - 1))).f0 = 3 ↔ several t = true := by
 have hw : wrap64 (((toL t).length : Int) - 1) = ((toL t).length : Int) - 1 := w64 (by omega) (by omega)
 rw [hw]
 cases t with
 | one => simp [toL, rd_T97, several]
 | var c => simp [toL, rd_T97, several]
 | om a =>
  have e : (((toL (.om a)).length : Int) - 1) = ((toL a).length : Int) := by simp [toL]
  rw [e, show toL (.om a) = toL a ++ ⟨4, 0⟩ :: [] from rfl, rd_at]
  simp [several]
 | mul a b =>
  have e : (((toL (.mul a b)).length : Int) - 1) = ((toL a ++ toL b).length : Int) := by simp [toL]; omega
  rw [e, show toL (.mul a b) = (toL a ++ toL b) ++ ⟨3, 0⟩ :: [] from rfl, rd_at]
  simp [several]
theorem brkw (w : ByteArray) : ((⟨#[40]⟩ : ByteArray) ++ w) ++ (⟨#[41, 94, 119]⟩ : ByteArray) = brk w true ++ (⟨#[94, 119]⟩ : ByteArray) := by
 unfold brk
 rw [if_pos rfl, ByteArray.append_assoc (b := (⟨#[41]⟩ : ByteArray))]
 rfl
theorem text_ok : ∀ (t : T), t.wf → (toL t).length ≤ 400 → Ev (fun k => eggboxref19_text.f k (toL t)) (str t)
 | .one, _, h => by
  refine Ev.step (g := fun k => eggboxref19_text.f k (toL .one)) (f := fun k => (eggboxref19_Cut.f k (toL .one)).bind fun _ => some (⟨#[49]⟩ : ByteArray)) (fun k => ?_) (Ev.bind (cut_ok .one h) (Ev.now _))
  simp only [eggboxref19_text.f]
  simp [toL, wrap64, rd_T97]
 | .var c, hw, h => by
  refine Ev.step (g := fun k => eggboxref19_text.f k (toL (.var c))) (f := fun k => (eggboxref19_Cut.f k (toL (.var c))).bind fun _ => some (strOfNums [c])) (fun k => ?_) ?_
  · simp only [eggboxref19_text.f]
    simp [toL, wrap64, rd_T97]
  · have e : strOfNums [c] = str (.var c) := by
     have hc : isName c = true := hw
     simp only [isName, decide_eq_true_eq] at hc
     rcases hc with rfl | rfl | rfl | rfl <;> rfl
    rw [e]
    exact Ev.bind (cut_ok (.var c) h) (Ev.now _)
 | .om a, hw, h => by
  have hla : (toL a).length ≤ 400 := by simp [toL] at h; omega
  have hpos := toL_pos a
  have hl : wrap64 (((toL (.om a)).length : Int) - 1) = ((toL a).length : Int) := by
   rw [w64 (by omega) (by omega)]; simp [toL]
  have hr : rd_T97 (toL (.om a)) ((toL a).length : Int) = ⟨4, 0⟩ := rd_at (toL a) ⟨4, 0⟩ []
  have hlt : ((toL a).length : Int) < ((toL (.om a)).length : Int) := by simp [toL]; omega
  have hl2 : wrap64 (((toL a).length : Int) - 1) = ((toL a).length : Int) - 1 := w64 (by omega) (by omega)
  have hs := root_several a hla
  have hz := str_size a
  have ih := text_ok a hw hla
  have hc := cut_ok (.om a) h
  refine Ev.step (g := fun k => eggboxref19_text.f k (toL (.om a))) (f := fun k => (eggboxref19_Cut.f k (toL (.om a))).bind fun t162 => (if 0 < (t162.length : Int) then (if 0 ≤ (wrap64 (((rd_L3 t162 0).length : Int) - 1)) then (if (wrap64 (((rd_L3 t162 0).length : Int) - 1)) < ((rd_L3 t162 0).length : Int) then (if ((rd_T97 (rd_L3 t162 0) (wrap64 (((rd_L3 t162 0).length : Int) - 1))).f0) = 3 then ((eggboxref19_text.f k (rd_L3 t162 0)).bind fun t172 => (if 1 + t172.size ≤ 9223372036854775807 then (if ((⟨#[40]⟩ : ByteArray) ++ t172).size + 3 ≤ 9223372036854775807 then (some (((⟨#[40]⟩ : ByteArray) ++ t172) ++ (⟨#[41, 94, 119]⟩ : ByteArray))) else (none)) else (none))) else ((eggboxref19_text.f k (rd_L3 t162 0)).bind fun t174 => (if t174.size + 2 ≤ 9223372036854775807 then (some (t174 ++ (⟨#[94, 119]⟩ : ByteArray))) else (none)))) else (none)) else (none)) else (none))) (fun k => ?_) ?_
  · simp only [eggboxref19_text.f, hl, hr]
    rw [if_pos (by omega), if_pos hlt]
    simp
  · refine Ev.bind hc ?_
    show Ev (fun k => if 0 < (([toL a] : List (List S97)).length : Int) then (if 0 ≤ (wrap64 (((toL a).length : Int) - 1)) then (if (wrap64 (((toL a).length : Int) - 1)) < ((toL a).length : Int) then (if ((rd_T97 (toL a) (wrap64 (((toL a).length : Int) - 1))).f0) = 3 then ((eggboxref19_text.f k (toL a)).bind fun t172 => (if 1 + t172.size ≤ 9223372036854775807 then (if ((⟨#[40]⟩ : ByteArray) ++ t172).size + 3 ≤ 9223372036854775807 then (some (((⟨#[40]⟩ : ByteArray) ++ t172) ++ (⟨#[41, 94, 119]⟩ : ByteArray))) else (none)) else (none))) else ((eggboxref19_text.f k (toL a)).bind fun t174 => (if t174.size + 2 ≤ 9223372036854775807 then (some (t174 ++ (⟨#[94, 119]⟩ : ByteArray))) else (none)))) else (none)) else (none)) else (none)) (str (.om a))
    have g1 : 0 < (([toL a] : List (List S97)).length : Int) := by simp
    have g2 : 0 ≤ wrap64 (((toL a).length : Int) - 1) := by omega
    have g3 : wrap64 (((toL a).length : Int) - 1) < ((toL a).length : Int) := by omega
    simp only [if_pos g1, if_pos g2, if_pos g3, hs]
    cases hv : several a with
    | true =>
     simp only [if_true]
     refine Ev.bind ih ?_
     have s1 : 1 + (str a).size ≤ 9223372036854775807 := by omega
     have s2 : ((⟨#[40]⟩ : ByteArray) ++ str a).size + 3 ≤ 9223372036854775807 := by
      rw [ByteArray.size_append]; show 1 + (str a).size + 3 ≤ _; omega
     simp only [if_pos s1, if_pos s2]
     rw [brkw]
     have : brk (str a) true ++ (⟨#[94, 119]⟩ : ByteArray) = str (.om a) := by simp [str, hv]
     rw [this]
     exact Ev.now _
    | false =>
     simp only [Bool.false_eq_true, if_false]
     refine Ev.bind ih ?_
     have s1 : (str a).size + 2 ≤ 9223372036854775807 := by omega
     simp only [if_pos s1]
     have : str a ++ (⟨#[94, 119]⟩ : ByteArray) = str (.om a) := by simp [str, hv, brk]
     rw [this]
     exact Ev.now _
 | .mul a b, hw, h => by
  have hlen : (toL (.mul a b)).length = (toL a ++ toL b).length + 1 := by simp [toL]; omega
  have hab : (toL a ++ toL b).length = (toL a).length + (toL b).length := by simp
  have hla : (toL a).length ≤ 400 := by omega
  have hlb : (toL b).length ≤ 400 := by omega
  have hpos := toL_pos b
  have hl : wrap64 (((toL (.mul a b)).length : Int) - 1) = ((toL a ++ toL b).length : Int) := by
   rw [w64 (by omega) (by omega)]; omega
  have hr : rd_T97 (toL (.mul a b)) ((toL a ++ toL b).length : Int) = ⟨3, 0⟩ := rd_at (toL a ++ toL b) ⟨3, 0⟩ []
  have hl2 : wrap64 (((toL b).length : Int) - 1) = ((toL b).length : Int) - 1 := w64 (by omega) (by omega)
  have hs := root_several b hlb
  have hza := str_size a
  have hzb := str_size b
  have iha := text_ok a hw.1 hla
  have ihb := text_ok b hw.2 hlb
  have hc := cut_ok (.mul a b) h
  refine Ev.step (g := fun k => eggboxref19_text.f k (toL (.mul a b))) (f := fun k => (eggboxref19_Cut.f k (toL (.mul a b))).bind fun t162 => (if 1 < (t162.length : Int) then (if 0 ≤ (wrap64 (((rd_L3 t162 1).length : Int) - 1)) then (if (wrap64 (((rd_L3 t162 1).length : Int) - 1)) < ((rd_L3 t162 1).length : Int) then (if ((rd_T97 (rd_L3 t162 1) (wrap64 (((rd_L3 t162 1).length : Int) - 1))).f0) = 3 then (if 0 < (t162.length : Int) then ((eggboxref19_text.f k (rd_L3 t162 0)).bind fun t179 => (if t179.size + 1 ≤ 9223372036854775807 then ((eggboxref19_text.f k (rd_L3 t162 1)).bind fun t181 => (if (t179 ++ (⟨#[40]⟩ : ByteArray)).size + t181.size ≤ 9223372036854775807 then (if ((t179 ++ (⟨#[40]⟩ : ByteArray)) ++ t181).size + 1 ≤ 9223372036854775807 then (some (((t179 ++ (⟨#[40]⟩ : ByteArray)) ++ t181) ++ (⟨#[41]⟩ : ByteArray))) else (none)) else (none))) else (none))) else (none)) else (if 0 < (t162.length : Int) then ((eggboxref19_text.f k (rd_L3 t162 0)).bind fun t183 => ((eggboxref19_text.f k (rd_L3 t162 1)).bind fun t185 => (if t183.size + t185.size ≤ 9223372036854775807 then (some (t183 ++ t185)) else (none)))) else (none))) else (none)) else (none)) else (none))) (fun k => ?_) ?_
  · simp only [eggboxref19_text.f, hl, hr]
    rw [if_pos (by omega), if_pos (by omega)]
    simp
  · refine Ev.bind hc ?_
    show Ev (fun k => if 1 < (([toL a, toL b] : List (List S97)).length : Int) then (if 0 ≤ (wrap64 (((toL b).length : Int) - 1)) then (if (wrap64 (((toL b).length : Int) - 1)) < ((toL b).length : Int) then (if ((rd_T97 (toL b) (wrap64 (((toL b).length : Int) - 1))).f0) = 3 then (if 0 < (([toL a, toL b] : List (List S97)).length : Int) then ((eggboxref19_text.f k (toL a)).bind fun t179 => (if t179.size + 1 ≤ 9223372036854775807 then ((eggboxref19_text.f k (toL b)).bind fun t181 => (if (t179 ++ (⟨#[40]⟩ : ByteArray)).size + t181.size ≤ 9223372036854775807 then (if ((t179 ++ (⟨#[40]⟩ : ByteArray)) ++ t181).size + 1 ≤ 9223372036854775807 then (some (((t179 ++ (⟨#[40]⟩ : ByteArray)) ++ t181) ++ (⟨#[41]⟩ : ByteArray))) else (none)) else (none))) else (none))) else (none)) else (if 0 < (([toL a, toL b] : List (List S97)).length : Int) then ((eggboxref19_text.f k (toL a)).bind fun t183 => ((eggboxref19_text.f k (toL b)).bind fun t185 => (if t183.size + t185.size ≤ 9223372036854775807 then (some (t183 ++ t185)) else (none)))) else (none))) else (none)) else (none)) else (none)) (str (.mul a b))
    have g0 : 0 < (([toL a, toL b] : List (List S97)).length : Int) := by simp
    have g1 : 1 < (([toL a, toL b] : List (List S97)).length : Int) := by simp
    have g2 : 0 ≤ wrap64 (((toL b).length : Int) - 1) := by omega
    have g3 : wrap64 (((toL b).length : Int) - 1) < ((toL b).length : Int) := by omega
    simp only [if_pos g0, if_pos g1, if_pos g2, if_pos g3, hs]
    cases hv : several b with
    | true =>
     simp only [if_true]
     refine Ev.bind iha ?_
     have s1 : (str a).size + 1 ≤ 9223372036854775807 := by omega
     simp only [if_pos s1]
     refine Ev.bind ihb ?_
     have s2 : (str a ++ (⟨#[40]⟩ : ByteArray)).size + (str b).size ≤ 9223372036854775807 := by
      rw [ByteArray.size_append]; show (str a).size + 1 + (str b).size ≤ _; omega
     have s3 : ((str a ++ (⟨#[40]⟩ : ByteArray)) ++ str b).size + 1 ≤ 9223372036854775807 := by
      rw [ByteArray.size_append, ByteArray.size_append]; show (str a).size + 1 + (str b).size + 1 ≤ _; omega
     simp only [if_pos s2, if_pos s3]
     have : ((str a ++ (⟨#[40]⟩ : ByteArray)) ++ str b) ++ (⟨#[41]⟩ : ByteArray) = str (.mul a b) := by
      simp [str, hv, brk, ByteArray.append_assoc]
     rw [this]
     exact Ev.now _
    | false =>
     simp only [Bool.false_eq_true, if_false]
     refine Ev.bind iha ?_
     refine Ev.bind ihb ?_
     have s1 : (str a).size + (str b).size ≤ 9223372036854775807 := by omega
     simp only [if_pos s1]
     have : str a ++ str b = str (.mul a b) := by simp [str, hv, brk]
     rw [this]
     exact Ev.now _
theorem rprint_ok (a c : T) (b : Bool) (ha : a.wf) (hc : c.wf) (h1 : (toL a).length ≤ 400) (h2 : (toL c).length ≤ 400) (h0 : chk (toL a) (toL c) = 0) :
 Ev (fun k => eggboxref19_Print.f k (toL a) (toL c) b) (if 1000 < (txt a c b).size then (⟨#[]⟩, 6) else (txt a c b, 0)) := by
 have hk := rcheck_ok (toL a) (toL c) b
 rw [h0] at hk
 have sa := str_size a
 have sc := str_size c
 have ss := sg_size b
 unfold eggboxref19_Print.f
 refine Ev.bind hk ?_
 simp only [if_true]
 have key : Ev (fun k => eggboxref19_Print.j0 k (sg b) (toL a) (toL c) b) (if 1000 < (txt a c b).size then (⟨#[]⟩, 6) else (txt a c b, 0)) := by
  refine Ev.step (f := fun k => (eggboxref19_text.f k (toL a)).bind fun t188 => (if t188.size + (sg b).size ≤ 9223372036854775807 then ((eggboxref19_text.f k (toL c)).bind fun t189 => (if (t188 ++ (sg b)).size + t189.size ≤ 9223372036854775807 then (if (((t188 ++ (sg b)) ++ t189).size : Int) > 1000 then (some ((⟨#[]⟩ : ByteArray), 6)) else (some ((t188 ++ (sg b)) ++ t189, 0))) else (none))) else (none))) (fun k => by simp only [eggboxref19_Print.j0]) ?_
  refine Ev.bind (text_ok a ha h1) ?_
  have s1 : (str a).size + (sg b).size ≤ 9223372036854775807 := by omega
  simp only [if_pos s1]
  refine Ev.bind (text_ok c hc h2) ?_
  have s2 : (str a ++ sg b).size + (str c).size ≤ 9223372036854775807 := by rw [ByteArray.size_append]; omega
  simp only [if_pos s2]
  show Ev (fun _ => if ((txt a c b).size : Int) > 1000 then some ((⟨#[]⟩ : ByteArray), 6) else some (txt a c b, 0)) _
  by_cases hz : 1000 < (txt a c b).size
  · have : ((txt a c b).size : Int) > 1000 := by omega
    simp only [if_pos hz, if_pos this]
    exact Ev.now _
  · have : ¬ ((txt a c b).size : Int) > 1000 := by omega
    simp only [if_neg hz, if_neg this]
    exact Ev.now _
 cases b with
 | true => exact key
 | false => exact key
end Go.Proofs.Ytcbkihhpnndpkaa.HRefLaw
