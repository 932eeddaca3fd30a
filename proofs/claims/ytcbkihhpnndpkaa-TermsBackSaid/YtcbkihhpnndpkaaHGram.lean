/- What is printed is parsed as it was; what is parsed is a pair of trees. -/
import Derived.Test.YtcbkihhpnndpkaaHStr
import Derived.Test.YtcbkihhpnndpkaaQ3
set_option linter.unusedVariables false
set_option linter.unusedSimpArgs false
namespace Go.Proofs.Ytcbkihhpnndpkaa.HGram
open Go.RowKit Go.Proofs.YtcbkihhpnndpkaaW.PrintWords Go.Proofs.YtcbkihhpnndpkaaW.PrintLast Go.Proofs.YtcbkihhpnndpkaaW.PrintMore
open Go.Proofs.Ytcbkihhpnndpkaa.HTake (takeP bt_get)
open Go.Proofs.Ytcbkihhpnndpkaa Go.Proofs.Ytcbkihhpnndpkaa.PA Go.Proofs.Ytcbkihhpnndpkaa.HRead Go.Proofs.Ytcbkihhpnndpkaa.HAtom Go.Proofs.Ytcbkihhpnndpkaa.HSpell Go.Proofs.Ytcbkihhpnndpkaa.HTree Go.Proofs.Ytcbkihhpnndpkaa.HStr Go.Proofs.Ytcbkihhpnndpkaa.HIdent Go.Proofs.Ytcbkihhpnndpkaa.HParsed Go.Proofs.Ytcbkihhpnndpkaa.HRefSide

/-- w stands in s at a. -/
def At (s : ByteArray) (a : Nat) (w : ByteArray) : Prop := a + w.size ≤ s.size ∧ ∀ i : Nat, i < w.size → bt s ((a + i : Nat) : Int) = bt w (i : Int)
theorem bt_l (x y : ByteArray) (i : Nat) (h : i < x.size) : bt (x ++ y) (i : Int) = bt x (i : Int) := by
  rw [bt_get _ _ (by rw [ByteArray.size_append]; omega), bt_get _ _ h, ByteArray.getElem_append_left h]
theorem bt_r (x y : ByteArray) (i : Nat) (h : i < y.size) : bt (x ++ y) ((x.size + i : Nat) : Int) = bt y (i : Int) := by
  rw [bt_get _ _ (by rw [ByteArray.size_append]; omega), bt_get _ _ h, ByteArray.getElem_append_right (by omega)]
  congr 2
  congr 1
  omega
theorem At_app {s : ByteArray} {a : Nat} {x y : ByteArray} (h : At s a (x ++ y)) : At s a x ∧ At s (a + x.size) y := by
  obtain ⟨h1, h2⟩ := h
  rw [ByteArray.size_append] at h1
  refine ⟨⟨by omega, fun i hi => ?_⟩, ⟨by omega, fun i hi => ?_⟩⟩
  · rw [h2 i (by rw [ByteArray.size_append]; omega), bt_l x y i hi]
  · have := h2 (x.size + i) (by rw [ByteArray.size_append]; omega)
    rw [bt_r x y i hi] at this
    rw [show a + x.size + i = a + (x.size + i) by omega]
    exact this
theorem At_self (s : ByteArray) : At s 0 s := ⟨by omega, fun i _ => by rw [Nat.zero_add]⟩
theorem At_one {s : ByteArray} {a : Nat} {c : UInt8} (h : At s a ⟨#[c]⟩) : a < s.size ∧ bt s (a : Int) = (c.toNat : Int) := by
  have e : (⟨#[c]⟩ : ByteArray).size = 1 := rfl
  obtain ⟨h1, h2⟩ := h
  rw [e] at h1
  exact ⟨by omega, h2 0 (by rw [e]; omega)⟩
theorem ch_of {s : ByteArray} {a : Nat} (h : a < s.size) : ch s a = bt s (a : Int) := by unfold ch; rw [if_pos h]
theorem lk_nb {s : ByteArray} {a : Nat} (h : bt s (a : Int) ≠ 32) : lk s a = a := lk_here s a (fun q => h q.2)
theorem lk_end (s : ByteArray) : lk s s.size = s.size := lk_here s _ (fun q => by have := q.1; omega)
theorem ch_end (s : ByteArray) : ch s s.size = 0 := by unfold ch; rw [if_neg (by omega)]
theorem take_of {s : ByteArray} {a : Nat} {c : Int} (h1 : a < s.size) (h2 : bt s (a : Int) = c) : takeP s a c = true := by
  simp only [takeP, decide_eq_true_eq]
  exact ⟨h1, h2⟩

/-! ### More fuel tells the same -/
theorem powL_mono (s : ByteArray) : ∀ f l a r, powL s f l a = some r → powL s (f + 1) l a = some r
  | 0, _, _, _, h => by simp [powL] at h
  | f + 1, l, a, r, h => by
    unfold powL at h ⊢
    by_cases hc : ch s (lk s a) = 94
    · rw [if_pos hc] at h ⊢
      cases ht : takeP s (lk s a + 1) 119 with
      | true => rw [ht, if_pos rfl] at h; rw [if_pos rfl]; exact powL_mono s f _ _ _ h
      | false => rw [ht, if_neg (by simp)] at h; rw [if_neg (by simp)]; exact h
    · rw [if_neg hc] at h ⊢; exact h
theorem mono (s : ByteArray) : ∀ f, (∀ a r, atomP s f a = some r → atomP s (f + 1) a = some r) ∧ (∀ a r, powerP s f a = some r → powerP s (f + 1) a = some r) ∧
    (∀ a r, sideP s f a = some r → sideP s (f + 1) a = some r) ∧ (∀ l a r, sideL s f l a = some r → sideL s (f + 1) l a = some r)
  | 0 => ⟨fun a r h => by simp [atomP] at h, fun a r h => by simp [powerP] at h, fun a r h => by simp [sideP] at h, fun l a r h => by simp [sideL] at h⟩
  | f + 1 => by
    obtain ⟨i1, i2, i3, i4⟩ := mono s f
    refine ⟨fun a r h => ?_, fun a r h => ?_, fun a r h => ?_, fun l a r h => ?_⟩
    · unfold atomP at h ⊢
      by_cases h1 : ch s (lk s a) = 49
      · rw [if_pos h1] at h ⊢; exact h
      · rw [if_neg h1] at h ⊢
        by_cases h2 : ch s (lk s a) = 40
        · rw [if_pos h2] at h ⊢
          cases hq : sideP s f (lk s a + 1) with
          | none => rw [hq] at h; cases h
          | some q => rw [hq] at h; rw [i3 _ _ hq]; exact h
        · rw [if_neg h2] at h ⊢; exact h
    · unfold powerP at h ⊢
      cases hq : atomP s f a with
      | none => rw [hq] at h; cases h
      | some q =>
        rw [hq] at h; rw [i1 _ _ hq]
        cases q with
        | broke p => exact h
        | read l d => exact powL_mono s f _ _ _ h
    · unfold sideP at h ⊢
      cases hq : powerP s f a with
      | none => rw [hq] at h; cases h
      | some q =>
        rw [hq] at h; rw [i2 _ _ hq]
        cases q with
        | broke p => exact h
        | read l d => exact i4 _ _ _ h
    · unfold sideL at h ⊢
      cases hb : begins (ch s (lk s a)) with
      | false => rw [hb, if_neg (by simp)] at h; rw [if_neg (by simp)]; exact h
      | true =>
        rw [hb, if_pos rfl] at h; rw [if_pos rfl]
        cases hq : powerP s f (lk s a) with
        | none => rw [hq] at h; cases h
        | some q =>
          rw [hq] at h; rw [i2 _ _ hq]
          cases q with
          | broke p => exact h
          | read m d => exact i4 _ _ _ h
theorem up {α : Type} {g : Nat → Option α} (hg : ∀ f r, g f = some r → g (f + 1) = some r) {f f' : Nat} (h : f ≤ f') {r : α} (hr : g f = some r) : g f' = some r := by
  induction f' with
  | zero => obtain rfl : f = 0 := by omega
            exact hr
  | succ n ih =>
    by_cases e : f = n + 1
    · subst e; exact hr
    · exact hg _ _ (ih (by omega))

def A (s : ByteArray) (a : Nat) (r : Rd) : Prop := ∃ f, atomP s f a = some r
def P (s : ByteArray) (a : Nat) (r : Rd) : Prop := ∃ f, powerP s f a = some r
def S (s : ByteArray) (a : Nat) (r : Rd) : Prop := ∃ f, sideP s f a = some r
def SL (s : ByteArray) (l : List S97) (a : Nat) (r : Rd) : Prop := ∃ f, sideL s f l a = some r
def W (s : ByteArray) (l : List S97) (a : Nat) (r : Rd) : Prop := ∃ f, powL s f l a = some r
theorem A_one {s : ByteArray} {a : Nat} (h : ch s (lk s a) = 49) : A s a (.read [⟨1, 0⟩] (lk s a + 1)) := ⟨1, by unfold atomP; rw [if_pos h]⟩
theorem A_var {s : ByteArray} {a : Nat} (h1 : ch s (lk s a) ≠ 49) (h2 : ch s (lk s a) ≠ 40) (h3 : ¬ (ch s (lk s a) = 0 ∨ pl (ch s (lk s a)) < 0)) : A s a (.read [⟨2, ch s (lk s a)⟩] (lk s a + 1)) :=
  ⟨1, by unfold atomP; rw [if_neg h1, if_neg h2, if_neg h3]⟩
theorem A_br {s : ByteArray} {a d : Nat} {l : List S97} (h : ch s (lk s a) = 40) (hS : S s (lk s a + 1) (.read l d)) (ht : takeP s (lk s d) 41 = true) : A s a (.read l (lk s d + 1)) := by
  obtain ⟨f, hf⟩ := hS
  refine ⟨f + 1, ?_⟩
  unfold atomP
  rw [if_neg (by omega), if_pos h, hf]
  simp only
  rw [if_pos ht]
theorem P_of {s : ByteArray} {a d : Nat} {l : List S97} {r : Rd} (hA : A s a (.read l d)) (hW : W s l d r) : P s a r := by
  obtain ⟨f, hf⟩ := hA
  obtain ⟨g, hg⟩ := hW
  refine ⟨max f g + 1, ?_⟩
  unfold powerP
  rw [up (g := fun f => atomP s f a) (fun f r => (mono s f).1 a r) (Nat.le_max_left f g) hf]
  exact up (g := fun f => powL s f l d) (fun f r => powL_mono s f l d r) (Nat.le_max_right f g) hg
theorem S_of {s : ByteArray} {a d : Nat} {l : List S97} {r : Rd} (hP : P s a (.read l d)) (hL : SL s l d r) : S s a r := by
  obtain ⟨f, hf⟩ := hP
  obtain ⟨g, hg⟩ := hL
  refine ⟨max f g + 1, ?_⟩
  unfold sideP
  rw [up (g := fun f => powerP s f a) (fun f r => (mono s f).2.1 a r) (Nat.le_max_left f g) hf]
  exact up (g := fun f => sideL s f l d) (fun f r => (mono s f).2.2.2 l d r) (Nat.le_max_right f g) hg
theorem SL_end {s : ByteArray} {a : Nat} {l : List S97} (h : begins (ch s (lk s a)) = false) : SL s l a (.read l (lk s a)) := ⟨1, by unfold sideL; rw [h, if_neg (by simp)]⟩
theorem SL_more {s : ByteArray} {a d : Nat} {l m : List S97} {r : Rd} (h : begins (ch s (lk s a)) = true) (hP : P s (lk s a) (.read m d)) (hL : SL s (l ++ m ++ [⟨3, 0⟩]) d r) : SL s l a r := by
  obtain ⟨f, hf⟩ := hP
  obtain ⟨g, hg⟩ := hL
  refine ⟨max f g + 1, ?_⟩
  unfold sideL
  rw [h, if_pos rfl, up (g := fun f => powerP s f (lk s a)) (fun f r => (mono s f).2.1 _ r) (Nat.le_max_left f g) hf]
  exact up (g := fun f => sideL s f _ d) (fun f r => (mono s f).2.2.2 _ d r) (Nat.le_max_right f g) hg
theorem W_end {s : ByteArray} {a : Nat} {l : List S97} (h : ch s (lk s a) ≠ 94) : W s l a (.read l (lk s a)) := ⟨1, by unfold powL; rw [if_neg h]⟩
theorem W_more {s : ByteArray} {a : Nat} {l : List S97} {r : Rd} (h : ch s (lk s a) = 94) (ht : takeP s (lk s a + 1) 119 = true) (hW : W s (l ++ [⟨4, 0⟩]) (lk s a + 2) r) : W s l a r := by
  obtain ⟨f, hf⟩ := hW
  exact ⟨f + 1, by unfold powL; rw [if_pos h, if_pos ht]; exact hf⟩

/-! ### The first byte of a side -/
def okc (c : Int) : Prop := c = 49 ∨ c = 40 ∨ isName c = true
theorem okc_facts {c : Int} (h : okc c) : c ≠ 32 ∧ c ≠ 94 ∧ begins c = true := by
  rcases h with rfl | rfl | h
  · exact ⟨by decide, by decide, by rfl⟩
  · exact ⟨by decide, by decide, by rfl⟩
  · have hb := name_byte c h
    have hp := (pl_name c hb.1 hb.2).2 h
    simp only [isName, decide_eq_true_eq] at h
    refine ⟨by omega, by omega, ?_⟩
    simp only [begins, decide_eq_true_eq]
    omega
theorem letter_toNat (c : Int) (h : isName c = true) : ((c.toNat.toUInt8).toNat : Int) = c := by
  simp only [isName, decide_eq_true_eq] at h
  rcases h with rfl | rfl | rfl | rfl <;> rfl
theorem head_brk_of {s : ByteArray} {e : Nat} {w : ByteArray} {b : Bool} (h : At s e (brk w b)) (hw : At s e w → e < s.size ∧ okc (bt s (e : Int))) : e < s.size ∧ okc (bt s (e : Int)) := by
  unfold brk at h
  cases b with
  | false => exact hw h
  | true =>
    rw [if_pos rfl] at h
    have h1 := At_one (At_app (At_app h).1).1
    exact ⟨h1.1, .inr (.inl h1.2)⟩
theorem head : ∀ (t : T), t.wf → ∀ {s : ByteArray} {e : Nat}, At s e (str t) → e < s.size ∧ okc (bt s (e : Int))
  | .one, _, s, e, h => by have h1 := At_one h; exact ⟨h1.1, .inl h1.2⟩
  | .var c, hw, s, e, h => by
    have h1 := At_one (c := c.toNat.toUInt8) h
    rw [letter_toNat c hw] at h1
    exact ⟨h1.1, .inr (.inr (by rw [h1.2]; exact hw))⟩
  | .mul a b, hw, s, e, h => head a hw.1 (At_app h).1
  | .om a, hw, s, e, h => head_brk_of (At_app h).1 (fun q => head a hw q)
theorem head_brk (t : T) (hw : t.wf) {s : ByteArray} {e : Nat} (h : At s e (brk (str t) (several t))) : e < s.size ∧ okc (bt s (e : Int)) := head_brk_of h (fun q => head t hw q)

theorem two_of_one {s : ByteArray} {t : T} (hs : several t = false)
    (h : ∀ a r, At s (lk s a) (brk (str t) (several t)) → W s (toL t) (lk s a + (brk (str t) (several t)).size) r → P s a r) :
    ∀ a r, At s (lk s a) (str t) → ch s (lk s (lk s a + (str t).size)) ≠ 94 → SL s (toL t) (lk s (lk s a + (str t).size)) r → S s a r := by
  intro a r hA h94 hL
  rw [hs] at h
  exact S_of (h a _ hA (W_end h94)) hL

theorem gram (s : ByteArray) : ∀ (t : T), t.wf →
    (∀ a r, At s (lk s a) (brk (str t) (several t)) → W s (toL t) (lk s a + (brk (str t) (several t)).size) r → P s a r) ∧
    (∀ a r, At s (lk s a) (str t) → ch s (lk s (lk s a + (str t).size)) ≠ 94 → SL s (toL t) (lk s (lk s a + (str t).size)) r → S s a r)
  | .one, _ => by
    have h1 : ∀ a r, At s (lk s a) (brk (str .one) (several .one)) → W s (toL .one) (lk s a + (brk (str .one) (several .one)).size) r → P s a r := by
      intro a r hA hW
      have h1 := At_one (c := 49) hA
      exact P_of (A_one (by rw [ch_of h1.1]; exact h1.2)) hW
    exact ⟨h1, two_of_one rfl h1⟩
  | .var c, hw => by
    have hw' : isName c = true := hw
    have hb := name_byte c hw'
    have hp := (pl_name c hb.1 hb.2).2 hw'
    have h1 : ∀ a r, At s (lk s a) (brk (str (.var c)) (several (.var c))) → W s (toL (.var c)) (lk s a + (brk (str (.var c)) (several (.var c))).size) r → P s a r := by
      intro a r hA hW
      have h1 := At_one (c := c.toNat.toUInt8) hA
      rw [letter_toNat c hw'] at h1
      have e : ch s (lk s a) = c := by rw [ch_of h1.1]; exact h1.2
      have hv := hw'
      simp only [isName, decide_eq_true_eq] at hv
      have hA2 := A_var (s := s) (a := a) (by omega) (by omega) (by rw [e]; omega)
      rw [e] at hA2
      exact P_of hA2 hW
    exact ⟨h1, two_of_one rfl h1⟩
  | .om x, hw => by
    obtain ⟨i1, i2⟩ := gram s x hw
    have h1 : ∀ a r, At s (lk s a) (brk (str (.om x)) (several (.om x))) → W s (toL (.om x)) (lk s a + (brk (str (.om x)) (several (.om x))).size) r → P s a r := by
      intro a r hA hW
      have hA' : At s (lk s a) (brk (str x) (several x) ++ (⟨#[94, 119]⟩ : ByteArray)) := hA
      obtain ⟨hx, ⟨q1, q2⟩⟩ := At_app hA'
      have e2 : (⟨#[94, 119]⟩ : ByteArray).size = 2 := rfl
      rw [e2] at q1 q2
      have b0 := q2 0 (by omega)
      have b1 := q2 1 (by omega)
      have c0 : bt s ((lk s a + (brk (str x) (several x)).size : Nat) : Int) = 94 := b0
      have c1 : bt s ((lk s a + (brk (str x) (several x)).size + 1 : Nat) : Int) = 119 := b1
      have el : lk s (lk s a + (brk (str x) (several x)).size) = lk s a + (brk (str x) (several x)).size := lk_nb (by rw [c0]; decide)
      refine i1 a r hx (W_more (by rw [el, ch_of (by omega)]; exact c0) (by rw [el]; exact take_of (by omega) c1) ?_)
      rw [el]
      have hW' : W s (toL x ++ [⟨4, 0⟩]) (lk s a + ((brk (str x) (several x)).size + 2)) r := by
        have : (brk (str (.om x)) (several (.om x))).size = (brk (str x) (several x)).size + 2 := by
          show (brk (str x) (several x) ++ (⟨#[94, 119]⟩ : ByteArray)).size = _
          rw [ByteArray.size_append, e2]
        rw [this] at hW
        exact hW
      rw [← Nat.add_assoc] at hW'
      exact hW'
    exact ⟨h1, two_of_one rfl h1⟩
  | .mul x y, hw => by
    obtain ⟨i1, i2⟩ := gram s x hw.1
    obtain ⟨j1, j2⟩ := gram s y hw.2
    have h2 : ∀ a r, At s (lk s a) (str (.mul x y)) → ch s (lk s (lk s a + (str (.mul x y)).size)) ≠ 94 → SL s (toL (.mul x y)) (lk s (lk s a + (str (.mul x y)).size)) r → S s a r := by
      intro a r hA h94 hL
      have hA' : At s (lk s a) (str x ++ brk (str y) (several y)) := hA
      obtain ⟨hx, hy⟩ := At_app hA'
      have hy' := head_brk y hw.2 hy
      have ho := okc_facts hy'.2
      have el : lk s (lk s a + (str x).size) = lk s a + (str x).size := lk_nb ho.1
      have es : lk s a + (str (.mul x y)).size = lk s a + (str x).size + (brk (str y) (several y)).size := by
        show lk s a + (str x ++ brk (str y) (several y)).size = _
        rw [ByteArray.size_append]; omega
      rw [es] at h94 hL
      refine i2 a r hx (by rw [el, ch_of hy'.1]; exact ho.2.1) (SL_more (m := toL y) (d := lk s (lk s a + (str x).size + (brk (str y) (several y)).size)) ?_ ?_ hL)
      · rw [el, el, ch_of hy'.1]; exact ho.2.2
      · rw [el, el]
        refine j1 _ _ (by rw [el]; exact hy) ?_
        rw [el]
        exact W_end h94
    refine ⟨fun a r hA hW => ?_, h2⟩
    have hA' : At s (lk s a) (((⟨#[40]⟩ : ByteArray) ++ str (.mul x y)) ++ (⟨#[41]⟩ : ByteArray)) := hA
    obtain ⟨hB, hC⟩ := At_app hA'
    obtain ⟨hD, hE⟩ := At_app hB
    have d1 := At_one hD
    have e1 : (⟨#[40]⟩ : ByteArray).size = 1 := rfl
    rw [ByteArray.size_append, e1] at hC
    rw [e1] at hE
    have c1 := At_one hC
    have c2 : bt s ((lk s a + 1 + (str (.mul x y)).size : Nat) : Int) = 41 := by rw [show lk s a + 1 + (str (.mul x y)).size = lk s a + (1 + (str (.mul x y)).size) by omega]; exact c1.2
    have hh := okc_facts (head (.mul x y) hw hE).2
    have el : lk s (lk s a + 1) = lk s a + 1 := lk_nb hh.1
    have ep : lk s (lk s a + 1 + (str (.mul x y)).size) = lk s a + 1 + (str (.mul x y)).size := lk_nb (by rw [c2]; decide)
    have hp : lk s a + 1 + (str (.mul x y)).size < s.size := by have := c1.1; omega
    have hS := h2 (lk s a + 1) (.read (toL (.mul x y)) (lk s (lk s a + 1 + (str (.mul x y)).size))) (by rw [el]; exact hE) (by rw [el, ep, ch_of hp, c2]; decide) (by
      rw [el]
      have := SL_end (s := s) (a := lk s (lk s a + 1 + (str (.mul x y)).size)) (l := toL (.mul x y)) (by rw [ep, ep, ch_of hp, c2]; rfl)
      rw [lk_lk] at this
      exact this)
    have hAt := A_br (by rw [ch_of d1.1]; exact d1.2) hS (by rw [ep, ep]; exact take_of hp c2)
    refine P_of hAt ?_
    rw [ep, ep]
    have : (brk (str (.mul x y)) (several (.mul x y))).size = (str (.mul x y)).size + 2 := by rw [brk_size]; rfl
    rw [this] at hW
    rw [show lk s a + 1 + (str (.mul x y)).size + 1 = lk s a + ((str (.mul x y)).size + 2) by omega]
    exact hW

theorem S_top {s : ByteArray} (hs : s.size ≤ 1000) {a : Nat} (ha : a ≤ s.size) {r : Rd} (h : S s a r) : sideP s 4096 a = some r := by
  obtain ⟨r', hr⟩ := side_total s hs a ha
  obtain ⟨f, hf⟩ := h
  have q1 := up (g := fun f => sideP s f a) (fun f r => (mono s f).2.2.1 a r) (Nat.le_max_left f 4096) hf
  have q2 := up (g := fun f => sideP s f a) (fun f r => (mono s f).2.2.1 a r) (Nat.le_max_right f 4096) hr
  rw [q1] at q2
  rw [hr, ← q2]

theorem begins_no : begins 0 = false ∧ begins 61 = false ∧ begins 60 = false := ⟨by decide +kernel, by decide +kernel, by decide +kernel⟩

theorem last_side {s : ByteArray} (t : T) (hw : t.wf) {a : Nat} (hA : At s (lk s a) (str t)) (he : lk s a + (str t).size = s.size) : S s a (.read (toL t) s.size) := by
  refine (gram s t hw).2 a _ hA ?_ ?_
  · rw [he, lk_end, ch_end]; decide
  · rw [he, lk_end]
    have := SL_end (s := s) (a := s.size) (l := toL t) (by rw [lk_end, ch_end]; exact begins_no.1)
    rw [lk_end] at this
    exact this

theorem parse_txt (L R : T) (b : Bool) (hL : L.wf) (hR : R.wf) (h1 : (toL L).length ≤ 400) (h2 : (toL R).length ≤ 400) (hz : (txt L R b).size ≤ 1000) :
    parseP (txt L R b) 4096 = some ⟨toL L, toL R, b, 0, 0⟩ := by
  have key : idP (txt L R b) 4096 = some (.read (toL L) (toL R) b) := by
    have hA := At_self (txt L R b)
    have hsz : (txt L R b).size = (str L).size + (sg b).size + (str R).size := by unfold txt; rw [ByteArray.size_append, ByteArray.size_append]
    have hA' : At (txt L R b) 0 ((str L ++ sg b) ++ str R) := hA
    obtain ⟨hB, hC⟩ := At_app hA'
    obtain ⟨hD, hE⟩ := At_app hB
    rw [ByteArray.size_append, Nat.zero_add] at hC
    rw [Nat.zero_add] at hE
    generalize txt L R b = s at *
    have hh := head L hL hD
    have ho := okc_facts hh.2
    have l0 : lk s 0 = 0 := lk_nb ho.1
    have hr := head R hR hC
    have hro := okc_facts hr.2
    obtain ⟨q1, q2⟩ := hE
    unfold idP
    cases b with
    | false =>
      have e3 : (sg false).size = 3 := rfl
      rw [e3] at q1 q2 hC hsz hr hro
      have b0 : bt s (((str L).size : Nat) : Int) = 32 := q2 0 (by omega)
      have b1 : bt s (((str L).size + 1 : Nat) : Int) = 61 := q2 1 (by omega)
      have b2 : bt s (((str L).size + 2 : Nat) : Int) = 32 := q2 2 (by omega)
      have k1 : lk s ((str L).size + 1) = (str L).size + 1 := lk_nb (by rw [b1]; decide)
      have k0 : lk s (str L).size = (str L).size + 1 := by rw [lk_step s _ (by omega) b0, k1]
      have k3 : lk s ((str L).size + 3) = (str L).size + 3 := lk_nb hro.1
      have k2 : lk s ((str L).size + 2) = (str L).size + 3 := by rw [lk_step s _ (by omega) b2, k3]
      have c1 : ch s ((str L).size + 1) = 61 := by rw [ch_of (by omega)]; exact b1
      have hS1 : S s 0 (.read (toL L) ((str L).size + 1)) := by
        refine (gram s L hL).2 0 _ (by rw [l0]; exact hD) ?_ ?_
        · rw [l0, Nat.zero_add, k0, c1]; decide
        · rw [l0, Nat.zero_add, k0]
          have := SL_end (s := s) (a := (str L).size + 1) (l := toL L) (by rw [k1, c1]; exact begins_no.2.1)
          rw [k1] at this
          exact this
      have hS2 := last_side R hR (s := s) (a := (str L).size + 2) (by rw [k2]; exact hC) (by rw [k2]; omega)
      rw [S_top hz (by omega) hS1]
      simp only
      rw [k1, c1, if_pos rfl]
      unfold endP
      rw [S_top hz (by omega) hS2]
      simp only
      rw [lk_end, if_neg (by omega)]
    | true =>
      have e3 : (sg true).size = 4 := rfl
      rw [e3] at q1 q2 hC hsz hr hro
      have b0 : bt s (((str L).size : Nat) : Int) = 32 := q2 0 (by omega)
      have b1 : bt s (((str L).size + 1 : Nat) : Int) = 60 := q2 1 (by omega)
      have b2 : bt s (((str L).size + 2 : Nat) : Int) = 61 := q2 2 (by omega)
      have b3 : bt s (((str L).size + 3 : Nat) : Int) = 32 := q2 3 (by omega)
      have k1 : lk s ((str L).size + 1) = (str L).size + 1 := lk_nb (by rw [b1]; decide)
      have k0 : lk s (str L).size = (str L).size + 1 := by rw [lk_step s _ (by omega) b0, k1]
      have k4 : lk s ((str L).size + 4) = (str L).size + 4 := lk_nb hro.1
      have k3 : lk s ((str L).size + 3) = (str L).size + 4 := by rw [lk_step s _ (by omega) b3, k4]
      have c1 : ch s ((str L).size + 1) = 60 := by rw [ch_of (by omega)]; exact b1
      have hS1 : S s 0 (.read (toL L) ((str L).size + 1)) := by
        refine (gram s L hL).2 0 _ (by rw [l0]; exact hD) ?_ ?_
        · rw [l0, Nat.zero_add, k0, c1]; decide
        · rw [l0, Nat.zero_add, k0]
          have := SL_end (s := s) (a := (str L).size + 1) (l := toL L) (by rw [k1, c1]; exact begins_no.2.2)
          rw [k1] at this
          exact this
      have hS2 := last_side R hR (s := s) (a := (str L).size + 3) (by rw [k3]; exact hC) (by rw [k3]; omega)
      rw [S_top hz (by omega) hS1]
      simp only
      rw [k1, c1, if_neg (by decide), if_pos rfl, if_pos (take_of (by omega) b2)]
      unfold endP
      rw [S_top hz (by omega) hS2]
      simp only
      rw [lk_end, if_neg (by omega)]
  unfold parseP
  rw [if_neg (by omega), key]
  simp only
  rw [if_neg (by omega)]

/-! ### What is parsed is good -/
def Tr (l : List S97) : Prop := ∃ t : T, t.wf ∧ l = toL t
theorem powL_tr (s : ByteArray) : ∀ f l a l' d, Tr l → powL s f l a = some (.read l' d) → Tr l'
  | 0, _, _, _, _, _, h => by simp [powL] at h
  | f + 1, l, a, l', d, hT, h => by
    unfold powL at h
    by_cases hc : ch s (lk s a) = 94
    · rw [if_pos hc] at h
      cases ht : takeP s (lk s a + 1) 119 with
      | true =>
        rw [ht, if_pos rfl] at h
        obtain ⟨t, h1, rfl⟩ := hT
        exact powL_tr s f _ _ _ _ ⟨.om t, h1, rfl⟩ h
      | false => rw [ht, if_neg (by simp)] at h; cases h
    · rw [if_neg hc] at h; cases h; exact hT
theorem tr (s : ByteArray) : ∀ f, (∀ a l d, atomP s f a = some (.read l d) → Tr l) ∧ (∀ a l d, powerP s f a = some (.read l d) → Tr l) ∧
    (∀ a l d, sideP s f a = some (.read l d) → Tr l) ∧ (∀ m a l d, Tr m → sideL s f m a = some (.read l d) → Tr l)
  | 0 => ⟨fun a l d h => by simp [atomP] at h, fun a l d h => by simp [powerP] at h, fun a l d h => by simp [sideP] at h, fun m a l d _ h => by simp [sideL] at h⟩
  | f + 1 => by
    obtain ⟨i1, i2, i3, i4⟩ := tr s f
    refine ⟨fun a l d h => ?_, fun a l d h => ?_, fun a l d h => ?_, fun m a l d hm h => ?_⟩
    · unfold atomP at h
      by_cases h1 : ch s (lk s a) = 49
      · rw [if_pos h1] at h; cases h; exact ⟨.one, trivial, rfl⟩
      · rw [if_neg h1] at h
        by_cases h2 : ch s (lk s a) = 40
        · rw [if_pos h2] at h
          cases hq : sideP s f (lk s a + 1) with
          | none => rw [hq] at h; cases h
          | some q =>
            rw [hq] at h
            cases q with
            | broke p => cases h
            | read l' d' =>
              simp only at h
              by_cases ht : takeP s (lk s d') 41 = true
              · rw [if_pos ht] at h; cases h; exact i3 _ _ _ hq
              · rw [if_neg ht] at h; cases h
        · rw [if_neg h2] at h
          by_cases h3 : ch s (lk s a) = 0 ∨ pl (ch s (lk s a)) < 0
          · rw [if_pos h3] at h; cases h
          · rw [if_neg h3] at h
            cases h
            have hr := ch_range s (lk s a)
            exact ⟨.var (ch s (lk s a)), (pl_name _ hr.1 hr.2).1 (by omega), rfl⟩
    · unfold powerP at h
      cases hq : atomP s f a with
      | none => rw [hq] at h; cases h
      | some q =>
        rw [hq] at h
        cases q with
        | broke p => cases h
        | read l' d' => exact powL_tr s f _ _ _ _ (i1 _ _ _ hq) h
    · unfold sideP at h
      cases hq : powerP s f a with
      | none => rw [hq] at h; cases h
      | some q =>
        rw [hq] at h
        cases q with
        | broke p => cases h
        | read l' d' => exact i4 _ _ _ _ (i2 _ _ _ hq) h
    · unfold sideL at h
      cases hb : begins (ch s (lk s a)) with
      | false => rw [hb, if_neg (by simp)] at h; cases h; exact hm
      | true =>
        rw [hb, if_pos rfl] at h
        cases hq : powerP s f (lk s a) with
        | none => rw [hq] at h; cases h
        | some q =>
          rw [hq] at h
          cases q with
          | broke p => cases h
          | read l' d' =>
            obtain ⟨t, h1, rfl⟩ := hm
            obtain ⟨u, h2, rfl⟩ := i2 _ _ _ hq
            exact i4 _ _ _ _ ⟨.mul t u, ⟨h1, h2⟩, rfl⟩ h
theorem parse_good (s : ByteArray) (r : Pd) (h : parseP s 4096 = some r) (he : r.e = 0) : Tr r.l ∧ Tr r.m := by
  unfold parseP at h
  by_cases hs : 1000 < s.size
  · rw [if_pos hs] at h
    obtain rfl := Option.some.inj h
    exact absurd he (by simp)
  · rw [if_neg hs] at h
    cases hi : idP s 4096 with
    | none => rw [hi] at h; cases h
    | some q =>
      rw [hi] at h
      cases q with
      | broke p => obtain rfl := Option.some.inj h; exact absurd he (by simp)
      | read l m b =>
        simp only at h
        by_cases hl : 400 < l.length ∨ 400 < m.length
        · rw [if_pos hl] at h
          obtain rfl := Option.some.inj h
          exact absurd he (by simp)
        · rw [if_neg hl] at h
          obtain rfl := Option.some.inj h
          have hend : ∀ (b' : Bool) (l' : List S97) (a : Nat), endP s 4096 l' b' a = some (.read l m b) → l' = l ∧ Tr m := by
            intro b' l' a hh
            unfold endP at hh
            cases hq : sideP s 4096 a with
            | none => rw [hq] at hh; cases hh
            | some q2 =>
              rw [hq] at hh
              cases q2 with
              | broke p => cases hh
              | read m2 d2 =>
                simp only at hh
                by_cases hd : lk s d2 < s.size
                · rw [if_pos hd] at hh; cases hh
                · rw [if_neg hd] at hh
                  cases hh
                  exact ⟨rfl, (tr s 4096).2.2.1 _ _ _ hq⟩
          unfold idP at hi
          cases hq : sideP s 4096 0 with
          | none => rw [hq] at hi; cases hi
          | some q1 =>
            rw [hq] at hi
            cases q1 with
            | broke p => cases hi
            | read l1 d1 =>
              have ht := (tr s 4096).2.2.1 _ _ _ hq
              simp only at hi
              by_cases g1 : ch s (lk s d1) = 61
              · rw [if_pos g1] at hi
                obtain ⟨rfl, h3⟩ := hend _ _ _ hi
                exact ⟨ht, h3⟩
              · rw [if_neg g1] at hi
                by_cases g2 : ch s (lk s d1) = 60
                · rw [if_pos g2] at hi
                  by_cases g3 : takeP s (lk s d1 + 1) 61 = true
                  · rw [if_pos g3] at hi
                    obtain ⟨rfl, h3⟩ := hend _ _ _ hi
                    exact ⟨ht, h3⟩
                  · rw [if_neg g3] at hi; cases hi
                · rw [if_neg g2] at hi; cases hi
end Go.Proofs.Ytcbkihhpnndpkaa.HGram
