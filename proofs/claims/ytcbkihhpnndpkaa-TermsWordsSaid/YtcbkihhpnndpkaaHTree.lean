/- Sides of identities as trees; what Check says of them, in the program and in the document's answer. -/
import Derived.Test.YtcbkihhpnndpkaaQ4
set_option linter.unusedVariables false
set_option linter.unusedSimpArgs false
namespace Go.Proofs.Ytcbkihhpnndpkaa.HTree
open Go.RowKit Go.Proofs.YtcbkihhpnndpkaaW.PrintWords Go.Proofs.YtcbkihhpnndpkaaW.PrintLast Go.Proofs.YtcbkihhpnndpkaaW.PrintMore
open Go.Proofs.Ytcbkihhpnndpkaa Go.Proofs.Ytcbkihhpnndpkaa.PA Go.Proofs.Ytcbkihhpnndpkaa.PG Go.Proofs.Ytcbkihhpnndpkaa.HRead Go.Proofs.Ytcbkihhpnndpkaa.HSpell

inductive T where
 | one
 | var (c : Int)
 | mul (a b : T)
 | om (a : T)
def T.wf : T → Prop
 | .one => True
 | .var c => isName c = true
 | .mul a b => a.wf ∧ b.wf
 | .om a => a.wf
def toL : T → List S97
 | .one => [⟨1, 0⟩]
 | .var c => [⟨2, c⟩]
 | .mul a b => toL a ++ toL b ++ [⟨3, 0⟩]
 | .om a => toL a ++ [⟨4, 0⟩]
/-- Is it a sign? -/
def gd (s : S97) : Bool := if s.f0 = 2 then decide (0 ≤ pl s.f1) else decide (1 ≤ s.f0 ∧ s.f0 ≤ 4 ∧ s.f1 = 0)
def ar (k : Int) : Nat := if k = 3 then 2 else if k = 4 then 1 else 0
def scan : List S97 → Nat → Bool
 | [], n => n == 1
 | s :: l, n => if gd s = true ∧ ar s.f0 ≤ n then scan l (n - ar s.f0 + 1) else false

theorem pl_name (c : Int) (h0 : 0 ≤ c) (h1 : c < 256) : (0 ≤ pl c) ↔ isName c = true := by
 obtain ⟨n, rfl⟩ := Int.eq_ofNat_of_zero_le h0
 have hn : n < 256 := by omega
 have key : ∀ n : Fin 256, (0 ≤ pl ((n.val : Nat) : Int)) ↔ isName ((n.val : Nat) : Int) = true := by decide +kernel
 exact key ⟨n, hn⟩
def Byte (l : List S97) : Prop := ∀ s ∈ l, 0 ≤ s.f1 ∧ s.f1 < 256

def flat (st : List T) : List S97 := (st.map toL).flatten
theorem take2 (st : List T) (h : 2 ≤ st.length) : ∃ p a b, st = p ++ [a, b] := by
 have h1 : st.length = (st.length - 2) + 2 := by omega
 refine ⟨st.take (st.length - 2), (st.drop (st.length - 2)).headD .one, ((st.drop (st.length - 2)).drop 1).headD .one, ?_⟩
 have h2 : (st.drop (st.length - 2)).length = 2 := by simp; omega
 match hd : st.drop (st.length - 2), h2 with
 | [a, b], _ => simp; rw [← hd]; simp
theorem take1 (st : List T) (h : 1 ≤ st.length) : ∃ p a, st = p ++ [a] := by
 have hne : st ≠ [] := by intro e; subst e; simp at h
 exact ⟨st.dropLast, st.getLast hne, (List.dropLast_concat_getLast hne).symm⟩

theorem scan_tree : ∀ (l : List S97) (st : List T), Byte l → (∀ t ∈ st, t.wf) → scan l st.length = true → ∃ t : T, t.wf ∧ flat st ++ l = toL t
 | [], st, _, hw, h => by
  simp only [scan, beq_iff_eq] at h
  match st, h with
  | [t], _ => exact ⟨t, hw t (by simp), by simp [flat]⟩
 | s :: l, st, hb, hw, h => by
  unfold scan at h
  by_cases hc : gd s = true ∧ ar s.f0 ≤ st.length
  · rw [if_pos hc] at h
    obtain ⟨h1, h2⟩ := hc
    have hs := hb s (by simp)
    have hb' : Byte l := fun x hx => hb x (by simp [hx])
    unfold gd at h1
    by_cases k2 : s.f0 = 2
    · rw [if_pos k2] at h1
      have hn := (pl_name s.f1 hs.1 hs.2).1 (by simpa using h1)
      rw [show ar s.f0 = 0 by rw [k2]; rfl] at h
      obtain ⟨t, ht, e⟩ := scan_tree l (st ++ [.var s.f1]) hb' (by intro t h; rcases List.mem_append.1 h with h | h; exact hw t h; simp at h; subst h; exact hn) (by simpa using h)
      refine ⟨t, ht, ?_⟩
      rw [← e]
      have h0 : s = ⟨2, s.f1⟩ := by cases s; simp_all
      simp [flat, toL, ← h0]
    · rw [if_neg k2] at h1
      simp only [decide_eq_true_eq] at h1
      obtain ⟨q1, q2, q3⟩ := h1
      by_cases k3 : s.f0 = 3
      · rw [show ar s.f0 = 2 by rw [k3]; rfl] at h h2
        obtain ⟨p, a, b, rfl⟩ := take2 st h2
        obtain ⟨t, ht, e⟩ := scan_tree l (p ++ [.mul a b]) hb' (by intro t h; rcases List.mem_append.1 h with h | h; exact hw t (by simp [h]); simp at h; subst h; exact ⟨hw a (by simp), hw b (by simp)⟩) (by simpa using h)
        refine ⟨t, ht, ?_⟩
        rw [← e]
        have h0 : s = ⟨3, 0⟩ := by cases s; simp_all
        rw [h0]
        simp [flat, toL]
      · by_cases k4 : s.f0 = 4
        · rw [show ar s.f0 = 1 by rw [k4]; rfl] at h h2
          obtain ⟨p, a, rfl⟩ := take1 st h2
          obtain ⟨t, ht, e⟩ := scan_tree l (p ++ [.om a]) hb' (by intro t h; rcases List.mem_append.1 h with h | h; exact hw t (by simp [h]); simp at h; subst h; exact hw a (by simp)) (by simpa using h)
          refine ⟨t, ht, ?_⟩
          rw [← e]
          have h0 : s = ⟨4, 0⟩ := by cases s; simp_all
          rw [h0]
          simp [flat, toL]
        · have k1 : s.f0 = 1 := by omega
          rw [show ar s.f0 = 0 by rw [k1]; rfl] at h
          obtain ⟨t, ht, e⟩ := scan_tree l (st ++ [.one]) hb' (by intro t h; rcases List.mem_append.1 h with h | h; exact hw t h; simp at h; subst h; exact trivial) (by simpa using h)
          refine ⟨t, ht, ?_⟩
          rw [← e]
          have h0 : s = ⟨1, 0⟩ := by cases s; simp_all
          rw [h0]
          simp [flat, toL]
  · rw [if_neg hc] at h; cases h
theorem tree_of (l : List S97) (hb : Byte l) (h : scan l 0 = true) : ∃ t : T, t.wf ∧ l = toL t := by
 obtain ⟨t, h1, h2⟩ := scan_tree l [] hb (by simp) h
 exact ⟨t, h1, by simpa [flat] using h2⟩
theorem name_byte (c : Int) (h : isName c = true) : 0 ≤ c ∧ c < 256 := by
 simp only [isName, decide_eq_true_eq] at h
 omega
theorem toL_byte : ∀ t : T, t.wf → Byte (toL t)
 | .one, _ => by intro s h; simp [toL] at h; subst h; simp
 | .var c, h => by intro s hs; simp [toL] at hs; subst hs; exact name_byte c h
 | .mul a b, h => by
  intro s hs
  simp only [toL, List.mem_append, List.mem_cons, List.not_mem_nil, or_false] at hs
  rcases hs with (hs | hs) | rfl
  · exact toL_byte a h.1 s hs
  · exact toL_byte b h.2 s hs
  · simp
 | .om a, h => by
  intro s hs
  simp only [toL, List.mem_append, List.mem_cons, List.not_mem_nil, or_false] at hs
  rcases hs with hs | rfl
  · exact toL_byte a h s hs
  · simp
theorem scan_toL : ∀ (t : T), t.wf → ∀ (r : List S97) (n : Nat), scan (toL t ++ r) n = scan r (n + 1)
 | .one, _, r, n => by simp [toL, scan, gd, ar]
 | .var c, h, r, n => by
  have h1 := (pl_name c (name_byte c h).1 (name_byte c h).2).2 h
  simp [toL, scan, gd, ar, h1]
 | .mul a b, h, r, n => by
  rw [toL, List.append_assoc, List.append_assoc, scan_toL a h.1, scan_toL b h.2]
  simp [scan, gd, ar]
 | .om a, h, r, n => by
  rw [toL, List.append_assoc, scan_toL a h]
  simp [scan, gd, ar]
theorem scan_good (t : T) (h : t.wf) : scan (toL t) 0 = true := by
 have := scan_toL t h [] 0
 rw [List.append_nil] at this
 rw [this]
 rfl

/-! ### What the two Checks say -/
theorem need_ok (s : S97) (h : 0 ≤ s.f1 ∧ s.f1 < 256) : Ev (fun k => terms_need.f k s.f0 s.f1) (if gd s then (ar s.f0 : Int) else -1) := by
 have hN : strings_IndexByte.f (⟨#[120, 121, 122, 116]⟩ : ByteArray) s.f1 = some (pl s.f1) := rfl
 have hz : pl 0 < 0 := by decide +kernel
 unfold terms_need.f
 simp only [hN, Option.bind_some]
 by_cases k2 : s.f0 = 2
 · simp only [if_pos k2]
   by_cases z : s.f1 = 0
   · simp only [if_pos z]
     have e : gd s = false := by unfold gd; rw [if_pos k2, z]; simp; exact hz
     rw [e]
     refine Ev.step (f := fun k => terms_need.j1 k true s.f0 s.f1) (fun k => by simp only [terms_need.j0]; rw [if_neg (by simp), if_pos k2]) ?_
     exact Ev.step (f := fun _ => some (-1)) (fun k => by simp only [terms_need.j1]; rfl) (Ev.now _)
   · simp only [if_neg z]
     by_cases hp : 0 ≤ pl s.f1
     · have e : gd s = true := by unfold gd; rw [if_pos k2]; simpa using hp
       have e2 : decide (pl s.f1 ≥ 0) = true := by simpa using hp
       rw [e, if_pos rfl, show ((ar s.f0 : Nat) : Int) = 0 by rw [k2]; rfl, e2]
       exact Ev.step (f := fun _ => some 0) (fun k => by simp only [terms_need.j0]; rfl) (Ev.now _)
     · have e : gd s = false := by unfold gd; rw [if_pos k2]; simp; omega
       have e2 : decide (pl s.f1 ≥ 0) = false := by simp; omega
       rw [e, e2]
       refine Ev.step (f := fun k => terms_need.j1 k true s.f0 s.f1) (fun k => by simp only [terms_need.j0]; rw [if_neg (by simp), if_pos k2]) ?_
       exact Ev.step (f := fun _ => some (-1)) (fun k => by simp only [terms_need.j1]; rfl) (Ev.now _)
 · simp only [if_neg k2]
   refine Ev.step (f := fun k => terms_need.j1 k (s.f1 != 0) s.f0 s.f1) (fun k => by simp only [terms_need.j0]; rw [if_neg (by simp), if_neg k2]) ?_
   by_cases z : s.f1 = 0
   · have ez : (s.f1 != 0) = false := by simp [z]
     rw [ez]
     refine Ev.step (f := fun _ => if s.f0 = 1 then some 0 else if s.f0 = 4 then some 1 else if s.f0 = 3 then some 2 else some (-1)) (fun k => by simp only [terms_need.j1]; rfl) ?_
     unfold gd ar
     simp only [if_neg k2]
     by_cases q1 : s.f0 = 1
     · simp [q1, z]; exact Ev.now _
     · by_cases q4 : s.f0 = 4
       · simp [q4, z]; exact Ev.now _
       · by_cases q3 : s.f0 = 3
         · simp [q3, z]; exact Ev.now _
         · have : ¬ (1 ≤ s.f0 ∧ s.f0 ≤ 4 ∧ s.f1 = 0) := by omega
           simp only [this, q1, q3, q4, if_false, decide_false, Bool.false_eq_true]
           exact Ev.now _
   · have ez : (s.f1 != 0) = true := by simp [z]
     rw [ez]
     have : gd s = false := by unfold gd; rw [if_neg k2]; simp; intro _ _; exact z
     rw [this]
     exact Ev.step (f := fun _ => some (-1)) (fun k => by simp only [terms_need.j1]; rfl) (Ev.now _)

theorem rd_drop (l : List S97) (i : Nat) (h : i < l.length) : l.drop i = rd_T97 l (i : Int) :: l.drop (i + 1) := by
 rw [List.drop_eq_getElem_cons h]
 simp [rd_T97, h]
theorem rd_mem (l : List S97) (i : Nat) (h : i < l.length) : rd_T97 l (i : Int) ∈ l := by
 have : rd_T97 l (i : Int) = l[i] := by simp [rd_T97, h]
 rw [this]
 exact List.getElem_mem h
theorem side_loop (l : List S97) (hb : Byte l) (hl : l.length ≤ 400) : ∀ (n i hv : Nat), l.length - i ≤ n → i ≤ l.length → hv ≤ i → Ev (fun k => terms_side.l0 k (hv : Int) l (l.length : Int) (i : Int)) (if scan (l.drop i) hv then 0 else 190) := by
 intro n
 induction n with
 | zero =>
  intro i hv h hi hh
  obtain rfl : i = l.length := by omega
  rw [List.drop_length]
  refine Ev.step (f := fun _ => if (hv : Int) = 1 then some 0 else some 190) (fun k => by simp only [terms_side.l0]; rw [if_neg (by omega)]) ?_
  by_cases e : hv = 1
  · subst e; simp [scan]; exact Ev.now _
  · have : ¬ ((hv : Int) = 1) := by omega
    simp only [if_neg this, scan, beq_iff_eq, e, if_false]
    exact Ev.now _
 | succ n ih =>
  intro i hv h hi hh
  by_cases hlt : i < l.length
  · rw [rd_drop l i hlt]
    have hby := hb _ (rd_mem l i hlt)
    generalize hs : rd_T97 l (i : Int) = s at *
    refine Ev.step (f := fun k => ((terms_need.f k s.f0 s.f1).bind fun t105 => (if t105 < 0 then (some 190) else (if (hv : Int) < t105 then (some 190) else (terms_side.l0 k (wrap64 ((hv : Int) + (wrap64 (1 - t105)))) l (l.length : Int) (wrap64 ((i : Int) + 1))))))) (fun k => by simp only [terms_side.l0]; rw [if_pos (by omega), if_pos (by omega), if_pos (by omega), hs]) ?_
    refine Ev.bind (need_ok s hby) ?_
    unfold scan
    cases hg : gd s with
    | false => simp; exact Ev.now _
    | true =>
     simp only [if_true, true_and]
     have ha : ar s.f0 ≤ 2 := by unfold ar; split <;> (try split) <;> omega
     have hn0 : ¬ ((ar s.f0 : Int) < 0) := by omega
     simp only [if_neg hn0]
     by_cases hle : ar s.f0 ≤ hv
     · have hn1 : ¬ ((hv : Int) < (ar s.f0 : Int)) := by omega
       simp only [if_neg hn1, if_pos hle]
       have e1 : wrap64 ((hv : Int) + wrap64 (1 - (ar s.f0 : Int))) = ((hv - ar s.f0 + 1 : Nat) : Int) := by
        rw [w64 (x := 1 - (ar s.f0 : Int)) (by omega) (by omega), w64 (by omega) (by omega)]
        omega
       have e2 : wrap64 ((i : Int) + 1) = ((i + 1 : Nat) : Int) := by rw [w64 (by omega) (by omega)]; rfl
       simp only [e1, e2]
       exact ih (i + 1) _ (by omega) (by omega) (by omega)
     · have hn1 : (hv : Int) < (ar s.f0 : Int) := by omega
       simp only [if_pos hn1, if_neg hle]
       exact Ev.now _
  · exact ih i hv (by omega) hi hh
theorem side_ok (l : List S97) (hb : Byte l) : Ev (fun k => terms_side.f k l) (if 400 < l.length then 6 else if scan l 0 then 0 else 190) := by
 unfold terms_side.f
 by_cases h : 400 < l.length
 · have : (l.length : Int) > 400 := by omega
   simp only [if_pos this, if_pos h]
   exact Ev.now _
 · have : ¬ ((l.length : Int) > 400) := by omega
   simp only [if_neg this, if_neg h]
   exact side_loop l hb (by omega) l.length 0 0 (by omega) (by omega) (by omega)
end Go.Proofs.Ytcbkihhpnndpkaa.HTree
