/- The variables and a side from behind: plain laws of both answers. -/
import Derived.Test.YtcbkihhpnndpkaaHRefCheck
import Derived.Test.YtcbkihhpnndpkaaPUx1
set_option linter.unusedVariables false
set_option linter.unusedSimpArgs false
namespace Go.Proofs.Ytcbkihhpnndpkaa.HRefTurn
open Go.RowKit Go.Proofs.YtcbkihhpnndpkaaW.PrintWords Go.Proofs.YtcbkihhpnndpkaaW.PrintLast Go.Proofs.YtcbkihhpnndpkaaW.PrintMore
open Go.Proofs.Ytcbkihhpnndpkaa Go.Proofs.Ytcbkihhpnndpkaa.PA Go.Proofs.Ytcbkihhpnndpkaa.PU Go.Proofs.Ytcbkihhpnndpkaa.HRead Go.Proofs.Ytcbkihhpnndpkaa.HTree Go.Proofs.Ytcbkihhpnndpkaa.HUsed Go.Proofs.Ytcbkihhpnndpkaa.HVars Go.Proofs.Ytcbkihhpnndpkaa.HRefLaw

/-! ### The variables -/
theorem in_loop (l : List S97) (c : Int) (hl : l.length ≤ 400) : ∀ (n i : Nat), l.length - i ≤ n → Ev (fun k => eggboxref19_in.l0 k l c (i : Int)) (has (l.drop i) c) := by
 intro n
 induction n with
 | zero =>
  intro i h
  rw [List.drop_eq_nil_of_le (by omega)]
  refine Ev.step (f := fun _ => some false) (fun k => by simp only [eggboxref19_in.l0]; rw [if_neg (by omega)]) (Ev.now _)
 | succ n ih =>
  intro i h
  by_cases hlt : i < l.length
  · rw [rd_drop l i hlt]
    generalize hs : rd_T97 l (i : Int) = s at *
    have e2 : wrap64 ((i : Int) + 1) = ((i + 1 : Nat) : Int) := by rw [w64 (by omega) (by omega)]; rfl
    refine Ev.step (f := fun k => if s.f0 = 2 then (if s.f1 = c then some true else eggboxref19_in.l0 k l c ((i + 1 : Nat) : Int)) else eggboxref19_in.l0 k l c ((i + 1 : Nat) : Int)) (fun k => by simp only [eggboxref19_in.l0]; rw [if_pos (by omega), if_pos (by omega), hs, e2]) ?_
    have := ih (i + 1) (by omega)
    by_cases k2 : s.f0 = 2
    · simp only [if_pos k2]
      by_cases kc : s.f1 = c
      · simp only [if_pos kc]
        have e : has (s :: l.drop (i + 1)) c = true := by simp [has, k2, kc]
        rw [e]
        exact Ev.now _
      · simp only [if_neg kc]
        have e : has (s :: l.drop (i + 1)) c = has (l.drop (i + 1)) c := by simp [has, kc]
        rw [e]
        exact this
    · simp only [if_neg k2]
      have e : has (s :: l.drop (i + 1)) c = has (l.drop (i + 1)) c := by simp [has, k2]
      rw [e]
      exact this
  · exact ih i (by omega)
theorem in_ok (l : List S97) (c : Int) (hl : l.length ≤ 400) : Ev (fun k => eggboxref19_in.f k l c) (has l c) := in_loop l c hl l.length 0 (by omega)

def nm (i : Nat) : Int := ([120, 121, 122, 116] : List Int).getD i 0
theorem nm_bt (i : Nat) (h : i < 4) : bt (⟨#[120, 121, 122, 116]⟩ : ByteArray) (i : Int) = nm i := by
 have : i = 0 ∨ i = 1 ∨ i = 2 ∨ i = 3 := by omega
 rcases this with rfl | rfl | rfl | rfl <;> rfl
theorem nm_cut (i : Nat) (h : i < 4) : (⟨#[120, 121, 122, 116]⟩ : ByteArray).extract ((i : Nat) : Int).toNat (((i + 1 : Nat) : Int)).toNat = strOfNums [nm i] := by
 have : i = 0 ∨ i = 1 ∨ i = 2 ∨ i = 3 := by omega
 rcases this with rfl | rfl | rfl | rfl <;> rfl
theorem str_app (a b : List Int) : strOfNums a ++ strOfNums b = strOfNums (a ++ b) := by
 apply ByteArray.ext
 simp [strOfNums]
theorem names_succ (l m : List S97) (i : Nat) (h : i < 4) : namesOf l m ((i + 1 : Nat) : Int) = namesOf l m (i : Int) ++ (if (has l (nm i) || has m (nm i)) = true then [nm i] else []) := by
 have : i = 0 ∨ i = 1 ∨ i = 2 ∨ i = 3 := by omega
 unfold namesOf
 rcases this with rfl | rfl | rfl | rfl <;>
 · simp only [Int.toNat_natCast, List.take_succ_cons, List.take_zero, nm, List.getD_cons_zero, List.getD_cons_succ, Nat.reduceAdd]
   simp only [List.filter_cons, List.filter_nil]
   repeat' split
   all_goals simp_all
theorem vars_loop (l m : List S97) (b : Bool) (hl : l.length ≤ 400) (hm : m.length ≤ 400) : ∀ (n i : Nat), 4 - i ≤ n → i ≤ 4 → Ev (fun k => eggboxref19_Vars.l0 k (strOfNums (namesOf l m (i : Int))) (i : Int) l m b) (strOfNums (namesOf l m 4), 0) := by
 intro n
 induction n with
 | zero =>
  intro i h hi
  obtain rfl : i = 4 := by omega
  exact Ev.step (f := fun _ => some (strOfNums (namesOf l m 4), 0)) (fun k => by simp only [eggboxref19_Vars.l0]; rfl) (Ev.now _)
 | succ n ih =>
  intro i h hi
  by_cases hlt : i < 4
  · have e2 : wrap64 ((i : Int) + 1) = ((i + 1 : Nat) : Int) := by rw [w64 (by omega) (by omega)]; rfl
    have hsz : (strOfNums (namesOf l m (i : Int))).size ≤ 4 := by
     rw [strOfNums_size]
     exact Nat.le_trans (List.length_filter_le _ _) (by simp; omega)
    have h1 := strOfNums_size [nm i]
    have IH := ih (i + 1) (by omega) (by omega)
    rw [names_succ l m i hlt] at IH
    refine Ev.step (f := fun k => ((eggboxref19_in.f k l (nm i)).bind fun t194 => (if t194 = true then eggboxref19_Vars.l0 k (strOfNums (namesOf l m (i : Int)) ++ strOfNums [nm i]) ((i + 1 : Nat) : Int) l m b else ((eggboxref19_in.f k m (nm i)).bind fun t195 => (if t195 = true then eggboxref19_Vars.l0 k (strOfNums (namesOf l m (i : Int)) ++ strOfNums [nm i]) ((i + 1 : Nat) : Int) l m b else eggboxref19_Vars.l0 k (strOfNums (namesOf l m (i : Int))) ((i + 1 : Nat) : Int) l m b))))) (fun k => ?_) ?_
    · simp only [eggboxref19_Vars.l0]
      rw [if_pos (by omega), if_pos (by omega), nm_bt i hlt, e2, nm_cut i hlt]
      have g1 : (i : Int) ≤ ((i + 1 : Nat) : Int) := by omega
      have g2 : ((i + 1 : Nat) : Int) ≤ 4 := by omega
      have g3 : (strOfNums (namesOf l m (i : Int))).size + (strOfNums [nm i]).size ≤ 9223372036854775807 := by simp at h1; omega
      simp only [if_pos g1, if_pos g2, if_pos g3]
    · refine Ev.bind (in_ok l (nm i) hl) ?_
      cases hx : has l (nm i) with
      | true =>
       rw [hx] at IH
       simp only [if_true, Bool.true_or] at IH ⊢
       rw [str_app]
       exact IH
      | false =>
       simp only [Bool.false_eq_true, if_false]
       refine Ev.bind (in_ok m (nm i) hm) ?_
       cases hy : has m (nm i) with
       | true =>
        rw [hx, hy] at IH
        simp only [if_true, Bool.false_or] at IH ⊢
        rw [str_app]
        exact IH
       | false =>
        rw [hx, hy] at IH
        simp only [Bool.false_eq_true, if_false, Bool.false_or, List.append_nil] at IH ⊢
        exact IH
  · exact ih i (by omega) hi
theorem rvars_ok (l m : List S97) (b : Bool) (hl : l.length ≤ 400) (hm : m.length ≤ 400) (h0 : chk l m = 0) : Ev (fun k => eggboxref19_Vars.f k l m b) (strOfNums (namesOf l m 4), 0) := by
 have hk := rcheck_ok l m b
 rw [h0] at hk
 unfold eggboxref19_Vars.f
 refine Ev.bind hk ?_
 simp only [if_true]
 exact vars_loop l m b hl hm 4 0 (by omega) (by omega)
theorem named_toL : ∀ t : T, t.wf → named (toL t) = true
 | .one, _ => by simp [named, toL]
 | .var c, h => by
  have h' : HSpell.isName c = true := h
  simp [named, toL, h']
 | .om a, h => by
  have := named_toL a h
  simp only [named, toL, List.all_append] at this ⊢
  simp [this]
 | .mul a b, h => by
  have h1 := named_toL a h.1
  have h2 := named_toL b h.2
  simp only [named, toL, List.all_append] at h1 h2 ⊢
  simp [h1, h2]

/-! ### From behind -/
def rev : T → T
 | .one => .one
 | .var c => .var c
 | .om a => .om (rev a)
 | .mul a b => .mul (rev b) (rev a)
theorem rev_len : ∀ t, (toL (rev t)).length = (toL t).length
 | .one => rfl
 | .var c => rfl
 | .om a => by simp [rev, toL, rev_len a]
 | .mul a b => by simp [rev, toL, rev_len a, rev_len b]; omega
theorem run_rev : ∀ (t : T), (toL t).length ≤ 1000000 → ∀ (l : List S97) (st : List HFoldSigns.E), HFoldSigns.run HTurned.leafP HTurned.timesP HTurned.omegaP (toL t ++ l) st = HFoldSigns.run HTurned.leafP HTurned.timesP HTurned.omegaP l (st ++ [toL (rev t)])
 | .one, _, l, st => by simp [toL, rev, HFoldSigns.run, HFoldSigns.put, HTurned.leafP]
 | .var c, _, l, st => by simp [toL, rev, HFoldSigns.run, HFoldSigns.put, HTurned.leafP]
 | .mul a b, hl, l, st => by
  have hla : (toL a).length + (toL b).length + 1 ≤ 1000000 := by simp [toL] at hl; omega
  rw [toL, List.append_assoc, List.append_assoc, run_rev a (by omega), run_rev b (by omega)]
  have e : HFoldSigns.put HTurned.leafP HTurned.timesP HTurned.omegaP (st ++ [toL (rev a)] ++ [toL (rev b)]) ⟨3, 0⟩ = some (st ++ [toL (rev (.mul a b))]) := by
   unfold HFoldSigns.put
   rw [if_pos rfl, if_pos (by simp)]
   have e1 : (st ++ [toL (rev a)] ++ [toL (rev b)]).getD ((st ++ [toL (rev a)] ++ [toL (rev b)]).length - 2) [] = toL (rev a) := by simp
   have e2 : (st ++ [toL (rev a)] ++ [toL (rev b)]).getD ((st ++ [toL (rev a)] ++ [toL (rev b)]).length - 1) [] = toL (rev b) := by simp
   have ra := rev_len a
   have rb := rev_len b
   rw [e1, e2]
   unfold HTurned.timesP
   rw [if_pos (by omega)]
   simp [rev, toL]
  show (HFoldSigns.put HTurned.leafP HTurned.timesP HTurned.omegaP _ ⟨3, 0⟩).bind (HFoldSigns.run HTurned.leafP HTurned.timesP HTurned.omegaP l) = _
  rw [e]
  rfl
 | .om a, hl, l, st => by
  have hla : (toL a).length + 1 ≤ 1000000 := by simpa [toL] using hl
  rw [toL, List.append_assoc, run_rev a (by omega)]
  have e : HFoldSigns.put HTurned.leafP HTurned.timesP HTurned.omegaP (st ++ [toL (rev a)]) ⟨4, 0⟩ = some (st ++ [toL (rev (.om a))]) := by
   unfold HFoldSigns.put
   rw [if_neg (by decide), if_pos rfl, if_pos (by simp)]
   have e2 : (st ++ [toL (rev a)]).getD ((st ++ [toL (rev a)]).length - 1) [] = toL (rev a) := by simp
   have ra := rev_len a
   rw [e2]
   unfold HTurned.omegaP
   rw [if_pos (by omega)]
   simp [rev, toL]
  show (HFoldSigns.put HTurned.leafP HTurned.timesP HTurned.omegaP _ ⟨4, 0⟩).bind (HFoldSigns.run HTurned.leafP HTurned.timesP HTurned.omegaP l) = _
  rw [e]
  rfl
theorem turned_ok (t : T) (h : (toL t).length ≤ 400) : terms_turned.f (toL t) = some (toL (rev t)) := by
 unfold terms_turned.f
 rw [if_pos h]
 have := run_rev t (by omega) [] []
 rw [List.append_nil] at this
 rw [this]
 rfl
theorem wl0 : wrap64 ((([] : List (List S97)).length : Int) - 1) = -1 := by decide +kernel
theorem wl1 (a : List S97) : wrap64 ((([a] : List (List S97)).length : Int) - 1) = 0 := by show wrap64 ((1 : Int) - 1) = 0; decide +kernel
theorem wl2 (a b : List S97) : wrap64 ((([a, b] : List (List S97)).length : Int) - 1) = 1 := by show wrap64 ((2 : Int) - 1) = 1; decide +kernel
theorem wm1 : wrap64 ((0 : Int) - 1) = -1 := by decide +kernel
theorem wm0 : wrap64 ((1 : Int) - 1) = 0 := by decide +kernel
/-- The last of the loop: the root's sign. -/
theorem rt_end (p : List S97) (s : S97) (c : List (List S97)) (out : List S97) (hp : p.length ≤ 400) (ho : out.length ≤ 1000) : Ev (fun k => eggboxref19_turned.l0 k (p ++ [s]) c out (-1)) (out ++ [s]) := by
 refine Ev.step (f := fun _ => some (out ++ [s])) (fun k => ?_) (Ev.now _)
 have hw : wrap64 (((p ++ [s]).length : Int) - 1) = (p.length : Int) := by
  rw [w64 (by simp) (by simp; omega)]; simp
 have hr : rd_T97 (p ++ [s]) (p.length : Int) = s := rd_at p s []
 simp only [eggboxref19_turned.l0, hw, hr]
 rw [if_neg (by decide), if_pos (by omega), if_pos (by simp; omega), if_pos (by omega)]
theorem rturned_ok : ∀ (t : T), (toL t).length ≤ 400 → Ev (fun k => eggboxref19_turned.f k (toL t)) (toL (rev t))
 | .one, h => by
  refine Ev.step (g := fun k => eggboxref19_turned.f k (toL .one)) (f := fun k => (eggboxref19_Cut.f k (toL .one)).bind fun t196 => (eggboxref19_turned.l0 k (toL .one) t196 ([] : List (S97)) (wrap64 ((t196.length : Int) - 1)))) (fun k => by simp only [eggboxref19_turned.f]) ?_
  refine Ev.bind (cut_ok .one h) ?_
  simp only [show cuts .one = [] from rfl, wl0]
  exact rt_end [] ⟨1, 0⟩ _ [] (by simp) (by simp)
 | .var c, h => by
  refine Ev.step (g := fun k => eggboxref19_turned.f k (toL (.var c))) (f := fun k => (eggboxref19_Cut.f k (toL (.var c))).bind fun t196 => (eggboxref19_turned.l0 k (toL (.var c)) t196 ([] : List (S97)) (wrap64 ((t196.length : Int) - 1)))) (fun k => by simp only [eggboxref19_turned.f]) ?_
  refine Ev.bind (cut_ok (.var c) h) ?_
  simp only [show cuts (.var c) = [] from rfl, wl0]
  exact rt_end [] ⟨2, c⟩ _ [] (by simp) (by simp)
 | .om a, h => by
  have hla : (toL a).length ≤ 400 := by simp [toL] at h; omega
  have ra := rev_len a
  refine Ev.step (g := fun k => eggboxref19_turned.f k (toL (.om a))) (f := fun k => (eggboxref19_Cut.f k (toL (.om a))).bind fun t196 => (eggboxref19_turned.l0 k (toL (.om a)) t196 ([] : List (S97)) (wrap64 ((t196.length : Int) - 1)))) (fun k => by simp only [eggboxref19_turned.f]) ?_
  refine Ev.bind (cut_ok (.om a) h) ?_
  simp only [show cuts (.om a) = [toL a] from rfl, wl1]
  refine Ev.step (f := fun k => (eggboxref19_turned.f k (toL a)).bind fun t200 => (if ([] : List S97).length + t200.length < 8796093022208 then eggboxref19_turned.l0 k (toL (.om a)) [toL a] ([] ++ t200) (-1) else none)) (fun k => ?_) ?_
  · simp only [eggboxref19_turned.l0, wm1]
    rw [if_pos (by decide), if_pos (by decide), if_pos (by simp)]
    rfl
  · refine Ev.bind (rturned_ok a hla) ?_
    have g : ([] : List S97).length + (toL (rev a)).length < 8796093022208 := by simp; omega
    simp only [if_pos g]
    exact rt_end (toL a) ⟨4, 0⟩ _ ([] ++ toL (rev a)) hla (by simp; omega)
 | .mul a b, h => by
  have hlen : (toL (.mul a b)).length = (toL a ++ toL b).length + 1 := by simp [toL]; omega
  have hab : (toL a ++ toL b).length = (toL a).length + (toL b).length := by simp
  have hla : (toL a).length ≤ 400 := by omega
  have hlb : (toL b).length ≤ 400 := by omega
  have ra := rev_len a
  have rb := rev_len b
  refine Ev.step (g := fun k => eggboxref19_turned.f k (toL (.mul a b))) (f := fun k => (eggboxref19_Cut.f k (toL (.mul a b))).bind fun t196 => (eggboxref19_turned.l0 k (toL (.mul a b)) t196 ([] : List (S97)) (wrap64 ((t196.length : Int) - 1)))) (fun k => by simp only [eggboxref19_turned.f]) ?_
  refine Ev.bind (cut_ok (.mul a b) h) ?_
  simp only [show cuts (.mul a b) = [toL a, toL b] from rfl, wl2]
  refine Ev.step (f := fun k => (eggboxref19_turned.f k (toL b)).bind fun t200 => (if ([] : List S97).length + t200.length < 8796093022208 then eggboxref19_turned.l0 k (toL (.mul a b)) [toL a, toL b] ([] ++ t200) 0 else none)) (fun k => ?_) ?_
  · simp only [eggboxref19_turned.l0, wm0]
    rw [if_pos (by decide), if_pos (by decide), if_pos (by simp)]
    rfl
  refine Ev.bind (rturned_ok b hlb) ?_
  have g : ([] : List S97).length + (toL (rev b)).length < 8796093022208 := by simp; omega
  simp only [if_pos g]
  refine Ev.step (f := fun k => (eggboxref19_turned.f k (toL a)).bind fun t200 => (if ([] ++ toL (rev b)).length + t200.length < 8796093022208 then eggboxref19_turned.l0 k (toL (.mul a b)) [toL a, toL b] (([] ++ toL (rev b)) ++ t200) (-1) else none)) (fun k => ?_) ?_
  · simp only [eggboxref19_turned.l0, wm1]
    rw [if_pos (by decide), if_pos (by decide), if_pos (by simp)]
    rfl
  refine Ev.bind (rturned_ok a hla) ?_
  have g2 : ([] ++ toL (rev b)).length + (toL (rev a)).length < 8796093022208 := by simp; omega
  simp only [if_pos g2]
  exact rt_end (toL a ++ toL b) ⟨3, 0⟩ _ (([] ++ toL (rev b)) ++ toL (rev a)) (by omega) (by simp; omega)
theorem turn_ok (a c : T) (b : Bool) (ha : a.wf) (hc : c.wf) (h1 : (toL a).length ≤ 400) (h2 : (toL c).length ≤ 400) (h0 : chk (toL a) (toL c) = 0) : Ev (fun k => terms_Turn.f k (toL a) (toL c) b) (toL (rev a), toL (rev c), b, 0) := by
 have hk := check_ok (toL a) (toL c) b (toL_byte a ha) (toL_byte c hc)
 rw [h0] at hk
 unfold terms_Turn.f
 refine Ev.bind hk ?_
 simp only [if_true, turned_ok a h1, turned_ok c h2, Option.bind_some]
 exact Ev.now _
theorem rturn_ok (a c : T) (b : Bool) (h1 : (toL a).length ≤ 400) (h2 : (toL c).length ≤ 400) (h0 : chk (toL a) (toL c) = 0) : Ev (fun k => eggboxref19_Turn.f k (toL a) (toL c) b) (toL (rev a), toL (rev c), b, 0) := by
 have hk := rcheck_ok (toL a) (toL c) b
 rw [h0] at hk
 unfold eggboxref19_Turn.f
 refine Ev.bind hk ?_
 simp only [if_true]
 refine Ev.bind (rturned_ok a h1) ?_
 refine Ev.bind (rturned_ok c h2) ?_
 exact Ev.now _
end Go.Proofs.Ytcbkihhpnndpkaa.HRefTurn
