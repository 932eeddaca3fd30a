/- A side from behind, with words from behind, spells the word from behind. -/
import Derived.Test.YtcbkihhpnndpkaaHWordLaw
import Derived.Test.YtcbkihhpnndpkaaHRefTurn
set_option linter.unusedVariables false
set_option linter.unusedSimpArgs false
namespace Go.Proofs.Ytcbkihhpnndpkaa.HWordTurn
open Go.RowKit Go.Proofs.YtcbkihhpnndpkaaW.PrintWords Go.Proofs.YtcbkihhpnndpkaaW.PrintLast Go.Proofs.YtcbkihhpnndpkaaW.PrintMore
open Go.Proofs.Ytcbkihhpnndpkaa Go.Proofs.Ytcbkihhpnndpkaa.PA Go.Proofs.Ytcbkihhpnndpkaa.HRead Go.Proofs.Ytcbkihhpnndpkaa.HSpell Go.Proofs.Ytcbkihhpnndpkaa.HTree Go.Proofs.Ytcbkihhpnndpkaa.HUsed Go.Proofs.Ytcbkihhpnndpkaa.HRefTurn Go.Proofs.Ytcbkihhpnndpkaa.HWordLaw

theorem ba_ext {u v : ByteArray} (h : u.data.toList = v.data.toList) : u = v := by
 cases u; cases v
 simp at h
 rw [h]
theorem app_list (u v : ByteArray) : (u ++ v).data.toList = u.data.toList ++ v.data.toList := by simp
def rv (s : ByteArray) : ByteArray := ⟨s.data.toList.reverse.toArray⟩
theorem rv_list (s : ByteArray) : (rv s).data.toList = s.data.toList.reverse := by simp [rv]
theorem rv_size (s : ByteArray) : (rv s).size = s.size := by
 have := congrArg List.length (rv_list s)
 simpa using this
theorem rv_app (u v : ByteArray) : rv (u ++ v) = rv v ++ rv u := ba_ext (by rw [rv_list, app_list, app_list, rv_list, rv_list, List.reverse_append])
theorem rv_chk (k : Int) (s : ByteArray) : HCheck.chk k (rv s) = HCheck.chk k s := by
 unfold HCheck.chk
 rw [rv_list, List.all_reverse]
theorem rep_reps (l : List UInt8) : ∀ n, Lib.repeatL l n ++ l = l ++ Lib.repeatL l n
 | 0 => by simp [Lib.repeatL]
 | n + 1 => by rw [Lib.repeatL, List.append_assoc, rep_reps l n]
theorem rep_rev (l : List UInt8) : ∀ n, (Lib.repeatL l n).reverse = Lib.repeatL l.reverse n
 | 0 => by simp [Lib.repeatL]
 | n + 1 => by rw [Lib.repeatL, List.reverse_append, rep_rev l n, rep_reps, Lib.repeatL]
theorem rv_rep (s : ByteArray) (n : Nat) : rv ⟨(Lib.repeatL s.data.toList n).toArray⟩ = ⟨(Lib.repeatL (rv s).data.toList n).toArray⟩ := ba_ext (by
 rw [rv_list, rv_list]
 show (Lib.repeatL s.data.toList n).toArray.toList.reverse = (Lib.repeatL s.data.toList.reverse n).toArray.toList
 rw [List.toList_toArray, List.toList_toArray, rep_rev])

/-- A pair from behind. -/
def rp (x : P) : P := (rv x.1, x.2)
theorem tw_rp (a b : P) : tw (rp b) (rp a) = rp (tw a b) := by
 unfold tw rp
 simp only [rv_size]
 by_cases h : a.2 = true ∨ b.2 = true ∨ 4096 < a.1.size + b.1.size
 · rw [if_pos h, if_pos (by rcases h with h | h | h; exact Or.inr (Or.inl h); exact Or.inl h; exact Or.inr (Or.inr (by omega)))]
   rfl
 · rw [if_neg h, if_neg (fun q => h (by rcases q with q | q | q; exact Or.inr (Or.inl q); exact Or.inl q; exact Or.inr (Or.inr (by omega))))]
   simp only [rv_app]
theorem ow_rp (n : Int) (a : P) : ow n (rp a) = rp (ow n a) := by
 unfold ow rp
 simp only [rv_size]
 by_cases h1 : a.2 = true
 · rw [if_pos h1, if_pos h1]; rfl
 · rw [if_neg h1, if_neg h1]
   by_cases h2 : a.1.size = 0
   · rw [if_pos h2, if_pos h2]
   · rw [if_neg h2, if_neg h2]
     by_cases h3 : n > (4096 : Int) / (a.1.size : Int)
     · rw [if_pos h3, if_pos h3]; rfl
     · rw [if_neg h3, if_neg h3]
       simp only [rv_rep]
theorem rd_map (vs : List ByteArray) (i : Int) (h0 : 0 ≤ i) (h1 : i < vs.length) : rdOf ByteArray.empty (vs.map rv) i = rv (rdOf ByteArray.empty vs i) := by
 obtain ⟨m, rfl⟩ := Int.eq_ofNat_of_zero_le h0
 have hm : m < vs.length := by omega
 simp [rdOf, List.getD_eq_getElem?_getD, List.getElem?_eq_getElem hm]
theorem sp_rev (vs : List ByteArray) (n : Int) : ∀ t : T, inb vs t → sp (vs.map rv) n (rev t) = rp (sp vs n t)
 | .one, _ => rfl
 | .var c, h => by
  have h' : 0 ≤ pl c ∧ pl c < vs.length := h
  show (rdOf ByteArray.empty (vs.map rv) (pl c), decide (4096 < (rdOf ByteArray.empty (vs.map rv) (pl c)).size)) = _
  rw [rd_map vs _ h'.1 h'.2, rv_size]
  rfl
 | .mul a b, h => by
  show tw (sp (vs.map rv) n (rev b)) (sp (vs.map rv) n (rev a)) = _
  rw [sp_rev vs n a h.1, sp_rev vs n b h.2, tw_rp]
  rfl
 | .om a, h => by
  show ow n (sp (vs.map rv) n (rev a)) = _
  rw [sp_rev vs n a h, ow_rp]
  rfl
theorem has_rev : ∀ (t : T) (c : Int), has (toL (rev t)) c = has (toL t) c
 | .one, c => rfl
 | .var d, c => rfl
 | .mul a b, c => by
  simp only [rev, toL, has_app, has_rev a c, has_rev b c]
  rw [Bool.or_comm (has (toL b) c)]
 | .om a, c => by simp only [rev, toL, has_app, has_rev a c]
theorem rev_rev : ∀ t : T, rev (rev t) = t
 | .one => rfl
 | .var d => rfl
 | .mul a b => by simp only [rev, rev_rev a, rev_rev b]
 | .om a => by simp only [rev, rev_rev a]
theorem names_rev (a c : T) (i : Int) : HVars.namesOf (toL (rev a)) (toL (rev c)) i = HVars.namesOf (toL a) (toL c) i := by
 unfold HVars.namesOf
 congr 1
 funext x
 rw [has_rev, has_rev]
theorem miss_rev (t : T) (vs : List ByteArray) : HWord.miss (toL (rev t)) (vs.map rv) 0 = HWord.miss (toL t) vs 0 := by
 unfold HWord.miss
 congr 1
 funext j
 rw [has_rev, List.length_map]
theorem any_congr' {α : Type} (l : List α) (f g : α → Bool) (h : ∀ x ∈ l, f x = g x) : l.any f = l.any g := by
 induction l with
 | nil => rfl
 | cons a l ih => rw [List.any_cons, List.any_cons, h a (by simp), ih (fun x hx => h x (by simp [hx]))]
theorem odd_rev (k : Int) (t : T) (vs : List ByteArray) (hm : HWord.miss (toL t) vs 0 = false) : HWord.odd k (toL (rev t)) (vs.map rv) 0 = HWord.odd k (toL t) vs 0 := by
 unfold HWord.odd
 refine any_congr' _ _ _ (fun j hj => ?_)
 have hj' : j = 0 ∨ j = 1 ∨ j = 2 ∨ j = 3 := by simpa using hj
 rw [has_rev]
 cases hx : has (toL t) (HWord.nmI j) with
 | false => rfl
 | true =>
  have := HWord.miss_lt hm j hj' hx
  unfold HWord.val
  rw [rd_map vs j (by omega) this, rv_chk]
/-- Of words turned round, the side turned round says the word turned round. -/
theorem wd_rev (k : Int) (t : T) (vs : List ByteArray) (n : Int) (hw : t.wf) : wd k (toL (rev t)) (rev t) (vs.map rv) n = (rv (wd k (toL t) t vs n).1, (wd k (toL t) t vs n).2) := by
 unfold wd
 by_cases h1 : HCheck.chk k ⟨#[]⟩ ≠ 0
 · rw [if_pos h1, if_pos h1]; rfl
 rw [if_neg h1, if_neg h1]
 by_cases h2 : n < 1
 · rw [if_pos h2, if_pos h2]; rfl
 rw [if_neg h2, if_neg h2, miss_rev]
 cases hm : HWord.miss (toL t) vs 0 with
 | true => rfl
 | false =>
  have hf : ¬ (false = true) := by simp
  rw [if_neg hf, if_neg hf, odd_rev k t vs hm]
  cases ho : HWord.odd k (toL t) vs 0 with
  | true => rfl
  | false =>
   rw [if_neg hf, if_neg hf, sp_rev vs n t (inb_miss vs t hw hm)]
   cases hx : (sp vs n t).2 with
   | true =>
    have : (rp (sp vs n t)).2 = true := hx
    rw [if_pos this, if_pos rfl]
    rfl
   | false =>
    have : ¬ (rp (sp vs n t)).2 = true := by rw [show (rp (sp vs n t)).2 = false from hx]; simp
    rw [if_neg this, if_neg hf]
    rfl
end Go.Proofs.Ytcbkihhpnndpkaa.HWordTurn
