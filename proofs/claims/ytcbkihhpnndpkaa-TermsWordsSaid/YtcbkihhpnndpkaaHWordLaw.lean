/- The word that Word's fold spells out of a good side. -/
import Derived.Test.YtcbkihhpnndpkaaHWord
import Derived.Test.YtcbkihhpnndpkaaHTree
set_option linter.unusedVariables false
set_option linter.unusedSimpArgs false
namespace Go.Proofs.Ytcbkihhpnndpkaa.HWordLaw
open Go.RowKit Go.Proofs.YtcbkihhpnndpkaaW.PrintWords Go.Proofs.YtcbkihhpnndpkaaW.PrintLast Go.Proofs.YtcbkihhpnndpkaaW.PrintMore
open Go.Proofs.Ytcbkihhpnndpkaa Go.Proofs.Ytcbkihhpnndpkaa.PA Go.Proofs.Ytcbkihhpnndpkaa.HRead Go.Proofs.Ytcbkihhpnndpkaa.HSpell Go.Proofs.Ytcbkihhpnndpkaa.HTree Go.Proofs.Ytcbkihhpnndpkaa.HUsed

/-- A word, and whether it is too long. -/
abbrev P := ByteArray × Bool
def tw (a b : P) : P := if a.2 = true ∨ b.2 = true ∨ 4096 < a.1.size + b.1.size then (⟨#[]⟩, true) else (a.1 ++ b.1, false)
def ow (n : Int) (a : P) : P := if a.2 = true then (⟨#[]⟩, true) else if a.1.size = 0 then (a.1, false) else if n > (4096 : Int) / (a.1.size : Int) then (⟨#[]⟩, true) else (⟨(Lib.repeatL a.1.data.toList n.toNat).toArray⟩, false)
def sp (vs : List ByteArray) (n : Int) : T → P
 | .one => (⟨#[]⟩, false)
 | .var c => (rdOf ByteArray.empty vs (pl c), decide (4096 < (rdOf ByteArray.empty vs (pl c)).size))
 | .mul a b => tw (sp vs n a) (sp vs n b)
 | .om a => ow n (sp vs n a)
/-- Each variable has a word. -/
def inb (vs : List ByteArray) : T → Prop
 | .one => True
 | .var c => 0 ≤ pl c ∧ pl c < vs.length
 | .mul a b => inb vs a ∧ inb vs b
 | .om a => inb vs a

theorem times_ok (x y : P) (hx : x.2 = false → x.1.size ≤ 4096) (hy : y.2 = false → y.1.size ≤ 4096) : HWordParts.timesW x y = some (tw x y) := by
 obtain ⟨a, p⟩ := x
 obtain ⟨b, q⟩ := y
 unfold HWordParts.timesW PM.terms_Word_2.f tw
 cases p with
 | true => rfl
 | false =>
  cases q with
  | true => rfl
  | false =>
   have h1 : a.size ≤ 4096 := hx rfl
   have h2 : b.size ≤ 4096 := hy rfl
   clear hx hy
   show (if false = true then _ else if false = true then _ else _) = some (if false = true ∨ false = true ∨ 4096 < a.size + b.size then _ else _)
   have hw : wrap64 ((a.size : Int) + (b.size : Int)) = (a.size : Int) + (b.size : Int) := w64 (by omega) (by omega)
   simp only [Bool.false_eq_true, if_false, false_or, hw]
   by_cases h3 : 4096 < a.size + b.size
   · rw [if_pos h3, if_pos (by omega)]
   · rw [if_neg h3, if_neg (by omega), if_pos (by omega)]
theorem rep_len (l : List UInt8) : ∀ n, (Lib.repeatL l n).length = n * l.length
 | 0 => by simp [Lib.repeatL]
 | n + 1 => by rw [Lib.repeatL, List.length_append, rep_len l n, Nat.succ_mul]; omega
theorem ow_small (n : Int) (x : P) (h : (ow n x).2 = false) : (ow n x).1.size ≤ 4096 := by
 unfold ow at h ⊢
 split at h
 · cases h
 · rename_i h1
   rw [if_neg h1]
   split at h
   · rename_i h2
     rw [if_pos h2]
     show x.1.size ≤ 4096
     omega
   · rename_i h2
     rw [if_neg h2]
     split at h
     · cases h
     · rename_i h3
       rw [if_neg h3]
       show (Lib.repeatL x.1.data.toList n.toNat).toArray.size ≤ 4096
       rw [List.size_toArray, rep_len]
       have hs : x.1.data.toList.length = x.1.size := by simp
       rw [hs]
       by_cases hn : n ≤ 0
       · have : n.toNat = 0 := by omega
         rw [this]; omega
       · obtain ⟨m, rfl⟩ := Int.eq_ofNat_of_zero_le (show 0 ≤ n by omega)
         have h4 : (m : Int) ≤ (4096 : Int) / (x.1.size : Int) := by omega
         have h5 : (m : Int) * (x.1.size : Int) ≤ 4096 := (Int.le_ediv_iff_mul_le (by omega)).1 h4
         have h6 : m * x.1.size ≤ 4096 := by
          rw [← Int.natCast_mul] at h5
          omega
         rw [Int.toNat_natCast]
         exact h6
theorem tw_small (x y : P) (h : (tw x y).2 = false) : (tw x y).1.size ≤ 4096 := by
 unfold tw at h ⊢
 split at h
 · cases h
 · rename_i h1
   rw [if_neg h1]
   show (x.1 ++ y.1).size ≤ 4096
   rw [ByteArray.size_append]
   omega
theorem sp_small (vs : List ByteArray) (n : Int) : ∀ t : T, (sp vs n t).2 = false → (sp vs n t).1.size ≤ 4096
 | .one, _ => by show (0 : Nat) ≤ 4096; omega
 | .var c, h => by
  have : ¬ 4096 < (rdOf ByteArray.empty vs (pl c)).size := of_decide_eq_false h
  show (rdOf ByteArray.empty vs (pl c)).size ≤ 4096
  omega
 | .mul a b, h => tw_small _ _ h
 | .om a, h => ow_small _ _ h
theorem omega_ok (n : Int) (x : P) : HWordParts.omegaW n x = some (ow n x) := by
 unfold HWordParts.omegaW ow
 split <;> try rfl
 split <;> try rfl
 split <;> rfl
theorem run_word (vs : List ByteArray) (n : Int) : ∀ (t : T), inb vs t → ∀ (l : List S97) (st : List P), HFoldText.run (HWordParts.leafW vs) HWordParts.timesW (HWordParts.omegaW n) (toL t ++ l) st = HFoldText.run (HWordParts.leafW vs) HWordParts.timesW (HWordParts.omegaW n) l (st ++ [sp vs n t])
 | .one, _, l, st => by simp [toL, HFoldText.run, HFoldText.put, HWordParts.leafW, sp]
 | .var c, h, l, st => by
  have h' : 0 ≤ pl c ∧ pl c < vs.length := h
  have e : HFoldText.put (HWordParts.leafW vs) HWordParts.timesW (HWordParts.omegaW n) st ⟨2, c⟩ = some (st ++ [sp vs n (.var c)]) := by
   unfold HFoldText.put
   rw [if_neg (show ¬ (2 : Int) = 3 by decide), if_neg (show ¬ (2 : Int) = 4 by decide)]
   unfold HWordParts.leafW
   rw [if_neg (show ¬ (2 : Int) = 1 by decide), if_pos h']
   have hd : decide (((rdOf ByteArray.empty vs (pl c)).size : Int) > 4096) = decide (4096 < (rdOf ByteArray.empty vs (pl c)).size) := decide_eq_decide.2 (by omega)
   show some (st ++ [(rdOf ByteArray.empty vs (pl c), decide (((rdOf ByteArray.empty vs (pl c)).size : Int) > 4096))]) = _
   rw [hd]
   rfl
  show (HFoldText.put (HWordParts.leafW vs) HWordParts.timesW (HWordParts.omegaW n) _ ⟨2, c⟩).bind (HFoldText.run (HWordParts.leafW vs) HWordParts.timesW (HWordParts.omegaW n) l) = _
  rw [e]
  rfl
 | .mul a b, h, l, st => by
  rw [toL, List.append_assoc, List.append_assoc, run_word vs n a h.1, run_word vs n b h.2]
  have e : HFoldText.put (HWordParts.leafW vs) HWordParts.timesW (HWordParts.omegaW n) (st ++ [sp vs n a] ++ [sp vs n b]) ⟨3, 0⟩ = some (st ++ [sp vs n (.mul a b)]) := by
   unfold HFoldText.put
   rw [if_pos rfl, if_pos (by simp)]
   have e1 : (st ++ [sp vs n a] ++ [sp vs n b]).getD ((st ++ [sp vs n a] ++ [sp vs n b]).length - 2) (⟨#[]⟩, false) = sp vs n a := by simp
   have e2 : (st ++ [sp vs n a] ++ [sp vs n b]).getD ((st ++ [sp vs n a] ++ [sp vs n b]).length - 1) (⟨#[]⟩, false) = sp vs n b := by simp
   rw [e1, e2, times_ok _ _ (sp_small vs n a) (sp_small vs n b)]
   simp [sp]
  show (HFoldText.put (HWordParts.leafW vs) HWordParts.timesW (HWordParts.omegaW n) _ ⟨3, 0⟩).bind (HFoldText.run (HWordParts.leafW vs) HWordParts.timesW (HWordParts.omegaW n) l) = _
  rw [e]
  rfl
 | .om a, h, l, st => by
  rw [toL, List.append_assoc, run_word vs n a h]
  have e : HFoldText.put (HWordParts.leafW vs) HWordParts.timesW (HWordParts.omegaW n) (st ++ [sp vs n a]) ⟨4, 0⟩ = some (st ++ [sp vs n (.om a)]) := by
   unfold HFoldText.put
   rw [if_neg (by decide), if_pos rfl, if_pos (by simp)]
   have e2 : (st ++ [sp vs n a]).getD ((st ++ [sp vs n a]).length - 1) (⟨#[]⟩, false) = sp vs n a := by simp
   rw [e2, omega_ok]
   simp [sp]
  show (HFoldText.put (HWordParts.leafW vs) HWordParts.timesW (HWordParts.omegaW n) _ ⟨4, 0⟩).bind (HFoldText.run (HWordParts.leafW vs) HWordParts.timesW (HWordParts.omegaW n) l) = _
  rw [e]
  rfl
theorem has_app (l m : List S97) (c : Int) : has (l ++ m) c = (has l c || has m c) := by simp [has]
theorem inb_of (vs : List ByteArray) : ∀ t : T, t.wf → (∀ j : Int, j = 0 ∨ j = 1 ∨ j = 2 ∨ j = 3 → has (toL t) (HWord.nmI j) = true → j < (vs.length : Int)) → inb vs t
 | .one, _, _ => trivial
 | .var c, hw, h => by
  have hc : isName c = true := hw
  have hc' : c = 120 ∨ c = 121 ∨ c = 122 ∨ c = 116 := by simpa [isName] using hc
  show 0 ≤ pl c ∧ pl c < vs.length
  have p0 : pl 120 = 0 := by decide +kernel
  have p1 : pl 121 = 1 := by decide +kernel
  have p2 : pl 122 = 2 := by decide +kernel
  have p3 : pl 116 = 3 := by decide +kernel
  rcases hc' with rfl | rfl | rfl | rfl
  · have := h 0 (by simp) (by simp [toL, has, HWord.nmI]); omega
  · have := h 1 (by simp) (by simp [toL, has, HWord.nmI]); omega
  · have := h 2 (by simp) (by simp [toL, has, HWord.nmI]); omega
  · have := h 3 (by simp) (by simp [toL, has, HWord.nmI]); omega
 | .mul a b, hw, h => ⟨inb_of vs a hw.1 (fun j hj hx => h j hj (by rw [toL, has_app, has_app, hx]; simp)), inb_of vs b hw.2 (fun j hj hx => h j hj (by rw [toL, has_app, has_app, hx]; simp))⟩
 | .om a, hw, h => inb_of vs a hw (fun j hj hx => h j hj (by rw [toL, has_app, hx]; simp))
theorem inb_miss (vs : List ByteArray) (t : T) (hw : t.wf) (h : HWord.miss (toL t) vs 0 = false) : inb vs t := inb_of vs t hw (fun j hj hx => HWord.miss_lt h j hj hx)

/-- What Word comes to. -/
def wd (k : Int) (l : List S97) (t : T) (vs : List ByteArray) (n : Int) : ByteArray × Int :=
 if HCheck.chk k ⟨#[]⟩ ≠ 0 then (⟨#[]⟩, HCheck.chk k ⟨#[]⟩) else if n < 1 then (⟨#[]⟩, 1) else if HWord.miss l vs 0 = true then (⟨#[]⟩, 3) else if HWord.odd k l vs 0 = true then (⟨#[]⟩, 21) else if (sp vs n t).2 = true then (⟨#[]⟩, 6) else ((sp vs n t).1, 0)
theorem named_toL : ∀ t : T, t.wf → HWord.named (toL t) = true
 | .one, _ => by simp [HWord.named, toL]
 | .var c, h => by
  have h' : HSpell.isName c = true := h
  simp [HWord.named, toL, h']
 | .om a, h => by
  have := named_toL a h
  simp only [HWord.named, toL, List.all_append] at this ⊢
  simp [this]
 | .mul a b, h => by
  have h1 := named_toL a h.1
  have h2 := named_toL b h.2
  simp only [HWord.named, toL, List.all_append] at h1 h2 ⊢
  simp [h1, h2]
theorem word_good (k : Int) (t : T) (vs : List ByteArray) (n : Int) (hw : t.wf) (hl : (toL t).length ≤ 400) : Ev (fun g => HWord.wordP g k (toL t) vs n) (wd k (toL t) t vs n) := by
 unfold HWord.wordP wd
 by_cases hk : HCheck.chk k ⟨#[]⟩ = 0
 · have hk' : ¬ (HCheck.chk k ⟨#[]⟩ ≠ 0) := fun q => q hk
   simp only [if_pos hk]
   rw [if_neg hk']
   have hs := side_ok (toL t) (toL_byte t hw)
   rw [if_neg (by omega), scan_good t hw, if_pos rfl] at hs
   refine Ev.bind hs ?_
   simp only [if_true]
   by_cases hn : n < 1
   · simp only [if_pos hn]
     exact Ev.now _
   simp only [if_neg hn]
   have hc : HWord.named (toL t) = true ∧ (toL t).length ≤ 400 := ⟨named_toL t hw, hl⟩
   simp only [if_pos hc]
   cases hm : HWord.miss (toL t) vs 0 with
   | true =>
    simp only [if_true]
    exact Ev.now _
   | false =>
    simp only [Bool.false_eq_true, if_false]
    cases ho : HWord.odd k (toL t) vs 0 with
    | true =>
     simp only [if_true]
     exact Ev.now _
    | false =>
     simp only [Bool.false_eq_true, if_false]
     have hr := run_word vs n t (inb_miss vs t hw hm) [] []
     rw [List.append_nil] at hr
     rw [hr]
     show Ev (fun _ => (some (sp vs n t)).bind _) _
     simp only [Option.bind_some]
     cases hx : (sp vs n t).2 with
     | true =>
      simp only [if_true]
      exact Ev.now _
     | false =>
      simp only [Bool.false_eq_true, if_false]
      exact Ev.now _
 · simp only [if_neg hk]
   rw [if_pos hk]
   exact Ev.now _
theorem word_bad (k : Int) (l : List S97) (vs : List ByteArray) (n : Int) (hb : Byte l) (h : 400 < l.length ∨ scan l 0 = false) :
 Ev (fun g => HWord.wordP g k l vs n) (⟨#[]⟩, if HCheck.chk k ⟨#[]⟩ ≠ 0 then HCheck.chk k ⟨#[]⟩ else if 400 < l.length then 6 else 190) := by
 unfold HWord.wordP
 by_cases hk : HCheck.chk k ⟨#[]⟩ = 0
 · have hk' : ¬ (HCheck.chk k ⟨#[]⟩ ≠ 0) := fun q => q hk
   simp only [if_pos hk]
   rw [if_neg hk']
   have hs := side_ok l hb
   refine Ev.bind hs ?_
   by_cases h4 : 400 < l.length
   · simp only [if_pos h4, if_neg (show ¬ (6 : Int) = 0 by decide)]
     exact Ev.now _
   · have h5 : scan l 0 = false := by
      rcases h with h | h
      · exact absurd h h4
      · exact h
     simp only [if_neg h4, h5, Bool.false_eq_true, if_false, if_neg (show ¬ (190 : Int) = 0 by decide)]
     exact Ev.now _
 · simp only [if_neg hk]
   rw [if_pos hk]
   exact Ev.now _
end Go.Proofs.Ytcbkihhpnndpkaa.HWordLaw
