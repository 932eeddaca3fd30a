/- The plain law of TermsWords: the program's word and the document's are the same. -/
import Derived.Test.YtcbkihhpnndpkaaPDx1
import Derived.Test.YtcbkihhpnndpkaaHLaw
import Derived.Test.YtcbkihhpnndpkaaHWordLaw
import Derived.Test.YtcbkihhpnndpkaaHRefTurn
set_option linter.unusedVariables false
set_option linter.unusedSimpArgs false
namespace Go.Proofs.Ytcbkihhpnndpkaa.PureWords
open Go.RowKit Go.Proofs.Ytcbkihhpnndpkaa.PA Go.Proofs.Ytcbkihhpnndpkaa.PG Go.Proofs.Ytcbkihhpnndpkaa.PL Go.Proofs.Ytcbkihhpnndpkaa.PD Go.Proofs.YtcbkihhpnndpkaaW.PrintWords Go.Proofs.YtcbkihhpnndpkaaW.PrintLast
open Go.Proofs.Ytcbkihhpnndpkaa.HRead Go.Proofs.Ytcbkihhpnndpkaa.HTree Go.Proofs.Ytcbkihhpnndpkaa.HUsed Go.Proofs.Ytcbkihhpnndpkaa.HWordLaw

/-! ### The document's Check of letters -/
theorem refCheck_loop (k : Int) (h1 : 1 ≤ k) (h8 : k ≤ 8) (s : ByteArray) (hs : s.size ≤ 140737488355328) : ∀ (d i : Nat), s.size - i ≤ d →
 Ev (fun n => eggboxref01_Check.l0 n k s (i : Int)) (if (s.data.toList.drop i).all (HCheck.okb k) then 0 else 21) := by
 intro d
 induction d with
 | zero =>
  intro i hd
  refine Ev.step (f := fun _ => some 0) (fun n => ?_) ?_
  · simp only [eggboxref01_Check.l0]
    rw [if_neg (by omega)]
  · rw [List.drop_of_length_le (by simp; omega)]
    exact Ev.now _
 | succ d ih =>
  intro i hd
  by_cases hi : i < s.size
  · have e : s.data.toList.drop i = s[i] :: s.data.toList.drop (i + 1) := by
     rw [List.drop_eq_getElem_cons (by simpa using hi)]
     rfl
    have hb := HTake.bt_get s i hi
    have hr := bt_range s (i : Int)
    by_cases hg : HCheck.okb k s[i] = true
    · have hg' := hg
      simp only [HCheck.okb, Bool.and_eq_true, decide_eq_true_eq] at hg'
      refine Ev.step (f := fun n => eggboxref01_Check.l0 n k s ((i + 1 : Nat) : Int)) (fun n => ?_) ?_
      · simp only [eggboxref01_Check.l0]
        rw [if_pos (by omega), if_pos (by omega), if_neg (by omega), if_neg (by omega), w64 (by omega) (by omega)]
        rfl
      · rw [e, List.all_cons, hg, Bool.true_and]
        exact ih (i + 1) (by omega)
    · have hg' : HCheck.okb k s[i] = false := by simpa using hg
      rw [e, List.all_cons, hg', Bool.false_and]
      refine Ev.step (f := fun n => some 21) (fun n => ?_) (Ev.now _)
      simp only [HCheck.okb, Bool.and_eq_false_iff, decide_eq_false_iff_not] at hg'
      simp only [eggboxref01_Check.l0]
      rw [if_pos (by omega), if_pos (by omega)]
      by_cases hl : bt s (i : Int) < 97
      · rw [if_pos hl]
      · rw [if_neg hl, if_pos (by omega)]
  · exact ih i (by omega)
theorem refCheck_ok (k : Int) (s : ByteArray) (hs : s.size ≤ 140737488355328) : Ev (fun n => eggboxref01_Check.f n k s) (HCheck.chk k s) := by
 unfold eggboxref01_Check.f HCheck.chk eggboxref01_Letters.f
 by_cases h1 : k < 1
 · rw [if_pos h1, if_pos (by omega)]
   exact Ev.now _
 · rw [if_neg h1]
   by_cases h2 : k > 8
   · rw [if_pos h2, if_pos (by omega)]
     exact Ev.now _
   · rw [if_neg h2, if_neg (by omega)]
     have := refCheck_loop k (by omega) (by omega) s hs s.size 0 (by omega)
     simpa using this
theorem letters_ok (k : Int) : eggboxref01_Letters.f k = some (HCheck.chk k ⟨#[]⟩) := by
 unfold HCheck.chk eggboxref01_Letters.f
 by_cases h1 : k < 1
 · rw [if_pos h1, if_pos (by omega)]
 · rw [if_neg h1]
   by_cases h2 : k > 8
   · rw [if_pos h2, if_pos (by omega)]
   · rw [if_neg h2, if_neg (by omega)]
     rfl
theorem rside_ok (l : List S97) : Ev (fun k => eggboxref19_Side.f k l) (if 400 < l.length then 6 else if scan l 0 then 0 else 190) := by
 unfold eggboxref19_Side.f
 by_cases h : 400 < l.length
 · have h' : (l.length : Int) > 400 := by omega
   simp only [if_pos h, if_pos h']
   exact Ev.now _
 · have h' : ¬ (l.length : Int) > 400 := by omega
   simp only [if_neg h, if_neg h']
   refine Ev.bind (HRefLaw.term_ok l (by omega)) ?_
   exact Ev.congr (f := fun _ => some (if scan l 0 then 0 else 190)) (fun _ => by cases scan l 0 <;> rfl) (Ev.now _)

/-! ### spelt -/
theorem step2 {α : Type} {g f : Nat → Option α} {r : α} (h : ∀ k, g (k + 2) = f k) (k : Ev f r) : Ev g r := by
 obtain ⟨K, k⟩ := k
 refine ⟨K + 2, fun n hn => ?_⟩
 obtain ⟨m, rfl⟩ : ∃ m, n = m + 2 := ⟨n - 2, by omega⟩
 rw [h]
 exact k m (by omega)
theorem last_w (st : List ByteArray) (w : ByteArray) (h : st.length ≤ 1000) : wrap64 (((st ++ [w]).length : Int) - 1) = (st.length : Int) := by
 have hl : (st ++ [w]).length = st.length + 1 := by simp
 rw [w64 (by omega) (by omega)]
 omega
theorem last_rd (st : List ByteArray) (w : ByteArray) : rdOf ByteArray.empty (st ++ [w]) (st.length : Int) = w := by simp [rdOf]
theorem one_step (l : List S97) (vs : List ByteArray) (n : Int) (st : List ByteArray) (i : Nat) (hi : i < l.length) (h4 : l.length ≤ 400) (hs : st.length ≤ 1000) (h1 : (rd_T97 l (i : Int)).f0 = 1) (k : Nat) :
 eggboxref19_spelt.l0 (k + 1) l vs n st (i : Int) = eggboxref19_spelt.l0 k l vs n (st ++ [⟨#[]⟩]) ((i + 1 : Nat) : Int) := by
 have hz : ¬ (((⟨#[]⟩ : ByteArray).size : Int) > 4096) := by decide
 simp only [eggboxref19_spelt.l0]
 rw [if_pos (by omega), if_pos (by omega), if_pos h1, if_pos (by omega)]
 simp only [Option.bind_some, last_w st _ hs, last_rd]
 rw [if_pos (by omega), if_pos (by simp; omega), if_neg hz, w64 (by omega) (by omega)]
 rfl
theorem var_step (l : List S97) (vs : List ByteArray) (n : Int) (st : List ByteArray) (i : Nat) (hi : i < l.length) (h4 : l.length ≤ 400) (hs : st.length ≤ 1000) (h1 : (rd_T97 l (i : Int)).f0 = 2) (h0 : 0 ≤ pl (rd_T97 l (i : Int)).f1) (hv : pl (rd_T97 l (i : Int)).f1 < vs.length) (k : Nat) :
 eggboxref19_spelt.l0 (k + 1) l vs n st (i : Int) = if ((rdOf ByteArray.empty vs (pl (rd_T97 l (i : Int)).f1)).size : Int) > 4096 then some ((⟨#[]⟩ : ByteArray), false) else eggboxref19_spelt.l0 k l vs n (st ++ [rdOf ByteArray.empty vs (pl (rd_T97 l (i : Int)).f1)]) ((i + 1 : Nat) : Int) := by
 have hp : ∀ c : Int, eggboxref19_Place.f c = some (pl c) := fun _ => rfl
 simp only [eggboxref19_spelt.l0]
 rw [if_pos (by omega), if_pos (by omega), if_neg (by omega), if_pos h1, hp]
 simp only [Option.bind_some]
 rw [if_pos h0, if_pos hv, if_pos (by omega)]
 simp only [last_w st _ hs, last_rd]
 rw [if_pos (by omega), if_pos (by simp; omega), w64 (by omega) (by omega)]
 rfl
theorem om_step (l : List S97) (vs : List ByteArray) (n : Int) (st : List ByteArray) (w : ByteArray) (i : Nat) (hi : i < l.length) (h4 : l.length ≤ 400) (hs : st.length ≤ 1000) (h1 : (rd_T97 l (i : Int)).f0 = 4) (hn : 0 ≤ n) (hn2 : n ≤ 9223372036854775807) (hw : w.size ≤ 4096) (k : Nat) :
 eggboxref19_spelt.l0 (k + 2) l vs n (st ++ [w]) (i : Int) = if (ow n (w, false)).2 = true then some ((⟨#[]⟩ : ByteArray), false) else eggboxref19_spelt.l0 k l vs n (st ++ [(ow n (w, false)).1]) ((i + 1 : Nat) : Int) := by
 have hl : (st ++ [w]).length = st.length + 1 := by simp
 have e : eggboxref19_spelt.l0 (k + 2) l vs n (st ++ [w]) (i : Int) = eggboxref19_spelt.j1 (k + 1) l vs n (st ++ [w]) (i : Int) ((st ++ [w]).length : Int) w (decide (0 < w.size) && decide (n > 4096 / (w.size : Int))) := by
  have hwd : wrap64 ((4096 : Int) / (w.size : Int)) = (4096 : Int) / (w.size : Int) := wdiv_ w
  simp only [eggboxref19_spelt.l0]
  rw [if_pos (by omega), if_pos (by omega), if_neg (by omega), if_neg (by omega), if_pos h1]
  simp only [last_w st _ hs, last_rd]
  rw [if_pos (by omega), if_pos (by omega)]
  by_cases hz : w.size = 0
  · rw [if_neg (by omega), hz]
    rfl
  · rw [if_pos (by omega), if_neg (by omega), hwd]
    have : decide (0 < w.size) = true := decide_eq_true (by omega)
    rw [this, Bool.true_and]
 rw [e]
 by_cases hz : w.size = 0
 · have ho : ow n (w, false) = (w, false) := by
    unfold ow
    rw [if_neg (by simp), if_pos hz]
   have hf : (decide (0 < w.size) && decide (n > 4096 / (w.size : Int))) = false := by
    rw [show decide (0 < w.size) = false from decide_eq_false (by omega)]; rfl
   rw [ho, hf, if_neg (by simp)]
   simp only [eggboxref19_spelt.j1]
   rw [if_neg (by simp), if_neg (by omega)]
   simp only [last_w st _ hs, last_rd]
   rw [if_pos (by omega), if_pos (by omega), if_neg (by omega), w64 (by omega) (by omega)]
   rfl
 · have ht : decide (0 < w.size) = true := decide_eq_true (by omega)
   rw [ht, Bool.true_and]
   by_cases hg : n > 4096 / (w.size : Int)
   · have ho : ow n (w, false) = (⟨#[]⟩, true) := by
      unfold ow
      rw [if_neg (by simp), if_neg hz, if_pos hg]
     rw [ho, if_pos rfl, decide_eq_true hg]
     simp only [eggboxref19_spelt.j1]
     rw [if_pos trivial]
   · have ho : ow n (w, false) = (⟨(Lib.repeatL w.data.toList n.toNat).toArray⟩, false) := by
      unfold ow
      rw [if_neg (by simp), if_neg hz, if_neg hg]
     have hsm := ow_small n (w, false) (by rw [ho])
     rw [ho] at hsm
     have hsm' : (⟨(Lib.repeatL w.data.toList n.toNat).toArray⟩ : ByteArray).size ≤ 4096 := hsm
     have hfit : w.size * n.toNat ≤ 4096 := by
      have hsz : (⟨(Lib.repeatL w.data.toList n.toNat).toArray⟩ : ByteArray).size = n.toNat * w.size := by
       show (Lib.repeatL w.data.toList n.toNat).toArray.size = _
       rw [List.size_toArray, rep_len]
       simp
      rw [hsz] at hsm'
      rw [Nat.mul_comm]
      exact hsm'
     have hR : strings_Repeat.f w n = some ⟨(Lib.repeatL w.data.toList n.toNat).toArray⟩ := by
      unfold strings_Repeat.f
      rw [if_pos ⟨hn, hn2, by omega⟩]
     have hset : (st ++ [w]).set st.length (⟨(Lib.repeatL w.data.toList n.toNat).toArray⟩ : ByteArray) = st ++ [⟨(Lib.repeatL w.data.toList n.toNat).toArray⟩] := by simp
     rw [ho, if_neg (by simp), decide_eq_false hg]
     simp only [eggboxref19_spelt.j1]
     rw [if_neg (by simp), if_pos (by omega), hR]
     simp only [Option.bind_some, last_w st _ hs, Int.toNat_natCast, hset, last_rd]
     rw [if_pos (by omega), if_pos (by omega), if_pos (by omega), if_pos (by omega), if_neg (by omega), w64 (by omega) (by omega)]
     rfl
theorem mul_step (l : List S97) (vs : List ByteArray) (n : Int) (st : List ByteArray) (a b : ByteArray) (i : Nat) (hi : i < l.length) (h4 : l.length ≤ 400) (hs : st.length ≤ 1000) (h1 : (rd_T97 l (i : Int)).f0 = 3) (ha : a.size ≤ 4096) (hb : b.size ≤ 4096) (k : Nat) :
 eggboxref19_spelt.l0 (k + 1) l vs n (st ++ [a] ++ [b]) (i : Int) = if (tw (a, false) (b, false)).2 = true then some ((⟨#[]⟩ : ByteArray), false) else eggboxref19_spelt.l0 k l vs n (st ++ [(tw (a, false) (b, false)).1]) ((i + 1 : Nat) : Int) := by
 have hl : (st ++ [a] ++ [b]).length = st.length + 2 := by simp
 have w1 : wrap64 (((st ++ [a] ++ [b]).length : Int) - 1) = ((st.length + 1 : Nat) : Int) := by rw [w64 (by omega) (by omega)]; omega
 have w2 : wrap64 (((st ++ [a] ++ [b]).length : Int) - 2) = (st.length : Int) := by rw [w64 (by omega) (by omega)]; omega
 have r1 : rdOf ByteArray.empty (st ++ [a] ++ [b]) ((st.length + 1 : Nat) : Int) = b := by
  have := last_rd (st ++ [a]) b
  rw [List.length_append] at this
  exact this
 have r2 : rdOf ByteArray.empty (st ++ [a] ++ [b]) (st.length : Int) = a := by simp [rdOf]
 have ht : (st ++ [a] ++ [b]).take (st.length + 1) = st ++ [a] := by
  have : (st ++ [a]).length = st.length + 1 := by simp
  rw [← this, List.take_left]
 have hset : (st ++ [a]).set st.length (a ++ b) = st ++ [a ++ b] := by simp
 have hsa : (a ++ b).size = a.size + b.size := ByteArray.size_append
 simp only [eggboxref19_spelt.l0]
 rw [if_pos (by omega), if_pos (by omega), if_neg (by omega), if_neg (by omega), if_neg (by omega), if_pos h1]
 simp only [w1, w2, r1, r2, Int.toNat_natCast, ht, Option.bind_some, hset, last_w st _ hs, last_rd]
 rw [if_pos (by omega), if_pos (by omega), if_pos (by omega), if_pos (by omega), if_pos (by omega), if_pos (by omega), if_pos (by simp; omega), if_pos (by omega), if_pos (by simp; omega)]
 unfold tw
 by_cases hz : 4096 < a.size + b.size
 · rw [if_pos (by omega), if_pos (Or.inr (Or.inr hz)), if_pos rfl]
 · have hz' : ¬ ((a, false).2 = true ∨ (b, false).2 = true ∨ 4096 < (a, false).1.size + (b, false).1.size) := by
    rintro (q | q | q)
    · cases q
    · cases q
    · exact hz q
   rw [if_neg (by omega), if_neg hz', if_neg (by simp), w64 (by omega) (by omega)]
   rfl
theorem spelt_tree (l : List S97) (vs : List ByteArray) (n : Int) (h4 : l.length ≤ 400) (hn : 0 ≤ n) (hn2 : n ≤ 9223372036854775807) : ∀ (t : T) (pre rest : List S97) (st : List ByteArray), inb vs t → l = pre ++ toL t ++ rest → st.length + (toL t).length ≤ 1000 → ∀ r : ByteArray × Bool,
 ((sp vs n t).2 = true → r = (⟨#[]⟩, false)) → ((sp vs n t).2 = false → Ev (fun k => eggboxref19_spelt.l0 k l vs n (st ++ [(sp vs n t).1]) ((pre ++ toL t).length : Int)) r) → Ev (fun k => eggboxref19_spelt.l0 k l vs n st (pre.length : Int)) r
 | .one, pre, rest, st, hb, hl, hs, r, hT, hF => by
  have e : rd_T97 l (pre.length : Int) = ⟨1, 0⟩ := by
   rw [hl, List.append_assoc]; exact HRefLaw.rd_at pre _ rest
  have hlen : l.length = pre.length + 1 + rest.length := by rw [hl]; simp [toL]; omega
  refine Ev.step (fun k => one_step l vs n st pre.length (by omega) h4 (by omega) (by rw [e]) k) ?_
  have := hF rfl
  rw [show (pre ++ toL .one).length = pre.length + 1 by simp [toL]] at this
  exact this
 | .var c, pre, rest, st, hb, hl, hs, r, hT, hF => by
  have hb' : 0 ≤ pl c ∧ pl c < vs.length := hb
  have e : rd_T97 l (pre.length : Int) = ⟨2, c⟩ := by
   rw [hl, List.append_assoc]; exact HRefLaw.rd_at pre _ rest
  have hlen : l.length = pre.length + 1 + rest.length := by rw [hl]; simp [toL]; omega
  have st1 := fun k => var_step l vs n st pre.length (by omega) h4 (by omega) (by rw [e]) (by rw [e]; exact hb'.1) (by rw [e]; exact hb'.2) k
  rw [e] at st1
  by_cases hz : 4096 < (rdOf ByteArray.empty vs (pl c)).size
  · have hz' : ((rdOf ByteArray.empty vs (pl c)).size : Int) > 4096 := by omega
    rw [hT (decide_eq_true hz)]
    exact Ev.step (fun k => (st1 k).trans (if_pos hz')) (Ev.now _)
  · have hz' : ¬ ((rdOf ByteArray.empty vs (pl c)).size : Int) > 4096 := by omega
    refine Ev.step (fun k => (st1 k).trans (if_neg hz')) ?_
    have := hF (decide_eq_false hz)
    rw [show (pre ++ toL (.var c)).length = pre.length + 1 by simp [toL]] at this
    exact this
 | .mul a b, pre, rest, st, hb, hl, hs, r, hT, hF => by
  have hla : (toL (.mul a b)).length = (toL a).length + (toL b).length + 1 := by simp [toL]; omega
  have hlen : l.length = pre.length + (toL a).length + (toL b).length + 1 + rest.length := by rw [hl]; simp [toL]; omega
  have hl1 : l = pre ++ toL a ++ (toL b ++ [⟨3, 0⟩] ++ rest) := by rw [hl]; simp [toL]
  have hl2 : l = (pre ++ toL a) ++ toL b ++ ([⟨3, 0⟩] ++ rest) := by rw [hl]; simp [toL]
  have hl3 : l = ((pre ++ toL a) ++ toL b) ++ ⟨3, 0⟩ :: rest := by rw [hl]; simp [toL]
  have hsp : sp vs n (.mul a b) = tw (sp vs n a) (sp vs n b) := rfl
  refine spelt_tree l vs n h4 hn hn2 a pre _ st hb.1 hl1 (by omega) r (fun qa => hT ?_) (fun qa => ?_)
  · rw [hsp]; unfold tw; rw [if_pos (Or.inl qa)]
  refine spelt_tree l vs n h4 hn hn2 b (pre ++ toL a) _ (st ++ [(sp vs n a).1]) hb.2 hl2 (by simp; omega) r (fun qb => hT ?_) (fun qb => ?_)
  · rw [hsp]; unfold tw; rw [if_pos (Or.inr (Or.inl qb))]
  have e : rd_T97 l (((pre ++ toL a) ++ toL b).length : Int) = ⟨3, 0⟩ := by
   rw [hl3]; exact HRefLaw.rd_at _ _ rest
  have ea : sp vs n a = ((sp vs n a).1, false) := by rw [← qa]
  have eb : sp vs n b = ((sp vs n b).1, false) := by rw [← qb]
  have st1 := fun k => mul_step l vs n st (sp vs n a).1 (sp vs n b).1 ((pre ++ toL a) ++ toL b).length (by simp; omega) h4 (by omega) (by rw [e]) (sp_small vs n a qa) (sp_small vs n b qb) k
  rw [← ea, ← eb, ← hsp] at st1
  cases hz : (sp vs n (.mul a b)).2 with
  | true =>
   rw [hT hz]
   exact Ev.step (fun k => (st1 k).trans (if_pos hz)) (Ev.now _)
  | false =>
   refine Ev.step (fun k => (st1 k).trans (if_neg (by rw [hz]; simp))) ?_
   have := hF hz
   rw [show (pre ++ toL (.mul a b)).length = ((pre ++ toL a) ++ toL b).length + 1 by simp [toL]; omega] at this
   exact this
 | .om a, pre, rest, st, hb, hl, hs, r, hT, hF => by
  have hla : (toL (.om a)).length = (toL a).length + 1 := by simp [toL]
  have hlen : l.length = pre.length + (toL a).length + 1 + rest.length := by rw [hl]; simp [toL]; omega
  have hl1 : l = pre ++ toL a ++ ([⟨4, 0⟩] ++ rest) := by rw [hl]; simp [toL]
  have hl3 : l = (pre ++ toL a) ++ ⟨4, 0⟩ :: rest := by rw [hl]; simp [toL]
  have hsp : sp vs n (.om a) = ow n (sp vs n a) := rfl
  refine spelt_tree l vs n h4 hn hn2 a pre _ st hb hl1 (by omega) r (fun qa => hT ?_) (fun qa => ?_)
  · rw [hsp]; unfold ow; rw [if_pos qa]
  have e : rd_T97 l ((pre ++ toL a).length : Int) = ⟨4, 0⟩ := by
   rw [hl3]; exact HRefLaw.rd_at _ _ rest
  have ea : sp vs n a = ((sp vs n a).1, false) := by rw [← qa]
  have st1 := fun k => om_step l vs n st (sp vs n a).1 (pre ++ toL a).length (by simp; omega) h4 (by omega) (by rw [e]) hn hn2 (sp_small vs n a qa) k
  rw [← ea, ← hsp] at st1
  cases hz : (sp vs n (.om a)).2 with
  | true =>
   rw [hT hz]
   exact step2 (fun k => (st1 k).trans (if_pos hz)) (Ev.now _)
  | false =>
   refine step2 (fun k => (st1 k).trans (if_neg (by rw [hz]; simp))) ?_
   have := hF hz
   rw [show (pre ++ toL (.om a)).length = (pre ++ toL a).length + 1 by simp [toL]; omega] at this
   exact this
theorem spelt_ok (t : T) (vs : List ByteArray) (n : Int) (h4 : (toL t).length ≤ 400) (hn : 0 ≤ n) (hn2 : n ≤ 9223372036854775807) (hb : inb vs t) : Ev (fun k => eggboxref19_spelt.f k (toL t) vs n) (if (sp vs n t).2 = true then (⟨#[]⟩, false) else ((sp vs n t).1, true)) := by
 unfold eggboxref19_spelt.f
 refine spelt_tree (toL t) vs n h4 hn hn2 t [] [] [] hb (by simp) (by simp; omega) _ (fun q => if_pos q) (fun q => ?_)
 rw [if_neg (by rw [q]; simp)]
 refine Ev.step (f := fun _ => some ((sp vs n t).1, true)) (fun k => ?_) (Ev.now _)
 simp only [eggboxref19_spelt.l0]
 rw [if_neg (by simp)]
 simp [rdOf]

/-! ### The document's Word -/
theorem nm_eq (i : Nat) (h : i < 4) : bt (⟨#[120, 121, 122, 116]⟩ : ByteArray) (i : Int) = HWord.nmI (i : Int) := by
 rcases (show i = 0 ∨ i = 1 ∨ i = 2 ∨ i = 3 by omega) with rfl | rfl | rfl | rfl <;> rfl
theorem l1_loop (k : Int) (t : T) (vs : List ByteArray) (n : Int) (hw : t.wf) (h4 : (toL t).length ≤ 400) (h1 : 1 ≤ n) (hn2 : n ≤ 9223372036854775807) (hv : ∀ y ∈ vs, y.size ≤ 140737488355328) (hm : HWord.miss (toL t) vs 0 = false) : ∀ (d i : Nat), 4 - i ≤ d → i ≤ 4 →
 Ev (fun g => eggboxref19_Word.l1 g k (toL t) vs n (i : Int)) (if HWord.odd k (toL t) vs (i : Int) = true then (⟨#[]⟩, 21) else if (sp vs n t).2 = true then (⟨#[]⟩, 6) else ((sp vs n t).1, 0)) := by
 intro d
 induction d with
 | zero =>
  intro i hd hi
  obtain rfl : i = 4 := by omega
  have ho : HWord.odd k (toL t) vs ((4 : Nat) : Int) = false := rfl
  rw [ho, if_neg (by simp)]
  refine Ev.step (f := fun g => (eggboxref19_spelt.f g (toL t) vs n).bind fun bt250 => (if bt250.2 = true then (some (bt250.1, 0)) else (some ((⟨#[]⟩ : ByteArray), 6)))) (fun g => ?_) ?_
  · simp only [eggboxref19_Word.l1]
    rw [if_neg (by omega)]
  · refine Ev.bind (spelt_ok t vs n h4 (by omega) hn2 (inb_miss vs t hw hm)) ?_
    cases hz : (sp vs n t).2 with
    | true =>
     simp only [if_true]
     exact Ev.now _
    | false =>
     simp only [Bool.false_eq_true, if_false, if_true]
     exact Ev.now _
 | succ d ih =>
  intro i hd hi
  by_cases e : i = 4
  · exact ih i (by omega) hi
  · have i4 : i < 4 := by omega
    have i4' : (i : Int) = 0 ∨ (i : Int) = 1 ∨ (i : Int) = 2 ∨ (i : Int) = 3 := by omega
    have hstep := HWord.odd_step k (toL t) vs (i : Int) i4'
    refine Ev.step (f := fun g => (eggboxref19_in.f g (toL t) (HWord.nmI (i : Int))).bind fun t252 => (if t252 = true then (if (i : Int) < (vs.length : Int) then ((eggboxref01_Check.f g k (rdOf ByteArray.empty vs (i : Int))).bind fun t254 => (if t254 = 0 then (eggboxref19_Word.l1 g k (toL t) vs n ((i + 1 : Nat) : Int)) else (some ((⟨#[]⟩ : ByteArray), 21)))) else (none)) else (eggboxref19_Word.l1 g k (toL t) vs n ((i + 1 : Nat) : Int)))) (fun g => ?_) ?_
    · simp only [eggboxref19_Word.l1]
      rw [if_pos (by omega), if_pos (by omega), nm_eq i i4, w64 (by omega) (by omega)]
      rfl
    · refine Ev.bind (HRefTurn.in_ok (toL t) _ h4) ?_
      cases hx : has (toL t) (HWord.nmI (i : Int)) with
      | false =>
       simp only [Bool.false_eq_true, if_false]
       rw [hstep, hx, Bool.false_and, Bool.false_or]
       exact ih (i + 1) (by omega) (by omega)
      | true =>
       have hlt := HWord.miss_lt hm (i : Int) i4' hx
       have hy : (rdOf ByteArray.empty vs (i : Int)).size ≤ 140737488355328 := by
        have hi' : i < vs.length := by omega
        have : rdOf ByteArray.empty vs (i : Int) = vs[i] := by simp [rdOf, List.getD_eq_getElem?_getD, List.getElem?_eq_getElem hi']
        rw [this]
        exact hv _ (List.getElem_mem hi')
       simp only [if_true, if_pos hlt]
       refine Ev.bind (refCheck_ok k _ hy) ?_
       by_cases hc : HCheck.chk k (rdOf ByteArray.empty vs (i : Int)) = 0
       · simp only [if_pos hc]
         have hb : (HCheck.chk k (HWord.val vs (i : Int)) != 0) = false := by
          unfold HWord.val
          rw [hc]; rfl
         rw [hstep, hx, hb, Bool.and_false, Bool.false_or]
         exact ih (i + 1) (by omega) (by omega)
       · simp only [if_neg hc]
         have hb : (HCheck.chk k (HWord.val vs (i : Int)) != 0) = true := by
          unfold HWord.val
          exact bne_iff_ne.2 hc
         rw [hstep, hx, hb, Bool.and_true, Bool.true_or, if_pos rfl]
         exact Ev.now _
theorem l0_loop (k : Int) (t : T) (vs : List ByteArray) (n : Int) (h4 : (toL t).length ≤ 400) (r : ByteArray × Int) (hv : vs.length ≤ 8796093022208) : ∀ (d i : Nat), 4 - i ≤ d → i ≤ 4 →
 (HWord.miss (toL t) vs (i : Int) = false → Ev (fun g => eggboxref19_Word.l1 g k (toL t) vs n 0) r) → (HWord.miss (toL t) vs (i : Int) = true → r = (⟨#[]⟩, 3)) →
 Ev (fun g => eggboxref19_Word.l0 g k (toL t) vs n (i : Int)) r := by
 intro d
 induction d with
 | zero =>
  intro i hd hi hF hT
  obtain rfl : i = 4 := by omega
  refine Ev.step (f := fun g => eggboxref19_Word.l1 g k (toL t) vs n 0) (fun g => ?_) (hF rfl)
  simp only [eggboxref19_Word.l0]
  rw [if_neg (by omega)]
 | succ d ih =>
  intro i hd hi hF hT
  by_cases e : i = 4
  · exact ih i (by omega) hi hF hT
  · have i4 : i < 4 := by omega
    have i4' : (i : Int) = 0 ∨ (i : Int) = 1 ∨ (i : Int) = 2 ∨ (i : Int) = 3 := by omega
    have hstep := HWord.miss_step (toL t) vs (i : Int) i4'
    refine Ev.step (f := fun g => (eggboxref19_in.f g (toL t) (HWord.nmI (i : Int))).bind fun t249 => (if t249 = true then (if (i : Int) ≥ (vs.length : Int) then (some ((⟨#[]⟩ : ByteArray), 3)) else (eggboxref19_Word.l0 g k (toL t) vs n ((i + 1 : Nat) : Int))) else (eggboxref19_Word.l0 g k (toL t) vs n ((i + 1 : Nat) : Int)))) (fun g => ?_) ?_
    · simp only [eggboxref19_Word.l0]
      rw [if_pos (by omega), if_pos (by omega), nm_eq i i4, w64 (by omega) (by omega)]
      rfl
    · refine Ev.bind (HRefTurn.in_ok (toL t) _ h4) ?_
      cases hx : has (toL t) (HWord.nmI (i : Int)) with
      | false =>
       simp only [Bool.false_eq_true, if_false]
       rw [hx, Bool.false_and, Bool.false_or] at hstep
       exact ih (i + 1) (by omega) (by omega) (fun q => hF (hstep.trans q)) (fun q => hT (hstep.trans q))
      | true =>
       simp only [if_true]
       by_cases hlt : (i : Int) ≥ (vs.length : Int)
       · have hd : decide ((vs.length : Int) ≤ (i : Int)) = true := decide_eq_true hlt
         rw [hx, hd, Bool.and_true, Bool.true_or] at hstep
         simp only [if_pos hlt]
         rw [hT hstep]
         exact Ev.now _
       · have hd : decide ((vs.length : Int) ≤ (i : Int)) = false := decide_eq_false hlt
         rw [hx, hd, Bool.and_false, Bool.false_or] at hstep
         simp only [if_neg hlt]
         exact ih (i + 1) (by omega) (by omega) (fun q => hF (hstep.trans q)) (fun q => hT (hstep.trans q))
theorem rword_good (k : Int) (t : T) (vs : List ByteArray) (n : Int) (hw : t.wf) (h4 : (toL t).length ≤ 400) (hn2 : n ≤ 9223372036854775807) (hl : vs.length ≤ 8796093022208) (hv : ∀ y ∈ vs, y.size ≤ 140737488355328) : Ev (fun g => eggboxref19_Word.f g k (toL t) vs n) (wd k (toL t) t vs n) := by
 unfold eggboxref19_Word.f wd
 rw [letters_ok]
 simp only [Option.bind_some]
 by_cases hk : HCheck.chk k ⟨#[]⟩ = 0
 · have hk' : ¬ (HCheck.chk k ⟨#[]⟩ ≠ 0) := fun q => q hk
   rw [if_neg hk']
   simp only [if_pos hk]
   have hs := rside_ok (toL t)
   rw [if_neg (by omega), scan_good t hw, if_pos rfl] at hs
   refine Ev.bind hs ?_
   by_cases hn : n < 1
   · rw [if_pos hn]
     refine Ev.step (f := fun _ => some ((⟨#[]⟩ : ByteArray), 1)) (fun g => ?_) (Ev.now _)
     simp only [eggboxref19_Word.j0]
     rw [if_pos trivial, if_pos hn]
   · rw [if_neg hn]
     refine Ev.step (f := fun g => eggboxref19_Word.l0 g k (toL t) vs n ((0 : Nat) : Int)) (fun g => ?_) ?_
     · simp only [eggboxref19_Word.j0]
       rw [if_pos trivial, if_neg hn]
       rfl
     · refine l0_loop k t vs n h4 _ hl 4 0 (by omega) (by omega) (fun q => ?_) (fun q => if_pos q)
       have q' : HWord.miss (toL t) vs 0 = false := q
       rw [if_neg (by rw [q']; simp)]
       exact l1_loop k t vs n hw h4 (by omega) hn2 hv q' 4 0 (by omega) (by omega)
 · rw [if_pos hk]
   simp only [if_neg hk]
   refine Ev.step (f := fun _ => some ((⟨#[]⟩ : ByteArray), HCheck.chk k ⟨#[]⟩)) (fun g => ?_) (Ev.now _)
   simp only [eggboxref19_Word.j0]
   rw [if_neg hk]
theorem rword_bad (k : Int) (l : List S97) (vs : List ByteArray) (n : Int) (h : 400 < l.length ∨ scan l 0 = false) :
 Ev (fun g => eggboxref19_Word.f g k l vs n) (⟨#[]⟩, if HCheck.chk k ⟨#[]⟩ ≠ 0 then HCheck.chk k ⟨#[]⟩ else if 400 < l.length then 6 else 190) := by
 unfold eggboxref19_Word.f
 rw [letters_ok]
 simp only [Option.bind_some]
 by_cases hk : HCheck.chk k ⟨#[]⟩ = 0
 · have hk' : ¬ (HCheck.chk k ⟨#[]⟩ ≠ 0) := fun q => q hk
   rw [if_neg hk']
   simp only [if_pos hk]
   have hs := rside_ok l
   by_cases h4 : 400 < l.length
   · rw [if_pos h4] at hs
     rw [if_pos h4]
     refine Ev.bind hs ?_
     refine Ev.step (f := fun _ => some ((⟨#[]⟩ : ByteArray), 6)) (fun g => ?_) (Ev.now _)
     simp only [eggboxref19_Word.j0]
     rw [if_neg (by decide)]
   · have h5 : scan l 0 = false := by
      rcases h with h | h
      · exact absurd h h4
      · exact h
     rw [if_neg h4, h5] at hs
     rw [if_neg h4]
     refine Ev.bind hs ?_
     refine Ev.step (f := fun _ => some ((⟨#[]⟩ : ByteArray), 190)) (fun g => ?_) (Ev.now _)
     simp only [eggboxref19_Word.j0]
     rw [if_neg (by decide)]
     rfl
 · rw [if_pos hk]
   simp only [if_neg hk]
   refine Ev.step (f := fun _ => some ((⟨#[]⟩ : ByteArray), HCheck.chk k ⟨#[]⟩)) (fun g => ?_) (Ev.now _)
   simp only [eggboxref19_Word.j0]
   rw [if_neg hk]
theorem sides_loop (l : List S97) (hl : l.length ≤ 9000000000000) : ∀ (n i : Nat), l.length - i ≤ n → Ev (fun k => PZ.eggboxlaw19_sides.l0 k l l (i : Int)) true := by
 intro n
 induction n with
 | zero =>
  intro i h
  refine Ev.step (f := fun _ => some true) (fun k => ?_) (Ev.now _)
  simp only [PZ.eggboxlaw19_sides.l0]
  rw [if_neg (by omega)]
 | succ n ih =>
  intro i h
  by_cases hi : i < l.length
  · refine Ev.step (f := fun k => PZ.eggboxlaw19_sides.l0 k l l ((i + 1 : Nat) : Int)) (fun k => ?_) (ih (i + 1) (by omega))
    simp only [PZ.eggboxlaw19_sides.l0]
    rw [if_pos (by omega), if_pos (by omega), if_pos (by omega), if_neg (by simp), w64 (by omega) (by omega)]
    rfl
  · exact ih i (by omega)
theorem sides_self (l : List S97) (hl : l.length ≤ 9000000000000) : Ev (fun k => PZ.eggboxlaw19_sides.f k l l) true := by
 refine Ev.congr (f := fun k => PZ.eggboxlaw19_sides.l0 k l l 0) (fun k => ?_) (sides_loop l hl l.length 0 (by omega))
 unfold PZ.eggboxlaw19_sides.f
 rw [if_pos rfl]
theorem words_loop (vs : List ByteArray) (hl : vs.length ≤ 8796093022208) : ∀ (d i : Nat), vs.length - i ≤ d → Ev (fun k => eggboxlaw01_SameWords.l0 k vs vs (i : Int)) true := by
 intro d
 induction d with
 | zero =>
  intro i hd
  refine Ev.step (f := fun _ => some true) (fun k => ?_) (Ev.now _)
  simp only [eggboxlaw01_SameWords.l0]
  rw [if_neg (by omega)]
 | succ d ih =>
  intro i hd
  by_cases hi : i < vs.length
  · refine Ev.step (f := fun k => eggboxlaw01_SameWords.l0 k vs vs ((i + 1 : Nat) : Int)) (fun k => ?_) (ih (i + 1) (by omega))
    simp only [eggboxlaw01_SameWords.l0]
    rw [if_pos (by omega), if_pos (by omega), if_pos (by omega), if_pos trivial, w64 (by omega) (by omega)]
    rfl
  · exact ih i (by omega)
theorem words_self (vs : List ByteArray) (hl : vs.length ≤ 8796093022208) : Ev (fun k => eggboxlaw01_SameWords.f k vs vs) true := by
 unfold eggboxlaw01_SameWords.f
 simp only [if_true]
 exact words_loop vs hl vs.length 0 (by omega)
theorem fin (kk : Int) (l : List S97) (vs : List ByteArray) (n : Int) (R : ByteArray × Int) (hl : l.length < 8796093022208) (hlen : vs.length < 8796093022208)
 (hW : Ev (fun g => terms_Word.f g kk l vs n) R) (rW : Ev (fun g => eggboxref19_Word.f g kk l vs n) R) : Ev (fun k => eggboxlaw19_TermsWords.f k kk l vs n) true := by
 unfold eggboxlaw19_TermsWords.f
 simp only [Option.bind_some, List.nil_append, List.length_nil, Nat.zero_add, if_pos hl, if_pos hlen]
 refine Ev.bind hW ?_
 refine Ev.bind rW ?_
 simp only [if_true, eggboxlaw19_num.f, Option.bind_some]
 refine Ev.bind (sides_self l (by omega)) ?_
 simp only [if_true]
 refine Ev.bind (words_self vs (by omega)) ?_
 simp only [if_true]
 exact Ev.bind HLaw.knows_ok (Ev.now _)
theorem TermsWords (kk : Int) (l : List S97) (vs : List ByteArray) (n : Int) (hb : Byte l) (hn : n ≤ 9223372036854775807) (hl : l.length < 8796093022208) (hlen : vs.length < 8796093022208) (hv : ∀ y ∈ vs, y.size ≤ 140737488351232) :
 Ev (fun k => eggboxlaw19_TermsWords.f k kk l vs n) true := by
 have up : ∀ R : ByteArray × Int, Ev (fun g => HWord.wordP g kk l vs n) R → Ev (fun g => terms_Word.f g kk l vs n) R := fun R h => by
  unfold terms_Word.f
  simp only [if_pos hn]
  exact h
 by_cases h : 400 < l.length ∨ scan l 0 = false
 · exact fin kk l vs n _ hl hlen (up _ (word_bad kk l vs n hb h)) (rword_bad kk l vs n h)
 · have h4 : l.length ≤ 400 := by
    by_cases q : 400 < l.length
    · exact absurd (Or.inl q) h
    · omega
   have hs : scan l 0 = true := by
    cases q : scan l 0 with
    | true => rfl
    | false => exact absurd (Or.inr q) h
   obtain ⟨t, hw, rfl⟩ := tree_of l hb hs
   exact fin kk (toL t) vs n _ hl hlen (up _ (word_good kk t vs n hw h4)) (rword_good kk t vs n hw h4 hn (by omega) (fun y hy => by have := hv y hy; omega))
theorem byte_of {l : List S97} {B : Nat} (h : (∀ y ∈ l, (Lit.int .i64 y.f0).wf = true ∧ (Lit.int .u8 y.f1).wf = true) ∧ l.length * B ≤ reachBytes) : Byte l := fun x hx => by
 have := (h.1 x hx).2
 simp [Lit.wf, IntKind.min, IntKind.max, IntKind.signed, IntKind.bits] at this
 omega
theorem law (kk : Int) (l : List S97) (vs : List ByteArray) (n : Int) (hk : (Lit.int .i64 kk).wf = true) (hl : (∀ y ∈ l, (Lit.int .i64 y.f0).wf = true ∧ (Lit.int .u8 y.f1).wf = true) ∧ l.length * 16 ≤ reachBytes)
 (hv : (∀ y ∈ vs, y.size ≤ reachBytes) ∧ vs.length * 16 ≤ reachBytes) (hn : (Lit.int .i64 n).wf = true) : Ev (fun k => eggboxlaw19_TermsWords.f k kk l vs n) true := by
 have hr : reachBytes = 140737488351232 := by decide +kernel
 have q := hv.2
 have q2 := hl.2
 rw [hr] at q q2
 refine TermsWords kk l vs n (byte_of hl) ?_ (by omega) (by omega) (fun y hy => ?_)
 · simp [Lit.wf, IntKind.min, IntKind.max, IntKind.signed, IntKind.bits] at hn
   omega
 · have := hv.1 y hy
   rw [hr] at this
   exact this
end Go.Proofs.Ytcbkihhpnndpkaa.PureWords
