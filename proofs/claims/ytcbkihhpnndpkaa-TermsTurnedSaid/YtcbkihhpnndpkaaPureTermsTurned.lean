/- The plain law of TermsTurned: turned twice a side is as it was, and of words turned round it says the word turned round. -/
import Derived.Test.YtcbkihhpnndpkaaPYx1
import Derived.Test.YtcbkihhpnndpkaaHLaw
import Derived.Test.YtcbkihhpnndpkaaHWordTurn
set_option linter.unusedVariables false
set_option linter.unusedSimpArgs false
namespace Go.Proofs.Ytcbkihhpnndpkaa.PureTurned
open Go.RowKit Go.Proofs.Ytcbkihhpnndpkaa.PA Go.Proofs.Ytcbkihhpnndpkaa.PZ Go.Proofs.Ytcbkihhpnndpkaa.PG Go.Proofs.Ytcbkihhpnndpkaa.PU Go.Proofs.Ytcbkihhpnndpkaa.PL Go.Proofs.Ytcbkihhpnndpkaa.PY Go.Proofs.YtcbkihhpnndpkaaW.PrintWords Go.Proofs.YtcbkihhpnndpkaaW.PrintLast
open Go.Proofs.Ytcbkihhpnndpkaa.HRead Go.Proofs.Ytcbkihhpnndpkaa.HTree Go.Proofs.Ytcbkihhpnndpkaa.HVars Go.Proofs.Ytcbkihhpnndpkaa.HRefTurn Go.Proofs.Ytcbkihhpnndpkaa.HWordLaw Go.Proofs.Ytcbkihhpnndpkaa.HWordTurn

theorem str_bytes (l : List UInt8) : strOfNums (l.map (fun b => (b.toNat : Int))) = ⟨l.toArray⟩ := ba_ext (by
 simp only [strOfNums, List.map_map, List.toList_toArray]
 refine (List.map_congr_left (g := id) (fun b _ => ?_)).trans (List.map_id l)
 show UInt8.ofNat (((b.toNat : Nat) : Int).toNat) = b
 rw [Int.toNat_natCast]
 simp)
theorem back_loop (s : ByteArray) (hs : s.size ≤ 140737488351232) : ∀ (i : Nat), i ≤ s.size →
 Ev (fun k => eggboxref01_Turned.l0 k s (((s.data.toList.drop i).reverse).map (fun b => (b.toNat : Int))) ((i : Int) - 1)) (rv s) := by
 intro i
 induction i with
 | zero =>
  intro hi
  refine Ev.step (f := fun _ => some (rv s)) (fun k => ?_) (Ev.now _)
  simp only [eggboxref01_Turned.l0]
  rw [if_neg (by omega), str_bytes]
  rfl
 | succ i ih =>
  intro hi
  refine Ev.step (f := fun k => eggboxref01_Turned.l0 k s (((s.data.toList.drop i).reverse).map (fun b => (b.toNat : Int))) ((i : Int) - 1)) (fun k => ?_) (ih (by omega))
  have e : ((i + 1 : Nat) : Int) - 1 = (i : Int) := by omega
  have hlen : (((s.data.toList.drop (i + 1)).reverse).map (fun b => (b.toNat : Int))).length < 140737488355328 := by simp; omega
  have hb : bt s (i : Int) = ((s[i]'(by omega)).toNat : Int) := HTake.bt_get s i (by omega)
  have hd : s.data.toList.drop i = (s[i]'(by omega)) :: s.data.toList.drop (i + 1) := by
   rw [List.drop_eq_getElem_cons (by simp; omega)]
   rfl
  have hx : (((s.data.toList.drop (i + 1)).reverse).map (fun b => (b.toNat : Int))) ++ [bt s (i : Int)] = ((s.data.toList.drop i).reverse).map (fun b => (b.toNat : Int)) := by
   rw [hd, hb, List.reverse_cons, List.map_append]
   rfl
  simp only [eggboxref01_Turned.l0]
  rw [e, if_pos (by omega), if_pos (by omega), if_pos (by omega), if_pos hlen, w64 (by omega) (by omega), hx]
theorem turned_str (s : ByteArray) (hs : s.size ≤ 140737488351232) : Ev (fun k => eggboxref01_Turned.f k s) (rv s) := by
 unfold eggboxref01_Turned.f
 rw [w64 (by omega) (by omega)]
 have h := back_loop s hs s.size (Nat.le_refl _)
 rw [List.drop_of_length_le (by simp)] at h
 exact h
theorem wd_size (k : Int) (l : List S97) (t : T) (vs : List ByteArray) (n : Int) : (wd k l t vs n).1.size ≤ 4096 := by
 unfold wd
 split; · exact Nat.zero_le _
 split; · exact Nat.zero_le _
 split; · exact Nat.zero_le _
 split; · exact Nat.zero_le _
 split
 · exact Nat.zero_le _
 · rename_i h
   exact sp_small vs n t (by simpa using h)
theorem l0_ok (kk : Int) (a : T) (vs : List ByteArray) (n : Int) (m2 : List S97) (b2 : Bool) (ha : a.wf) (h4 : (toL a).length ≤ 400) (hn : n ≤ 9223372036854775807) (hv : ∀ y ∈ vs, y.size ≤ 140737488351232) (hlen : vs.length < 8796093022208) : ∀ (d i : Nat), vs.length - i ≤ d → i ≤ vs.length →
 Ev (fun g => eggboxlaw19_TermsTurned.l0 g kk vs n (wd kk (toL a) a vs n).1 (wd kk (toL a) a vs n).2 ((vs.take i).map rv) (i : Int) (toL (rev a)) m2 b2) true := by
 intro d
 induction d with
 | zero =>
  intro i hd hi
  obtain rfl : i = vs.length := by omega
  rw [List.take_length]
  refine Ev.step (f := fun g => (terms_Word.f g kk (toL (rev a)) (vs.map rv) n).bind fun bt141 => ((eggboxlaw19_num.f (wd kk (toL a) a vs n).2).bind fun t143 => ((eggboxlaw19_num.f bt141.2).bind fun t144 => (if t143 = t144 then ((eggboxref01_Turned.f g (wd kk (toL a) a vs n).1).bind fun t145 => (some (bt141.1.toList == t145.toList))) else (some false))))) (fun g => ?_) ?_
  · simp only [eggboxlaw19_TermsTurned.l0]
    rw [if_neg (by omega)]
  · have hW : Ev (fun g => terms_Word.f g kk (toL (rev a)) (vs.map rv) n) (wd kk (toL (rev a)) (rev a) (vs.map rv) n) := by
     unfold terms_Word.f
     simp only [if_pos hn]
     exact word_good kk (rev a) (vs.map rv) n (rev_wf a ha) (by rw [rev_len]; exact h4)
    refine Ev.bind hW ?_
    rw [wd_rev kk a vs n ha]
    simp only [eggboxlaw19_num.f, Option.bind_some, if_true]
    refine Ev.bind (turned_str _ (Nat.le_trans (wd_size _ _ _ _ _) (by omega))) ?_
    simp only [beq_self_eq_true]
    exact Ev.now _
 | succ d ih =>
  intro i hd hi
  by_cases e : i = vs.length
  · exact ih i (by omega) hi
  · have hlt : i < vs.length := by omega
    have hr : rdOf ByteArray.empty vs (i : Int) = vs[i] := by simp [rdOf, List.getD_eq_getElem?_getD, List.getElem?_eq_getElem hlt]
    have hs := hv _ (List.getElem_mem hlt)
    refine Ev.step (f := fun g => (eggboxref01_Turned.f g (rdOf ByteArray.empty vs (i : Int))).bind fun t137 => (if ((vs.take i).map rv).length < 8796093022208 then (eggboxlaw19_TermsTurned.l0 g kk vs n (wd kk (toL a) a vs n).1 (wd kk (toL a) a vs n).2 (((vs.take i).map rv) ++ [t137]) ((i + 1 : Nat) : Int) (toL (rev a)) m2 b2) else (none))) (fun g => ?_) ?_
    · simp only [eggboxlaw19_TermsTurned.l0]
      rw [if_pos (by omega), if_pos (by omega), w64 (by omega) (by omega)]
      rfl
    · rw [hr]
      refine Ev.bind (turned_str _ hs) ?_
      have g1 : ((vs.take i).map rv).length < 8796093022208 := by simp; omega
      have g2 : ((vs.take i).map rv) ++ [rv vs[i]] = (vs.take (i + 1)).map rv := by
       rw [List.take_succ_eq_append_getElem hlt, List.map_append]
       rfl
      simp only [if_pos g1, g2]
      exact ih (i + 1) (by omega) (by omega)
theorem chk_good (l m : List S97) (hl : Byte l) (hm : Byte m) (h0 : chk l m = 0) : ∃ a c : T, a.wf ∧ c.wf ∧ l = toL a ∧ m = toL c ∧ l.length ≤ 400 ∧ m.length ≤ 400 := by
 unfold chk at h0
 by_cases hs : 400 < l.length ∨ 400 < m.length
 · rw [if_pos hs] at h0; exact absurd h0 (by decide)
 · rw [if_neg hs] at h0
   by_cases hc : scan l 0 = true ∧ scan m 0 = true
   · obtain ⟨a, ha, ea⟩ := tree_of l hl hc.1
     obtain ⟨c, hc2, ec⟩ := tree_of m hm hc.2
     exact ⟨a, c, ha, hc2, ea, ec, by omega, by omega⟩
   · rw [if_neg hc] at h0; exact absurd h0 (by decide)
theorem chk_zero (a c : T) (ha : a.wf) (hc : c.wf) (h1 : (toL a).length ≤ 400) (h2 : (toL c).length ≤ 400) : chk (toL a) (toL c) = 0 := by
 unfold chk
 rw [if_neg (by omega), if_pos ⟨scan_good a ha, scan_good c hc⟩]
theorem vars_ok (a c : T) (b : Bool) (ha : a.wf) (hc : c.wf) (h1 : (toL a).length ≤ 400) (h2 : (toL c).length ≤ 400) : Ev (fun k => terms_Vars.f k (toL a) (toL c) b) (strOfNums (namesOf (toL a) (toL c) 4), 0) := by
 have hC := check_ok (toL a) (toL c) b (toL_byte a ha) (toL_byte c hc)
 unfold terms_Vars.f varsP
 rw [chk_zero a c ha hc h1 h2] at hC
 refine Ev.bind hC ?_
 simp only [if_true, HRefTurn.named_toL a ha, HRefTurn.named_toL c hc, Bool.and_true]
 exact Ev.now _
theorem TermsTurned (l m : List S97) (b : Bool) (kk : Int) (vs : List ByteArray) (n : Int) (hl : Byte l) (hm : Byte m) (hn : n ≤ 9223372036854775807) (hv : ∀ y ∈ vs, y.size ≤ 140737488351232) (hlen : vs.length < 8796093022208) :
 Ev (fun k => eggboxlaw19_TermsTurned.f k l m b kk vs n) true := by
 by_cases h0 : chk l m = 0
 · obtain ⟨a, c, ha, hc, rfl, rfl, g1, g2⟩ := chk_good l m hl hm h0
   have r1 := rev_len a
   have r2 := rev_len c
   unfold eggboxlaw19_TermsTurned.f
   refine Ev.bind (turn_ok a c b ha hc g1 g2 h0) ?_
   simp only [eggboxlaw19_num.f, Option.bind_some, if_true]
   refine Ev.bind HLaw.knows_ok ?_
   simp only [Bool.not_true]
   refine Ev.step (g := fun k => eggboxlaw19_TermsTurned.j0 k kk vs n false (toL a) (toL c) b (toL (rev a)) (toL (rev c)) b) (fun k => by simp only [eggboxlaw19_TermsTurned.j0, Bool.false_eq_true, if_false]; rfl) ?_
   have ht := turn_ok (rev a) (rev c) b (rev_wf a ha) (rev_wf c hc) (by omega) (by omega) (chk_zero _ _ (rev_wf a ha) (rev_wf c hc) (by omega) (by omega))
   rw [rev_rev, rev_rev] at ht
   refine Ev.bind ht ?_
   refine Ev.bind (vars_ok a c b ha hc g1 g2) ?_
   refine Ev.bind (vars_ok (rev a) (rev c) b (rev_wf a ha) (rev_wf c hc) (by omega) (by omega)) ?_
   have hw : wrap64 (wrap64 ((0 : Int) + 0) + 0) = 0 := by decide +kernel
   simp only [eggboxlaw19_num.f, Option.bind_some, hw, if_true]
   refine Ev.bind (HLaw.same_self _ _ b (by omega) (by omega)) ?_
   simp only [if_true, names_rev, bne_self_eq_false]
   refine Ev.step (g := fun k => eggboxlaw19_TermsTurned.j1 k kk vs n false (toL a) (toL c) b (toL (rev a)) (toL (rev c)) b) (fun k => by simp only [eggboxlaw19_TermsTurned.j1, Bool.false_eq_true, if_false]; rfl) ?_
   have hW : Ev (fun g => terms_Word.f g kk (toL a) vs n) (wd kk (toL a) a vs n) := by
    unfold terms_Word.f
    simp only [if_pos hn]
    exact word_good kk a vs n ha g1
   refine Ev.bind hW ?_
   have := l0_ok kk a vs n (toL (rev c)) b ha g1 hn hv hlen vs.length 0 (by omega) (by omega)
   exact this
 · have hC := check_ok l m b hl hm
   have hT : Ev (fun k => terms_Turn.f k l m b) ([], [], false, chk l m) := by
    unfold terms_Turn.f
    refine Ev.bind hC ?_
    simp only [if_neg h0]
    exact Ev.now _
   unfold eggboxlaw19_TermsTurned.f
   refine Ev.bind hT ?_
   simp only [eggboxlaw19_num.f, Option.bind_some, if_neg h0]
   have hw : wrap64 ((([] : List S97).length : Int) + (([] : List S97).length : Int)) = 0 := by decide +kernel
   refine Ev.step (f := fun k => (eggboxlaw19_knows.f k).bind fun t116 => (some t116)) (fun k => by simp only [eggboxlaw19_TermsTurned.j0, if_true, hw]) ?_
   exact Ev.bind HLaw.knows_ok (Ev.now _)
theorem byte_of {l : List S97} {B : Nat} (h : (∀ y ∈ l, (Lit.int .i64 y.f0).wf = true ∧ (Lit.int .u8 y.f1).wf = true) ∧ l.length * B ≤ reachBytes) : Byte l := fun x hx => by
 have := (h.1 x hx).2
 simp [Lit.wf, IntKind.min, IntKind.max, IntKind.signed, IntKind.bits] at this
 omega
theorem law (l m : List S97) (b : Bool) (kk : Int) (vs : List ByteArray) (n : Int) (hl : (∀ y ∈ l, (Lit.int .i64 y.f0).wf = true ∧ (Lit.int .u8 y.f1).wf = true) ∧ l.length * 16 ≤ reachBytes) (hm : (∀ y ∈ m, (Lit.int .i64 y.f0).wf = true ∧ (Lit.int .u8 y.f1).wf = true) ∧ m.length * 16 ≤ reachBytes)
 (hk : (Lit.int .i64 kk).wf = true) (hv : (∀ y ∈ vs, y.size ≤ reachBytes) ∧ vs.length * 16 ≤ reachBytes) (hn : (Lit.int .i64 n).wf = true) : Ev (fun k => eggboxlaw19_TermsTurned.f k l m b kk vs n) true := by
 have hr : reachBytes = 140737488351232 := by decide +kernel
 have q := hv.2
 rw [hr] at q
 refine TermsTurned l m b kk vs n (byte_of hl) (byte_of hm) ?_ (fun y hy => ?_) (by omega)
 · simp [Lit.wf, IntKind.min, IntKind.max, IntKind.signed, IntKind.bits] at hn
   omega
 · have := hv.1 y hy
   rw [hr] at this
   exact this
end Go.Proofs.Ytcbkihhpnndpkaa.PureTurned
