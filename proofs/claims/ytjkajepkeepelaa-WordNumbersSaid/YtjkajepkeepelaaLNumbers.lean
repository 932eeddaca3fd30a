/- WordNumbers: the plain law. -/
import Derived.Test.YtjkajepkeepelaaLNth
import Derived.Test.YtjkajepkeepelaaPNx1
set_option linter.unusedVariables false
set_option linter.unusedSimpArgs false
namespace Go.Proofs.Ytjkajepkeepelaa.LNumbers
open Go.RowKit Go.Proofs.YtjkajepkeepelaaW.PrintWords Go.Proofs.YtjkajepkeepelaaW.PrintLast Go.Proofs.YtjkajepkeepelaaW.PrintMore
open Go.Proofs.Ytjkajepkeepelaa Go.Proofs.Ytjkajepkeepelaa.HMath Go.Proofs.Ytjkajepkeepelaa.HBord Go.Proofs.Ytjkajepkeepelaa.HOver Go.Proofs.Ytjkajepkeepelaa.HComp Go.Proofs.Ytjkajepkeepelaa.HRoots Go.Proofs.Ytjkajepkeepelaa.LRoots Go.Proofs.Ytjkajepkeepelaa.HNum Go.Proofs.Ytjkajepkeepelaa.LRank Go.Proofs.Ytjkajepkeepelaa.LNth
open PN

theorem rd_get (l : List Int) (i : Nat) (h : i < l.length) : rd l (i : Int) = l[i] := by
  simp [rd, List.getD_eq_getElem?_getD, h]

theorem swap_loop (L : List Int) (hL : L.length ≤ 4096) : ∀ (d i : Nat) (y : List Int), L.length / 2 - i ≤ d → i ≤ L.length / 2 → y.length = L.length →
    (∀ j : Nat, j < L.length → rd y (j : Int) = if j < i ∨ L.length - i ≤ j then rd L ((L.length - 1 - j : Nat) : Int) else rd L (j : Int)) →
    Ev (fun k => eggboxref01_Nth.l1 k y (i : Int)) (strOfNums L.reverse, 0) := by
  intro d
  induction d with
  | zero =>
    intro i y hd hi hy hx
    have e : y = L.reverse := by
      refine List.ext_getElem (by simpa using hy) (fun j h1 h2 => ?_)
      rw [List.getElem_reverse, ← rd_get y j h1, hx j (by omega)]
      by_cases hc : j < i ∨ L.length - i ≤ j
      · rw [if_pos hc, rd_get]
      · rw [if_neg hc, show (j : Int) = ((L.length - 1 - j : Nat) : Int) by omega, rd_get]
    refine Ev.step (f := fun _ => some (strOfNums y, 0)) (fun k => ?_) (by rw [e]; exact Ev.now _)
    simp only [eggboxref01_Nth.l1]
    rw [if_neg (by rw [w64 (by omega) (by omega)]; omega)]
  | succ d ih =>
    intro i y hd hi hy hx
    by_cases hlt : i < L.length / 2
    · have e1 : wrap64 ((y.length : Int) - 1) = (y.length : Int) - 1 := w64 (by omega) (by omega)
      have e2 : wrap64 ((y.length : Int) - 1 - (i : Int)) = ((L.length - 1 - i : Nat) : Int) := by rw [w64 (by omega) (by omega)]; omega
      refine Ev.step (f := fun k => eggboxref01_Nth.l1 k ((y.set i (rd y ((L.length - 1 - i : Nat) : Int))).set (L.length - 1 - i) (rd y (i : Int))) ((i + 1 : Nat) : Int)) (fun k => ?_) (ih (i + 1) _ (by omega) (by omega) (by simpa using hy) (fun j hj => ?_))
      · simp only [eggboxref01_Nth.l1]
        rw [if_pos (by rw [w64 (by omega) (by omega)]; omega), if_pos (by omega), if_pos (by omega), e1, e2, if_pos (by omega), if_pos (by omega), w64 (by omega) (by omega), Int.toNat_natCast, Int.toNat_natCast]
        rfl
      · by_cases ea : j = L.length - 1 - i
        · subst ea
          rw [rd_set_same _ _ _ (by rw [List.length_set]; omega), if_pos (by omega), hx i (by omega), if_neg (by omega), show L.length - 1 - (L.length - 1 - i) = i by omega]
        · rw [rd_set_ne _ _ _ _ (by omega)]
          by_cases eb : j = i
          · subst eb
            rw [rd_set_same _ _ _ (by omega), if_pos (by omega), hx _ (by omega), if_neg (by omega)]
          · rw [rd_set_ne _ _ _ _ (by omega), hx j hj]
            by_cases hc : j < i ∨ L.length - i ≤ j
            · rw [if_pos hc, if_pos (by omega)]
            · rw [if_neg hc, if_neg (by omega)]
    · exact ih i y (by omega) hi hy hx

theorem rv_str (l : List Int) : rv (strOfNums l) = strOfNums l.reverse := ba_ext (by
  rw [rv_list, strOf_bytes, strOf_bytes, List.map_reverse])

theorem lets_len (l : List Nat) : (lets l).length = l.length := by simp [lets]

theorem ref_loop (b : Nat) (hb1 : 2 ≤ b) (hb8 : b ≤ 8) : ∀ (f n : Nat) (xs : List Int), n ≤ f → n < 18446744073709551616 → xs.length + (digs b f n).length ≤ 4096 →
    Ev (fun j => eggboxref01_Nth.l0 j (b : Int) (n : Int) xs) (strOfNums (xs ++ lets (digs b f n)).reverse, 0)
  | f, 0, xs, _, _, hx => by
    have hd : digs b f 0 = [] := by cases f <;> rfl
    rw [hd] at hx ⊢
    refine Ev.step (f := fun j => eggboxref01_Nth.l1 j xs 0) (fun j => by simp only [eggboxref01_Nth.l0]; rw [if_neg (by omega)]) ?_
    simp only [lets, List.map_nil, List.append_nil]
    exact swap_loop xs (by simpa using hx) (xs.length / 2) 0 xs (by omega) (by omega) rfl (fun j hj => by rw [if_neg (by omega)])
  | 0, n + 1, xs, h, _, _ => by omega
  | f + 1, n + 1, xs, h, hn, hx => by
    have hd : digs b (f + 1) (n + 1) = (n % b + 1) :: digs b f (n / b) := by
      simp only [digs]
      rw [if_neg (by omega), Nat.add_sub_cancel]
    rw [hd] at hx ⊢
    have hw1 : IntKind.u64.wrap (((n + 1 : Nat) : Int) - 1) = (n : Int) := by
      rw [HRank.u64_in _ (by omega) (by omega)]; omega
    have hwb : IntKind.u64.wrap (b : Int) = (b : Int) := HRank.u64_in _ (by omega) (by omega)
    have hq : Int.tdiv (n : Int) (b : Int) = ((n / b : Nat) : Int) := rfl
    have hm : Int.tmod (n : Int) (b : Int) = ((n % b : Nat) : Int) := rfl
    have hle : n / b ≤ n := Nat.div_le_self _ _
    have hlt := Nat.mod_lt n (show 0 < b by omega)
    rw [List.length_cons] at hx
    generalize n / b = q at *
    generalize n % b = m at *
    have e2 : (xs ++ [97 + (m : Int)]).length = xs.length + 1 := by simp
    have ih := ref_loop b hb1 hb8 f q (xs ++ [97 + (m : Int)]) (by omega) (by omega) (by omega)
    have e1 : xs ++ [97 + (m : Int)] ++ lets (digs b f q) = xs ++ lets ((m + 1) :: digs b f q) := by
      rw [List.append_assoc]
      congr 1
      show ([97 + (m : Int)] : List Int) ++ lets (digs b f q) = (96 + ((m + 1 : Nat) : Int)) :: lets (digs b f q)
      rw [List.singleton_append]
      congr 1
      omega
    rw [e1] at ih
    refine Ev.step (f := fun j => eggboxref01_Nth.l0 j (b : Int) (q : Int) (xs ++ [97 + (m : Int)])) (fun j => by
      simp only [eggboxref01_Nth.l0]
      rw [if_pos (by omega), hwb, if_neg (by omega), if_pos (by omega), hw1, hq, hm, HRank.u64_in _ (by omega) (by omega), Int.emod_eq_of_lt (by omega) (by omega)]) ih

theorem digs_one : ∀ f n, n ≤ f → digs 1 f n = List.replicate n 1
  | f, 0, _ => by cases f <;> rfl
  | 0, n + 1, h => by omega
  | f + 1, n + 1, h => by
    simp only [digs]
    rw [if_neg (by omega), Nat.add_sub_cancel, Nat.mod_one, Nat.div_one, digs_one f n (by omega)]
    rfl

theorem repeat_a : ∀ n, Lib.repeatL [97] n = List.replicate n (97 : UInt8)
  | 0 => rfl
  | n + 1 => by
    show [97] ++ Lib.repeatL [97] n = _
    rw [repeat_a n]
    rfl

theorem refNth_ok (k n : Nat) (h1 : 1 ≤ k) (h8 : k ≤ 8) (hn : n < 18446744073709551616) : Ev (fun j => eggboxref01_Nth.f j (k : Int) (n : Int)) (if (digs k n n).length ≤ 4096 then (wd k n, 0) else ((⟨#[]⟩ : ByteArray), 6)) := by
  unfold eggboxref01_Nth.f PW.eggboxref01_Letters.f
  rw [if_neg (by omega), if_neg (by omega)]
  simp only [Option.bind_some, if_pos]
  by_cases hk : k = 1
  · subst hk
    rw [digs_one n n (Nat.le_refl _), List.length_replicate]
    simp only [show ((1 : Nat) : Int) = 1 from rfl, if_pos]
    by_cases hl : n ≤ 4096
    · rw [if_pos hl]
      have h2 : ¬ ((n : Int) > 4096) := by omega
      simp only [if_neg h2]
      rw [w64 (by omega) (by omega)]
      unfold strings_Repeat.f
      rw [if_pos ⟨by omega, by omega, by rw [Int.toNat_natCast]; show 1 * n ≤ _; omega⟩]
      simp only [Option.bind_some, Int.toNat_natCast]
      have e : (⟨(Lib.repeatL [97] n).toArray⟩ : ByteArray) = wd 1 n := ba_ext (by
        unfold wd
        rw [rv_list, strOf_bytes, digs_one n n (Nat.le_refl _), lets, repeat_a, List.map_replicate, List.map_replicate, List.reverse_replicate]
        rfl)
      have e' : (⟨(Lib.repeatL (⟨#[97]⟩ : ByteArray).data.toList n).toArray⟩ : ByteArray) = wd 1 n := e
      rw [e']
      exact Ev.now _
    · rw [if_neg hl]
      have h2 : (n : Int) > 4096 := by omega
      simp only [if_pos h2]
      exact Ev.now _
  · have h2 : ¬ ((k : Int) = 1) := by omega
    have hs := digs_short k (by omega) n n (Nat.le_refl _) hn
    simp only [if_neg h2]
    rw [if_pos (by omega)]
    have := ref_loop k (by omega) h8 n n [] (Nat.le_refl _) hn (by rw [List.length_nil]; omega)
    rw [List.nil_append, ← rv_str] at this
    exact this

theorem aft_carry (k : Int) (hk : k ≤ 8) : ∀ (i : Nat) (xs : List Int), (∀ j : Nat, j < i → 97 ≤ rd xs (j : Int) ∧ rd xs (j : Int) < 97 + k) → HAfter.aft k xs i = HNext.carry (97 + k - 1) xs i
  | 0, xs, _ => rfl
  | i + 1, xs, h => by
    have hi := h i (by omega)
    simp only [HAfter.aft, HNext.carry]
    rw [Int.emod_eq_of_lt (by omega) (by omega)]
    have ih := aft_carry k hk i (xs.set i 97) (fun j hj => by rw [rd_set_ne _ _ _ _ (by omega)]; exact h j (by omega))
    by_cases hc : rd xs (i : Int) = 97 + k - 1
    · rw [if_pos hc, if_pos (by omega), ih]
    · rw [if_neg hc, if_neg (by omega)]

theorem after_eq (k : Nat) (s : ByteArray) (hc : HCheck.chk (k : Int) s = 0) : HAfter.res (HAfter.aft (k : Int) (bytesOf s) s.size) = strOfNums (HNext.nxt (97 + (k : Int) - 1) (bytesOf s)) := by
  have hk := chk_k hc
  have hg := good_of hc
  have hl := bytesOf_length s
  rw [aft_carry (k : Int) hk.2 s.size (bytesOf s) (fun j hj => by
    rw [rd_bytesOf, bt_get s j hj]
    have := hg s[j] (by show s.data[j] ∈ s.data.toList; simp)
    omega)]
  have hn : HNext.nxt (97 + (k : Int) - 1) (bytesOf s) = (let r := HNext.carry (97 + (k : Int) - 1) (bytesOf s) s.size; if 0 ≤ r.2 then r.1.set r.2.toNat ((rd r.1 r.2 + 1) % 256) else r.1 ++ [97]) := by
    unfold HNext.nxt
    rw [hl]
  rw [hn]
  unfold HAfter.res
  rcases carry_spec (k : Int) s.size 0 (bytesOf s) hl with ⟨q, c, j, e1, e2, e3⟩ | ⟨e1, e3⟩
  · simp only [List.replicate_zero, List.append_nil] at e3
    rw [e3]
    simp only
    rw [if_neg (by omega), if_pos (by omega)]
  · simp only [List.replicate_zero, List.append_nil, Nat.add_zero] at e3
    rw [e3]
    simp only
    rw [if_pos (by omega), if_neg (by omega)]
    refine ba_ext ?_
    rw [app_list, strOf_bytes, strOf_bytes, List.map_append, List.map_replicate]
    show [97] ++ List.replicate s.size 97 = List.replicate s.size 97 ++ [97]
    rw [← List.replicate_succ', List.singleton_append, List.replicate_succ]

theorem law (a0 : Int) (a1 : ByteArray) (a2 : Int) (h1 : a1.size ≤ 140737488351232) (h20 : 0 ≤ a2) (h21 : a2 < 18446744073709551616) : Ev (fun j => eggboxlaw01_WordNumbers.f j a0 a1 a2) true := by
  obtain ⟨m, rfl⟩ : ∃ m : Nat, a2 = (m : Int) := ⟨a2.toNat, by omega⟩
  -- Next
  obtain ⟨r, hn, hn'⟩ : ∃ r, HNext.g a0 a1 = some r ∧ Ev (fun j => eggboxref01_Next.f j a0 a1) r := by
    unfold HNext.g HNext.f eggboxref01_Next.f
    rw [if_pos h1]
    have hck := refCheck_ok a0 a1 (by omega)
    by_cases hc : HCheck.chk a0 a1 = 0
    · have hk := chk_k hc
      obtain ⟨k, rfl⟩ : ∃ k : Nat, a0 = (k : Int) := ⟨a0.toNat, by omega⟩
      refine ⟨if (HNext.nxt (97 + (k : Int) - 1) (bytesOf a1)).length > 4096 then (⟨#[]⟩, 6) else (strOfNums (HNext.nxt (97 + (k : Int) - 1) (bytesOf a1)), 0), by rw [if_pos hc]; split <;> rfl, Ev.bind hck ?_⟩
      simp only [if_pos hc]
      have ha : eggboxref01_After.f (k : Int) a1 = some (strOfNums (HNext.nxt (97 + (k : Int) - 1) (bytesOf a1))) := by
        show HAfter.f (k : Int) a1 = _
        unfold HAfter.f
        rw [if_pos ⟨hk.1, hk.2, h1⟩, after_eq k a1 hc]
      simp only [ha, Option.bind_some, strOf_size]
      by_cases hl : (HNext.nxt (97 + (k : Int) - 1) (bytesOf a1)).length > 4096
      · have hl2 : ((HNext.nxt (97 + (k : Int) - 1) (bytesOf a1)).length : Int) > 4096 := by omega
        simp only [if_pos hl, if_pos hl2]
        exact Ev.now _
      · have hl2 : ¬ ((HNext.nxt (97 + (k : Int) - 1) (bytesOf a1)).length : Int) > 4096 := by omega
        simp only [if_neg hl, if_neg hl2]
        exact Ev.now _
    · refine ⟨_, if_neg hc, Ev.bind hck ?_⟩
      simp only [if_neg hc]
      exact Ev.now _
  -- Nth
  obtain ⟨t, ht, ht'⟩ : ∃ t, Ev (fun j => PW.word_Nth.f j a0 (m : Int)) t ∧ Ev (fun j => eggboxref01_Nth.f j a0 (m : Int)) t := by
    by_cases hk : 1 ≤ a0 ∧ a0 ≤ 8
    · obtain ⟨k, rfl⟩ : ∃ k : Nat, a0 = (k : Int) := ⟨a0.toNat, by omega⟩
      exact ⟨_, nth_ok k m (by omega) (by omega) (by omega), refNth_ok k m (by omega) (by omega) (by omega)⟩
    · refine ⟨(⟨#[]⟩, 20), ?_, ?_⟩
      · have hc : HCheck.chk a0 (⟨#[]⟩ : ByteArray) = 20 := by
          unfold HCheck.chk
          rw [if_pos (by omega)]
        unfold PW.word_Nth.f PW.word_Check.f
        simp only [Option.bind_some, hc]
        exact Ev.now _
      · have hl : PW.eggboxref01_Letters.f a0 = some 20 := by
          unfold PW.eggboxref01_Letters.f
          by_cases h : a0 < 1
          · rw [if_pos h]
          · rw [if_neg h, if_pos (by omega)]
        unfold eggboxref01_Nth.f
        simp only [hl, Option.bind_some]
        exact Ev.now _
  -- Rank
  obtain ⟨c, hc, hc'⟩ : ∃ c, HRank.f a0 a1 = some c ∧ Ev (fun j => HRefRank.f j a0 a1) c := by
    have h := HRefRank.ok a0 a1 (by omega)
    unfold HRank.f
    by_cases hc : HCheck.chk a0 a1 = 0
    · rw [if_pos hc] at h ⊢
      exact ⟨_, rfl, h⟩
    · rw [if_neg hc] at h ⊢
      exact ⟨_, rfl, h⟩
  have hnum : ∀ x : Int, PW.eggboxlaw01_num.f x = some x := fun x => rfl
  unfold eggboxlaw01_WordNumbers.f word_Next.f word_Rank.f eggboxref01_Rank.f
  rw [hn, hc]
  simp only [Option.bind_some]
  refine Ev.bind ht (Ev.bind hn' (Ev.bind ht' (Ev.bind hc' ?_)))
  simp only [hnum, Option.bind_some, if_pos]
  exact Ev.bind knows_ok (Ev.now _)
end Go.Proofs.Ytjkajepkeepelaa.LNumbers
