/- monoid.Build in plain terms: what is built is closed, its words are least, products are compositions. -/
import Derived.Test.YtcnnlddjnmkioaaHMon
set_option linter.unusedVariables false
set_option linter.unusedSimpArgs false
namespace Go.Proofs.Ytcnnlddjnmkioaa.PureMon
open Go.Proofs.Ytcnnlddjnmkioaa.HTable Go.Proofs.Ytcnnlddjnmkioaa.HMon
/-- A word's letters as bytes. -/
def enc (u : List Nat) : ByteArray := ⟨(u.map (fun l => UInt8.ofNat (97 + l))).toArray⟩
theorem enc_snoc (u : List Nat) (l : Nat) : enc (u ++ [l]) = enc u ++ chrB l := by
  apply ByteArray.ext
  simp [enc, chrB]
theorem enc_nil : enc [] = ⟨#[]⟩ := rfl
/-- Behind p, the letters of a word. -/
def act (n : Nat) (Ls : List (List Nat)) (p : List Nat) (u : List Nat) : List Nat := u.foldl (fun p l => comp n p (Ls.getD l [])) p
theorem act_nil (n : Nat) (Ls : List (List Nat)) (p : List Nat) : act n Ls p [] = p := rfl
theorem act_snoc (n : Nat) (Ls : List (List Nat)) (p u : List Nat) (l : Nat) : act n Ls p (u ++ [l]) = comp n (act n Ls p u) (Ls.getD l []) := by simp [act]
theorem act_append (n : Nat) (Ls : List (List Nat)) (p u v : List Nat) : act n Ls p (u ++ v) = act n Ls (act n Ls p u) v := by simp [act]
/-- Length, then letters. -/
def lex : List Nat → List Nat → Prop
  | a :: u, b :: v => a < b ∨ (a = b ∧ lex u v)
  | _, _ => False
def llt (u v : List Nat) : Prop := u.length < v.length ∨ (u.length = v.length ∧ lex u v)
theorem lex_snoc : ∀ {u v : List Nat}, u.length = v.length → ∀ (a b : Nat), lex u v → lex (u ++ [a]) (v ++ [b])
  | [], [], _, _, _, h => h.elim
  | x :: u, y :: v, hl, a, b, h => by
    rcases h with h | ⟨h, h2⟩
    · exact .inl h
    · exact .inr ⟨h, lex_snoc (by simpa using hl) a b h2⟩
theorem lex_last : ∀ (u : List Nat) {a b : Nat}, a < b → lex (u ++ [a]) (u ++ [b])
  | [], _, _, h => .inl h
  | _ :: u, _, _, h => .inr ⟨rfl, lex_last u h⟩
theorem llt_snoc {u v : List Nat} (a b : Nat) (h : llt u v) : llt (u ++ [a]) (v ++ [b]) := by
  rcases h with h | ⟨h, h2⟩
  · exact .inl (by simp; omega)
  · exact .inr ⟨by simp [h], lex_snoc h a b h2⟩
theorem llt_last (u : List Nat) {a b : Nat} (h : a < b) : llt (u ++ [a]) (u ++ [b]) := .inr ⟨by simp, lex_last u h⟩
theorem lex_irrefl : ∀ u, ¬ lex u u
  | [], h => h
  | a :: u, h => by
    rcases h with h | ⟨_, h⟩
    · exact Nat.lt_irrefl _ h
    · exact lex_irrefl u h
theorem lex_trans : ∀ {u v w : List Nat}, lex u v → lex v w → lex u w
  | _ :: _, _ :: _, _ :: _, h, h2 => by
    rcases h with h | ⟨rfl, h⟩
    · rcases h2 with h2 | ⟨rfl, _⟩
      · exact .inl (Nat.lt_trans h h2)
      · exact .inl h
    · rcases h2 with h2 | ⟨rfl, h2⟩
      · exact .inl h2
      · exact .inr ⟨rfl, lex_trans h h2⟩
theorem llt_irrefl (u : List Nat) : ¬ llt u u := by
  rintro (h | ⟨_, h⟩)
  · exact Nat.lt_irrefl _ h
  · exact lex_irrefl u h
theorem llt_trans {u v w : List Nat} (h : llt u v) (h2 : llt v w) : llt u w := by
  rcases h with h | ⟨h, hl⟩ <;> rcases h2 with h2 | ⟨h2, hl2⟩
  · exact .inl (Nat.lt_trans h h2)
  · exact .inl (by omega)
  · exact .inl (by omega)
  · exact .inr ⟨by omega, lex_trans hl hl2⟩
/-- At most. -/
def lle (u v : List Nat) : Prop := u = v ∨ llt u v
theorem lle_snoc {u v : List Nat} (a : Nat) (h : lle u v) : lle (u ++ [a]) (v ++ [a]) := by
  rcases h with rfl | h
  · exact .inl rfl
  · exact .inr (llt_snoc a a h)
theorem lle_trans {u v w : List Nat} (h : lle u v) (h2 : lle v w) : lle u w := by
  rcases h with rfl | h
  · exact h2
  · rcases h2 with rfl | h2
    · exact .inr h
    · exact .inr (llt_trans h h2)

/-- What holds behind m pairs of an element and a letter. -/
structure BInv (n k : Nat) (Ls : List (List Nat)) (m : Nat) (b : B) (us : List (List Nat)) : Prop where
  wlen : b.2.1.length = b.1.length
  ulen : us.length = b.1.length
  pos : 1 ≤ b.1.length
  le : b.1.length ≤ 512
  rlen : b.2.2.length = m
  good : ∀ t ∈ b.1, HTable.Good n t
  nodup : b.1.Nodup
  nil : us.getD 0 [] = []
  word : ∀ x, x < b.1.length → b.2.1.getD x ⟨#[]⟩ = enc (us.getD x []) ∧ b.1.getD x [] = act n Ls (List.range n) (us.getD x []) ∧ ∀ l ∈ us.getD x [], l < k
  step : ∀ q, q < m → ∃ r, r < b.1.length ∧ b.2.2.getD q 0 = (r : Int) ∧ b.1.getD r [] = comp n (b.1.getD (q / k) []) (Ls.getD (q % k) []) ∧ lle (us.getD r []) (us.getD (q / k) [] ++ [q % k])
  par : ∀ x, 0 < x → x < b.1.length → ∃ q, q < m ∧ q / k < x ∧ us.getD x [] = us.getD (q / k) [] ++ [q % k] ∧ b.2.2.getD q 0 = (x : Int)
  ord : ∀ x y, x < y → y < b.1.length → llt (us.getD x []) (us.getD y [])
theorem getD_left {α : Type} (l m : List α) (d : α) (x : Nat) (h : x < l.length) : (l ++ m).getD x d = l.getD x d := by
  rw [List.getD_eq_getElem?_getD, List.getD_eq_getElem?_getD, List.getElem?_append_left h]
theorem getD_last {α : Type} (l : List α) (a d : α) : (l ++ [a]).getD l.length d = a := by
  rw [List.getD_eq_getElem?_getD, List.getElem?_append_right (Nat.le_refl _)]
  simp
theorem getD_mem {α : Type} (l : List α) (d : α) (x : Nat) (h : x < l.length) : l.getD x d ∈ l := by
  rw [List.getD_eq_getElem?_getD, List.getElem?_eq_getElem h]
  exact List.getElem_mem h
theorem getD_idxOf {l : List (List Nat)} {a : List Nat} (h : a ∈ l) (d : List Nat) : l.getD (l.idxOf a) d = a := by
  have hl := List.idxOf_lt_length_of_mem h
  rw [List.getD_eq_getElem?_getD, List.getElem?_eq_getElem hl]
  exact List.getElem_idxOf hl
theorem nodup_inj {l : List (List Nat)} (h : l.Nodup) {x y : Nat} (hx : x < l.length) (hy : y < l.length) (e : l.getD x [] = l.getD y []) : x = y := by
  rw [List.getD_eq_getElem?_getD, List.getD_eq_getElem?_getD, List.getElem?_eq_getElem hx, List.getElem?_eq_getElem hy] at e
  simp only [Option.getD_some] at e
  have hp := List.pairwise_iff_getElem.1 h
  rcases Nat.lt_trichotomy x y with q | q | q
  · exact absurd e (hp x y hx hy q)
  · exact q
  · exact absurd e.symm (hp y x hy hx q)
theorem pair_lt {k i l q : Nat} (hl : l < k) (h : q < i * k + l) : q / k < i ∨ (q / k = i ∧ q % k < l) := by
  have := Nat.div_add_mod q k
  have hm := Nat.mod_lt q (show 0 < k by omega)
  by_cases h1 : q / k < i
  · exact .inl h1
  · right
    have h2 : q / k ≤ i := by
      by_cases h3 : i < q / k
      · exfalso
        have := Nat.mul_le_mul_left k (show i + 1 ≤ q / k from h3)
        rw [Nat.mul_succ, Nat.mul_comm k i] at this
        omega
      · omega
    have h3 : q / k = i := by omega
    rw [h3, Nat.mul_comm] at this
    exact ⟨h3, by omega⟩
theorem pair_div {k i l : Nat} (hl : l < k) : (i * k + l) / k = i := by
  rw [Nat.mul_comm, Nat.mul_add_div (by omega), Nat.div_eq_of_lt hl, Nat.add_zero]
theorem pair_mod {k i l : Nat} (hl : l < k) : (i * k + l) % k = l := by
  rw [Nat.mul_comm, Nat.mul_add_mod, Nat.mod_eq_of_lt hl]
theorem BInv.below {n k : Nat} {Ls : List (List Nat)} {i l : Nat} {b : B} {us : List (List Nat)} (h : BInv n k Ls (i * k + l) b us) (hi : i < b.1.length) (hl : l < k) : ∀ x, x < b.1.length → llt (us.getD x []) (us.getD i [] ++ [l]) := by
  intro x hx
  by_cases h0 : x = 0
  · subst h0
    rw [h.nil]
    exact .inl (by simp)
  · obtain ⟨q, hq, hqx, hu, _⟩ := h.par x (by omega) hx
    rw [hu]
    rcases pair_lt hl hq with h1 | ⟨h1, h2⟩
    · exact llt_snoc _ _ (h.ord _ _ h1 hi)
    · rw [h1]
      exact llt_last _ h2
theorem BInv.next {n k : Nat} {Ls : List (List Nat)} (hL : ∀ l, l < k → HTable.Good n (Ls.getD l [])) {i l : Nat} {b b' : B} {us : List (List Nat)} (h : BInv n k Ls (i * k + l) b us) (hi : i < b.1.length) (hl : l < k) (hs : stepB n Ls i l b = some b') :
    ∃ us', BInv n k Ls (i * k + (l + 1)) b' us' ∧ b.1.length ≤ b'.1.length ∧ i < b'.1.length := by
  obtain ⟨T, Ws, Rs⟩ := b
  have hbel := h.below hi hl
  obtain ⟨wlen, ulen, pos, le, rlen, good, nodup, nil, word, step, par, ord⟩ := h
  simp only at wlen ulen pos le rlen good nodup nil word step par ord hi hbel
  unfold stepB at hs
  simp only at hs
  have hgi : T.getD i [] ∈ T := getD_mem _ _ _ hi
  split at hs
  · rename_i hm
    injection hs with hs
    subst hs
    refine ⟨us, ⟨wlen, ulen, pos, le, by simp [rlen]; omega, good, nodup, nil, word, ?_, ?_, ord⟩, Nat.le_refl _, hi⟩
    · intro q hq
      by_cases hq' : q < i * k + l
      · obtain ⟨r, h1, h2, h3⟩ := step q hq'
        exact ⟨r, h1, by simp only; rw [getD_left _ _ _ _ (by omega)]; exact h2, h3⟩
      · have : q = i * k + l := by omega
        subst this
        refine ⟨_, List.idxOf_lt_length_of_mem hm, ?_, ?_, ?_⟩
        · simp only
          rw [← rlen, getD_last]
        · rw [pair_div hl, pair_mod hl]
          exact getD_idxOf hm _
        · rw [pair_div hl, pair_mod hl]
          exact .inr (hbel _ (List.idxOf_lt_length_of_mem hm))
    · intro x h0 hx
      obtain ⟨q, h1, h2, h3, h4⟩ := par x h0 hx
      exact ⟨q, by omega, h2, h3, by simp only; rw [getD_left _ _ _ _ (by omega)]; exact h4⟩
  · split at hs
    · cases hs
    · rename_i hm h5
      injection hs with hs
      subst hs
      have hact : comp n (T.getD i []) (Ls.getD l []) = act n Ls (List.range n) (us.getD i [] ++ [l]) := by
        rw [act_snoc, ← (word i hi).2.1]
      refine ⟨us ++ [us.getD i [] ++ [l]], ⟨by simp [wlen], by simp [ulen], by simp, by simp; omega, by simp [rlen]; omega, ?_, ?_, ?_, ?_, ?_, ?_, ?_⟩, by simp, by simp; omega⟩
      · intro t ht
        rcases List.mem_append.1 ht with h | h
        · exact good t h
        · simp at h
          subst h
          exact good_comp (good _ hgi) (hL l hl)
      · rw [List.nodup_append]
        exact ⟨nodup, by simp, fun a ha b hb => by simp at hb; subst hb; rintro rfl; exact hm ha⟩
      · rw [getD_left _ _ _ _ (by omega)]
        exact nil
      · intro x hx
        simp only [List.length_append, List.length_singleton] at hx
        by_cases hx' : x < T.length
        · simp only
          rw [getD_left _ _ _ _ (by omega), getD_left _ _ _ _ (by omega), getD_left _ _ _ _ (by omega)]
          exact word x hx'
        · have : x = T.length := by omega
          subst this
          simp only
          rw [getD_last, ← ulen, getD_last, ulen, ← wlen, getD_last]
          refine ⟨?_, hact, ?_⟩
          · rw [enc_snoc, (word i hi).1]
          · intro y hy
            rcases List.mem_append.1 hy with h | h
            · exact (word i hi).2.2 y h
            · simp at h
              omega
      · intro q hq
        by_cases hq' : q < i * k + l
        · obtain ⟨r, h1, h2, h3, h4⟩ := step q hq'
          have hqi : q / k < T.length := by rcases pair_lt hl hq' with h | h <;> omega
          refine ⟨r, by simp; omega, ?_, ?_, ?_⟩
          · simp only
            rw [getD_left _ _ _ _ (by omega)]
            exact h2
          · simp only
            rw [getD_left _ _ _ _ h1, getD_left _ _ _ _ hqi]
            exact h3
          · rw [getD_left _ _ _ _ (by omega), getD_left _ _ _ _ (by omega)]
            exact h4
        · have : q = i * k + l := by omega
          subst this
          refine ⟨T.length, by simp, ?_, ?_, ?_⟩
          · simp only
            rw [← rlen, getD_last]
          · rw [pair_div hl, pair_mod hl]
            simp only
            rw [getD_last, getD_left _ _ _ _ hi]
          · rw [pair_div hl, pair_mod hl, ← ulen, getD_last, getD_left _ _ _ _ (by omega)]
            exact .inl rfl
      · intro x h0 hx
        simp only [List.length_append, List.length_singleton] at hx
        by_cases hx' : x < T.length
        · obtain ⟨q, h1, h2, h3, h4⟩ := par x h0 hx'
          exact ⟨q, by omega, h2, by rw [getD_left _ _ _ _ (by omega), getD_left _ _ _ _ (by omega)]; exact h3, by simp only; rw [getD_left _ _ _ _ (by omega)]; exact h4⟩
        · have : x = T.length := by omega
          subst this
          refine ⟨i * k + l, by omega, by rw [pair_div hl]; exact hi, ?_, ?_⟩
          · rw [pair_div hl, pair_mod hl, ← ulen, getD_last, getD_left _ _ _ _ (by omega)]
          · simp only
            rw [← rlen, getD_last]
      · intro x y hxy hy
        simp only [List.length_append, List.length_singleton] at hy
        by_cases hy' : y < T.length
        · rw [getD_left _ _ _ _ (by omega), getD_left _ _ _ _ (by omega)]
          exact ord x y hxy hy'
        · have : y = T.length := by omega
          subst this
          rw [← ulen, getD_last, getD_left _ _ _ _ (by omega)]
          exact hbel x (by omega)
theorem BInv.row {n k : Nat} {Ls : List (List Nat)} (hL : ∀ l, l < k → HTable.Good n (Ls.getD l [])) {i : Nat} : ∀ (m l : Nat) {b b' : B} {us : List (List Nat)}, m + l = k → BInv n k Ls (i * k + l) b us → i < b.1.length → rowB n Ls i m l b = some b' →
    ∃ us', BInv n k Ls (i * k + k) b' us' ∧ b.1.length ≤ b'.1.length
  | 0, l, b, b', us, hl, h, hi, hs => by
    simp only [rowB] at hs
    injection hs with hs
    subst hs
    obtain rfl : l = k := by omega
    exact ⟨us, h, Nat.le_refl _⟩
  | m + 1, l, b, b', us, hl, h, hi, hs => by
    simp only [rowB, Option.bind_eq_some_iff] at hs
    obtain ⟨b1, h1, h2⟩ := hs
    obtain ⟨us1, hI, hle, hi1⟩ := h.next hL hi (by omega) h1
    obtain ⟨us2, hI2, hle2⟩ := BInv.row hL m (l + 1) (by omega) hI hi1 h2
    exact ⟨us2, hI2, by omega⟩
theorem BInv.all {n k : Nat} {Ls : List (List Nat)} (hL : ∀ l, l < k → HTable.Good n (Ls.getD l [])) : ∀ (f i : Nat) {b b' : B} {us : List (List Nat)}, f + i = 513 → BInv n k Ls (i * k) b us → i ≤ b.1.length → allB n k Ls f i b = some b' →
    ∃ us', BInv n k Ls (b'.1.length * k) b' us'
  | 0, i, b, b', us, hf, h, hi, hs => by
    have := h.le
    omega
  | f + 1, i, b, b', us, hf, h, hi, hs => by
    simp only [allB] at hs
    split at hs
    · rename_i hlt
      simp only [Option.bind_eq_some_iff] at hs
      obtain ⟨b1, h1, h2⟩ := hs
      obtain ⟨us1, hI, hle⟩ := BInv.row hL k 0 (by omega) h hlt h1
      exact BInv.all hL f (i + 1) (by omega) (by rw [Nat.succ_mul]; exact hI) (by omega) h2
    · injection hs with hs
      subst hs
      obtain rfl : i = b.1.length := by omega
      exact ⟨us, h⟩
theorem built_inv {n k : Nat} {Ls : List (List Nat)} (hL : ∀ l, l < k → HTable.Good n (Ls.getD l [])) {b : B} (h : built n k Ls = some b) : ∃ us, BInv n k Ls (b.1.length * k) b us := by
  refine BInv.all hL 513 0 (us := [[]]) rfl ⟨rfl, rfl, by simp, by simp, by simp, ?_, by simp, rfl, ?_, ?_, ?_, ?_⟩ (by simp) h
  · intro t ht
    simp at ht
    subst ht
    exact good_id n
  · intro x hx
    simp at hx
    subst hx
    exact ⟨rfl, rfl, by simp⟩
  · intro q hq
    simp at hq
  · intro x h0 hx
    simp at hx
    omega
  · intro x y hxy hy
    simp at hy
    omega
/-- An element with a word behind it. -/
def fol (k : Nat) (Rs : List Int) (i : Nat) (u : List Nat) : Nat := u.foldl (fun i l => (Rs.getD (i * k + l) 0).toNat) i
theorem fol_nil (k : Nat) (Rs : List Int) (i : Nat) : fol k Rs i [] = i := rfl
theorem fol_cons (k : Nat) (Rs : List Int) (i l : Nat) (u : List Nat) : fol k Rs i (l :: u) = fol k Rs (Rs.getD (i * k + l) 0).toNat u := rfl
theorem fol_snoc (k : Nat) (Rs : List Int) (i l : Nat) (u : List Nat) : fol k Rs i (u ++ [l]) = (Rs.getD (fol k Rs i u * k + l) 0).toNat := by simp [fol]
theorem fol_append (k : Nat) (Rs : List Int) (i : Nat) (u v : List Nat) : fol k Rs i (u ++ v) = fol k Rs (fol k Rs i u) v := by simp [fol]
theorem comp_id (n : Nat) {p : List Nat} (hp : HTable.Good n p) : comp n (List.range n) p = p := by
  apply List.ext_getElem
  · simp [comp, hp.1]
  · intro i h1 h2
    have hi : i < n := by rw [hp.1] at h2; exact h2
    simp only [comp, List.getElem_map, List.getElem_range]
    have : im (List.range n) i = i := by
      have := im_map n (fun i => i) i hi
      rwa [List.map_id'] at this
    rw [this, HTable.im, List.getD_eq_getElem?_getD, List.getElem?_eq_getElem h2]
    rfl
theorem id_comp (n : Nat) {p : List Nat} (hp : HTable.Good n p) : comp n p (List.range n) = p := by
  apply List.ext_getElem
  · simp [comp, hp.1]
  · intro i h1 h2
    have hi : i < n := by rw [hp.1] at h2; exact h2
    simp only [comp, List.getElem_map, List.getElem_range]
    have : im (List.range n) (im p i) = im p i := by
      have := im_map n (fun i => i) (im p i) (hp.im i hi)
      rwa [List.map_id'] at this
    rw [this, HTable.im, List.getD_eq_getElem?_getD, List.getElem?_eq_getElem h2]
    rfl
theorem comp_assoc (n : Nat) {p q : List Nat} (r : List Nat) (hp : HTable.Good n p) : comp n (comp n p q) r = comp n p (comp n q r) := by
  unfold comp
  apply List.map_congr_left
  intro i hi
  rw [List.mem_range] at hi
  rw [im_map n _ i hi, im_map n _ _ (hp.im i hi)]
theorem good_act {n k : Nat} {Ls : List (List Nat)} (hL : ∀ l, l < k → HTable.Good n (Ls.getD l [])) : ∀ (u : List Nat) {p : List Nat}, HTable.Good n p → (∀ l ∈ u, l < k) → HTable.Good n (act n Ls p u)
  | [], _, hp, _ => hp
  | l :: u, p, hp, hu => good_act hL u (good_comp hp (hL l (hu l (by simp)))) (fun x hx => hu x (by simp [hx]))
theorem act_cons (n : Nat) (Ls : List (List Nat)) (p : List Nat) (l : Nat) (u : List Nat) : act n Ls p (l :: u) = act n Ls (comp n p (Ls.getD l [])) u := rfl
theorem act_comp {n k : Nat} {Ls : List (List Nat)} (hL : ∀ l, l < k → HTable.Good n (Ls.getD l [])) : ∀ (u : List Nat) {p q : List Nat}, HTable.Good n p → HTable.Good n q → (∀ l ∈ u, l < k) → act n Ls (comp n p q) u = comp n p (act n Ls q u)
  | [], _, _, _, _, _ => rfl
  | l :: u, p, q, hp, hq, hu => by
    rw [act_cons, act_cons, comp_assoc n _ hp]
    exact act_comp hL u hp (good_comp hq (hL l (hu l (by simp)))) (fun x hx => hu x (by simp [hx]))
theorem act_eq {n k : Nat} {Ls : List (List Nat)} (hL : ∀ l, l < k → HTable.Good n (Ls.getD l [])) (u : List Nat) {p : List Nat} (hp : HTable.Good n p) (hu : ∀ l ∈ u, l < k) : act n Ls p u = comp n p (act n Ls (List.range n) u) := by
  have := act_comp hL u hp (good_id n) hu
  rwa [id_comp n hp] at this

/-- A built monoid. -/
structure Full (n k : Nat) (Ls T : List (List Nat)) (Ws : List ByteArray) (Rs : List Int) (us : List (List Nat)) : Prop where
  letters : ∀ l, l < k → HTable.Good n (Ls.getD l [])
  inv : BInv n k Ls (T.length * k) (T, Ws, Rs) us
section
variable {n k : Nat} {Ls T : List (List Nat)} {Ws : List ByteArray} {Rs : List Int} {us : List (List Nat)}
theorem Full.good (h : Full n k Ls T Ws Rs us) {i : Nat} (hi : i < T.length) : HTable.Good n (T.getD i []) := h.inv.good _ (getD_mem _ _ _ hi)
theorem Full.step (h : Full n k Ls T Ws Rs us) {i l : Nat} (hi : i < T.length) (hl : l < k) : ∃ r, r < T.length ∧ Rs.getD (i * k + l) 0 = (r : Int) ∧ T.getD r [] = comp n (T.getD i []) (Ls.getD l []) ∧ lle (us.getD r []) (us.getD i [] ++ [l]) := by
  have hq : i * k + l < T.length * k := by
    have := Nat.mul_le_mul_right k (show i + 1 ≤ T.length from hi)
    rw [Nat.succ_mul] at this
    omega
  obtain ⟨r, h1, h2, h3, h4⟩ := h.inv.step _ hq
  rw [pair_div hl, pair_mod hl] at h3 h4
  exact ⟨r, h1, h2, h3, h4⟩
theorem Full.fol (h : Full n k Ls T Ws Rs us) : ∀ (u : List Nat) {i : Nat}, i < T.length → (∀ l ∈ u, l < k) → PureMon.fol k Rs i u < T.length ∧ T.getD (PureMon.fol k Rs i u) [] = act n Ls (T.getD i []) u
  | [], _, hi, _ => ⟨hi, rfl⟩
  | l :: u, i, hi, hu => by
    obtain ⟨r, h1, h2, h3, _⟩ := h.step hi (hu l (by simp))
    rw [fol_cons, h2, Int.toNat_natCast, act_cons, ← h3]
    exact Full.fol h u h1 (fun x hx => hu x (by simp [hx]))
theorem Full.zero (h : Full n k Ls T Ws Rs us) : T.getD 0 [] = List.range n := by
  have := (h.inv.word 0 h.inv.pos).2.1
  rw [h.inv.nil] at this
  exact this
theorem Full.lets (h : Full n k Ls T Ws Rs us) {i : Nat} (hi : i < T.length) : ∀ l ∈ us.getD i [], l < k := (h.inv.word i hi).2.2
theorem Full.img (h : Full n k Ls T Ws Rs us) {i : Nat} (hi : i < T.length) : T.getD i [] = act n Ls (List.range n) (us.getD i []) := (h.inv.word i hi).2.1
theorem Full.wrd (h : Full n k Ls T Ws Rs us) {i : Nat} (hi : i < T.length) : Ws.getD i ⟨#[]⟩ = enc (us.getD i []) := (h.inv.word i hi).1
/-- An element is what its letters do. -/
theorem Full.eq (h : Full n k Ls T Ws Rs us) {i j : Nat} (hi : i < T.length) (hj : j < T.length) (e : T.getD i [] = T.getD j []) : i = j := nodup_inj h.inv.nodup hi hj e
/-- The element of a word. -/
theorem Full.elem (h : Full n k Ls T Ws Rs us) (u : List Nat) (hu : ∀ l ∈ u, l < k) : PureMon.fol k Rs 0 u < T.length ∧ T.getD (PureMon.fol k Rs 0 u) [] = act n Ls (List.range n) u := by
  have := h.fol u h.inv.pos hu
  rwa [h.zero] at this
/-- The product is that of what is done. -/
theorem Full.prod (h : Full n k Ls T Ws Rs us) {i j : Nat} (hi : i < T.length) (hj : j < T.length) : PureMon.fol k Rs i (us.getD j []) < T.length ∧ T.getD (PureMon.fol k Rs i (us.getD j [])) [] = comp n (T.getD i []) (T.getD j []) := by
  have := h.fol (us.getD j []) hi (h.lets hj)
  rw [act_eq h.letters _ (h.good hi) (h.lets hj), ← h.img hj] at this
  exact this
theorem Full.prod_elem (h : Full n k Ls T Ws Rs us) {i : Nat} (hi : i < T.length) (u : List Nat) (hu : ∀ l ∈ u, l < k) : PureMon.fol k Rs i (us.getD (PureMon.fol k Rs 0 u) []) = PureMon.fol k Rs i u := by
  obtain ⟨h1, h2⟩ := h.elem u hu
  obtain ⟨h3, h4⟩ := h.prod hi h1
  obtain ⟨h5, h6⟩ := h.fol u hi hu
  refine h.eq h3 h5 ?_
  rw [h4, h6, h2, act_eq h.letters _ (h.good hi) hu]
theorem Full.back (h : Full n k Ls T Ws Rs us) {i : Nat} (hi : i < T.length) : PureMon.fol k Rs 0 (us.getD i []) = i := by
  obtain ⟨h1, h2⟩ := h.elem _ (h.lets hi)
  exact h.eq h1 hi (by rw [h2, ← h.img hi])
/-- Left: what is found ahead. -/
theorem Full.left (h : Full n k Ls T Ws Rs us) {i l : Nat} (hi : i < T.length) (hl : l < k) : (lefts n k Ls T (T.length * k)).getD (i * k + l) 0 = ((PureMon.fol k Rs 0 (l :: us.getD i []) : Nat) : Int) := by
  have hq : i * k + l < T.length * k := by
    have := Nat.mul_le_mul_right k (show i + 1 ≤ T.length from hi)
    rw [Nat.succ_mul] at this
    omega
  have hu : ∀ x ∈ l :: us.getD i [], x < k := by
    intro x hx
    rcases List.mem_cons.1 hx with rfl | hx
    · exact hl
    · exact h.lets hi x hx
  obtain ⟨h1, h2⟩ := h.elem _ hu
  rw [act_cons, comp_id n (h.letters l hl), act_eq h.letters _ (h.letters l hl) (h.lets hi), ← h.img hi] at h2
  unfold lefts
  rw [List.getD_eq_getElem?_getD, List.getElem?_map, List.getElem?_range hq]
  simp only [Option.map_some, Option.getD_some]
  rw [pair_div hl, pair_mod hl]
  unfold fnd
  have hm : comp n (Ls.getD l []) (T.getD i []) ∈ T := by rw [← h2]; exact getD_mem _ _ _ h1
  rw [if_pos hm]
  congr 1
  exact h.eq (List.idxOf_lt_length_of_mem hm) h1 (by rw [getD_idxOf hm, h2])

/-- Least words. -/
theorem Full.least (h : Full n k Ls T Ws Rs us) (u : List Nat) (hu : ∀ l ∈ u, l < k) : lle (us.getD (PureMon.fol k Rs 0 u) []) u := by
  induction hn : u.length generalizing u with
  | zero =>
    obtain rfl := List.length_eq_zero_iff.1 hn
    rw [fol_nil, h.inv.nil]
    exact .inl rfl
  | succ m ih =>
    obtain ⟨v, l, rfl⟩ : ∃ v l, u = v ++ [l] := ⟨u.dropLast, u.getLast (by intro q; subst q; simp at hn), (List.dropLast_concat_getLast _).symm⟩
    have hv : ∀ x ∈ v, x < k := fun x hx => hu x (by simp [hx])
    have h1 := ih v hv (by simpa using hn)
    obtain ⟨r, hr, h2, _, h3⟩ := h.step (h.elem v hv).1 (hu l (by simp))
    rw [fol_snoc, h2, Int.toNat_natCast]
    exact lle_trans h3 (lle_snoc l h1)
theorem lex_append : ∀ {u v : List Nat} (a b : List Nat), u.length = v.length → lex u v → lex (u ++ a) (v ++ b)
  | _ :: u, _ :: v, a, b, hl, h => by
    rcases h with h | ⟨h, h2⟩
    · exact .inl h
    · exact .inr ⟨h, lex_append a b (by simpa using hl) h2⟩
theorem lex_ahead : ∀ (a : List Nat) {u v : List Nat}, lex u v → lex (a ++ u) (a ++ v)
  | [], _, _, h => h
  | _ :: a, _, _, h => .inr ⟨rfl, lex_ahead a h⟩
theorem llt_put {u v : List Nat} (a b : List Nat) (h : llt u v) : llt (a ++ u ++ b) (a ++ v ++ b) := by
  rcases h with h | ⟨h, h2⟩
  · exact .inl (by simp; omega)
  · exact .inr ⟨by simp [h], by rw [List.append_assoc, List.append_assoc]; exact lex_ahead a (lex_append b b h h2)⟩
theorem Full.piece (h : Full n k Ls T Ws Rs us) {i : Nat} (hi : i < T.length) (a v b : List Nat) (e : us.getD i [] = a ++ v ++ b) : us.getD (PureMon.fol k Rs 0 v) [] = v := by
  have hu := h.lets hi
  rw [e] at hu
  have ha : ∀ l ∈ a, l < k := fun l hl => hu l (by simp [hl])
  have hv : ∀ l ∈ v, l < k := fun l hl => hu l (by simp [hl])
  have hb : ∀ l ∈ b, l < k := fun l hl => hu l (by simp [hl])
  have hy := (h.elem v hv).1
  rcases h.least v hv with q | q
  · exact q
  · exfalso
    have hz : ∀ l ∈ a ++ us.getD (PureMon.fol k Rs 0 v) [] ++ b, l < k := by
      intro l hl
      rcases List.mem_append.1 hl with hl | hl
      · rcases List.mem_append.1 hl with hl | hl
        · exact ha l hl
        · exact h.lets hy l hl
      · exact hb l hl
    have h1 : PureMon.fol k Rs 0 (a ++ us.getD (PureMon.fol k Rs 0 v) [] ++ b) = i := by
      rw [fol_append, fol_append, h.prod_elem (h.elem a ha).1 v hv, ← fol_append, ← fol_append, ← List.append_assoc, ← e, h.back hi]
    have h2 := h.least _ hz
    rw [h1, e] at h2
    have h3 := llt_put a b q
    rcases h2 with h2 | h2
    · rw [← h2] at h3
      exact llt_irrefl _ h3
    · exact llt_irrefl _ (llt_trans h3 h2)
end
end Go.Proofs.Ytcnnlddjnmkioaa.PureMon
