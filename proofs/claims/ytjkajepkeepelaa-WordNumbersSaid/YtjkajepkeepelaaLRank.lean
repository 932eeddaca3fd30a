/- Rank, Nth and Next: what they tell of a word's number. -/
import Derived.Test.YtjkajepkeepelaaHNum
import Derived.Test.YtjkajepkeepelaaLRoots
import Derived.Test.YtjkajepkeepelaaHRank
import Derived.Test.YtjkajepkeepelaaHNext
set_option linter.unusedVariables false
set_option linter.unusedSimpArgs false
namespace Go.Proofs.Ytjkajepkeepelaa.LRank
open Go.RowKit Go.Proofs.YtjkajepkeepelaaW.PrintWords Go.Proofs.YtjkajepkeepelaaW.PrintLast Go.Proofs.YtjkajepkeepelaaW.PrintMore
open Go.Proofs.Ytjkajepkeepelaa Go.Proofs.Ytjkajepkeepelaa.HMath Go.Proofs.Ytjkajepkeepelaa.HBord Go.Proofs.Ytjkajepkeepelaa.HOver Go.Proofs.Ytjkajepkeepelaa.HComp Go.Proofs.Ytjkajepkeepelaa.HRoots Go.Proofs.Ytjkajepkeepelaa.LRoots Go.Proofs.Ytjkajepkeepelaa.HNum

def dg (l : List UInt8) : List Nat := l.map (fun b => b.toNat - 96)
def val (k : Nat) (s : ByteArray) : Nat := V k (dg s.data.toList)
def Good (k : Nat) (l : List UInt8) : Prop := ∀ b, b ∈ l → 97 ≤ b.toNat ∧ b.toNat < 97 + k
theorem good_of {k : Nat} {s : ByteArray} (h : HCheck.chk (k : Int) s = 0) : Good k s.data.toList := by
  intro b hb
  have := List.all_eq_true.1 (chk_all h) b hb
  simp only [HCheck.okb, Bool.and_eq_true, decide_eq_true_eq] at this
  omega
theorem dig_of {k : Nat} {l : List UInt8} (h : Good k l) : Dig k (dg l) := by
  intro d hd
  obtain ⟨b, hb, rfl⟩ := List.mem_map.1 hd
  have := h b hb
  omega

/-- The rank, or that it doesn't fit. -/
def rank (k : Nat) (s : ByteArray) : Int × Int := if val k s < 18446744073709551616 then ((val k s : Nat), 0) else (0, 11)

theorem rk_fold (k : Nat) (hk : 1 ≤ k) (hk8 : k ≤ 8) : ∀ (l : List UInt8) (n : Nat), Good k l → n < 18446744073709551616 →
    HRank.rk (k : Int) l (n : Int) = if (dg l).foldl (fun n d => n * k + d) n < 18446744073709551616 then ((((dg l).foldl (fun n d => n * k + d) n : Nat) : Int), (0 : Int)) else ((0 : Int), (11 : Int))
  | [], n, _, hn => by simp only [HRank.rk, dg, List.map_nil, List.foldl_nil, if_pos hn]
  | c :: l, n, hg, hn => by
    have hc := hg c (by simp)
    have hg' : Good k l := fun b hb => hg b (by simp [hb])
    have hge : ∀ m, m ≤ (dg l).foldl (fun n d => n * k + d) m := by
      intro m
      rw [fold_app]
      have h1 : m * 1 ≤ m * k ^ (dg l).length := Nat.mul_le_mul_left _ (Nat.pow_pos (by omega))
      omega
    have e : (c.toNat : Int) - 97 + 1 = ((c.toNat - 96 : Nat) : Int) := by omega
    simp only [HRank.rk, dg, List.map_cons, List.foldl_cons]
    rw [e]
    by_cases hov : (18446744073709551615 - ((c.toNat - 96 : Nat) : Int)) / (k : Int) < (n : Int)
    · rw [if_pos hov]
      have h1 : 18446744073709551615 - ((c.toNat - 96 : Nat) : Int) < (n : Int) * (k : Int) := Int.lt_mul_of_ediv_lt (by omega) hov
      have h2 : (n : Int) * (k : Int) = ((n * k : Nat) : Int) := by simp
      rw [h2] at h1
      have h3 := hge (n * k + (c.toNat - 96))
      unfold dg at h3
      rw [if_neg (by omega)]
    · rw [if_neg hov]
      obtain ⟨q1, q2, _, _⟩ := HRank.no_wrap (m := (n : Int)) (d := ((c.toNat - 96 : Nat) : Int)) (k := (k : Int)) (by omega) (by omega) (by omega) (by omega) (by omega)
      have h2 : (n : Int) * (k : Int) + ((c.toNat - 96 : Nat) : Int) = ((n * k + (c.toNat - 96) : Nat) : Int) := by simp
      rw [h2] at q2 ⊢
      have ih := rk_fold k hk hk8 l (n * k + (c.toNat - 96)) hg' (by omega)
      unfold dg at ih
      exact ih

theorem rank_ok (k : Nat) (s : ByteArray) (h : HCheck.chk (k : Int) s = 0) : HRank.f (k : Int) s = some (rank k s) := by
  have hk := chk_k h
  unfold HRank.f rank val V
  rw [if_pos h]
  have := rk_fold k (by omega) (by omega) s.data.toList 0 (good_of h) (by omega)
  rw [show ((0 : Nat) : Int) = 0 from rfl] at this
  rw [this]

/-- Order and numbers. -/
theorem comp_val {k : Nat} (hk : 1 ≤ k) : ∀ (a b : List UInt8), Good k a → Good k b → a.length = b.length → (Lib.compareBytes a b = 0 → V k (dg a) = V k (dg b)) ∧ (Lib.compareBytes a b < 0 → V k (dg a) < V k (dg b))
  | [], [], _, _, _ => by simp [Lib.compareBytes]
  | [], _ :: _, _, _, h => by simp at h
  | _ :: _, [], _, _, h => by simp at h
  | x :: a, y :: b, ha, hb, h => by
    have hx := ha x (by simp)
    have hy := hb y (by simp)
    have ha' : Good k a := fun z hz => ha z (by simp [hz])
    have hb' : Good k b := fun z hz => hb z (by simp [hz])
    have hl : a.length = b.length := by simpa using h
    have hl2 : (dg a).length = (dg b).length := by simpa [dg] using hl
    obtain ⟨i1, i2⟩ := comp_val hk a b ha' hb' hl
    simp only [Lib.compareBytes]
    have e : ∀ (z : UInt8) (c : List UInt8), dg (z :: c) = (z.toNat - 96) :: dg c := fun _ _ => rfl
    rw [e, e]
    by_cases h1 : x < y
    · rw [if_pos h1]
      rw [UInt8.lt_iff_toNat_lt] at h1
      exact ⟨fun q => by omega, fun _ => V_lex hk (dig_of ha') (dig_of hb') hl2 (by omega)⟩
    · rw [if_neg h1]
      by_cases h2 : y < x
      · rw [if_pos h2]
        exact ⟨fun q => by omega, fun q => by omega⟩
      · rw [if_neg h2]
        rw [UInt8.lt_iff_toNat_lt] at h1 h2
        have exy : x.toNat = y.toNat := by omega
        rw [V_cons, V_cons, exy, hl2]
        exact ⟨fun q => by rw [i1 q], fun q => by have := i2 q; omega⟩

theorem ord_val {k : Nat} {u v : ByteArray} (hu : HCheck.chk (k : Int) u = 0) (hv : HCheck.chk (k : Int) v = 0) : (ord u v = 0 → val k u = val k v) ∧ (ord u v < 0 → val k u < val k v) ∧ (0 < ord u v → val k v < val k u) := by
  have hk := chk_k hu
  have key : ∀ {u v : ByteArray}, HCheck.chk (k : Int) u = 0 → HCheck.chk (k : Int) v = 0 → (ord u v = 0 → val k u = val k v) ∧ (ord u v < 0 → val k u < val k v) := by
    intro u v hu hv
    unfold ord val
    by_cases hs : u.size = v.size
    · rw [if_pos hs]
      exact comp_val (by omega) _ _ (good_of hu) (good_of hv) (by simpa using hs)
    · rw [if_neg hs]
      by_cases hlt : u.size < v.size
      · rw [if_pos hlt]
        exact ⟨fun q => by omega, fun _ => V_longer (dig_of (good_of hu)) (dig_of (good_of hv)) (by simpa [dg] using hlt)⟩
      · rw [if_neg hlt]
        exact ⟨fun q => by omega, fun q => by omega⟩
  refine ⟨(key hu hv).1, (key hu hv).2, fun h => (key hv hu).2 ?_⟩
  rw [ord_anti]
  omega

/-- The digits of a number, the last one first. -/
def digs (k : Nat) : Nat → Nat → List Nat
  | 0, _ => []
  | f + 1, n => if n = 0 then [] else ((n - 1) % k + 1) :: digs k f ((n - 1) / k)
theorem digs_val (k : Nat) (hk : 1 ≤ k) : ∀ f n, n ≤ f → V k (digs k f n).reverse = n ∧ Dig k (digs k f n)
  | 0, n, h => by
    obtain rfl : n = 0 := by omega
    exact ⟨rfl, by simp [digs, Dig]⟩
  | f + 1, n, h => by
    unfold digs
    by_cases hz : n = 0
    · subst hz
      rw [if_pos rfl]
      exact ⟨rfl, by simp [Dig]⟩
    · rw [if_neg hz]
      have hle : (n - 1) / k ≤ n - 1 := Nat.div_le_self _ _
      obtain ⟨h1, h2⟩ := digs_val k hk f ((n - 1) / k) (by omega)
      have hm := Nat.mod_lt (n - 1) (show 0 < k by omega)
      refine ⟨?_, fun d hd => ?_⟩
      · rw [List.reverse_cons, V_snoc, h1]
        have := Nat.div_add_mod (n - 1) k
        rw [Nat.mul_comm] at this
        omega
      · rcases List.mem_cons.1 hd with e | e
        · omega
        · exact h2 d e

theorem R_two (k : Nat) (hk : 2 ≤ k) : ∀ n, 2 ^ n ≤ R k n + 1
  | 0 => by simp [R]
  | n + 1 => by
    have := R_two k hk n
    rw [R, Nat.pow_succ]
    have h2 : 2 * R k n ≤ k * R k n := Nat.mul_le_mul_right _ hk
    omega
theorem digs_short (k : Nat) (hk : 2 ≤ k) (f n : Nat) (hf : n ≤ f) (hn : n < 18446744073709551616) : (digs k f n).length ≤ 64 := by
  obtain ⟨h1, h2⟩ := digs_val k (by omega) f n hf
  have h3 := (V_bounds k (digs k f n).reverse (fun d hd => h2 d (by simpa using hd))).1
  rw [h1, List.length_reverse] at h3
  have h4 := R_two k hk (digs k f n).length
  by_cases hl : (digs k f n).length ≤ 64
  · exact hl
  · have h5 : 2 ^ 65 ≤ 2 ^ (digs k f n).length := Nat.pow_le_pow_right (by omega) (by omega)
    have h6 : (2 : Nat) ^ 65 = 36893488147419103232 := by decide
    omega

/-- The carry, on bytes. -/
theorem carry_spec (k : Int) : ∀ (i m : Nat) (p : List Int), p.length = i →
    (∃ q c j, p = q ++ c :: List.replicate j (97 + k - 1) ∧ c ≠ 97 + k - 1 ∧ HNext.carry (97 + k - 1) (p ++ List.replicate m 97) i = (q ++ c :: List.replicate (j + m) 97, (q.length : Int))) ∨
    (p = List.replicate i (97 + k - 1) ∧ HNext.carry (97 + k - 1) (p ++ List.replicate m 97) i = (List.replicate (i + m) 97, -1))
  | 0, m, p, h => by
    have hp : p = [] := List.eq_nil_of_length_eq_zero h
    subst hp
    exact .inr ⟨rfl, by simp [HNext.carry]⟩
  | i + 1, m, p, h => by
    have hne : p ≠ [] := fun e => by rw [e] at h; simp at h
    obtain ⟨p', x, rfl⟩ : ∃ p' x, p = p' ++ [x] := ⟨p.dropLast, p.getLast hne, (List.dropLast_concat_getLast hne).symm⟩
    have hl : p'.length = i := by simpa using h
    have hrd : rd (p' ++ [x] ++ List.replicate m 97) (i : Int) = x := by
      simp [rd, List.getD_eq_getElem?_getD, ← hl]
    by_cases hx : x = 97 + k - 1
    · subst hx
      have hset : (p' ++ [97 + k - 1] ++ List.replicate m 97).set i 97 = p' ++ List.replicate (m + 1) (97 : Int) := by
        rw [List.append_assoc, List.set_append_right _ _ (by omega), hl, Nat.sub_self, List.replicate_succ]
        rfl
      have hstep : HNext.carry (97 + k - 1) (p' ++ [97 + k - 1] ++ List.replicate m 97) (i + 1) = HNext.carry (97 + k - 1) (p' ++ List.replicate (m + 1) 97) i := by
        simp only [HNext.carry]
        rw [if_pos hrd, hset]
      rw [hstep]
      rcases carry_spec k i (m + 1) p' hl with ⟨q, c, j, e1, e2, e3⟩ | ⟨e1, e3⟩
      · refine .inl ⟨q, c, j + 1, ?_, e2, ?_⟩
        · rw [e1, List.replicate_succ']
          simp
        · rw [e3, show j + (m + 1) = j + 1 + m by omega]
      · refine .inr ⟨?_, ?_⟩
        · rw [e1, List.replicate_succ']
        · rw [e3, show i + (m + 1) = i + 1 + m by omega]
    · refine .inl ⟨p', x, 0, by simp, hx, ?_⟩
      simp only [HNext.carry]
      rw [if_neg (by rw [hrd]; exact hx), hl]
      simp

theorem next_len (k : Nat) (s : ByteArray) : (HNext.nxt (97 + (k : Int) - 1) (bytesOf s)).length ≤ s.size + 1 ∧ s.size ≤ (HNext.nxt (97 + (k : Int) - 1) (bytesOf s)).length := by
  have h := HNext.carry_len (97 + (k : Int) - 1) (bytesOf s).length (bytesOf s)
  unfold HNext.nxt
  rw [← bytesOf_length s]
  simp only
  split
  · rw [List.length_set, h.1]; omega
  · rw [List.length_append, h.1]; simp

/-- The next word: its letters, its number. -/
theorem next_val (k : Nat) (s : ByteArray) (h : HCheck.chk (k : Int) s = 0) : HCheck.chk (k : Int) (strOfNums (HNext.nxt (97 + (k : Int) - 1) (bytesOf s))) = 0 ∧ val k (strOfNums (HNext.nxt (97 + (k : Int) - 1) (bytesOf s))) = val k s + 1 := by
  have hk := chk_k h
  have hg := good_of h
  have hb : ∀ x, x ∈ bytesOf s → 97 ≤ x ∧ x < 97 + (k : Int) := by
    intro x hx
    simp only [bytesOf, List.mem_map] at hx
    obtain ⟨b, hb, rfl⟩ := hx
    have := hg b hb
    omega
  have hs : dg s.data.toList = (bytesOf s).map (fun x => x.toNat - 96) := by
    simp [dg, bytesOf]
  -- from bytes to the word
  have fin : ∀ (l : List Int), (∀ x, x ∈ l → 97 ≤ x ∧ x < 97 + (k : Int)) → HCheck.chk (k : Int) (strOfNums l) = 0 ∧ val k (strOfNums l) = V k (l.map (fun x => x.toNat - 96)) := by
    intro l hl
    have e : ∀ x, x ∈ l → (UInt8.ofNat x.toNat).toNat = x.toNat := fun x hx => by
      have := hl x hx
      rw [UInt8.toNat_ofNat']
      omega
    refine ⟨chk_ok (by omega) (by omega) (fun b hb => ?_), ?_⟩
    · rw [strOf_bytes, List.mem_map] at hb
      obtain ⟨x, hx, rfl⟩ := hb
      have := hl x hx
      rw [e x hx]
      omega
    · unfold val dg
      rw [strOf_bytes, List.map_map]
      congr 1
      exact List.map_congr_left (fun x hx => by simp only [Function.comp]; rw [e x hx])
  have hn : (bytesOf s).length = s.size := bytesOf_length s
  rcases carry_spec (k : Int) (bytesOf s).length 0 (bytesOf s) rfl with ⟨q, c, j, e1, e2, e3⟩ | ⟨e1, e3⟩
  · simp only [List.replicate_zero, List.append_nil, Nat.add_zero] at e3
    have hnx : HNext.nxt (97 + (k : Int) - 1) (bytesOf s) = q ++ (c + 1) :: List.replicate j 97 := by
      have hcb := hb c (by rw [e1]; simp)
      unfold HNext.nxt
      simp only [e3]
      rw [if_pos (by omega), Int.toNat_natCast]
      have hr : rd (q ++ c :: List.replicate j 97) (q.length : Int) = c := by simp [rd, List.getD_eq_getElem?_getD]
      rw [hr, List.set_append_right _ _ (Nat.le_refl _), Nat.sub_self, List.set_cons_zero, Int.emod_eq_of_lt (by omega) (by omega)]
    have hcb := hb c (by rw [e1]; simp)
    rw [hnx]
    obtain ⟨f1, f2⟩ := fin (q ++ (c + 1) :: List.replicate j 97) (fun x hx => by
      rcases List.mem_append.1 hx with hx | hx
      · exact hb x (by rw [e1]; simp [hx])
      · rcases List.mem_cons.1 hx with rfl | hx
        · omega
        · rw [(List.mem_replicate.1 hx).2]; omega)
    refine ⟨f1, ?_⟩
    rw [f2]
    unfold val
    rw [hs, e1, List.map_append, List.map_append, List.map_cons, List.map_cons, List.map_replicate, List.map_replicate]
    have a1 : (c + 1).toNat - 96 = (c.toNat - 96) + 1 := by omega
    have a2 : (97 : Int).toNat - 96 = 1 := rfl
    have a3 : (97 + (k : Int) - 1).toNat - 96 = k := by omega
    rw [a1, a2, a3]
    exact V_carry k (by omega) _ _ _
  · simp only [List.replicate_zero, List.append_nil, Nat.add_zero] at e3
    have hnx : HNext.nxt (97 + (k : Int) - 1) (bytesOf s) = List.replicate ((bytesOf s).length + 1) 97 := by
      unfold HNext.nxt
      simp only [e3]
      rw [if_neg (by omega), List.replicate_succ']
    rw [hnx]
    obtain ⟨f1, f2⟩ := fin (List.replicate ((bytesOf s).length + 1) 97) (fun x hx => by rw [(List.mem_replicate.1 hx).2]; omega)
    refine ⟨f1, ?_⟩
    rw [f2]
    unfold val
    rw [hs]
    conv => rhs; rw [e1]
    rw [List.map_replicate, List.map_replicate]
    have a2 : (97 : Int).toNat - 96 = 1 := rfl
    have a3 : (97 + (k : Int) - 1).toNat - 96 = k := by omega
    rw [a2, a3]
    exact V_roll k (by omega) _
end Go.Proofs.Ytjkajepkeepelaa.LRank
