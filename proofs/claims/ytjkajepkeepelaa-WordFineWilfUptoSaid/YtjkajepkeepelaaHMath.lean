/- Plain facts on words: borders, periods, the theorem of Fine and Wilf, roots, words that commute. -/
set_option linter.unusedVariables false
namespace Go.Proofs.Ytjkajepkeepelaa.HMath

/-- p is a period of the first n letters. -/
def Per (g : Nat → Int) (n p : Nat) : Prop := ∀ i, i + p < n → g i = g (i + p)
/-- b is the length of a proper border of the first n letters. -/
def Bd (g : Nat → Int) (n b : Nat) : Prop := b < n ∧ ∀ j, j < b → g j = g (n - b + j)
/-- The longest one. -/
def LB (g : Nat → Int) (n b : Nat) : Prop := Bd g n b ∧ ∀ c, Bd g n c → c ≤ b

theorem Bd_zero (g : Nat → Int) {n : Nat} (h : 0 < n) : Bd g n 0 := ⟨h, fun j hj => absurd hj (by omega)⟩

theorem Bd_per {g : Nat → Int} {n b : Nat} (h : b < n) : Bd g n b ↔ Per g n (n - b) := by
  constructor
  · intro ⟨_, hb⟩ i hi
    have := hb i (by omega)
    rw [this]
    congr 1
    omega
  · intro hp
    refine ⟨h, fun j hj => ?_⟩
    have := hp j (by omega)
    rw [this]
    congr 1
    omega

theorem Bd_trans {g : Nat → Int} {n b c : Nat} (h : Bd g n b) (k : Bd g b c) : Bd g n c := by
  refine ⟨by have := h.1; have := k.1; omega, fun j hj => ?_⟩
  have h1 := k.2 j hj
  have h2 := h.2 (b - c + j) (by have := k.1; omega)
  rw [h1, h2]
  congr 1
  have := h.1; have := k.1
  omega

theorem Bd_down {g : Nat → Int} {n b c : Nat} (h : Bd g n b) (k : Bd g n c) (hc : c < b) : Bd g b c := by
  refine ⟨hc, fun j hj => ?_⟩
  have h1 := k.2 j hj
  have h2 := h.2 (b - c + j) (by omega)
  rw [h1, h2]
  congr 1
  have := h.1
  omega

theorem Bd_succ {g : Nat → Int} {n c : Nat} : Bd g (n + 1) (c + 1) ↔ Bd g n c ∧ g c = g n := by
  constructor
  · intro ⟨h, hb⟩
    refine ⟨⟨by omega, fun j hj => ?_⟩, ?_⟩
    · have := hb j (by omega)
      rw [this]
      congr 1
      omega
    · have := hb c (by omega)
      rw [this]
      congr 1
      omega
  · intro ⟨⟨h, hb⟩, hc⟩
    refine ⟨by omega, fun j hj => ?_⟩
    by_cases e : j = c
    · subst e
      rw [hc]
      congr 1
      omega
    · have := hb j (by omega)
      rw [this]
      congr 1
      omega

theorem LB_one (g : Nat → Int) : LB g 1 0 := ⟨Bd_zero g (by omega), fun c hc => by have := hc.1; omega⟩

theorem LB_unique {g : Nat → Int} {n b c : Nat} (h : LB g n b) (k : LB g n c) : b = c := by
  have := h.2 c k.1
  have := k.2 b h.1
  omega

/-- What holds while the next border is looked for: m is a border; no longer one can be made longer. -/
def Cand (g : Nat → Int) (i m : Nat) : Prop := Bd g i m ∧ ∀ c, Bd g (i + 1) (c + 1) → c ≤ m

theorem Cand_start {g : Nat → Int} {i m : Nat} (h : LB g i m) : Cand g i m := ⟨h.1, fun c hc => h.2 c (Bd_succ.1 hc).1⟩

theorem Cand_next {g : Nat → Int} {i m b : Nat} (h : Cand g i m) (hne : g m ≠ g i) (hb : LB g m b) : Cand g i b := by
  refine ⟨Bd_trans h.1 hb.1, fun c hc => ?_⟩
  have h1 := h.2 c hc
  have h2 := Bd_succ.1 hc
  have h3 : c ≠ m := fun e => hne (e ▸ h2.2)
  exact hb.2 c (Bd_down h.1 h2.1 (by omega))

theorem Cand_end {g : Nat → Int} {i m : Nat} (h : Cand g i m) (he : g m = g i) : LB g (i + 1) (m + 1) := by
  refine ⟨Bd_succ.2 ⟨h.1, he⟩, fun c hc => ?_⟩
  cases c with
  | zero => omega
  | succ c => have := h.2 c hc; omega

theorem Cand_none {g : Nat → Int} {i : Nat} (h : Cand g i 0) (hne : g 0 ≠ g i) : LB g (i + 1) 0 := by
  refine ⟨Bd_zero g (by omega), fun c hc => ?_⟩
  cases c with
  | zero => omega
  | succ c =>
    have := h.2 c hc
    have h0 : c = 0 := by omega
    subst h0
    exact absurd (Bd_succ.1 hc).2 hne

theorem Per_prefix {g : Nat → Int} {n m p : Nat} (h : Per g n p) (hm : m ≤ n) : Per g m p := fun i hi => h i (by omega)

theorem Per_mult {g : Nat → Int} {n p : Nat} (h : Per g n p) : ∀ k i, i + k * p < n → g i = g (i + k * p)
  | 0, i, _ => by simp
  | k + 1, i, hi => by
    have e : i + (k + 1) * p = i + k * p + p := by rw [Nat.succ_mul]; omega
    rw [e] at hi ⊢
    rw [Per_mult h k i (by omega)]
    exact h _ hi

theorem Per_mod {g : Nat → Int} {n p : Nat} (h : Per g n p) (hp : 0 < p) {i : Nat} (hi : i < n) : g i = g (i % p) := by
  have e : i % p + i / p * p = i := by rw [Nat.mul_comm]; exact Nat.mod_add_div i p
  have := Per_mult h (i / p) (i % p) (by omega)
  rw [e] at this
  exact this.symm

theorem Per_eq_mod {g : Nat → Int} {n p : Nat} (h : Per g n p) (hp : 0 < p) {i j : Nat} (hi : i < n) (hj : j < n) (e : i % p = j % p) : g i = g j := by
  rw [Per_mod h hp hi, Per_mod h hp hj, e]

/-- The theorem of Fine and Wilf. -/
theorem fine_wilf {g : Nat → Int} : ∀ (s n p q : Nat), p + q ≤ s → 0 < p → 0 < q → Per g n p → Per g n q → p + q ≤ n + Nat.gcd p q → Per g n (Nat.gcd p q) := by
  intro s
  induction s with
  | zero => intro n p q hs hp; omega
  | succ s ih =>
    have main : ∀ n p q, p + q ≤ s + 1 → 0 < p → p < q → Per g n p → Per g n q → p + q ≤ n + Nat.gcd p q → Per g n (Nat.gcd p q) := by
      intro n p q hs hp hpq h1 h2 hn
      have hd : Nat.gcd p (q - p) = Nat.gcd p q := by
        rw [Nat.gcd_sub_self_right (by omega)]
      have d1 : Nat.gcd p q ∣ p := Nat.gcd_dvd_left _ _
      have d2 : Nat.gcd p q ∣ q := Nat.gcd_dvd_right _ _
      have d3 : Nat.gcd p q ∣ q - p := Nat.dvd_sub d2 d1
      have d0 : 0 < Nat.gcd p q := Nat.gcd_pos_of_pos_left _ hp
      have le1 : Nat.gcd p q ≤ p := Nat.le_of_dvd hp d1
      have le3 : Nat.gcd p q ≤ q - p := Nat.le_of_dvd (by omega) d3
      have k1 : Per g (n - p) p := Per_prefix h1 (by omega)
      have k2 : Per g (n - p) (q - p) := by
        intro i hi
        rw [h2 i (by omega), h1 (i + (q - p)) (by omega)]
        congr 1
        omega
      have k3 := ih (n - p) p (q - p) (by omega) hp (by omega) k1 k2 (by rw [hd]; omega)
      rw [hd] at k3
      generalize hg : Nat.gcd p q = d at *
      have hpn : p ≤ n - p := by omega
      intro i hi
      rw [Per_mod h1 hp (show i < n by omega), Per_mod h1 hp hi]
      have m1 : i % p < p := Nat.mod_lt _ hp
      have m2 : (i + d) % p < p := Nat.mod_lt _ hp
      refine Per_eq_mod k3 d0 (by omega) (by omega) ?_
      rw [Nat.mod_mod_of_dvd _ d1, Nat.mod_mod_of_dvd _ d1, Nat.add_mod_right]
    intro n p q hs hp hq h1 h2 hn
    rcases Nat.lt_trichotomy p q with h | h | h
    · exact main n p q hs hp h h1 h2 hn
    · subst h
      rw [Nat.gcd_self]
      exact h1
    · rw [Nat.gcd_comm]
      exact main n q p (by omega) hq h h2 h1 (by rw [Nat.gcd_comm]; omega)
end Go.Proofs.Ytjkajepkeepelaa.HMath
