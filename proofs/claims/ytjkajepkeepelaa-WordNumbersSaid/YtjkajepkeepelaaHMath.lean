/- Plain facts on words: borders, periods, the theorem of Fine and Wilf, roots, words that commute. -/
set_option linter.unusedVariables false
namespace Go.Proofs.Ytjkajepkeepelaa.HMath

/-- p is a period of the first n letters. -/
def Per (g : Nat → Int) (n p : Nat) : Prop := ∀ i, i + p < n → g i = g (i + p)
/-- b is the length of a proper border of the first n letters. -/
def Bd (g : Nat → Int) (n b : Nat) : Prop := b < n ∧ ∀ j, j < b → g j = g (n - b + j)
/-- The longest one. -/
def LB (g : Nat → Int) (n b : Nat) : Prop := Bd g n b ∧ ∀ c, Bd g n c → c ≤ b

theorem Bd_zero (g : Nat → Int) {n : Nat} (h : 0 < n) : Bd g n 0 := ⟨h, fun j hj => absurd hj (by omega)⟩

theorem Bd_per {g : Nat → Int} {n b : Nat} (h : b < n) : Bd g n b ↔ Per g n (n - b) := by
  constructor
  · intro ⟨_, hb⟩ i hi
    have := hb i (by omega)
    rw [this]
    congr 1
    omega
  · intro hp
    refine ⟨h, fun j hj => ?_⟩
    have := hp j (by omega)
    rw [this]
    congr 1
    omega

theorem Bd_trans {g : Nat → Int} {n b c : Nat} (h : Bd g n b) (k : Bd g b c) : Bd g n c := by
  refine ⟨by have := h.1; have := k.1; omega, fun j hj => ?_⟩
  have h1 := k.2 j hj
  have h2 := h.2 (b - c + j) (by have := k.1; omega)
  rw [h1, h2]
  congr 1
  have := h.1; have := k.1
  omega

theorem Bd_down {g : Nat → Int} {n b c : Nat} (h : Bd g n b) (k : Bd g n c) (hc : c < b) : Bd g b c := by
  refine ⟨hc, fun j hj => ?_⟩
  have h1 := k.2 j hj
  have h2 := h.2 (b - c + j) (by omega)
  rw [h1, h2]
  congr 1
  have := h.1
  omega

theorem Bd_succ {g : Nat → Int} {n c : Nat} : Bd g (n + 1) (c + 1) ↔ Bd g n c ∧ g c = g n := by
  constructor
  · intro ⟨h, hb⟩
    refine ⟨⟨by omega, fun j hj => ?_⟩, ?_⟩
    · have := hb j (by omega)
      rw [this]
      congr 1
      omega
    · have := hb c (by omega)
      rw [this]
      congr 1
      omega
  · intro ⟨⟨h, hb⟩, hc⟩
    refine ⟨by omega, fun j hj => ?_⟩
    by_cases e : j = c
    · subst e
      rw [hc]
      congr 1
      omega
    · have := hb j (by omega)
      rw [this]
      congr 1
      omega

theorem LB_one (g : Nat → Int) : LB g 1 0 := ⟨Bd_zero g (by omega), fun c hc => by have := hc.1; omega⟩

theorem LB_unique {g : Nat → Int} {n b c : Nat} (h : LB g n b) (k : LB g n c) : b = c := by
  have := h.2 c k.1
  have := k.2 b h.1
  omega

/-- What holds while the next border is looked for: m is a border; no longer one can be made longer. -/
def Cand (g : Nat → Int) (i m : Nat) : Prop := Bd g i m ∧ ∀ c, Bd g (i + 1) (c + 1) → c ≤ m

theorem Cand_start {g : Nat → Int} {i m : Nat} (h : LB g i m) : Cand g i m := ⟨h.1, fun c hc => h.2 c (Bd_succ.1 hc).1⟩

theorem Cand_next {g : Nat → Int} {i m b : Nat} (h : Cand g i m) (hne : g m ≠ g i) (hb : LB g m b) : Cand g i b := by
  refine ⟨Bd_trans h.1 hb.1, fun c hc => ?_⟩
  have h1 := h.2 c hc
  have h2 := Bd_succ.1 hc
  have h3 : c ≠ m := fun e => hne (e ▸ h2.2)
  exact hb.2 c (Bd_down h.1 h2.1 (by omega))

theorem Cand_end {g : Nat → Int} {i m : Nat} (h : Cand g i m) (he : g m = g i) : LB g (i + 1) (m + 1) := by
  refine ⟨Bd_succ.2 ⟨h.1, he⟩, fun c hc => ?_⟩
  cases c with
  | zero => omega
  | succ c => have := h.2 c hc; omega

theorem Cand_none {g : Nat → Int} {i : Nat} (h : Cand g i 0) (hne : g 0 ≠ g i) : LB g (i + 1) 0 := by
  refine ⟨Bd_zero g (by omega), fun c hc => ?_⟩
  cases c with
  | zero => omega
  | succ c =>
    have := h.2 c hc
    have h0 : c = 0 := by omega
    subst h0
    exact absurd (Bd_succ.1 hc).2 hne

theorem Per_prefix {g : Nat → Int} {n m p : Nat} (h : Per g n p) (hm : m ≤ n) : Per g m p := fun i hi => h i (by omega)

theorem Per_mult {g : Nat → Int} {n p : Nat} (h : Per g n p) : ∀ k i, i + k * p < n → g i = g (i + k * p)
  | 0, i, _ => by simp
  | k + 1, i, hi => by
    have e : i + (k + 1) * p = i + k * p + p := by rw [Nat.succ_mul]; omega
    rw [e] at hi ⊢
    rw [Per_mult h k i (by omega)]
    exact h _ hi

theorem Per_mod {g : Nat → Int} {n p : Nat} (h : Per g n p) (hp : 0 < p) {i : Nat} (hi : i < n) : g i = g (i % p) := by
  have e : i % p + i / p * p = i := by rw [Nat.mul_comm]; exact Nat.mod_add_div i p
  have := Per_mult h (i / p) (i % p) (by omega)
  rw [e] at this
  exact this.symm

theorem Per_eq_mod {g : Nat → Int} {n p : Nat} (h : Per g n p) (hp : 0 < p) {i j : Nat} (hi : i < n) (hj : j < n) (e : i % p = j % p) : g i = g j := by
  rw [Per_mod h hp hi, Per_mod h hp hj, e]

/-- The theorem of Fine and Wilf. -/
theorem fine_wilf {g : Nat → Int} : ∀ (s n p q : Nat), p + q ≤ s → 0 < p → 0 < q → Per g n p → Per g n q → p + q ≤ n + Nat.gcd p q → Per g n (Nat.gcd p q) := by
  intro s
  induction s with
  | zero => intro n p q hs hp; omega
  | succ s ih =>
    have main : ∀ n p q, p + q ≤ s + 1 → 0 < p → p < q → Per g n p → Per g n q → p + q ≤ n + Nat.gcd p q → Per g n (Nat.gcd p q) := by
      intro n p q hs hp hpq h1 h2 hn
      have hd : Nat.gcd p (q - p) = Nat.gcd p q := by
        rw [Nat.gcd_sub_self_right (by omega)]
      have d1 : Nat.gcd p q ∣ p := Nat.gcd_dvd_left _ _
      have d2 : Nat.gcd p q ∣ q := Nat.gcd_dvd_right _ _
      have d3 : Nat.gcd p q ∣ q - p := Nat.dvd_sub d2 d1
      have d0 : 0 < Nat.gcd p q := Nat.gcd_pos_of_pos_left _ hp
      have le1 : Nat.gcd p q ≤ p := Nat.le_of_dvd hp d1
      have le3 : Nat.gcd p q ≤ q - p := Nat.le_of_dvd (by omega) d3
      have k1 : Per g (n - p) p := Per_prefix h1 (by omega)
      have k2 : Per g (n - p) (q - p) := by
        intro i hi
        rw [h2 i (by omega), h1 (i + (q - p)) (by omega)]
        congr 1
        omega
      have k3 := ih (n - p) p (q - p) (by omega) hp (by omega) k1 k2 (by rw [hd]; omega)
      rw [hd] at k3
      generalize hg : Nat.gcd p q = d at *
      have hpn : p ≤ n - p := by omega
      intro i hi
      rw [Per_mod h1 hp (show i < n by omega), Per_mod h1 hp hi]
      have m1 : i % p < p := Nat.mod_lt _ hp
      have m2 : (i + d) % p < p := Nat.mod_lt _ hp
      refine Per_eq_mod k3 d0 (by omega) (by omega) ?_
      rw [Nat.mod_mod_of_dvd _ d1, Nat.mod_mod_of_dvd _ d1, Nat.add_mod_right]
    intro n p q hs hp hq h1 h2 hn
    rcases Nat.lt_trichotomy p q with h | h | h
    · exact main n p q hs hp h h1 h2 hn
    · subst h
      rw [Nat.gcd_self]
      exact h1
    · rw [Nat.gcd_comm]
      exact main n q p (by omega) hq h h2 h1 (by rw [Nat.gcd_comm]; omega)

/-- The least period that divides the length. -/
structure RL (g : Nat → Int) (n p : Nat) : Prop where
  pos : 0 < p
  dvd : p ∣ n
  per : Per g n p
  min : ∀ q, 0 < q → q ∣ n → Per g n q → p ≤ q

theorem RL_of_LB {g : Nat → Int} {n b : Nat} (hn : 0 < n) (h : LB g n b) : RL g n (if n % (n - b) = 0 then n - b else n) := by
  have hb := h.1.1
  have hmin : ∀ q, 0 < q → q ≤ n → Per g n q → n - b ≤ q := by
    intro q hq hqn hp
    have e : n - (n - q) = q := by omega
    have := h.2 (n - q) ((Bd_per (by omega)).2 (by rw [e]; exact hp))
    omega
  have hper : Per g n (n - b) := (Bd_per hb).1 h.1
  by_cases hm : n % (n - b) = 0
  · rw [if_pos hm]
    exact ⟨by omega, Nat.dvd_of_mod_eq_zero hm, hper, fun q hq hd hp => hmin q hq (Nat.le_of_dvd hn hd) hp⟩
  · rw [if_neg hm]
    refine ⟨hn, Nat.dvd_refl _, fun i hi => by omega, fun q hq hd hp => ?_⟩
    have hle := Nat.le_of_dvd hn hd
    by_cases e : q = n
    · omega
    exfalso
    obtain ⟨c, hc⟩ := hd
    have hc2 : 2 ≤ c := by
      rcases c with _ | _ | c
      · omega
      · omega
      · omega
    have h2 : q * 2 ≤ q * c := Nat.mul_le_mul_left _ hc2
    have h3 := hmin q hq hle hp
    have hg := fine_wilf _ _ _ _ (Nat.le_refl _) (by omega) hq hper hp (by omega)
    have hg0 : 0 < Nat.gcd (n - b) q := Nat.gcd_pos_of_pos_right _ hq
    have hg1 : Nat.gcd (n - b) q ≤ n - b := Nat.le_of_dvd (by omega) (Nat.gcd_dvd_left _ _)
    have h4 := hmin _ hg0 (by omega) hg
    have h5 : Nat.gcd (n - b) q = n - b := by omega
    have h6 : n - b ∣ q := by rw [← h5]; exact Nat.gcd_dvd_right _ _
    exact hm (Nat.mod_eq_zero_of_dvd (Nat.dvd_trans h6 ⟨c, hc⟩))

theorem half {n p : Nat} (hn : 0 < n) (hd : p ∣ n) (hne : p ≠ n) : p + p ≤ n := by
  obtain ⟨c, hc⟩ := hd
  have hc2 : 2 ≤ c := by
    rcases c with _ | _ | c
    · omega
    · omega
    · omega
  have h2 : p * 2 ≤ p * c := Nat.mul_le_mul_left _ hc2
  omega

theorem RL_dvd {g : Nat → Int} {n p q : Nat} (hn : 0 < n) (h : RL g n p) (hq : 0 < q) (hd : q ∣ n) (hp : Per g n q) : p ∣ q := by
  have hle := h.min q hq hd hp
  by_cases e : q = n
  · rw [e]; exact h.dvd
  have h2 := half hn hd e
  have hg := fine_wilf _ _ _ _ (Nat.le_refl _) h.pos hq h.per hp (by omega)
  have hg0 : 0 < Nat.gcd p q := Nat.gcd_pos_of_pos_right _ hq
  have h3 := h.min _ hg0 (Nat.dvd_trans (Nat.gcd_dvd_right _ _) hd) hg
  have h4 : Nat.gcd p q ≤ p := Nat.le_of_dvd h.pos (Nat.gcd_dvd_left _ _)
  have h5 : Nat.gcd p q = p := by omega
  rw [← h5]
  exact Nat.gcd_dvd_right _ _

theorem RL_unique {g : Nat → Int} {n p q : Nat} (h : RL g n p) (k : RL g n q) : p = q := by
  have := h.min q k.pos k.dvd k.per
  have := k.min p h.pos h.dvd h.per
  omega

theorem Per_congr {g f : Nat → Int} {n p : Nat} (h : ∀ i, i < n → g i = f i) (k : Per g n p) : Per f n p := fun i hi => by
  rw [← h i (by omega), ← h (i + p) hi]
  exact k i hi

theorem RL_congr {g f : Nat → Int} {n p : Nat} (h : ∀ i, i < n → g i = f i) (k : RL g n p) : RL f n p :=
  ⟨k.pos, k.dvd, Per_congr h k.per, fun q a b c => k.min q a b (Per_congr (fun i hi => (h i hi).symm) c)⟩

/-- A period of the first d letters that divides d, where d is a period too. -/
theorem Per_up {g : Nat → Int} {n d p : Nat} (hp : 0 < p) (hd : 0 < d) (h1 : Per g n d) (h2 : Per g d p) (hpd : p ∣ d) (hdn : d ≤ n) : Per g n p := by
  intro i hi
  rw [Per_mod h1 hd (show i < n by omega), Per_mod h1 hd hi]
  have m1 : i % d < d := Nat.mod_lt _ hd
  have m2 : (i + p) % d < d := Nat.mod_lt _ hd
  refine Per_eq_mod h2 hp (by omega) (by omega) ?_
  rw [Nat.mod_mod_of_dvd _ hpd, Nat.mod_mod_of_dvd _ hpd, Nat.add_mod_right]

/-- The root has no root but itself. -/
theorem RL_root {g : Nat → Int} {n p : Nat} (hn : 0 < n) (h : RL g n p) : RL g p p := by
  have hle := Nat.le_of_dvd hn h.dvd
  exact ⟨h.pos, Nat.dvd_refl _, fun i hi => by omega, fun q hq hd hp => h.min q hq (Nat.dvd_trans hd h.dvd) (Per_up hq h.pos h.per hp hd hle)⟩

/-- A longer power of the root has the same root. -/
theorem RL_power {g : Nat → Int} {n N p : Nat} (hn : 0 < n) (h : RL g n p) (hN : n ≤ N) (hd : p ∣ N) (hp : Per g N p) : RL g N p := by
  refine ⟨h.pos, hd, hp, fun q hq hqd hqp => ?_⟩
  by_cases hlt : p ≤ q
  · exact hlt
  exfalso
  by_cases e : p = N
  · have hpn := Nat.le_of_dvd hn h.dvd
    obtain rfl : n = N := by omega
    have := h.min q hq hqd hqp
    omega
  have h2 := half (by omega) hd e
  have hg := fine_wilf _ _ _ _ (Nat.le_refl _) h.pos hq hp hqp (by omega)
  have hg0 : 0 < Nat.gcd p q := Nat.gcd_pos_of_pos_right _ hq
  have hgq : Nat.gcd p q ≤ q := Nat.le_of_dvd hq (Nat.gcd_dvd_right _ _)
  have := h.min _ hg0 (Nat.dvd_trans (Nat.gcd_dvd_left _ _) h.dvd) (Per_prefix hg hN)
  omega

/-- Lyndon and Schuetzenberger, one way: a word that begins with two words, each behind the other. -/
theorem commute_root {g f h : Nat → Int} {a b p q : Nat} (ha : 0 < a) (hb : 0 < b) (hu : RL f a p) (hv : RL h b q)
    (e1 : ∀ i, i < a → g i = f i) (e2 : ∀ i, i < b → g (a + i) = h i) (e3 : ∀ i, i < b → g i = h i) (e4 : ∀ i, i < a → g (b + i) = f i) :
    p = q ∧ ∀ i, i < p → f i = h i := by
  have pa : Per g (a + b) a := fun i hi => by
    rw [e3 i (by omega), Nat.add_comm, e2 i (by omega)]
  have pb : Per g (a + b) b := fun i hi => by
    rw [e1 i (by omega), Nat.add_comm, e4 i (by omega)]
  have hg := fine_wilf _ _ _ _ (Nat.le_refl _) ha hb pa pb (by omega)
  have hg0 : 0 < Nat.gcd a b := Nat.gcd_pos_of_pos_left _ ha
  have ga : Nat.gcd a b ≤ a := Nat.le_of_dvd ha (Nat.gcd_dvd_left _ _)
  have gb : Nat.gcd a b ≤ b := Nat.le_of_dvd hb (Nat.gcd_dvd_right _ _)
  have hu' : RL g a p := RL_congr (fun i hi => (e1 i hi).symm) hu
  have hv' : RL g b q := RL_congr (fun i hi => (e3 i hi).symm) hv
  have up : ∀ {c r : Nat}, 0 < c → Nat.gcd a b ≤ c → Nat.gcd a b ∣ c → c ≤ a + b → RL g c r → Per g (a + b) r ∧ r ∣ Nat.gcd a b := by
    intro c r hc hgc hd hle hr
    have d := RL_dvd hc hr hg0 hd (Per_prefix hg hle)
    exact ⟨Per_up hr.pos hg0 hg (Per_prefix hr.per hgc) d (by omega), d⟩
  obtain ⟨P1, D1⟩ := up ha ga (Nat.gcd_dvd_left _ _) (by omega) hu'
  obtain ⟨P2, D2⟩ := up hb gb (Nat.gcd_dvd_right _ _) (by omega) hv'
  have l1 := hu'.min q hv.pos (Nat.dvd_trans D2 (Nat.gcd_dvd_left _ _)) (Per_prefix P2 (by omega))
  have l2 := hv'.min p hu.pos (Nat.dvd_trans D1 (Nat.gcd_dvd_right _ _)) (Per_prefix P1 (by omega))
  refine ⟨by omega, fun i hi => ?_⟩
  have hpa := Nat.le_of_dvd ha hu.dvd
  have hqb := Nat.le_of_dvd hb hv.dvd
  rw [← e1 i (by omega), ← e3 i (by omega)]
end Go.Proofs.Ytjkajepkeepelaa.HMath
