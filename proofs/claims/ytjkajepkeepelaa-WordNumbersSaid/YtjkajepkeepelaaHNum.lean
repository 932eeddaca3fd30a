/- Words as numbers: digits from 1 to k, to the base k: plain facts. -/
import Derived.Test.YtjkajepkeepelaaHMath
set_option linter.unusedVariables false
namespace Go.Proofs.Ytjkajepkeepelaa.HNum

/-- The number of a list of digits. -/
def V (k : Nat) (l : List Nat) : Nat := l.foldl (fun n d => n * k + d) 0
theorem fold_app (k : Nat) : ∀ (l : List Nat) (n : Nat), l.foldl (fun n d => n * k + d) n = n * k ^ l.length + V k l
  | [], n => by simp [V]
  | d :: l, n => by
    have h1 := fold_app k l (n * k + d)
    have h2 := fold_app k l (0 * k + d)
    simp only [List.foldl_cons, V, List.length_cons] at *
    rw [h1, h2, Nat.pow_succ, Nat.add_mul, Nat.zero_mul, Nat.zero_add, Nat.mul_assoc, Nat.mul_comm k]
    omega
theorem V_app (k : Nat) (a b : List Nat) : V k (a ++ b) = V k a * k ^ b.length + V k b := by
  have := fold_app k b (V k a)
  unfold V at *
  rw [List.foldl_append]
  exact this
theorem V_cons (k : Nat) (d : Nat) (l : List Nat) : V k (d :: l) = d * k ^ l.length + V k l := by
  have := V_app k [d] l
  simp [V] at this ⊢
  exact this
theorem V_snoc (k : Nat) (l : List Nat) (d : Nat) : V k (l ++ [d]) = V k l * k + d := by
  rw [V_app]
  simp [V]
/-- The least number of so many digits. -/
def R (k : Nat) : Nat → Nat
  | 0 => 0
  | n + 1 => k * R k n + 1
theorem R_pow (k : Nat) (hk : 1 ≤ k) : ∀ n, k * R k n + 1 = R k n + k ^ n
  | 0 => by simp [R]
  | n + 1 => by
    have := R_pow k hk n
    rw [R, Nat.pow_succ]
    have e : k * (k * R k n + 1) + 1 = k * (R k n + k ^ n) + 1 := by rw [this]
    rw [e, this, Nat.mul_add, Nat.mul_comm (k ^ n)]
    omega
def Dig (k : Nat) (l : List Nat) : Prop := ∀ d, d ∈ l → 1 ≤ d ∧ d ≤ k
theorem V_bounds (k : Nat) : ∀ l, Dig k l → R k l.length ≤ V k l ∧ V k l ≤ k * R k l.length
  | [], _ => by simp [V, R]
  | d :: l, h => by
    have hd := h d (by simp)
    obtain ⟨h1, h2⟩ := V_bounds k l (fun x hx => h x (by simp [hx]))
    have h3 := R_pow k (by omega) l.length
    rw [V_cons, List.length_cons, R]
    have h4 : 1 * k ^ l.length ≤ d * k ^ l.length := Nat.mul_le_mul_right _ hd.1
    have h5 : d * k ^ l.length ≤ k * k ^ l.length := Nat.mul_le_mul_right _ hd.2
    have h6 : k * (k * R k l.length + 1) = k * R k l.length + k * k ^ l.length := by rw [h3, Nat.mul_add]
    omega
theorem V_longer {k : Nat} {a b : List Nat} (ha : Dig k a) (hb : Dig k b) (h : a.length < b.length) : V k a < V k b := by
  have h1 := (V_bounds k a ha).2
  have h2 := (V_bounds k b hb).1
  have mono : ∀ n m, n ≤ m → R k n ≤ R k m := by
    intro n m hnm
    induction hnm with
    | refl => exact Nat.le_refl _
    | step _ ih =>
      rename_i m _
      rw [R]
      rcases Nat.eq_zero_or_pos k with e | e
      · have hz : ∀ q, R k q ≤ 1 := fun q => by cases q <;> simp [R, e]
        have := hz n
        omega
      · have : R k m ≤ k * R k m := Nat.le_mul_of_pos_left _ e
        omega
  have h3 := mono (a.length + 1) b.length h
  rw [R] at h3
  omega
theorem V_lex {k : Nat} (hk : 1 ≤ k) {a b : Nat} {x y : List Nat} (hx : Dig k x) (hy : Dig k y) (hl : x.length = y.length) (h : a < b) : V k (a :: x) < V k (b :: y) := by
  rw [V_cons, V_cons]
  have h1 := (V_bounds k x hx).2
  have h2 := (V_bounds k y hy).1
  have h3 := R_pow k hk x.length
  rw [← hl] at h2 ⊢
  have h4 : (a + 1) * k ^ x.length ≤ b * k ^ x.length := Nat.mul_le_mul_right _ h
  rw [Nat.succ_mul] at h4
  omega
theorem V_ones (k : Nat) : ∀ n, V k (List.replicate n 1) = R k n
  | 0 => rfl
  | n + 1 => by rw [List.replicate_succ', V_snoc, V_ones k n, R, Nat.mul_comm]
theorem V_full (k : Nat) (hk : 1 ≤ k) : ∀ n, V k (List.replicate n k) = k * R k n
  | 0 => rfl
  | n + 1 => by
    rw [List.replicate_succ', V_snoc, V_full k hk n, R, Nat.mul_add, Nat.mul_comm (k * R k n)]
    omega
/-- The carry's sum. -/
theorem V_carry (k : Nat) (hk : 1 ≤ k) (p : List Nat) (c n : Nat) : V k (p ++ (c + 1) :: List.replicate n 1) = V k (p ++ c :: List.replicate n k) + 1 := by
  rw [V_app, V_app, V_cons, V_cons, V_ones, V_full k hk]
  simp only [List.length_cons, List.length_replicate]
  have := R_pow k hk n
  rw [Nat.succ_mul]
  omega
theorem V_roll (k : Nat) (hk : 1 ≤ k) (n : Nat) : V k (List.replicate (n + 1) 1) = V k (List.replicate n k) + 1 := by
  rw [V_ones, V_full k hk, R]
/-- The digits of a number, the last one first. -/
theorem pow_big (k : Nat) (hk : 2 ≤ k) : ∀ n, n < R k (n + 1) := by
  intro n
  induction n with
  | zero => simp [R]
  | succ n ih =>
    rw [R]
    have : 2 * R k (n + 1) ≤ k * R k (n + 1) := Nat.mul_le_mul_right _ hk
    omega
end Go.Proofs.Ytjkajepkeepelaa.HNum
