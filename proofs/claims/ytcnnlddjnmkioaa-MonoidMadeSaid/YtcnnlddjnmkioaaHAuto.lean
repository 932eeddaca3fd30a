/- auto.Check and auto.Run of one letter in plain terms. -/
import Derived.Test.YtcnnlddjnmkioaaHMon
import Derived.Test.YtcnnlddjnmkioaaMAx1
import Derived.IntWalk
set_option linter.unusedVariables false
set_option linter.unusedSimpArgs false
namespace Go.Proofs.Ytcnnlddjnmkioaa.HAuto
open Go Go.RowKit Go.Proofs.Ytcnnlddjnmkioaa.MA Go.Proofs.Ytcnnlddjnmkioaa.HTable Go.Proofs.Ytcnnlddjnmkioaa.HMon Go.Proofs.YtcnnlddjnmkioaaW.PrintWords Go.Proofs.YtcnnlddjnmkioaaW.PrintLast Go.Proofs.YtcnnlddjnmkioaaW.PrintMore

/-- What auto.Check says. -/
def Ok (k : Int) (nx : List Int) (ac : List Bool) : Prop := 1 ≤ k ∧ k ≤ 8 ∧ 1 ≤ ac.length ∧ ac.length ≤ 4096 ∧ (nx.length : Int) = ac.length * k ∧ ∀ s ∈ nx, 0 ≤ s ∧ s < ac.length
theorem l0_spec (n : Int) (nx : List Int) (hb : nx.length ≤ 100000) : ∀ (m p f : Nat), p + m = nx.length → m < f → ((∀ s ∈ nx.drop p, 0 ≤ s ∧ s < n) → auto_Check.l0 f n nx (nx.length : Int) (p : Int) = some 0) ∧ ((¬ ∀ s ∈ nx.drop p, 0 ≤ s ∧ s < n) → auto_Check.l0 f n nx (nx.length : Int) (p : Int) = some 80)
  | 0, p, f + 1, h, _ => by
    have h1 : ¬ ((p : Int) < (nx.length : Int)) := by omega
    rw [auto_Check.l0, if_neg h1]
    refine ⟨fun _ => rfl, fun q => absurd (fun s hs => ?_) q⟩
    rw [List.drop_eq_nil_of_le (by omega)] at hs
    simp at hs
  | m + 1, p, f + 1, h, hf => by
    have h1 : (p : Int) < (nx.length : Int) := by omega
    have hp : p < nx.length := by omega
    have hd : rd nx (p : Int) = nx[p] := by
      unfold rd
      simp [List.getD_eq_getElem?_getD, List.getElem?_eq_getElem hp]
    obtain ⟨i1, i2⟩ := l0_spec n nx hb m (p + 1) f (by omega) (by omega)
    rw [auto_Check.l0, if_pos h1, if_pos (by omega), if_pos h1, hd, IntWalk.wrap64_in _ (by omega), show (p : Int) + 1 = ((p + 1 : Nat) : Int) from rfl, List.drop_eq_getElem_cons hp]
    by_cases h2 : nx[p] < 0
    · rw [if_pos h2]
      exact ⟨fun q => absurd (q nx[p] List.mem_cons_self).1 (by omega), fun _ => rfl⟩
    · rw [if_neg h2]
      by_cases h3 : nx[p] ≥ n
      · rw [if_pos h3]
        exact ⟨fun q => absurd (q nx[p] List.mem_cons_self).2 (by omega), fun _ => rfl⟩
      · rw [if_neg h3]
        refine ⟨fun q => i1 (fun s hs => q s (List.mem_cons_of_mem _ hs)), fun q => i2 (fun q2 => q (fun s hs => ?_))⟩
        rcases List.mem_cons.1 hs with rfl | hs
        · omega
        · exact q2 s hs
theorem check_j0 (n : Int) (b : Bool) (k : Int) (nx : List Int) (ac : List Bool) (f : Nat) (hb : b = true) : auto_Check.j0 (f + 1) n b k nx ac = some 80 := by
  rw [auto_Check.j0, if_pos hb]
theorem check_ok (k : Int) (nx : List Int) (ac : List Bool) (h : Ok k nx ac) (f : Nat) (hf : nx.length + 2 ≤ f) : auto_Check.f f k nx ac = some 0 := by
  obtain ⟨h1, h2, h3, h4, h5, h6⟩ := h
  have hk : (ac.length : Int) * k ≤ 4096 * 8 := Int.mul_le_mul (by omega) h2 (by omega) (by omega)
  obtain ⟨f, rfl⟩ : ∃ g, f = g + 1 := ⟨f - 1, by omega⟩
  unfold auto_Check.f
  have hw : wrap64 ((ac.length : Int) * k) = (ac.length : Int) * k := IntWalk.wrap64_in _ (by omega)
  rw [if_neg (by omega), if_neg (by omega), if_neg (by omega), if_neg (by omega), hw, ← h5, auto_Check.j0, if_neg (by simp)]
  exact (l0_spec _ nx (by omega) nx.length 0 f (by omega) (by omega)).1 (by simpa using h6)
theorem check_bad (k : Int) (nx : List Int) (ac : List Bool) (h : ¬ Ok k nx ac) (f : Nat) (hf : 40000 ≤ f) : auto_Check.f f k nx ac = some 80 := by
  obtain ⟨f, rfl⟩ : ∃ g, f = g + 1 := ⟨f - 1, by omega⟩
  unfold auto_Check.f
  by_cases h1 : k < 1
  · rw [if_pos h1, check_j0 _ _ _ _ _ _ rfl]
  · rw [if_neg h1]
    by_cases h2 : k > 8
    · rw [if_pos h2, check_j0 _ _ _ _ _ _ rfl]
    · rw [if_neg h2]
      by_cases h3 : (ac.length : Int) < 1
      · rw [if_pos h3, check_j0 _ _ _ _ _ _ rfl]
      · rw [if_neg h3]
        by_cases h4 : (ac.length : Int) > 4096
        · rw [if_pos h4, check_j0 _ _ _ _ _ _ rfl]
        · rw [if_neg h4]
          have hk : (ac.length : Int) * k ≤ 4096 * 8 := Int.mul_le_mul (by omega) (by omega) (by omega) (by omega)
          have hk0 : 0 ≤ (ac.length : Int) * k := Int.mul_nonneg (by omega) (by omega)
          have hw : wrap64 ((ac.length : Int) * k) = (ac.length : Int) * k := IntWalk.wrap64_in _ (by omega)
          rw [hw]
          by_cases h5 : (nx.length : Int) = (ac.length : Int) * k
          · rw [← h5, auto_Check.j0, if_neg (by simp)]
            refine (l0_spec _ nx (by omega) nx.length 0 f (by omega) (by omega)).2 (fun q => h ⟨by omega, by omega, by omega, by omega, h5, ?_⟩)
            simpa using q
          · exact check_j0 _ _ _ _ _ _ (by simpa using h5)
/-- auto.Check's answer. -/
theorem check_all (k : Int) (nx : List Int) (ac : List Bool) : ∃ K, auto_Check.f K k nx ac = some 0 ∧ Ok k nx ac ∨ auto_Check.f K k nx ac = some 80 ∧ ¬ Ok k nx ac := by
  by_cases h : Ok k nx ac
  · exact ⟨nx.length + 2, .inl ⟨check_ok k nx ac h _ (Nat.le_refl _), h⟩⟩
  · exact ⟨40000, .inr ⟨check_bad k nx ac h _ (Nat.le_refl _), h⟩⟩
theorem chk_one (k : Nat) (l : Nat) (h1 : 1 ≤ k) (h2 : k ≤ 8) (hl : l < k) : HCheck.chk (k : Int) (chrB l) = 0 := by
  unfold HCheck.chk
  rw [if_neg (by omega), if_pos]
  have : l = 0 ∨ l = 1 ∨ l = 2 ∨ l = 3 ∨ l = 4 ∨ l = 5 ∨ l = 6 ∨ l = 7 := by omega
  simp only [chrB, List.all_cons, List.all_nil, Bool.and_true, HCheck.okb, Bool.and_eq_true, decide_eq_true_eq]
  rcases this with rfl | rfl | rfl | rfl | rfl | rfl | rfl | rfl <;> (refine ⟨by decide, ?_⟩; show ((_ : Nat) : Int) < _; simp; omega)
theorem bt_one (l : Nat) (hl : l < 8) : (bt (chrB l) 0 - 97) % 256 = l := by
  rcases (show l = 0 ∨ l = 1 ∨ l = 2 ∨ l = 3 ∨ l = 4 ∨ l = 5 ∨ l = 6 ∨ l = 7 by omega) with rfl | rfl | rfl | rfl | rfl | rfl | rfl | rfl <;> rfl
theorem idx_lt {k n i l : Nat} (hi : i < n) (hl : l < k) : i * k + l < n * k := by
  have := Nat.mul_le_mul_right k (show i + 1 ≤ n from hi)
  rw [Nat.succ_mul] at this
  omega
theorem follow_one (g : Nat) (k : Nat) (nx : List Int) (ac : List Bool) (i l : Nat) (w : ByteArray) (hw : (w.size : Int) = 1) (hb : (bt w 0 - 97) % 256 = (l : Int)) (hik : i * k ≤ 4096 * 8) (hl : l < 8) (hx : i * k + l < nx.length) : auto_follow.f (g + 1 + 1) k nx ac (i : Int) w = some (nx.getD (i * k + l) 0) := by
  have e2 : ((i : Int) * k) = ((i * k : Nat) : Int) := by simp
  unfold auto_follow.f
  rw [hw, auto_follow.l0, if_pos (by omega), if_pos (by omega), hw, if_pos (by omega), hb, e2, IntWalk.wrap64_in ((i * k : Nat) : Int) (by omega), IntWalk.wrap64_in (((i * k : Nat) : Int) + (l : Int)) (by omega), if_pos (by omega), if_pos (by omega), IntWalk.wrap64_in _ (by omega), auto_follow.l0, if_neg (by omega)]
  rfl
theorem run_any (g : Nat) (k : Nat) (nx : List Int) (ac : List Bool) (i : Nat) (w : ByteArray) (r : Int) (hc : auto_Check.f (g + 1) k nx ac = some 0) (hi : i < ac.length) (hk : HCheck.chk (k : Int) w = 0) (hf : auto_follow.f g k nx ac (i : Int) w = some r) : auto_Run.f (g + 1) k nx ac (i : Int) w = some (r, 0) := by
  unfold auto_Run.f
  rw [hc, Option.bind_some, if_pos rfl, if_neg (by omega), auto_Run.j0, if_neg (by simp; omega)]
  unfold auto_letters.f word_Check.f
  rw [hk, Option.bind_some, Option.bind_some, if_pos rfl, hf, Option.bind_some]
theorem run_one (k : Nat) (nx : List Int) (ac : List Bool) (h : Ok k nx ac) (i l : Nat) (hi : i < ac.length) (hl : l < k) : ∃ K, auto_Run.f K k nx ac (i : Int) (chrB l) = some (((im (lt nx k ac.length l) i : Nat) : Int), 0) := by
  obtain ⟨h1, h2, h3, h4, h5, h6⟩ := h
  have hlen : nx.length = ac.length * k := by
    have : ((nx.length : Nat) : Int) = ((ac.length * k : Nat) : Int) := by rw [h5]; simp
    exact Int.ofNat.inj this
  have hx := idx_lt (n := ac.length) hi hl
  rw [← hlen] at hx
  have hik : i * k ≤ 4096 * 8 := Nat.mul_le_mul (by omega) (by omega)
  obtain ⟨g, hg⟩ : ∃ g, g = nx.length + 1 := ⟨_, rfl⟩
  have hr := run_any (g + 1 + 1) k nx ac i (chrB l) _ (check_ok k nx ac ⟨h1, h2, h3, h4, h5, h6⟩ _ (by omega)) hi (chk_one k l (by omega) (by omega) hl) (follow_one g k nx ac i l _ rfl (bt_one l (by omega)) hik (by omega) hx)
  refine ⟨_, hr.trans ?_⟩
  have := h6 (nx.getD (i * k + l) 0) (by rw [List.getD_eq_getElem?_getD, List.getElem?_eq_getElem hx]; exact List.getElem_mem hx)
  have e : ((im (lt nx k ac.length l) i : Nat) : Int) = nx.getD (i * k + l) 0 := by
    unfold lt
    rw [im_map _ _ _ hi]
    omega
  rw [e]
theorem good_lt (k : Nat) (nx : List Int) (ac : List Bool) (h : Ok k nx ac) (l : Nat) (hl : l < k) : HTable.Good ac.length (lt nx k ac.length l) := by
  obtain ⟨h1, h2, h3, h4, h5, h6⟩ := h
  have hlen : nx.length = ac.length * k := by
    have : ((nx.length : Nat) : Int) = ((ac.length * k : Nat) : Int) := by rw [h5]; simp
    exact Int.ofNat.inj this
  refine ⟨by simp [lt], fun x hx => ?_⟩
  simp only [lt, List.mem_map, List.mem_range] at hx
  obtain ⟨s, hs, rfl⟩ := hx
  have hx := idx_lt (n := ac.length) hs hl
  rw [← hlen] at hx
  have := h6 (nx.getD (s * k + l) 0) (by rw [List.getD_eq_getElem?_getD, List.getElem?_eq_getElem hx]; exact List.getElem_mem hx)
  omega
end Go.Proofs.Ytcnnlddjnmkioaa.HAuto
