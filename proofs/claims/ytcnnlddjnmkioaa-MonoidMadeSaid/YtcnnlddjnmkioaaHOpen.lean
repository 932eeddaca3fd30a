/- Arguments that can be read as data, opened to the print's kinds: slices of structs, of texts, of slices; structs of such. Plain facts over any program. -/
import Derived.Test.YtcnnlddjnmkioaaWWords
import Derived.SizedLaws
import Derived.ChangeArms
import Derived.Deep.Slices
import Derived.Lib.SmallJoins
set_option linter.unusedVariables false
set_option linter.unusedSimpArgs false
namespace Go.Proofs.Ytcnnlddjnmkioaa.HOpen
open Go.RowKit Go.Proofs.YtcnnlddjnmkioaaW.PrintWords Go.ChangeShapes Go.WideShapes

/-- Whatever is read at type t is some y of kind d, with Q. -/
def Opens {α : Type} (P : Program) (t : TypeId) (d : Kd α) (Q : α → Prop) : Prop :=
  ∀ {H : Type} {enc : TypeId × Value → H} {w : World} {base : Nat} {spare : Nat → Bool} {held : Bool} {fuel : Nat} {cs : List Value} {x : DataW H × List MemPlace},
    DataW.trod enc P w base spare held fuel t cs = some x → (∀ n ∈ x.1.weights P t, n ≤ reachBytes) → ∃ y : α, d.K w y cs ∧ Q y

theorem opens_int {P : Program} {t : TypeId} {k : IntKind} (ht : P.underlying t = some (.int k)) : Opens P t (Kd.int k) (fun y => (Lit.int k y).wf = true) := by
  intro H enc w base spare held fuel cs x h _
  obtain ⟨n, rfl, _, hw⟩ := DataW.trod_int ht h
  exact ⟨n, rfl, hw⟩
theorem opens_bool {P : Program} {t : TypeId} (ht : P.underlying t = some .bool) : Opens P t Kd.bool (fun _ => True) := by
  intro H enc w base spare held fuel cs x h _
  obtain ⟨b, rfl, _⟩ := DataW.trod_bool ht h
  exact ⟨b, rfl, trivial⟩
theorem opens_string {P : Program} {t : TypeId} (ht : P.underlying t = some .string) : Opens P t Kd.string (fun y => y.size ≤ reachBytes) := by
  intro H enc w base spare held fuel cs x h hz
  obtain ⟨s, rfl, rfl, _⟩ := DataW.trod_string ht h
  refine ⟨s, rfl, ?_⟩
  have := hz s.data.toList.length (by simp [DataW.weights])
  simpa using this
theorem weightsAll_mem {H : Type} {P : Program} {e : TypeId} : ∀ {ds : List (DataW H)} {d : DataW H}, d ∈ ds → ∀ n ∈ d.weights P e, n ∈ DataW.weightsAll P e ds
  | d0 :: ds, d, hd, n, hn => by
    simp only [DataW.weightsAll, List.mem_append]
    rcases List.mem_cons.1 hd with rfl | hd
    · exact .inl hn
    · exact .inr (weightsAll_mem hd n hn)
  | [], _, hd, _, _ => by simp at hd
theorem pick {α : Type} {p : Nat → α → Prop} : ∀ n : Nat, (∀ i, i < n → ∃ y, p i y) → ∃ l : List α, l.length = n ∧ ∀ i y, l[i]? = some y → p i y
  | 0, _ => ⟨[], rfl, by simp⟩
  | n + 1, h => by
    obtain ⟨l, h1, h2⟩ := pick n (fun i hi => h i (by omega))
    obtain ⟨y, hy⟩ := h n (by omega)
    refine ⟨l ++ [y], by simp [h1], fun i z hz => ?_⟩
    by_cases hi : i < l.length
    · rw [List.getElem?_append_left hi] at hz
      exact h2 i z hz
    · rw [List.getElem?_append_right (by omega)] at hz
      by_cases e : i = l.length
      · subst e
        simp at hz
        subst hz
        rw [h1]
        exact hy
      · have : 1 ≤ i - l.length := by omega
        rw [List.getElem?_eq_none (by simp; omega)] at hz
        cases hz
theorem opens_slice {α : Type} {P : Program} {t e : TypeId} {d : Kd α} {Q : α → Prop} (ht : P.underlying t = some (.slice e)) (hc : P.cellsOf e = d.sz) (he : Opens P e d Q) {B : Nat} (hB : P.bytesOf e = B) :
    Opens P t (Kd.slice e d) (fun l => (∀ y ∈ l, Q y) ∧ l.length * B ≤ reachBytes) := by
  intro H enc w base spare held fuel cs x h hz
  rcases Deep.open_slice ht h with ⟨rfl, rfl⟩ | ⟨a, len, cap, m, n, D, Pl, rfl, hb, hl, hm, hmm, rfl, hx⟩
  · exact ⟨[], ⟨none, 0, rfl, by simp, by refine ⟨rfl, by simp, fun h => by simp at h⟩⟩, by simp, by simp⟩
  · have hlm : len ≤ m := by rw [hmm]; split <;> omega
    obtain ⟨l, h1, h2⟩ := pick (α := α) (p := fun i y => ∃ c, d.K w y c ∧ Q y ∧ w.cells? base (a.add (i * P.cellsOf e)) (P.cellsOf e) = some c) len (fun i hi => by
      obtain ⟨c, hc1, hc2⟩ := hx i (by omega)
      obtain ⟨y, hy1, hy2⟩ := he hc2 (fun n hn => hz n (by
        simp only [DataW.weights, ht, List.mem_cons, List.mem_append]
        exact .inr (.inl (weightsAll_mem (List.mem_map.2 ⟨i, List.mem_range.2 hi, rfl⟩) n hn))))
      exact ⟨y, c, hy1, hy2, hc1⟩)
    refine ⟨l, ⟨some a, cap, by rw [h1], by omega, ?_⟩, ?_, ?_⟩
    · refine ⟨rfl, by unfold maxLen at hm; omega, fun _ => ⟨a, rfl, fun j p hj => ?_⟩⟩
      obtain ⟨c, hk, _, hcc⟩ := h2 j p hj
      refine ⟨c, d.K_len hk, hk, fun i u hu => ?_⟩
      obtain ⟨_, hlen, hcell⟩ := World.cells?_some hcc
      have hi : i < P.cellsOf e := by
        rw [← hlen]
        exact (List.getElem?_eq_some_iff.1 hu).1
      have := hcell i hi
      rw [add_add, hc] at this
      rw [this, ← hu]
    · intro y hy
      obtain ⟨i, hi, rfl⟩ := List.mem_iff_getElem.1 hy
      obtain ⟨c, _, hq, _⟩ := h2 i _ (List.getElem?_eq_getElem hi)
      exact hq
    · have z := hz ((((List.range len).map D).length + ((List.range (m - len)).map fun j => D (len + j)).length) * P.bytesOf e) (by simp [DataW.weights, ht])
      rw [hB] at z
      simp at z
      rw [h1]
      exact Nat.le_trans (Nat.mul_le_mul_right _ (by omega)) z
theorem opens_iso {α β : Type} {P : Program} {t : TypeId} {d : Kd α} {Q : α → Prop} {Q' : β → Prop} (f : β → α) (g : α → β) (hfg : ∀ a, f (g a) = a) (hq : ∀ a, Q a → Q' (g a)) (h : Opens P t d Q) : Opens P t (Kd.iso d f) Q' := by
  intro H enc w base spare held fuel cs x hx hz
  obtain ⟨y, h1, h2⟩ := h hx hz
  exact ⟨g y, by show d.K w (f (g y)) cs; rw [hfg]; exact h1, hq y h2⟩
theorem each_mem {H : Type} {P : Program} {ts : List TypeId} {ds : List (DataW H)} {j : Nat} {t : TypeId} {d : DataW H} (ht : ts[j]? = some t) (hd : ds[j]? = some d) : ∀ n ∈ d.weights P t, n ∈ DataW.weightsEach P ts ds := DataW.weights_mem_each ht hd
theorem opens_struct2 {α β : Type} {P : Program} {t : TypeId} {f0 f1 : Field} {d0 : Kd α} {d1 : Kd β} {Q0 : α → Prop} {Q1 : β → Prop} (ht : P.underlying t = some (.struct #[f0, f1]))
    (o0 : f0.offset = 0) (o1 : f1.offset = d0.sz) (c0 : P.cellsOf f0.type = d0.sz) (c1 : P.cellsOf f1.type = d1.sz) (hC : P.cellsOf t = d0.sz + d1.sz)
    (h0 : Opens P f0.type d0 Q0) (h1 : Opens P f1.type d1 Q1) : Opens P t (Kd.pair d0 d1) (fun y => Q0 y.1 ∧ Q1 y.2) := by
  intro H enc w base spare held fuel cs x hx hz
  obtain ⟨y0, y1, n, rfl, hl, g0, g1⟩ := trod_struct2 ht hx
  have wz : ∀ (j : Nat) (u : TypeId) (z : DataW H), [f0.type, f1.type][j]? = some u → [y0.1, y1.1][j]? = some z → ∀ n ∈ z.weights P u, n ≤ reachBytes := fun j u z hu hzz n hn => hz n (by
    simp only [DataW.weights, ht]
    exact each_mem hu hzz n hn)
  obtain ⟨a, ha1, ha2⟩ := h0 g0 (wz 0 _ _ rfl rfl)
  obtain ⟨b, hb1, hb2⟩ := h1 g1 (wz 1 _ _ rfl rfl)
  refine ⟨(a, b), ⟨_, _, ?_, ha1, hb1⟩, ha2, hb2⟩
  rw [o0, o1, c0, c1, List.drop_zero, List.take_of_length_le (l := cs.drop d0.sz) (by simp; omega)]
  exact (List.take_append_drop d0.sz cs).symm

/-! ### A law's parameters -/
theorem arg_slice {α : Type} {P : Program} {W : World} {r : Reach} {b0 : Nat} {t e : TypeId} {d : Kd α} {Q : List α → Prop} {H : Type} {enc : TypeId × Value → H} {base : Nat} {spare : Nat → Bool} {held : Bool} {v : Value} {x : DataW H} {ps : List MemPlace}
    (ht : P.underlying t = some (.slice e)) (ho : Opens P t (Kd.slice e d) Q) (hv : Value.okWide P W r b0 t v) (h : DataW.Trod enc P W base spare held t v x ps) (hz : ∀ n ∈ x.weights P t, n ≤ reachBytes) :
    ∃ (A : Option Addr) (c : Nat) (l : List α), v = .slice A l.length c ∧ l.length ≤ c ∧ d.C W A l.length l ∧ Q l := by
  obtain ⟨a, len, cap, rfl⟩ := okWide_slice ht hv
  obtain ⟨fuel, hf⟩ := h
  obtain ⟨l, ⟨A, c, hcs, hl, hC⟩, hq⟩ := ho hf hz
  simp [Value.cells] at hcs
  obtain ⟨rfl, rfl, rfl⟩ := hcs
  exact ⟨a, cap, l, rfl, hl, hC, hq⟩
theorem cell_slice {α : Type} {P : Program} {W : World} {t e : TypeId} {d : Kd α} {Q : List α → Prop} {H : Type} {enc : TypeId × Value → H} {base : Nat} {spare : Nat → Bool} {held : Bool} {fuel : Nat} {v : Value} {x : DataW H × List MemPlace}
    (ho : Opens P t (Kd.slice e d) Q) (h : DataW.trod enc P W base spare held fuel t [v] = some x) (hz : ∀ n ∈ x.1.weights P t, n ≤ reachBytes) :
    ∃ (A : Option Addr) (c : Nat) (l : List α), v = .slice A l.length c ∧ l.length ≤ c ∧ d.C W A l.length l ∧ Q l := by
  obtain ⟨l, ⟨A, c, hcs, hl, hC⟩, hq⟩ := ho h hz
  simp at hcs
  exact ⟨A, c, l, hcs, hl, hC, hq⟩
end Go.Proofs.Ytcnnlddjnmkioaa.HOpen
