/- eggboxlaw01.ApartInts: lists that share no memory: it answers true, and touches those lists alone. -/
import Derived.Test.YtjkajepkeepelaaProg
import Derived.Test.YtjkajepkeepelaaWMore
import Derived.ArgAppend
import Derived.Deep.LoopGhost
import Derived.Lib.Hide
import Derived.Outline
set_option linter.unusedVariables false
set_option linter.unusedSimpArgs false
namespace Go.Proofs.Ytjkajepkeepelaa.HApart
open Go.RowKit Go.Proofs.YtjkajepkeepelaaW.PrintWords Go.Proofs.YtjkajepkeepelaaW.PrintLast Go.Proofs.YtjkajepkeepelaaW.PrintMore
open Go.Proofs.Ytjkajepkeepelaa

theorem info3 : (Try.prog.info? 3).map (fun i => (i.zero, i.size, i.bytes)) = some (some (.int .i64 0), 1, 8) := by kernel_rfl
theorem info24 : (Try.prog.info? 24).map (fun i => (i.zero, i.size, i.bytes)) = some (some (.slice none 0 0), 1, 24) := by kernel_rfl

/-- The lists that came in: how many, where each begins, its length, its capacity; where the list of them lies. -/
structure Ls where
  n : Nat
  A : Nat → Option Addr
  len : Nat → Nat
  c : Nat → Nat
  bl : Nat
  base : Nat
def Ls.v (p : Ls) (j : Nat) : Value := .slice (p.A j) (p.len j) (p.c j)
def one (p : Ls) (j : Nat) : List Int := List.replicate (p.len j) (1000 + (j : Int))
def fin (p : Ls) (j : Nat) : List Int := one p j ++ List.replicate 40 (2000 + (j : Int))
def Row (p : Ls) (w : World) (v : Value) (xs : List Int) : Prop := w.ownsRow p.base 3 1 v xs.length (nums .i64 xs)
def Cls (ow : Nat → Nat) (v : Value) (i : Nat) : Prop := ∀ b, v.ownBlock = some b → ow b = i

theorem Row.keep {p : Ls} {w w' : World} {v : Value} {xs : List Int} (h : Row p w v xs) (hk : ∀ b, v.ownBlock = some b → w'.heap[b]? = w.heap[b]?) : Row p w' v xs := own_move h hk
theorem Row.lt {p : Ls} {w : World} {v : Value} {xs : List Int} (h : Row p w v xs) : ∀ b, v.ownBlock = some b → p.base ≤ b ∧ b < w.heap.size := World.ownsRow.lt h
theorem reads_keep {w w' : World} {A : Option Addr} {n : Nat} {xs : List Int} (h : ReadsInt w .i64 A n xs) (hk : ∀ ad, A = some ad → w'.heap[ad.block]? = w.heap[ad.block]?) (hp : ∀ ad, A = some ad → ad.spot = none) : ReadsInt w' .i64 A n xs :=
  ⟨h.1, h.2.1, fun hn => by
    obtain ⟨ad, e, hc⟩ := h.2.2 hn
    refine ⟨ad, e, fun j hj => ?_⟩
    have hb : (ad.add j).block = ad.block := by unfold Addr.add; split <;> rfl
    rw [World.cell?_of_block (w := w) (by rw [hb]; exact hk ad e)]
    exact hc j hj⟩
theorem Row.form {p : Ls} {w : World} {A : Option Addr} {n c : Nat} {xs : List Int} (h : Row p w (.slice A n c) xs) : xs.length = n ∧ (A = none ∧ n = 0 ∧ c = 0 ∨ ∃ b, A = some ⟨b, 0, none⟩ ∧ n ≤ c) := by
  have hl := h.1
  rcases h.2 with ⟨e, h0⟩ | ⟨g, cap, cur, e, _, _, hnc, _⟩
  · injection e with e1 e2 e3
    exact ⟨by omega, .inl ⟨e1, e2, e3⟩⟩
  · injection e with e1 e2 e3
    exact ⟨e2.symm, .inr ⟨g, e1, by omega⟩⟩

/-- The first stage: what lists hold. -/
structure St1 (p : Ls) (w0 w : World) (ow : Nat → Nat) (X : Nat → List Int) : Prop where
  below : Below p.base w0 w
  tab : ∀ j, j < p.n → w.cell? ⟨p.bl, j, none⟩ = some (p.v j)
  bl : ow p.bl = p.n
  row : ∀ j, j < p.n → Row p w (p.v j) (X j)
  cls : ∀ j, j < p.n → Cls ow (p.v j) j

theorem lt_of_cell {W : World} {b o : Nat} {v : Value} (h : W.cell? ⟨b, o, none⟩ = some v) : b < W.heap.size := World.block_lt_of_cell? W ⟨b, o, none⟩ h

theorem St1.at {p : Ls} {w0 w : World} {ow : Nat → Nat} {X : Nat → List Int} (h : St1 p w0 w ow X) {i k : Nat} (hi : i < p.n) (hk : k < p.len i) (v : Int) :
    ∃ b, p.A i = some ⟨b, 0, none⟩ ∧ w.cell? ⟨b, k, none⟩ = some (.int .i64 (rd (X i) (k : Int))) ∧ w.frozen? ⟨b, k, none⟩ = false ∧ ow b = i ∧
      St1 p w0 (w.setCell ⟨b, k, none⟩ (.int .i64 v)) ow (fun j => if j = i then (X i).set k v else X j) := by
  have hr := h.row i hi
  unfold Ls.v at hr
  obtain ⟨hl, hf⟩ := hr.form
  rcases hf with ⟨_, h0, _⟩ | ⟨b, hb, hc⟩
  · omega
  have hcl := h.cls i hi b (by unfold Ls.v; rw [hb]; rfl)
  have hlt := hr.lt b (by rw [hb]; rfl)
  rw [hb] at hr
  have hr' : w.ownsRow p.base 3 1 (.slice (some ⟨b, 0, none⟩) (p.len i) (p.c i)) (p.len i) (nums .i64 (X i)) := by have := hr; unfold Row at this; rwa [hl] at this
  have hcell := hr'.cellAt k (by omega)
  have hfr := hr'.frozenAt k
  refine ⟨b, hb, ?_, hfr, hcl, ?_⟩
  · rw [hcell]
    simp [nums, rd, List.getD_eq_getElem?_getD, List.getElem?_eq_getElem (show k < (X i).length by omega)]
  · have hst := (hr'.stored k (.int .i64 v)).1
    refine ⟨h.below.setCell hlt.1 _, fun j hj => ?_, h.bl, fun j hj => ?_, h.cls⟩
    · have hne : b ≠ p.bl := fun e => by rw [e, h.bl] at hcl; omega
      rw [World.cell?_of_block (w := w) (Below.heap_setCell _ _ _ _ (fun e => hne e.symm))]
      exact h.tab j hj
    · by_cases e : j = i
      · subst e
        rw [if_pos rfl]
        show World.ownsRow _ _ _ _ _ _ _
        rw [List.length_set, hl]
        unfold Ls.v
        rw [hb]
        have e2 : nums .i64 ((X j).set k v) = (nums .i64 (X j)).set k (.int .i64 v) := by simp [nums, List.map_set]
        rw [e2]
        exact hst
      · rw [if_neg e]
        refine (h.row j hj).keep (fun b' hb' => Below.heap_setCell _ _ _ _ (fun e' => ?_))
        have := h.cls j hj b' hb'
        have e3 : b' = b := e'
        rw [e3, hcl] at this
        exact e this.symm

/-- The second stage, list i being grown. -/
structure St2 (p : Ls) (w0 w : World) (ow : Nat → Nat) (i : Nat) (G : Nat → Value) (vg g : Value) (Y : List Int) : Prop where
  below : Below p.base w0 w
  tab : ∀ j, j < p.n → w.cell? ⟨p.bl, j, none⟩ = some (p.v j)
  lt : ∀ j, j < p.n → ∀ ad, p.A j = some ad → ad.block < w.heap.size
  blt : p.bl < w.heap.size
  bl : ow p.bl = p.n
  grown : w.ownsRow p.base 24 1 vg i ((List.range i).map G)
  gcl : Cls ow vg (p.n + 1)
  rd : ∀ j, j < p.n → ReadsInt w .i64 (p.A j) (p.len j) (one p j)
  cls : ∀ j, j < p.n → Cls ow (p.v j) j
  addr : ∀ j, j < p.n → ∀ ad, p.A j = some ad → ∃ b, ad = ⟨b, 0, none⟩
  pend : ∀ j, j < p.n → i < j → Row p w (p.v j) (one p j)
  done : ∀ j, j < i → Row p w (G j) (fin p j)
  dcl : ∀ j, j < i → Cls ow (G j) j
  cur : Row p w g Y
  ccl : Cls ow g i
  long : p.len i ≤ Y.length

/-- Whatever turns no block of a class but i's (and new blocks) leaves the rest. -/
theorem St2.move {p : Ls} {w0 w w' : World} {ow ow' : Nat → Nat} {i : Nat} {G : Nat → Value} {vg g g' : Value} {Y Y' : List Int} (h : St2 p w0 w ow i G vg g Y) (hi : i < p.n)
    (hs : w.heap.size ≤ w'.heap.size) (hk : ∀ b, b < w.heap.size → ow b ≠ i → w'.heap[b]? = w.heap[b]?) (ho : ∀ b, b < w.heap.size → ow' b = ow b) (hb : Below p.base w0 w')
    (hr : ReadsInt w' .i64 (p.A i) (p.len i) (one p i)) (hc : Row p w' g' Y') (hcl : Cls ow' g' i) (hl : p.len i ≤ Y'.length) : St2 p w0 w' ow' i G vg g' Y' := by
  have kp : ∀ {v : Value} {xs : List Int} {j : Nat}, Row p w v xs → Cls ow v j → j ≠ i → Row p w' v xs := fun hv hv2 hne => hv.keep (fun b e => hk b (hv.lt b e).2 (fun e' => hne (by rw [← hv2 b e, e'])))
  have kc : ∀ {v : Value} {xs : List Int} {j : Nat}, Row p w v xs → Cls ow v j → Cls ow' v j := fun hv hv2 b e => by rw [ho b (hv.lt b e).2]; exact hv2 b e
  refine ⟨hb, fun j hj => ?_, fun j hj ad e => Nat.lt_of_lt_of_le (h.lt j hj ad e) hs, Nat.lt_of_lt_of_le h.blt hs, by rw [ho _ h.blt]; exact h.bl, ?_, ?_, fun j hj => ?_, fun j hj => ?_, h.addr, fun j hj hij => kp (h.pend j hj hij) (h.cls j hj) (by omega), fun j hj => kp (h.done j hj) (h.dcl j hj) (by omega), fun j hj => kc (h.done j hj) (h.dcl j hj), hc, hcl, hl⟩
  · rw [World.cell?_of_block (w := w) (hk _ h.blt (by rw [h.bl]; omega))]
    exact h.tab j hj
  · exact own_move h.grown (fun b e => hk b (World.ownsRow.lt h.grown b e).2 (by rw [h.gcl b e]; omega))
  · exact fun b e => by rw [ho b (World.ownsRow.lt h.grown b e).2]; exact h.gcl b e
  · by_cases e : j = i
    · subst e; exact hr
    · refine reads_keep (h.rd j hj) (fun ad ea => hk _ (h.lt j hj ad ea) ?_) (fun ad ea => by obtain ⟨b, rfl⟩ := h.addr j hj ad ea; rfl)
      rw [h.cls j hj ad.block (by unfold Ls.v; rw [ea]; rfl)]
      exact e
  · intro b e
    have hA : ∃ ad, p.A j = some ad ∧ ad.block = b := by
      unfold Ls.v at e
      cases hA : p.A j with
      | none => rw [hA] at e; simp [Value.ownBlock] at e
      | some ad => rw [hA] at e; exact ⟨ad, rfl, by simpa [Value.ownBlock] using e⟩
    obtain ⟨ad, ea, rfl⟩ := hA
    rw [ho _ (h.lt j hj ad ea)]
    exact h.cls j hj _ e

theorem own_room {w : World} {base b n cap : Nat} {e : TypeId} {xs : List Value} (h : w.ownsRow base e 1 (.slice (some ⟨b, 0, none⟩) n cap) n xs) (o : Obj) (hr : n + 1 ≤ cap) (u : Value) :
    ((w.alloc o).setCell ⟨b, n, none⟩ u).ownsRow base e 1 (.slice (some ⟨b, 0, none⟩) (n + 1) cap) (n + 1) (xs ++ [u]) := by
  have hlt := (World.ownsRow.lt h b rfl).2
  rcases h.2 with ⟨h', _⟩ | ⟨g', cap', cur, h', hb, hg, hnc, hcm, hcs, htake⟩
  · simp at h'
  · simp only [Value.slice.injEq, Option.some.injEq, Addr.mk.injEq, and_true, true_and] at h'
    obtain ⟨rfl, rfl⟩ := h'
    have hg2 : (w.alloc o).heap[b]? = some (.cells cur e (0, 0)) := (Below.heap_alloc w o b hlt).trans hg
    have hl := h.1
    refine ⟨by simp; omega, .inr ⟨b, cap, cur.setIfInBounds n u, rfl, hb, heap_setCell_same _ b n cur e u hg2, hr, hcm, by simpa using hcs, ?_⟩⟩
    have hlen : cur.toList.length = cap := by simp; omega
    rw [Array.toList_setIfInBounds, Nat.mul_one, List.take_succ_eq_append_getElem (by simp; omega), List.take_set, List.getElem_set_self]
    have e1 : List.set (List.take n cur.toList) n u = List.take n cur.toList := List.set_eq_of_length_le (by simp; omega)
    rw [e1]
    rw [Nat.mul_one] at htake
    rw [htake]

theorem nums_snoc (xs : List Int) (x : Int) : nums .i64 xs ++ [Value.int .i64 x] = nums .i64 (xs ++ [x]) := by simp [nums]

theorem St2.room {p : Ls} {w0 w : World} {ow : Nat → Nat} {i : Nat} {G : Nat → Value} {vg : Value} {b cap : Nat} {Y : List Int} (h : St2 p w0 w ow i G vg (.slice (some ⟨b, 0, none⟩) Y.length cap) Y) (hi : i < p.n) (hr : Y.length + 1 ≤ cap) (o : Obj) (x : Int) :
    St2 p w0 ((w.alloc o).setCells b (0 + Y.length * 1) [.int .i64 x]) ow i G vg (.slice (some ⟨b, 0, none⟩) (Y.length + 1) cap) (Y ++ [x]) := by
  have e0 : 0 + Y.length * 1 = Y.length := by omega
  rw [e0]
  show St2 p w0 ((w.alloc o).setCell ⟨b, Y.length, none⟩ (.int .i64 x)) _ _ _ _ _ _
  have hcur := h.cur
  have hlt := hcur.lt b rfl
  have hcb := h.ccl b rfl
  have hkeep : ∀ k, k < w.heap.size → k ≠ b → ((w.alloc o).setCell ⟨b, Y.length, none⟩ (.int .i64 x)).heap[k]? = w.heap[k]? := fun k hk hne =>
    (Below.heap_setCell _ _ _ _ hne).trans (Below.heap_alloc w o k hk)
  refine h.move hi (by simp [World.setCell]) (fun k hk hne => hkeep k hk (fun e => hne (by rw [e]; exact hcb))) (fun _ _ => rfl) ((h.below.alloc (by omega) o).setCell hlt.1 _) ?_ ?_ h.ccl (by have := h.long; simp; omega)
  · -- list i reads as before
    have hrd := h.rd i hi
    refine ⟨hrd.1, hrd.2.1, fun hn => ?_⟩
    obtain ⟨ad, e, hc⟩ := hrd.2.2 hn
    obtain ⟨b', rfl⟩ := h.addr i hi ad e
    refine ⟨_, e, fun j hj => ?_⟩
    have hb' := h.lt i hi _ e
    rw [← hc j hj, add_plain]
    by_cases e2 : b' = b
    · subst e2
      have hlong := h.long
      rw [World.cell?_setCell_other _ _ _ _ (fun q => by have := congrArg Addr.off q; simp at this; omega)]
      exact World.cell?_of_block (w := w) (a := ⟨b', j, none⟩) (Below.heap_alloc w o b' hb')
    · exact World.cell?_of_block (w := w) (a := ⟨b', j, none⟩) (hkeep b' hb' e2)
  · have := own_room hcur o hr (.int .i64 x)
    rw [nums_snoc] at this
    show World.ownsRow _ _ _ _ _ _ _
    rw [List.length_append]
    exact this

theorem St2.olds {p : Ls} {w0 w : World} {ow : Nat → Nat} {i : Nat} {G : Nat → Value} {vg : Value} {b m cap : Nat} {Y : List Int} (h : St2 p w0 w ow i G vg (.slice (some ⟨b, 0, none⟩) m cap) Y) (hm : Y.length = m) {o : Obj} :
    ∀ (j : Nat) u, (nums .i64 Y)[j]? = some u → (w.alloc o).cell? ⟨b, 0 + j, none⟩ = some u := by
  intro j u hj
  subst hm
  have hlt := h.cur.lt b rfl
  have hjl : j < Y.length := by
    have := (List.getElem?_eq_some_iff.1 hj).1
    rwa [nums_length] at this
  rw [Nat.zero_add, World.cell?_of_block (w := w) (a := ⟨b, j, none⟩) (Below.heap_alloc w o b hlt.2), World.ownsRow.cellAt h.cur j (by omega)]
  exact hj
theorem St2.spare {p : Ls} {w0 w : World} {ow : Nat → Nat} {i : Nat} {G : Nat → Value} {vg : Value} {b m cap : Nat} {Y : List Int} (h : St2 p w0 w ow i G vg (.slice (some ⟨b, 0, none⟩) m cap) Y) (hm : Y.length = m) {o : Obj} {x : Value} (hr : m + 1 ≤ cap) :
    ∀ j, j < [x].length → ((w.alloc o).cell? ⟨b, 0 + m * 1 + j, none⟩).isSome = true ∧ (w.alloc o).frozen? ⟨b, 0 + m * 1 + j, none⟩ = false := by
  intro j hj
  subst hm
  simp only [List.length_singleton] at hj
  have e : 0 + Y.length * 1 + j = Y.length := by omega
  rw [e]
  have hlt := h.cur.lt b rfl
  have hal := Below.heap_alloc w o b hlt.2
  rcases h.cur.2 with ⟨h', _⟩ | ⟨g', cap', cur, h', hb, hg, hnc, hcm, hcs, htake⟩
  · simp at h'
  · simp only [Value.slice.injEq, Option.some.injEq, Addr.mk.injEq, and_true, true_and] at h'
    obtain ⟨rfl, rfl⟩ := h'
    rw [World.cell?_of_block (w := w) (a := ⟨b, Y.length, none⟩) hal, World.frozen?_of_block (w := w) (a := ⟨b, Y.length, none⟩) hal]
    constructor
    · simp only [World.cell?, hg]
      rw [Array.getElem?_eq_getElem (by omega)]
      rfl
    · exact World.ownsRow.frozenAt h.cur Y.length

theorem St2.grow {p : Ls} {w0 w w' : World} {ow : Nat → Nat} {i : Nat} {G : Nat → Value} {vg g g' : Value} {Y : List Int} {o : Obj} (h : St2 p w0 w ow i G vg g Y) (hi : i < p.n) (x : Int) (hbase : p.base ≤ w.heap.size)
    (hown : w'.ownsRow (w.alloc o).heap.size 3 1 g' (Y.length + 1) (nums .i64 Y ++ [.int .i64 x])) (hg : (w.alloc o).grownBy w' none) :
    ∃ ow', St2 p w0 w' ow' i G vg g' (Y ++ [x]) := by
  have hsz : (w.alloc o).heap.size = w.heap.size + 1 := by simp
  have hkeep : ∀ k, k < w.heap.size → w'.heap[k]? = w.heap[k]? := fun k hk => (hg.block k (by omega) (by simp)).trans (Below.heap_alloc w o k hk)
  refine ⟨fun k => if k < w.heap.size then ow k else i, h.move hi (by have := hg.size; omega) (fun k hk _ => hkeep k hk) (fun k hk => if_pos hk) ((h.below.alloc hbase o).grown hg (by omega) (fun k e => by cases e)) ?_ ?_ (fun b e => ?_) (by have := h.long; simp; omega)⟩
  · exact reads_keep (h.rd i hi) (fun ad e => hkeep _ (h.lt i hi ad e)) (fun ad e => by obtain ⟨b, rfl⟩ := h.addr i hi ad e; rfl)
  · rw [nums_snoc] at hown
    show World.ownsRow _ _ _ _ _ _ _
    rw [List.length_append]
    exact own_weaken hown (by omega)
  · have := (World.ownsRow.lt hown b e).1
    exact if_neg (by omega)

/-- The grown list goes to the others; the next one is begun. -/
theorem St2.next {p : Ls} {w0 w w' : World} {ow : Nat → Nat} {i : Nat} {G : Nat → Value} {vg g vg' : Value} {o : Obj} (h : St2 p w0 w ow i G vg g (fin p i)) (hi : i < p.n) (hbase : p.base ≤ w.heap.size)
    (hown : w'.ownsRow p.base 24 1 vg' (i + 1) ((List.range i).map G ++ [g])) (hg : w.grownBy w' vg.ownBlock) (hat : vg'.ownBlock = vg.ownBlock ∨ ∃ b, vg'.ownBlock = some b ∧ w.heap.size ≤ b) (hb : Below p.base w0 w') :
    ∃ ow' G', (∀ j, j < p.n → w'.cell? ⟨p.bl, j, none⟩ = some (p.v j)) ∧ (i + 1 < p.n → St2 p w0 w' ow' (i + 1) G' vg' (p.v (i + 1)) (one p (i + 1))) ∧ (w'.ownsRow p.base 24 1 vg' (i + 1) ((List.range (i + 1)).map G')) ∧
      (∀ j, j < p.n → ReadsInt w' .i64 (p.A j) (p.len j) (one p j)) ∧ (∀ j, j < i + 1 → Row p w' (G' j) (fin p j)) := by
  have hkeep : ∀ k, k < w.heap.size → ow k ≠ p.n + 1 → w'.heap[k]? = w.heap[k]? := fun k hk hne => hg.block k hk (fun e => hne (h.gcl k e.symm))
  let ow' : Nat → Nat := fun k => if k < w.heap.size then ow k else p.n + 1
  let G' : Nat → Value := fun j => if j = i then g else G j
  have ho : ∀ b, b < w.heap.size → ow' b = ow b := fun b hb => if_pos hb
  have kp : ∀ {v : Value} {xs : List Int} {j : Nat}, Row p w v xs → Cls ow v j → j < p.n → Row p w' v xs := fun hv hv2 hne => hv.keep (fun b e => hkeep b (hv.lt b e).2 (by rw [hv2 b e]; omega))
  have kc : ∀ {v : Value} {xs : List Int} {j : Nat}, Row p w v xs → Cls ow v j → Cls ow' v j := fun hv hv2 b e => by rw [ho b (hv.lt b e).2]; exact hv2 b e
  have hsz := hg.size
  have htab : ∀ j, j < p.n → w'.cell? ⟨p.bl, j, none⟩ = some (p.v j) := fun j hj => by
    rw [World.cell?_of_block (w := w) (hkeep _ h.blt (by rw [h.bl]; omega))]
    exact h.tab j hj
  have hmap : (List.range (i + 1)).map G' = (List.range i).map G ++ [g] := by
    rw [List.range_succ, List.map_append]
    congr 1
    · refine List.map_congr_left (fun j hj => ?_)
      have := List.mem_range.1 hj
      exact if_neg (by omega)
    · simp [G']
  have hrd : ∀ j, j < p.n → ReadsInt w' .i64 (p.A j) (p.len j) (one p j) := fun j hj =>
    reads_keep (h.rd j hj) (fun ad e => hkeep _ (h.lt j hj ad e) (by rw [h.cls j hj ad.block (by unfold Ls.v; rw [e]; rfl)]; omega)) (fun ad e => by obtain ⟨b, rfl⟩ := h.addr j hj ad e; rfl)
  have hdone : ∀ j, j < i + 1 → Row p w' (G' j) (fin p j) := fun j hj => by
    by_cases e : j = i
    · subst e
      show Row p w' (if j = j then g else G j) _
      rw [if_pos rfl]
      exact kp h.cur h.ccl hi
    · show Row p w' (if j = i then g else G j) _
      rw [if_neg e]
      exact kp (h.done j (by omega)) (h.dcl j (by omega)) (by omega)
  have hcls : ∀ j, j < p.n → Cls ow' (p.v j) j := fun j hj b e => by
    have hA : ∃ ad, p.A j = some ad ∧ ad.block = b := by
      unfold Ls.v at e
      cases hA : p.A j with
      | none => rw [hA] at e; simp [Value.ownBlock] at e
      | some ad => rw [hA] at e; exact ⟨ad, rfl, by simpa [Value.ownBlock] using e⟩
    obtain ⟨ad, ea, rfl⟩ := hA
    rw [ho _ (h.lt j hj ad ea)]
    exact h.cls j hj _ e
  refine ⟨ow', G', htab, fun hn => ?_, by rw [hmap]; exact hown, hrd, hdone⟩
  refine ⟨hb, htab, fun j hj ad e => Nat.lt_of_lt_of_le (h.lt j hj ad e) hsz, Nat.lt_of_lt_of_le h.blt hsz, by rw [ho _ h.blt]; exact h.bl, by rw [hmap]; exact hown, fun b e => ?_, hrd, hcls, h.addr, fun j hj hij => kp (h.pend j hj (by omega)) (h.cls j hj) hj, hdone, fun j hj => ?_, kp (h.pend (i + 1) hn (by omega)) (h.cls _ hn) hn, hcls _ hn, by simp [one]⟩
  · rcases hat with hat | ⟨b', hb', hlt⟩
    · rw [hat] at e
      rw [ho b (World.ownsRow.lt h.grown b e).2]
      exact h.gcl b e
    · rw [hb'] at e
      cases e
      exact if_neg (by omega)
  · by_cases e : j = i
    · subst e
      show Cls ow' (if j = j then g else G j) j
      rw [if_pos rfl]
      exact kc h.cur h.ccl
    · show Cls ow' (if j = i then g else G j) j
      rw [if_neg e]
      exact kc (h.done j (by omega)) (h.dcl j (by omega))

theorem wrap_in (x : Int) (h0 : -9223372036854775808 ≤ x) (h1 : x ≤ 9223372036854775807) : wrap64 x = x := by
  unfold wrap64
  omega
/-- List i while it is marked. -/
def mk1 (p : Ls) (X : Nat → List Int) (i k j : Nat) : List Int := if j < i then one p j else if j = i then List.replicate k (1000 + (i : Int)) ++ (X i).drop k else X j

theorem mk1_step {p : Ls} {X : Nat → List Int} {i k : Nat} (hX : (X i).length = p.len i) (hk : k < p.len i) : (fun j => if j = i then (mk1 p X i k i).set k (1000 + (i : Int)) else mk1 p X i k j) = mk1 p X i (k + 1) := by
  funext j
  by_cases e : j = i
  · subst e
    rw [if_pos rfl]
    unfold mk1
    rw [if_neg (by omega), if_pos rfl, if_neg (by omega), if_pos rfl]
    rw [List.set_append_right _ _ (by simp), List.length_replicate, Nat.sub_self, List.drop_eq_getElem_cons (by omega), List.set_cons_zero, List.replicate_succ', List.append_assoc]
    rfl
  · rw [if_neg e]
    unfold mk1
    by_cases e2 : j < i
    · rw [if_pos e2, if_pos e2]
    · rw [if_neg e2, if_neg e2, if_neg e, if_neg e]
theorem mk1_next {p : Ls} {X : Nat → List Int} {i : Nat} (hX : (X i).length = p.len i) : mk1 p X i (p.len i) = mk1 p X (i + 1) 0 := by
  funext j
  unfold mk1
  by_cases e : j = i
  · subst e
    rw [if_neg (by omega), if_pos rfl, if_pos (by omega), ← hX, List.drop_length, List.append_nil]
    unfold one
    rw [hX]
  · by_cases e2 : j < i
    · rw [if_pos e2, if_pos (by omega)]
    · rw [if_neg e2, if_neg e, if_neg (by omega)]
      by_cases e3 : j = i + 1
      · subst e3
        rw [if_pos rfl]
        simp
      · rw [if_neg e3]
theorem St1.len {p : Ls} {w0 w : World} {ow : Nat → Nat} {X : Nat → List Int} (h : St1 p w0 w ow X) {i : Nat} (hi : i < p.n) : (X i).length = p.len i := (Row.form (h.row i hi)).1

/-- What the third stage reads. -/
structure Fin (p : Ls) (w0 w : World) (i : Nat) (G : Nat → Value) (vg : Value) : Prop where
  below : Below p.base w0 w
  tab : ∀ j, j < p.n → w.cell? ⟨p.bl, j, none⟩ = some (p.v j)
  grown : w.ownsRow p.base 24 1 vg i ((List.range i).map G)
  rd : ∀ j, j < p.n → ReadsInt w .i64 (p.A j) (p.len j) (one p j)
  done : ∀ j, j < i → Row p w (G j) (fin p j)

theorem St1.go2 {p : Ls} {w0 w : World} {ow : Nat → Nat} {X : Nat → List Int} (h : St1 p w0 w ow (mk1 p X p.n 0)) (hn : 0 < p.n) :
    St2 p w0 w ow 0 (fun _ => .nilIface) (.slice none 0 0) (p.v 0) (one p 0) ∧ Fin p w0 w 0 (fun _ => .nilIface) (.slice none 0 0) := by
  have hrow : ∀ j, j < p.n → Row p w (p.v j) (one p j) := fun j hj => by
    have := h.row j hj
    unfold mk1 at this
    rwa [if_pos hj] at this
  have hform : ∀ j, j < p.n → (p.A j = none ∧ p.len j = 0 ∧ p.c j = 0 ∨ ∃ b, p.A j = some ⟨b, 0, none⟩ ∧ p.len j ≤ p.c j) := fun j hj => by
    have := hrow j hj
    unfold Ls.v at this
    exact this.form.2
  have hrd : ∀ j, j < p.n → ReadsInt w .i64 (p.A j) (p.len j) (one p j) := fun j hj => by
    obtain ⟨A, c, e, hr⟩ := own_reads (hrow j hj)
    unfold Ls.v at e
    injection e with e1 e2 e3
    rw [← e1, ← e2] at hr
    exact hr
  have hown := World.ownsRow_nil w p.base 24 1
  refine ⟨⟨h.below, h.tab, fun j hj ad e => ?_, lt_of_cell (h.tab 0 hn), h.bl, hown, fun b e => by simp [Value.ownBlock] at e, hrd, h.cls, fun j hj ad e => ?_, fun j hj _ => hrow j hj, fun j hj => by omega, fun j hj => by omega, hrow 0 hn, h.cls 0 hn, by simp [one]⟩, h.below, h.tab, hown, hrd, fun j hj => by omega⟩
  · exact ((hrow j hj).lt ad.block (by unfold Ls.v; rw [e]; rfl)).2
  · rcases hform j hj with ⟨e2, _⟩ | ⟨b, e2, _⟩
    · rw [e2] at e; cases e
    · rw [e2] at e; exact ⟨b, (Option.some.inj e).symm⟩

theorem one_at {p : Ls} {i k : Nat} (h : k < p.len i) : (one p i).getD k 0 = 1000 + (i : Int) := by
  simp [one, List.getD_eq_getElem?_getD, List.getElem?_replicate, h]
theorem fin_lo {p : Ls} {i k : Nat} (h : k < p.len i) : (fin p i).getD k 0 = 1000 + (i : Int) := by
  simp [fin, one, List.getD_eq_getElem?_getD, List.getElem?_append, List.getElem?_replicate, h]
theorem fin_hi {p : Ls} {i k : Nat} (h : p.len i ≤ k) (h2 : k < p.len i + 40) : (fin p i).getD k 0 = 2000 + (i : Int) := by
  have hl : (one p i).length = p.len i := by simp [one]
  unfold fin
  rw [List.getD_eq_getElem?_getD, List.getElem?_append_right (by rw [hl]; exact h), hl, List.getElem?_replicate, if_pos (by omega)]
  rfl
/-- The grown list number i, where the third stage reads it. -/
theorem Fin.at3 {p : Ls} {w0 w : World} {n i bg cg : Nat} {G : Nat → Value} (h : Fin p w0 w n G (.slice (some ⟨bg, 0, none⟩) n cg)) (hi : i < p.n) (hn : i < n) :
    ∃ b c, w.cell? ⟨bg, i, none⟩ = some (.slice (some ⟨b, 0, none⟩) (p.len i + 40) c) ∧ ∀ k, k < p.len i + 40 → w.cell? ⟨b, k, none⟩ = some (.int .i64 ((fin p i).getD k 0)) := by
  have hd := h.done i hn
  have hl : (fin p i).length = p.len i + 40 := by simp [fin, one]
  unfold Row at hd
  rw [hl] at hd
  obtain ⟨b, c, e, _⟩ := World.ownsRow.form hd (by omega)
  refine ⟨b, c, ?_, fun k hk => ?_⟩
  · rw [World.ownsRow.cellAt h.grown i (by omega)]
    simp [hn, e]
  · rw [e] at hd
    rw [World.ownsRow.cellAt hd k (by omega)]
    simp [nums, List.getD_eq_getElem?_getD, List.getElem?_eq_getElem (show k < (fin p i).length by omega)]

set_option maxHeartbeats 2000000 in
set_option maxRecDepth 100000 in
theorem calls (p : Ls) (w0 W : World) (ow : Nat → Nat) (X : Nat → List Int) (cap : Nat) (h : St1 p w0 W ow X) (hn : 0 < p.n) (hnb : p.n ≤ 1000000) (hlb : ∀ j, j < p.n → p.len j ≤ 17592186000000) (hbase : p.base ≤ W.heap.size) :
    Calls Try.prog 23 #[.slice (some ⟨p.bl, 0, none⟩) p.n cap] W fun e w' => e = .returned (.bool true) ∧ Below p.base w0 w' := by
  have H0 : Hid (St1 p w0 W ow (mk1 p X 0 0)) := ⟨h.below, h.tab, h.bl, fun j hj => by
    have := h.row j hj
    unfold mk1
    rw [if_neg (by omega)]
    by_cases e : j = 0
    · subst e
      rw [if_pos rfl]
      simpa using this
    · rw [if_neg e]; exact this, h.cls⟩
  have HLB := Lib.hid hlb
  have HX : Hid (∀ j, j < p.n → (X j).length = p.len j) := fun j hj => h.len hj
  clear h hlb
  obtain ⟨n, hnn⟩ : ∃ n, p.n = n := ⟨_, rfl⟩
  have HN := Lib.hid hnn
  rw [hnn] at hn hnb ⊢
  clear hnn
  go_enter Try.func23, Try.ntmps23
  go_wp2_with fail
  go_loopw [4, 5] (fun vi vk wr => ∃ i : Nat, i ≤ n ∧ vi = .int .i64 i ∧ Hid (St1 p w0 wr ow (mk1 p X i 0)) ∧ W.heap.size = wr.heap.size) (fun vi _ _ => n - (intOf vi).toNat)
  case atStart => exact ⟨0, by omega, rfl, H0.out, rfl⟩
  case round =>
    obtain ⟨i, hi, rfl, HS, hsz⟩ := hrel
    by_cases hlt : i < n
    · have hlbi : p.len i ≤ 17592186000000 := HLB.out i (by rw [HN.out]; exact hlt)
      obtain ⟨w1, rfl⟩ : ∃ wo : World, wo = wr := ⟨_, rfl⟩
      go_wp2_with fail
      go_loopw [5] (fun vk wr => ∃ k : Nat, k ≤ p.len i ∧ vk = .int .i64 k ∧ Hid (St1 p w0 wr ow (mk1 p X i k)) ∧ W.heap.size = wr.heap.size) (fun vk _ => p.len i - (intOf vk).toNat)
      case atStart => exact ⟨0, by omega, rfl, HS.out, hsz⟩
      case round =>
        obtain ⟨k, hk, rfl, HS2, hsz2⟩ := hrel
        have htab := HS2.out.tab i (by rw [HN.out]; exact hlt)
        unfold Ls.v at htab
        by_cases hlk : k < p.len i
        · obtain ⟨b, hA, hc, hf, _, hS3⟩ := HS2.out.at (i := i) (k := k) (by rw [HN.out]; exact hlt) hlk (1000 + (i : Int))
          rw [mk1_step (HX.out i (by rw [HN.out]; exact hlt)) hlk] at hS3
          have HS3 := Lib.hid hS3
          rw [hA] at htab
          clear hA hS3
          go_wp2_with fail
          go_roundw
          case rel => exact ⟨k + 1, by omega, by go_num, HS3.out, by simpa [World.setCell] using hsz2⟩
          case measure => simp [intOf]; omega
        · have HS3 : Hid (St1 p w0 wr ow (mk1 p X (i + 1) 0)) := by
            have := HS2.out
            obtain rfl : k = p.len i := by omega
            rw [mk1_next (HX.out i (by rw [HN.out]; exact hlt))] at this
            exact this
          go_wp2_with fail
          go_roundw
          case rel => exact ⟨i + 1, by omega, by go_num, HS3.out, hsz2⟩
          case measure => simp [intOf]; omega
    · obtain rfl : i = n := by omega
      have HS4 : Hid (St2 p w0 wr ow 0 (fun _ => .nilIface) (.slice none 0 0) (p.v 0) (one p 0) ∧ Fin p w0 wr 0 (fun _ => .nilIface) (.slice none 0 0)) := by
        have := HS.out
        rw [← HN.out] at this
        exact this.go2 (by rw [HN.out]; exact hn)
      obtain ⟨w1, rfl⟩ : ∃ wo : World, wo = wr := ⟨_, rfl⟩
      obtain ⟨n, rfl⟩ : ∃ n, n = i := ⟨_, rfl⟩
      clear HS hlt hi HX
      go_wp2_with fail
      go_loopw [3, 6, 7, 8] (fun vg vi v7 v8 wr => ∃ (i : Nat) (G : Nat → Value) (o2 : Nat → Nat), i ≤ n ∧ vi = .int .i64 i ∧ Hid (i < n → St2 p w0 wr o2 i G vg (p.v i) (one p i)) ∧ Hid (Fin p w0 wr i G vg) ∧ W.heap.size ≤ wr.heap.size) (fun _ vi _ _ _ => n - (intOf vi).toNat)
      case atStart => exact ⟨0, _, ow, by omega, rfl, fun _ => HS4.out.1, HS4.out.2, by omega⟩
      case round =>
        obtain ⟨i, G, o2, hi, rfl, HS, HF, hsz3⟩ := hrel
        by_cases hlt : i < n
        · have hlbi : p.len i ≤ 17592186000000 := HLB.out i (by rw [HN.out]; exact hlt)
          have htab := HF.out.tab i (by rw [HN.out]; exact hlt)
          have HS5 : Hid _ := HS.out hlt
          unfold Ls.v at htab
          obtain ⟨w1, rfl⟩ : ∃ wo : World, wo = wr := ⟨_, rfl⟩
          go_wp2_with fail
          go_loopw [7, 8] (fun vg2 vk wr => ∃ (k : Nat) (o3 : Nat → Nat) (A9 : Option Addr) (c9 : Nat), k ≤ 40 ∧ vk = .int .i64 k ∧ vg2 = .slice A9 (p.len i + k) c9 ∧ Hid (St2 p w0 wr o3 i G u3 vg2 (one p i ++ List.replicate k (2000 + (i : Int)))) ∧ W.heap.size ≤ wr.heap.size) (fun _ vk _ => 40 - (intOf vk).toNat)
          case atStart => exact ⟨0, o2, _, _, by omega, rfl, rfl, by have h := HS5.out; rw [show one p i ++ List.replicate 0 (2000 + (i : Int)) = one p i by simp]; exact h, by omega⟩
          case round =>
            obtain ⟨k, o3, A9, c9, hk, rfl, rfl, HS6, hsz4⟩ := hrel
            by_cases hlk : k < 40
            · have hi0 : i < p.n := by rw [HN.out]; exact hlt
              have HI0 := Lib.hid hi0
              clear hi0
              obtain ⟨Y, hY⟩ : ∃ Y, one p i ++ List.replicate k (2000 + (i : Int)) = Y := ⟨_, rfl⟩
              have hYl : Y.length = p.len i + k := by rw [← hY]; simp [one]
              have HY2 : Hid (Y ++ [2000 + (i : Int)] = one p i ++ List.replicate (k + 1) (2000 + (i : Int))) := by rw [← hY, List.replicate_succ', List.append_assoc]; rfl
              rw [hY] at HS6
              have HYL := Lib.hid hYl
              clear hY hYl
              obtain ⟨i0, hzi, hzz⟩ := Option.map_eq_some_iff.1 info3
              simp only [Prod.mk.injEq] at hzz
              obtain ⟨hz0, hz1, hz2⟩ := hzz
              have HI := Lib.hid (And.intro hzi (And.intro hz0 (And.intro hz1 hz2)))
              clear hzi hz0 hz1 hz2
              obtain ⟨m, hm⟩ : ∃ m, p.len i + k = m := ⟨_, rfl⟩
              rw [hm] at HS6 HYL ⊢
              have hm2 : m ≤ 17592186000040 := by omega
              have HM := Lib.hid hm
              clear hm
              have hcl : ∀ u ∈ [Value.int .i64 (2000 + (i : Int))], u.oneCell' = true := by simp [Value.oneCell']
              rcases (HS6.out.cur.form).2 with ⟨eA, eL, eC⟩ | ⟨b, eA, hcap⟩
              · subst eA
                subst eL
                subst eC
                have hol : nums .i64 Y = [] := by have := HYL.out; rw [List.eq_nil_of_length_eq_zero this]; rfl
                have HOL := Lib.hid hol
                clear hol
                go_wp2_with (first | ((with_reducible refine gate_builtin (b := .append) (xs := #[.tmp 48, .tmp 51]) rfl ?_); at_builtin; refine wpList_append_grows (wr.alloc (.cells #[.int .i64 (2000 + (i : Int))] 3)) rfl (.tmp 48) (.tmp 51) 24 rfl 3 i0 (.int .i64 0) 1 8 Try.underlying24 HI.out.1 HI.out.2.1 HI.out.2.2.1 HI.out.2.2.2 rfl (by decide) none 0 0 (nums .i64 Y) rfl ?hno ?lo ?holds ⟨wr.heap.size, 0, none⟩ 1 1 [.int .i64 (2000 + (i : Int))] rfl rfl ?hc hcl ?hfull ?b1 ?b2 ?grow; (case hno => exact fun _ => ⟨rfl, rfl⟩); (case lo => rw [HOL.out]; rfl); (case holds => exact fun b hb => by cases hb); (case hc => exact cell_one_new _ _ _); (case hfull => omega); (case b1 => simp only [maxLen]; omega); (case b2 => omega); (case' grow => intro v' w' hown hg; obtain ⟨o4, hS⟩ := HS6.out.grow HI0.out (2000 + (i : Int)) (by have := HS6.out.below.size; omega) (by rw [HYL.out]; exact hown) hg; rw [HY2.out] at hS; obtain ⟨A8, c8, rfl⟩ := own_slice hown; have HS7 := Lib.hid hS; have hsz5 : W.heap.size ≤ w'.heap.size := (by have := hg.size; simp at this; omega); clear hS hown hg)))
                go_roundw
                case rel => exact ⟨k + 1, o4, _, _, by omega, by go_num, by have := HM.out; rw [show p.len i + (k + 1) = 0 + 1 by omega], HS7.out, hsz5⟩
                case measure => simp [intOf]; omega
              · subst eA
                go_wp2_with (first | ((with_reducible refine gate_builtin (b := .append) (xs := #[.tmp 48, .tmp 51]) rfl ?_); at_builtin; refine wpList_append_arg (wr.alloc (.cells #[.int .i64 (2000 + (i : Int))] 3)) rfl (.tmp 48) (.tmp 51) 24 rfl 3 i0 (.int .i64 0) 1 8 Try.underlying24 HI.out.1 HI.out.2.1 HI.out.2.2.1 HI.out.2.2.2 rfl (by decide) b 0 m c9 (nums .i64 Y) rfl ?loB ?holdsB ⟨wr.heap.size, 0, none⟩ 1 1 [.int .i64 (2000 + (i : Int))] rfl rfl ?hcB hcl ?spareB ?b1B ?b2B ?roomB ?growB; (case loB => rw [nums_length, HYL.out]; omega); (case holdsB => exact HS6.out.olds (by rw [HYL.out])); (case hcB => exact cell_one_new _ _ _); (case spareB => exact HS6.out.spare (by rw [HYL.out])); (case b1B => simp only [maxLen]; omega); (case b2B => omega); (case' roomB => intro hr; have hS := (show St2 p w0 wr o3 i G u3 (.slice (some ⟨b, 0, none⟩) Y.length c9) Y from (by rw [HYL.out]; exact HS6.out)).room HI0.out (by rw [HYL.out]; exact hr) (.cells #[.int .i64 (2000 + (i : Int))] 3) (2000 + (i : Int)); rw [HYL.out, HY2.out] at hS; obtain ⟨WR, hWR⟩ : ∃ WR : World, World.setCells (wr.alloc (.cells #[.int .i64 (2000 + (i : Int))] 3)) b (0 + m * 1) [.int .i64 (2000 + (i : Int))] = WR := ⟨_, rfl⟩; have hsz5 : W.heap.size ≤ WR.heap.size := (by rw [← hWR]; simp [World.setCells, World.setCell]; omega); rw [hWR] at hS ⊢; have HS7 := Lib.hid hS; obtain ⟨o4, rfl⟩ : ∃ o4, o4 = o3 := ⟨_, rfl⟩; obtain ⟨A8, hA8⟩ : ∃ A8 : Option Addr, some ⟨b, 0, none⟩ = A8 := ⟨_, rfl⟩; rw [hA8] at HS7 ⊢; obtain ⟨c8, rfl⟩ : ∃ c8, c8 = c9 := ⟨_, rfl⟩; clear hWR hS hA8); (case' growB => intro hr v' w' hown hg; obtain ⟨o4, hS⟩ := HS6.out.grow HI0.out (2000 + (i : Int)) (by have := HS6.out.below.size; omega) (by rw [HYL.out]; exact hown) hg; rw [HY2.out] at hS; obtain ⟨A8, c8, rfl⟩ := own_slice hown; have HS7 := Lib.hid hS; have hsz5 : W.heap.size ≤ w'.heap.size := (by have := hg.size; simp at this; omega); clear hS hown hg)))
                all_goals
                  go_roundw
                  case rel => exact ⟨k + 1, o4, _, _, by omega, by go_num, by have := HM.out; rw [show p.len i + (k + 1) = m + 1 by omega], HS7.out, hsz5⟩
                  case measure => simp [intOf]; omega
            · obtain rfl : k = 40 := by omega
              have hi0 : i < p.n := by rw [HN.out]; exact hlt
              have HI0 := Lib.hid hi0
              clear hi0
              go_wp2_with (first | ((with_reducible refine gate_builtin (b := .append) (xs := #[.tmp 53, .tmp 55]) rfl ?_); at_builtin; refine print_append (w0 := w0) p.base rfl (.tmp 53) (.tmp 55) 68 24 (.slice none 0 0) 24 rfl Try.underlying68 info24 rfl (by decide) u3 ((List.range i).map G) (.slice A9 (p.len i + 40) c9) rfl rfl rfl ?HO ?HB ?hb ?hl ?go; (case HO => have := HS6.out.grown; simpa using this); (case HB => exact HS6.out.below); (case hb => have := HS6.out.below.size; omega); (case hl => simp; omega); (case' go => intro v1 w2 hown hbel hg hat; have hS := HS6.out.next HI0.out (by have := HS6.out.below.size; omega) (by simpa using hown) hg hat hbel (o := .cells #[] 0); obtain ⟨o4, G4, q1, q2, q3, q4, q5⟩ := hS; obtain ⟨A8, c8, rfl⟩ := own_slice hown; have HS7 := Lib.hid q2; have HS8 : Hid (Fin p w0 w2 (i + 1) G4 _) := ⟨hbel, q1, q3, q4, q5⟩; have hsz5 : W.heap.size ≤ w2.heap.size := (by have := hg.size; omega); clear hown hbel hg hat q1 q2 q3 q4 q5)))
              go_roundw
              case rel => exact ⟨i + 1, G4, o4, by omega, by go_num, (by have h7 := HS7.out; rw [HN.out] at h7; simp at h7; exact h7), (by have h8 := HS8.out; simp at h8; exact h8), hsz5⟩
              case measure => simp [intOf]; omega
        · obtain rfl : i = n := by omega
          obtain ⟨bg, cg, hvg⟩ : ∃ bg cg, u3 = .slice (some ⟨bg, 0, none⟩) i cg := by
            obtain ⟨g, cap, e, _⟩ := World.ownsRow.form HF.out.grown hn
            exact ⟨g, cap, e⟩
          subst hvg
          obtain ⟨n, rfl⟩ : ∃ n, n = i := ⟨_, rfl⟩
          obtain ⟨w1, rfl⟩ : ∃ wo : World, wo = wr := ⟨_, rfl⟩
          clear HS hlt hi HS4
          go_wp2_with fail
          go_loop [9, 10] (fun vi vk => ∃ i : Nat, i ≤ n ∧ vi = .int .i64 i) (fun vi _ => n - (intOf vi).toNat)
          case atStart => exact ⟨0, by omega, rfl⟩
          case round =>
            obtain ⟨i, hi, rfl⟩ := hrel
            by_cases hlt : i < n
            · have hlbi : p.len i ≤ 17592186000000 := HLB.out i (by rw [HN.out]; exact hlt)
              obtain ⟨b, c9, hG, hcell⟩ := HF.out.at3 (by rw [HN.out]; exact hlt) hlt
              have HC := Lib.hid hcell
              clear hcell
              go_wp2_with fail
              go_loop [10] (fun vk => ∃ k : Nat, k ≤ p.len i + 40 ∧ vk = .int .i64 k) (fun vk => p.len i + 40 - (intOf vk).toNat)
              case atStart => exact ⟨0, by omega, rfl⟩
              case round =>
                obtain ⟨k, hk, rfl⟩ := hrel
                have htab := HF.out.tab i (by rw [HN.out]; exact hlt)
                unfold Ls.v at htab
                by_cases hlk : k < p.len i
                · obtain ⟨ad, hA, hl1⟩ := (HF.out.rd i (by rw [HN.out]; exact hlt)).2.2 (by omega)
                  have hl2 := hl1 k hlk
                  have hg2 := HC.out k (by omega)
                  rw [fin_lo hlk] at hg2
                  rw [one_at hlk] at hl2
                  rw [hA] at htab
                  clear hA hl1
                  go_wp2_with fail
                  go_round
                  case rel => exact ⟨k + 1, by omega, by go_num⟩
                  case measure => simp [intOf]; omega
                · by_cases hlk2 : k < p.len i + 40
                  · have hg2 := HC.out k (by omega)
                    rw [fin_hi (by omega) hlk2] at hg2
                    go_wp2_with fail
                    go_round
                    case rel => exact ⟨k + 1, by omega, by go_num⟩
                    case measure => simp [intOf]; omega
                  · go_wp2_with fail
                    go_round
                    case rel => exact ⟨i + 1, by omega, by go_num⟩
                    case measure => simp [intOf]; omega
            · obtain rfl : i = n := by omega
              go_wp2_with fail
              go_ret
              exact ⟨rfl, HF.out.below⟩
end Go.Proofs.Ytjkajepkeepelaa.HApart
