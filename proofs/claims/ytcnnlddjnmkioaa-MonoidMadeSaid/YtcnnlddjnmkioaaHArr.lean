/- trans.images in memory: whole rows of 64 are read and stored; trans.same, trans.behind: contracts. -/
import Derived.Test.YtcnnlddjnmkioaaHReads
import Derived.Deep.WholeRow
import Derived.Laws.CopyOwn
set_option linter.unusedVariables false
set_option linter.unusedSimpArgs false
namespace Go.Proofs.Ytcnnlddjnmkioaa.HArr
open Go Go.RowKit Go.Proofs.YtcnnlddjnmkioaaW.PrintWords Go.Proofs.YtcnnlddjnmkioaaW.PrintLast Go.Proofs.YtcnnlddjnmkioaaW.PrintMore

/-- 64 images in memory. -/
def arr (f : Nat → Int) : Array Value := ((List.range 64).map (fun i => Value.int .i64 (f i))).toArray
theorem arr_size (f : Nat → Int) : (arr f).size = 64 := by simp [arr]
theorem arr_get (f : Nat → Int) (i : Nat) (h : i < 64) : (arr f)[i]? = some (.int .i64 (f i)) := by
  unfold arr
  rw [List.getElem?_toArray, List.getElem?_map, List.getElem?_range h]
  rfl
theorem arr_congr (f g : Nat → Int) (h : ∀ i, i < 64 → f i = g i) : arr f = arr g := by
  unfold arr
  congr 1
  exact List.map_congr_left (fun i hi => by rw [h i (List.mem_range.1 hi)])
theorem arr_set (f : Nat → Int) (i : Nat) (v : Int) (h : i < 64) : (arr f).setIfInBounds i (.int .i64 v) = arr (fun k => if k = i then v else f k) := by
  apply Array.ext_getElem?
  intro k
  rw [Array.getElem?_setIfInBounds, arr_size]
  by_cases e : i = k
  · subst e
    rw [if_pos rfl, if_pos h, arr_get _ i h, if_pos rfl]
  · rw [if_neg e]
    by_cases hk : k < 64
    · rw [arr_get _ k hk, arr_get _ k hk, if_neg (fun q => e q.symm)]
    · rw [Array.getElem?_eq_none (by rw [arr_size]; omega), Array.getElem?_eq_none (by rw [arr_size]; omega)]
theorem arr_one (f : Nat → Int) : (arr f).all (·.oneCell') = true := by
  rw [Array.all_eq_true_iff_forall_mem]
  intro v hv
  simp [arr] at hv
  obtain ⟨i, _, rfl⟩ := hv
  rfl
theorem info64 : (Try.prog.info? 103).map (·.size) = some 64 := by kernel_rfl
theorem load64 {W : World} {b : Nat} {f : Nat → Int} (h : W.heap[b]? = some (.cells (arr f) 103 (0, 0))) : (Instr.loadAt 103 (.pointer (some ⟨b, 0, none⟩))).run Try.prog W = .ok (.agg (arr f)) W := by
  simp only [Instr.loadAt, Instr.sureAddr, Sem.run_bind, Sem.run_pure, Result.andThen]
  exact run_loadVar_row _ _ _ _ _ _ _ h Try.underlying103 rfl (by rw [arr_size]; exact info64)
theorem store64 {W : World} {b : Nat} {f g : Nat → Int} (h : W.heap[b]? = some (.cells (arr f) 103 (0, 0))) : (Instr.storeAt 103 (.pointer (some ⟨b, 0, none⟩)) (.agg (arr g))).run Try.prog W = .ok () (W.setRow b (arr g)) := by
  simp only [Instr.storeAt, Instr.sureAddr, Sem.run_bind, Sem.run_pure, Result.andThen]
  exact run_storeVar_row _ _ _ _ _ _ h (by rw [arr_size]; exact info64) (by rw [arr_size, arr_size]) (arr_one g)

set_option maxRecDepth 100000 in
/-- A whole row is read, or stored, in a plain region. -/
theorem load_arm {ops : Array Oper} {rest : List Oper} {op : Oper} {a : Act} {w : World} {Q : Exit → Act → World → Prop} (hgd : op.guard = none) (x : Operand) (ho : op.op = .load 103 x) (b : Nat) (hx : a.eval x = .pointer (some ⟨b, 0, none⟩)) (f : Nat → Int)
    (hh : w.heap[b]? = some (.cells (arr f) 103 (0, 0))) (h : wpList Try.prog ops Q rest (a.put op.dst (.agg (arr f))) w) : wpList Try.prog ops Q (op :: rest) a w :=
  wpList_plain hgd fun K hK => by
    unfold Oper.wp execOp
    simp only [ho, hx, Sem.run_bind, load64 hh, Sem.run_pure, Result.andThen_ok]
    exact hK _ _ h
set_option maxRecDepth 100000 in
theorem store_arm {ops : Array Oper} {rest : List Oper} {op : Oper} {a : Act} {w : World} {Q : Exit → Act → World → Prop} (hgd : op.guard = none) (x y : Operand) (ho : op.op = .store 103 x y) (b : Nat) (g : Nat → Int) (hx : a.eval x = .pointer (some ⟨b, 0, none⟩)) (hy : a.eval y = .agg (arr g)) (f : Nat → Int)
    (hh : w.heap[b]? = some (.cells (arr f) 103 (0, 0))) (h : wpList Try.prog ops Q rest (a.put op.dst undef) (w.setRow b (arr g))) : wpList Try.prog ops Q (op :: rest) a w :=
  wpList_plain hgd fun K hK => by
    unfold Oper.wp execOp
    simp only [ho, hx, hy, Sem.run_bind, store64 hh, Sem.run_pure, Result.andThen_ok]
    exact hK _ _ h

set_option maxRecDepth 100000 in
theorem exec_load64 {op : Oper} {a : Act} {w : World} {b : Nat} {f : Nat → Int} {x : Operand} (ho : op.op = .load 103 x) (hx : a.eval x = .pointer (some ⟨b, 0, none⟩)) (hh : w.heap[b]? = some (.cells (arr f) 103 (0, 0))) : (execOp a.eval op).run Try.prog w = .ok (.value (.agg (arr f))) w := by
  unfold execOp
  simp only [ho, hx, Sem.run_bind, load64 hh, Sem.run_pure, Result.andThen_ok]
/-- The same for a struct's row. -/
theorem loadT {W : World} {b : Nat} {c : Array Value} (hc : c.size = 8) (h : W.heap[b]? = some (.cells c 57 (0, 0))) : (Instr.loadAt 57 (.pointer (some ⟨b, 0, none⟩))).run Try.prog W = .ok (.agg c) W := by
  simp only [Instr.loadAt, Instr.sureAddr, Sem.run_bind, Sem.run_pure, Result.andThen]
  exact run_loadVar_row _ _ _ _ _ _ _ h Try.underlying57 rfl (by rw [hc]; kernel_rfl)
theorem storeT {W : World} {b : Nat} {c g : Array Value} (hc : c.size = 8) (hg : g.size = 8) (h1 : g.all (·.oneCell') = true) (h : W.heap[b]? = some (.cells c 57 (0, 0))) : (Instr.storeAt 57 (.pointer (some ⟨b, 0, none⟩)) (.agg g)).run Try.prog W = .ok () (W.setRow b g) := by
  simp only [Instr.storeAt, Instr.sureAddr, Sem.run_bind, Sem.run_pure, Result.andThen]
  exact run_storeVar_row _ _ _ _ _ _ h (by rw [hg]; kernel_rfl) (by rw [hc, hg]) h1
set_option maxRecDepth 100000 in
theorem exec_loadT {op : Oper} {a : Act} {w : World} {b : Nat} {c : Array Value} {x : Operand} (ho : op.op = .load 57 x) (hx : a.eval x = .pointer (some ⟨b, 0, none⟩)) (hc : c.size = 8) (hh : w.heap[b]? = some (.cells c 57 (0, 0))) : (execOp a.eval op).run Try.prog w = .ok (.value (.agg c)) w := by
  unfold execOp
  simp only [ho, hx, Sem.run_bind, loadT hc hh, Sem.run_pure, Result.andThen_ok]
set_option maxRecDepth 100000 in
theorem exec_store64 {op : Oper} {a : Act} {w : World} {b : Nat} {f g : Nat → Int} {x y : Operand} (ho : op.op = .store 103 x y) (hx : a.eval x = .pointer (some ⟨b, 0, none⟩)) (hy : a.eval y = .agg (arr g)) (hh : w.heap[b]? = some (.cells (arr f) 103 (0, 0))) : (execOp a.eval op).run Try.prog w = .ok .skip (w.setRow b (arr g)) := by
  unfold execOp
  simp only [ho, hx, hy, Sem.run_bind, store64 hh, Sem.run_pure, Result.andThen_ok]
set_option maxRecDepth 100000 in
theorem exec_storeT {op : Oper} {a : Act} {w : World} {b : Nat} {c g : Array Value} {x y : Operand} (ho : op.op = .store 57 x y) (hx : a.eval x = .pointer (some ⟨b, 0, none⟩)) (hy : a.eval y = .agg g) (hc : c.size = 8) (hg : g.size = 8) (h1 : g.all (·.oneCell') = true) (hh : w.heap[b]? = some (.cells c 57 (0, 0))) : (execOp a.eval op).run Try.prog w = .ok .skip (w.setRow b g) := by
  unfold execOp
  simp only [ho, hx, hy, Sem.run_bind, storeT hc hg h1 hh, Sem.run_pure, Result.andThen_ok]
set_option maxRecDepth 100000 in
theorem loadT_arm {ops : Array Oper} {rest : List Oper} {op : Oper} {a : Act} {w : World} {Q : Exit → Act → World → Prop} (hgd : op.guard = none) (x : Operand) (ho : op.op = .load 57 x) (b : Nat) (hx : a.eval x = .pointer (some ⟨b, 0, none⟩)) (c : Array Value) (hc : c.size = 8)
    (hh : w.heap[b]? = some (.cells c 57 (0, 0))) (h : wpList Try.prog ops Q rest (a.put op.dst (.agg c)) w) : wpList Try.prog ops Q (op :: rest) a w :=
  wpList_plain hgd fun K hK => by
    unfold Oper.wp execOp
    simp only [ho, hx, Sem.run_bind, loadT hc hh, Sem.run_pure, Result.andThen_ok]
    exact hK _ _ h
set_option maxRecDepth 100000 in
theorem storeT_arm {ops : Array Oper} {rest : List Oper} {op : Oper} {a : Act} {w : World} {Q : Exit → Act → World → Prop} (hgd : op.guard = none) (x y : Operand) (ho : op.op = .store 57 x y) (b : Nat) (g : Array Value) (hx : a.eval x = .pointer (some ⟨b, 0, none⟩)) (hy : a.eval y = .agg g) (c : Array Value) (hc : c.size = 8) (hg : g.size = 8) (h1 : g.all (·.oneCell') = true)
    (hh : w.heap[b]? = some (.cells c 57 (0, 0))) (h : wpList Try.prog ops Q rest (a.put op.dst undef) (w.setRow b g)) : wpList Try.prog ops Q (op :: rest) a w :=
  wpList_plain hgd fun K hK => by
    unfold Oper.wp execOp
    simp only [ho, hx, hy, Sem.run_bind, storeT hc hg h1 hh, Sem.run_pure, Result.andThen_ok]
    exact hK _ _ h

set_option maxHeartbeats 1000000 in
set_option maxRecDepth 100000 in
theorem same_calls (w : World) : Calls Try.prog 90 #[] w fun e w' => e = .returned (.agg (arr (fun i => (i : Int)))) ∧ Below w.heap.size w w' := by
  go_enter Try.func90, Try.ntmps90
  go_wp2_with fail
  go_loopw [3] (fun v3 wr => ∃ i : Nat, v3 = .int .i64 i ∧ i ≤ 64 ∧ Aside0 (wr.heap[w.heap.size]? = some (.cells (arr (fun _ => 0)) 103 (0, 0))) ∧ Aside0 (wr.heap[w.heap.size + 1]? = some (.cells (arr (fun k => if k < i then (k : Int) else 0)) 103 (0, 0))) ∧ Aside0 (Below w.heap.size w wr)) (fun v3 _ => 64 - (intOf v3).toNat)
  case atStart =>
    have e0 : arr (fun _ => 0) = arr (fun k => if k < 0 then (k : Int) else 0) := arr_congr _ _ (fun _ _ => by simp)
    refine ⟨0, rfl, Nat.zero_le _, ⟨blk_alloc (blk_new w _) _⟩, ⟨?_⟩, ⟨below_alloc (below_alloc (Below.refl _ _) _) _⟩⟩
    rw [← e0]
    have := blk_new (w.alloc (.cells (arr (fun _ => 0)) 103)) (.cells (arr (fun _ => 0)) 103)
    rw [show (w.alloc (.cells (arr (fun _ => 0)) 103)).heap.size = w.heap.size + 1 by show (w.heap.push _).size = _; simp] at this
    exact this
  case round =>
    obtain ⟨i, rfl, hi, H1, H2, HB⟩ := hrel
    by_cases hlt : i < 64
    · have p1 : (0 ≤ (i : Int)) = True := eq_true (by omega)
      have q1 : ((i : Int) < 64) = True := eq_true (by omega)
      have r1 : wr.cell? ⟨w.heap.size + 1, i, none⟩ = some (.int .i64 0) := (blk_cell H2.out i).trans ((arr_get _ i hlt).trans (by simp))
      have z1 := blk_frozen H2.out i
      have e1 : (arr (fun k => if k < i then (k : Int) else 0)).setIfInBounds i (.int .i64 (i : Int)) = arr (fun k => if k < i + 1 then (k : Int) else 0) := by
        rw [arr_set _ i _ hlt]
        refine arr_congr _ _ (fun k _ => ?_)
        by_cases h1 : k = i
        · subst h1; simp
        · by_cases h2 : k < i
          · rw [if_neg h1, if_pos h2, if_pos (by omega)]
          · rw [if_neg h1, if_neg h2, if_neg (by omega)]
      have E1 := Aside0.mk e1
      clear e1
      go_wp2_with fail
      have Z2 := Aside0.mk (blk_put H2.out i (.int .i64 (i : Int)) rfl)
      refine ⟨⟨i + 1, by go_num, by omega, ⟨(Below.heap_setCell _ _ _ _ (by first | omega | (simp; done) | (simp; omega))).trans H1.out⟩, ⟨?_⟩, ⟨below_set HB.out (by omega)⟩⟩, ?_⟩
      · rw [← E1.out]
        exact Z2.out
      · simp [intOf]; omega
    · have hx : i = 64 := by omega
      subst hx
      have e2 : arr (fun k => if k < 64 then (k : Int) else 0) = arr (fun k => (k : Int)) := arr_congr _ _ (fun k hk => by rw [if_pos hk])
      have H2 : Aside0 (wr.heap[w.heap.size + 1]? = some (.cells (arr (fun k => (k : Int))) 103 (0, 0))) := ⟨by rw [← e2]; exact H2.out⟩
      have G1 := Aside0.mk (setRow_heap wr w.heap.size _ (arr (fun k => (k : Int))) _ _ H1.out)
      go_wp2_with (first | (refine load_arm rfl _ rfl (w.heap.size + 1) rfl _ H2.out ?_) | (refine store_arm rfl _ _ rfl w.heap.size _ rfl rfl _ H1.out ?_))
      refine bodyPost_ret (results_single rfl (.cell w.heap.size 103 (arr (fun k => (k : Int))) (0, 0) _ rfl G1.out Try.underlying103 rfl (by rw [arr_size]; exact info64) .nil)) rfl ?_
      exact ⟨rfl, below_setRow HB.out (Nat.le_refl _) _⟩

set_option maxHeartbeats 1000000 in
set_option maxRecDepth 100000 in
theorem behind_calls (w : World) (n : Nat) (hn : n ≤ 64) (f g : Nat → Int) (p : Nat → Nat) (hf : ∀ i, i < n → f i = p i) (hp : ∀ i, i < n → p i < 64) :
    Calls Try.prog 68 #[.int .i64 n, .agg (arr f), .agg (arr g)] w fun e w' => e = .returned (.agg (arr (fun i => if i < n then g (p i) else f i))) ∧ Below w.heap.size w w' := by
  have HF := Aside0.mk hf
  have HP := Aside0.mk hp
  clear hf hp
  go_enter Try.func68, Try.ntmps68
  go_wp2_with fail
  go_loopw [9] (fun v9 wr => ∃ i : Nat, v9 = .int .i64 i ∧ i ≤ n ∧ Aside0 (wr.heap[w.heap.size]? = some (.cells (arr (fun k => if k < i then g (p k) else f k)) 103 (0, 0))) ∧ Aside0 (wr.heap[w.heap.size + 1]? = some (.cells (arr g) 103 (0, 0))) ∧ Aside0 (wr.heap[w.heap.size + 1 + 1]? = some (.cells (arr (fun _ => 0)) 103 (0, 0))) ∧ Aside0 (Below w.heap.size w wr)) (fun v9 _ => n - (intOf v9).toNat)
  case atStart =>
    have e0 : arr f = arr (fun k => if k < 0 then g (p k) else f k) := arr_congr _ _ (fun _ _ => by simp)
    refine ⟨0, rfl, Nat.zero_le _, ⟨?_⟩, ⟨?_⟩, ⟨?_⟩, ⟨below_alloc (below_alloc (below_alloc (Below.refl _ _) _) _) _⟩⟩
    · rw [← e0]
      exact blk_alloc (blk_alloc (blk_new w _) _) _
    · have := blk_alloc (blk_new (w.alloc (.cells (arr f) 103)) (.cells (arr g) 103)) (.cells (arr (fun _ => 0)) 103)
      rw [show (w.alloc (.cells (arr f) 103)).heap.size = w.heap.size + 1 by show (w.heap.push _).size = _; simp] at this
      exact this
    · have := blk_new ((w.alloc (.cells (arr f) 103)).alloc (.cells (arr g) 103)) (.cells (arr (fun _ => 0)) 103)
      rw [show ((w.alloc (.cells (arr f) 103)).alloc (.cells (arr g) 103)).heap.size = w.heap.size + 1 + 1 by show ((w.heap.push _).push _).size = _; simp] at this
      exact this
  case round =>
    obtain ⟨i, rfl, hi, H1, H2, H3, HB⟩ := hrel
    by_cases hlt : i < n
    · have p1 : (0 ≤ (i : Int)) = True := eq_true (by omega)
      have q1 : ((i : Int) < 64) = True := eq_true (by omega)
      have hpi := HP.out i hlt
      have p2 : (0 ≤ ((p i : Nat) : Int)) = True := eq_true (by omega)
      have q2 : (((p i : Nat) : Int) < 64) = True := eq_true (by omega)
      have r1 : wr.cell? ⟨w.heap.size, i, none⟩ = some (.int .i64 (p i)) := (blk_cell H1.out i).trans ((arr_get _ i (by omega)).trans (by rw [if_neg (Nat.lt_irrefl i), HF.out i hlt]))
      have r2 : wr.cell? ⟨w.heap.size + 1, p i, none⟩ = some (.int .i64 (g (p i))) := (blk_cell H2.out (p i)).trans (arr_get _ (p i) (by omega))
      have z1 := blk_frozen H1.out i
      have e1 : (arr (fun k => if k < i then g (p k) else f k)).setIfInBounds i (.int .i64 (g (p i))) = arr (fun k => if k < i + 1 then g (p k) else f k) := by
        rw [arr_set _ i _ (by omega)]
        refine arr_congr _ _ (fun k _ => ?_)
        by_cases h1 : k = i
        · subst h1; simp
        · by_cases h2 : k < i
          · rw [if_neg h1, if_pos h2, if_pos (by omega)]
          · rw [if_neg h1, if_neg h2, if_neg (by omega)]
      have E1 := Aside0.mk e1
      clear e1 hpi
      go_wp2_with fail
      have Z2 := Aside0.mk (blk_put H1.out i (.int .i64 (g (p i))) rfl)
      refine ⟨⟨i + 1, by go_num, by omega, ⟨?_⟩, ⟨(Below.heap_setCell _ _ _ _ (by first | omega | (simp; done) | (simp; omega))).trans H2.out⟩, ⟨(Below.heap_setCell _ _ _ _ (by first | omega | (simp; done) | (simp; omega))).trans H3.out⟩, ⟨below_set HB.out (by omega)⟩⟩, ?_⟩
      · rw [← E1.out]
        exact Z2.out
      · simp [intOf]; omega
    · have hx : i = n := by omega
      subst hx
      have G1 := Aside0.mk (setRow_heap wr (w.heap.size + 1 + 1) _ (arr (fun k => if k < i then g (p k) else f k)) _ _ H3.out)
      go_wp2_with (first | (refine load_arm rfl _ rfl w.heap.size rfl _ H1.out ?_) | (refine store_arm rfl _ _ rfl (w.heap.size + 1 + 1) _ rfl rfl _ H3.out ?_))
      refine bodyPost_ret (results_single rfl (.cell (w.heap.size + 1 + 1) 103 (arr (fun k => if k < i then g (p k) else f k)) (0, 0) _ rfl G1.out Try.underlying103 rfl (by rw [arr_size]; exact info64) .nil)) rfl ?_
      exact ⟨rfl, below_setRow HB.out (by omega) _⟩
end Go.Proofs.Ytcnnlddjnmkioaa.HArr
