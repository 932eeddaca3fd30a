/- trans.OfWord: contract: of a good automaton and a word that leads each state s to p s. -/
import Derived.Test.YtcnnlddjnmkioaaHTrans
import Derived.Test.YtcnnlddjnmkioaaMAx1
set_option linter.unusedVariables false
set_option linter.unusedSimpArgs false
namespace Go.Proofs.Ytcnnlddjnmkioaa.HOfWord
open Go Go.RowKit Go.Proofs.Ytcnnlddjnmkioaa.MA Go.Proofs.Ytcnnlddjnmkioaa.HReads Go.Proofs.Ytcnnlddjnmkioaa.HArr Go.Proofs.Ytcnnlddjnmkioaa.HPack Go.Proofs.Ytcnnlddjnmkioaa.HTkey Go.Proofs.Ytcnnlddjnmkioaa.HTrans Go.Proofs.YtcnnlddjnmkioaaW.PrintWords Go.Proofs.YtcnnlddjnmkioaaW.PrintLast Go.Proofs.YtcnnlddjnmkioaaW.PrintMore

set_option maxHeartbeats 2000000 in
set_option maxRecDepth 100000 in
theorem calls (w : World) (k : Int) (A1 : Option Addr) (c1 : Nat) (nx : List Int) (A2 : Option Addr) (c2 : Nat) (ac : List Bool) (s : ByteArray) (p : Nat → Nat)
    (hn : Kd.C (Kd.int .i64) w A1 nx.length nx) (hc1 : nx.length ≤ c1) (ha : Kd.C Kd.bool w A2 ac.length ac) (hc2 : ac.length ≤ c2) (h1 : 1 ≤ ac.length) (h2 : ac.length ≤ 64)
    (hC : ∃ K, auto_Check.f K k nx ac = some 0) (hR : ∀ i : Nat, i < ac.length → ∃ K, auto_Run.f K k nx ac (i : Int) s = some ((p i : Int), 0)) (hp : ∀ i, i < ac.length → p i < ac.length) :
    Calls Try.prog 78 #[.agg #[.int .i64 k, .slice A1 nx.length c1, .slice A2 ac.length c2], .string s] w fun e w' => e = .returned (.tuple #[.agg (pk p ac.length ac.length), .int .i64 0]) ∧ Below w.heap.size w w' := by
  have HN := Aside0.mk hn
  have HA := Aside0.mk ha
  have HR := Aside0.mk hR
  have HP := Aside0.mk hp
  obtain ⟨K0, hC0⟩ := hC
  have HC := Aside0.mk hC0
  clear hn ha hR hp hC0
  have g1 : decide (64 < (ac.length : Int)) = false := decide_eq_false (by omega)
  have B0 := Aside0.mk (below_alloc (below_alloc (Below.refl w.heap.size w) (.cells #[.int .i64 k, .slice A1 nx.length c1, .slice A2 ac.length c2] 25)) (.cells z8 57))
  have X0 := Aside0.mk (blk_alloc (blk_new w (.cells #[.int .i64 k, .slice A1 nx.length c1, .slice A2 ac.length c2] 25)) (.cells z8 57))
  have Z0 : Aside0 (((w.alloc (.cells #[.int .i64 k, .slice A1 nx.length c1, .slice A2 ac.length c2] 25)).alloc (.cells z8 57)).heap[w.heap.size + 1]? = some (.cells z8 57 (0, 0))) := by
    have := blk_new (w.alloc (.cells #[.int .i64 k, .slice A1 nx.length c1, .slice A2 ac.length c2] 25)) (.cells z8 57)
    rw [show (w.alloc (.cells #[.int .i64 k, .slice A1 nx.length c1, .slice A2 ac.length c2] 25)).heap.size = w.heap.size + 1 by show (w.heap.push _).size = _; simp] at this
    exact ⟨this⟩
  go_enter Try.func78, Try.ntmps78
  go_upto_region 1 with fail
  generalize (w.alloc (.cells #[.int .i64 k, .slice A1 nx.length c1, .slice A2 ac.length c2] 25)).alloc (.cells z8 57) = w0 at *
  have x0 : w0.cell? ⟨w.heap.size, 0, none⟩ = some (.int .i64 k) := (blk_cell X0.out 0).trans rfl
  have x1 : w0.cell? ⟨w.heap.size, 1, none⟩ = some (.slice A1 nx.length c1) := (blk_cell X0.out 1).trans rfl
  have x2 : w0.cell? ⟨w.heap.size, 2, none⟩ = some (.slice A2 ac.length c2) := (blk_cell X0.out 2).trans rfl
  go_upto_region 2 with (go_at_call 73; refine (auto_Check.calls K0 k A1 c1 nx A2 c2 ac 0 w0 (Kd.C_below HN.out B0.out) hc1 (Kd.C_below HA.out B0.out) hc2 HC.out).mono ?_; rintro e w1 ⟨rfl, hb1⟩)
  have X1 := Aside0.mk (blk_below X0.out hb1)
  have Z1 := Aside0.mk (blk_below Z0.out hb1)
  have B1 := Aside0.mk (below_then B0.out B0.out.size hb1)
  clear hb1 x0 x1 x2 X0 Z0 B0
  have x2 : w1.cell? ⟨w.heap.size, 2, none⟩ = some (.slice A2 ac.length c2) := (blk_cell X1.out 2).trans rfl
  have l3 := blk_lt Z1.out
  have N6 := Aside0.mk (show w.heap.size + 1 < w1.heap.size from l3)
  have XA := Aside0.mk (blk_alloc X1.out (.cells z64 103))
  have ZA := Aside0.mk (blk_alloc Z1.out (.cells z64 103))
  have LA : Aside0 ((w1.alloc (.cells z64 103)).heap[w1.heap.size]? = some (.cells (arr (fun k => if k < 0 then (p k : Int) else 0)) 103 (0, 0))) := ⟨by
    rw [show arr (fun k => if k < 0 then (p k : Int) else 0) = arr (fun _ => 0) from arr_congr _ _ (fun _ _ => by simp)]
    exact blk_new w1 (.cells z64 103)⟩
  have BA := Aside0.mk (below_alloc B1.out (.cells z64 103))
  clear l3
  go_upto_region 7 with fail
  clear x2
  generalize w1.alloc (.cells z64 103) = v1 at *
  generalize w1.heap.size = b7 at *
  clear X1 Z1 B1
  have x2 : v1.cell? ⟨w.heap.size, 2, none⟩ = some (.slice A2 ac.length c2) := (blk_cell XA.out 2).trans rfl
  go_wp2_with fail
  clear x2
  go_loopw [25] (fun v25 wr => ∃ i : Nat, v25 = .int .i64 i ∧ i ≤ ac.length ∧ Aside0 (wr.heap[w.heap.size]? = some (.cells #[.int .i64 k, .slice A1 nx.length c1, .slice A2 ac.length c2] 25 (0, 0))) ∧ Aside0 (wr.heap[w.heap.size + 1]? = some (.cells z8 57 (0, 0))) ∧ Aside0 (wr.heap[b7]? = some (.cells (arr (fun k => if k < i then (p k : Int) else 0)) 103 (0, 0))) ∧ Aside0 (Below w.heap.size w wr)) (fun v25 _ => ac.length - (intOf v25).toNat)
  case atStart => exact ⟨0, rfl, Nat.zero_le _, XA, ZA, LA, BA⟩
  case round =>
    obtain ⟨i, rfl, hi, H1, H2, H3, HB⟩ := hrel
    by_cases hlt : i < ac.length
    · obtain ⟨K, hK1⟩ := HR.out i hlt
      have HK1 := Aside0.mk hK1
      clear hK1
      have x0 : wr.cell? ⟨w.heap.size, 0, none⟩ = some (.int .i64 k) := (blk_cell H1.out 0).trans rfl
      have x1 : wr.cell? ⟨w.heap.size, 1, none⟩ = some (.slice A1 nx.length c1) := (blk_cell H1.out 1).trans rfl
      have x2 : wr.cell? ⟨w.heap.size, 2, none⟩ = some (.slice A2 ac.length c2) := (blk_cell H1.out 2).trans rfl
      go_upto_region 11 with (go_at_call 93; refine (auto_Run.calls K k A1 c1 nx A2 c2 ac (i : Int) s (p i : Int) 0 wr (Kd.C_below HN.out HB.out) hc1 (Kd.C_below HA.out HB.out) hc2 HK1.out).mono ?_; rintro e w2 ⟨rfl, hb1⟩)
      have K1 := Aside0.mk (blk_below H1.out hb1)
      have K2 := Aside0.mk (blk_below H2.out hb1)
      have K3 := Aside0.mk (blk_below H3.out hb1)
      have KB := Aside0.mk (below_then HB.out HB.out.size hb1)
      clear hb1 x0 x1 x2 H1 H2 H3 HB HK1
      have p1 : (0 ≤ (i : Int)) = True := eq_true (by omega)
      have q1 : ((i : Int) < 64) = True := eq_true (by omega)
      have r1 : w2.cell? ⟨b7, i, none⟩ = some (.int .i64 0) := (blk_cell K3.out i).trans ((arr_get _ i (by omega)).trans (by simp))
      have z1 := blk_frozen K3.out i
      have e1 : (arr (fun k => if k < i then (p k : Int) else 0)).setIfInBounds i (.int .i64 ((p i : Nat) : Int)) = arr (fun k => if k < i + 1 then (p k : Int) else 0) := by
        rw [arr_set _ i _ (by omega)]
        refine arr_congr _ _ (fun k _ => ?_)
        by_cases h1 : k = i
        · subst h1; simp
        · by_cases h2 : k < i
          · rw [if_neg h1, if_pos h2, if_pos (by omega)]
          · rw [if_neg h1, if_neg h2, if_neg (by omega)]
      have E1 := Aside0.mk e1
      clear e1
      go_wp2_with fail
      have Z2 := Aside0.mk (blk_put K3.out i (.int .i64 ((p i : Nat) : Int)) rfl)
      have N6' := N6.out
      refine ⟨⟨i + 1, by go_num, by omega, ⟨(Below.heap_setCell _ _ _ _ (by first | omega | (simp; done) | (simp; omega))).trans K1.out⟩, ⟨(Below.heap_setCell _ _ _ _ (by first | omega | (simp; done) | (simp; omega))).trans K2.out⟩, ⟨?_⟩, ⟨below_set KB.out (by omega)⟩⟩, ?_⟩
      · rw [← E1.out]
        exact Z2.out
      · simp [intOf]; omega
    · have hx : i = ac.length := by omega
      subst hx
      have x2 : wr.cell? ⟨w.heap.size, 2, none⟩ = some (.slice A2 ac.length c2) := (blk_cell H1.out 2).trans rfl
      go_wp2_with (first
        | (refine load_arm rfl _ rfl b7 rfl _ H3.out ?_)
        | (go_at_call 67; refine (HPack.calls _ (fun k => if k < ac.length then (p k : Int) else 0) p ac.length h1 h2 (fun i hi => by rw [if_pos hi]) (fun i hi => by have := HP.out i hi; omega)).mono ?_; rintro e w2 ⟨rfl, hb2⟩; have K2 := Aside0.mk (blk_below H2.out hb2); have KB := Aside0.mk (below_then HB.out HB.out.size hb2); clear hb2)
        | (refine storeT_arm rfl _ _ rfl (w.heap.size + 1) (pk p ac.length ac.length) rfl rfl z8 rfl rfl (pk_one _ _ _) K2.out ?_))
      have F := Aside0.mk (setRow_heap w2 (w.heap.size + 1) _ (pk p ac.length ac.length) _ _ K2.out)
      refine bodyPost_ret (results_list (rs := [.cell 4 57, .tmp 5]) rfl (by simp) (.cell (w.heap.size + 1) 57 (pk p ac.length ac.length) (0, 0) _ rfl F.out Try.underlying57 rfl (by kernel_rfl) (.tmp .nil))) rfl ?_
      exact ⟨rfl, below_setRow KB.out (by omega) _⟩
end Go.Proofs.Ytcnnlddjnmkioaa.HOfWord
