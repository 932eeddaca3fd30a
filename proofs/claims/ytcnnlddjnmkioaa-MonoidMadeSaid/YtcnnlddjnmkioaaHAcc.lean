/- trans.At; a built monoid's methods: Trans, Accept. -/
import Derived.Test.YtcnnlddjnmkioaaHMeth
set_option linter.unusedVariables false
set_option linter.unusedSimpArgs false
namespace Go.Proofs.Ytcnnlddjnmkioaa.HAcc
open Go Go.RowKit Go.Proofs.Ytcnnlddjnmkioaa.HReads Go.Proofs.Ytcnnlddjnmkioaa.HArr Go.Proofs.Ytcnnlddjnmkioaa.HPack Go.Proofs.Ytcnnlddjnmkioaa.HTopen Go.Proofs.Ytcnnlddjnmkioaa.HTrans Go.Proofs.Ytcnnlddjnmkioaa.HTable Go.Proofs.Ytcnnlddjnmkioaa.HMon Go.Proofs.Ytcnnlddjnmkioaa.HAuto Go.Proofs.Ytcnnlddjnmkioaa.PureMon Go.Proofs.Ytcnnlddjnmkioaa.HMeth Go.Proofs.YtcnnlddjnmkioaaW.PrintWords Go.Proofs.YtcnnlddjnmkioaaW.PrintLast Go.Proofs.YtcnnlddjnmkioaaW.PrintMore

set_option maxHeartbeats 1000000 in
set_option maxRecDepth 100000 in
theorem at_calls (w : World) (p : Nat → Nat) (n : Nat) (h1 : 1 ≤ n) (h2 : n ≤ 64) (hp : ∀ i, i < n → p i < n) (i : Nat) (hi : i < n) :
    Calls Try.prog 69 #[.agg (pk p n n), .int .i64 i] w fun e w' => e = .returned (.tuple #[.int .i64 (p i : Nat), .int .i64 0]) ∧ Below w.heap.size w w' := by
  have HP := Aside0.mk hp
  clear hp
  have g1 : decide ((i : Int) < 0) = false := decide_eq_false (by omega)
  have g2 : decide ((i : Int) ≥ (n : Int)) = false := decide_eq_false (by omega)
  have g3 : decide ((n : Int) ≤ (i : Int)) = false := decide_eq_false (by omega)
  have X0 := Aside0.mk (blk_new w (.cells (pk p n n) 57))
  have B0 := Aside0.mk (below_alloc (Below.refl w.heap.size w) (.cells (pk p n n) 57))
  go_enter Try.func69, Try.ntmps69
  go_upto_region 1 with fail
  generalize w.alloc (.cells (pk p n n) 57) = w0 at *
  go_upto_region 2 with (first
    | (refine loadT_arm rfl _ rfl w.heap.size rfl (pk p n n) rfl X0.out ?_)
    | (go_at_call 66; refine (HTopen.calls _ p n h1 h2 HP.out).mono ?_; rintro e w1 ⟨rfl, hb1⟩; have B1 := Aside0.mk (below_then B0.out B0.out.size hb1); have X1 := Aside0.mk (blk_below X0.out hb1); have N1 := Aside0.mk (blk_new w1 (.cells z64 103)); clear hb1)
    | (refine store_arm rfl _ _ rfl w1.heap.size (fun i => if i < n then (p i : Int) else 0) rfl rfl (fun _ => 0) N1.out ?_))
  have l1 := blk_lt X1.out
  have XA : Aside0 (((w1.alloc (.cells z64 103)).setRow w1.heap.size (arr (fun i => if i < n then (p i : Int) else 0))).heap[w.heap.size]? = some (.cells (pk p n n) 57 (0, 0))) := ⟨(setRow_other _ _ _ _ (by omega)).trans (blk_alloc X1.out _)⟩
  have NA := setRow_heap (w1.alloc (.cells z64 103)) w1.heap.size _ (arr (fun i => if i < n then (p i : Int) else 0)) _ _ N1.out
  have BA : Aside0 (Below w.heap.size w ((w1.alloc (.cells z64 103)).setRow w1.heap.size (arr (fun i => if i < n then (p i : Int) else 0)))) := ⟨below_setRow (below_alloc B1.out _) B1.out.size _⟩
  clear X1 N1 B1 l1 X0 B0
  generalize (w1.alloc (.cells z64 103)).setRow w1.heap.size (arr (fun i => if i < n then (p i : Int) else 0)) = v1 at *
  generalize w1.heap.size = b6 at *
  have r1 : v1.cell? ⟨w.heap.size, 0, none⟩ = some (.int .i64 n) := (blk_cell XA.out 0).trans rfl
  have r2 : v1.cell? ⟨b6, i, none⟩ = some (.int .i64 (p i : Nat)) := by
    refine (blk_cell NA i).trans ?_
    rw [arr_get _ _ (by omega), if_pos hi]
  clear NA
  go_wp2_with fail
  go_ret2
  exact ⟨rfl, BA.out⟩
set_option maxRecDepth 100000 in
theorem loadR_arm {ops : Array Oper} {rest : List Oper} {op : Oper} {a : Act} {W : World} {Q : Exit → Act → World → Prop} {base g N cap n : Nat} {ok : Nat → Prop} {T : List (List Nat)} {x : Operand} (i : Nat) (t : List Nat) (ht : T.getD i [] = t) (hgd : op.guard = none) (h : Kd.R kT 57 W base ok (.slice (some ⟨g, 0, none⟩) N cap) (T.map (tup n))) (hi : i < T.length) (ho : op.op = .load 57 x) (hx : a.eval x = .pointer (some ⟨g, i * 8, none⟩))
    (hk : wpList Try.prog ops Q rest (a.put op.dst (.agg (pk (im t) n n))) W) : wpList Try.prog ops Q (op :: rest) a W :=
  wpList_plain hgd fun K hK => by
    unfold Oper.wp
    rw [exec_loadR i h hi ho hx, ht]
    exact hK _ _ hk
section
variable (w : World) (g : Nat) (d : MD) (hd : d.Ok) (h : Hd w g d)
include hd h
set_option maxHeartbeats 1000000 in
set_option maxRecDepth 100000 in
omit hd in
theorem trans_calls (i : Nat) (hi : i < d.T.length) (t : List Nat) (ht : d.T.getD i [] = t) : Calls Try.prog 29 #[.pointer (some ⟨g, 0, none⟩), .int .i64 i] w fun e w' => e = .returned (.tuple #[.agg (pk (im t) d.n d.n), .int .i64 0]) ∧ Below w.heap.size w w' := by
  have HT := Aside0.mk ht
  clear ht
  have B0 := Aside0.mk (below_alloc (below_alloc (Below.refl w.heap.size w) (.cells z8 57)) (.cells #[.int .i64 i] 3))
  have X0 := Aside0.mk (blk_alloc (blk_new w (.cells z8 57)) (.cells #[.int .i64 i] 3))
  have H := Aside0.mk (h.below B0.out)
  have HX := Aside0.mk (one_C (w.alloc (.cells z8 57)) i)
  have hchk := chk_in hi
  obtain ⟨A3, A4, c3, c4, g5, c5, g6, c6, g7, c7, g8, c8, gR, gF, V⟩ := H.out
  have x4 : ((w.alloc (.cells z8 57)).alloc (.cells #[.int .i64 i] 3)).cell? ⟨g, 4, none⟩ = some (.slice (some ⟨g5, 0, none⟩) d.T.length c5) := (blk_cell V.blk 4).trans rfl
  obtain ⟨c, base, hr⟩ := V.trs
  have HR := Aside0.mk hr
  clear V hr
  have es : (w.alloc (.cells z8 57)).heap.size = w.heap.size + 1 := by show (w.heap.push _).size = _; simp
  rw [es] at HX
  go_enter Try.func29, Try.ntmps29
  clear es
  go_wp2_with (first
    | (go_at_call 53; refine (check_calls _ g d H.out _ _ [(i : Int)] HX.out (by simp)).mono ?_; rintro e w1 ⟨rfl, hw1⟩; subst hw1; rw [hchk])
    | (refine loadR_arm i t HT.out rfl HR.out hi rfl rfl ?_)
    | (refine storeT_arm rfl _ _ rfl w.heap.size (pk (im t) d.n d.n) rfl rfl z8 rfl rfl (pk_one _ _ _) X0.out ?_))
  have NA := setRow_heap ((w.alloc (.cells z8 57)).alloc (.cells #[.int .i64 i] 3)) w.heap.size _ (pk (im t) d.n d.n) _ _ X0.out
  refine bodyPost_ret (results_list (rs := [.cell 4 57, .tmp 5]) rfl (by simp) (.cell w.heap.size 57 (pk (im t) d.n d.n) (0, 0) _ rfl NA Try.underlying57 rfl (by kernel_rfl) (.tmp .nil))) rfl ?_
  exact ⟨rfl, below_setRow B0.out (Nat.le_refl _) _⟩
set_option maxHeartbeats 1000000 in
set_option maxRecDepth 100000 in
theorem accept_calls (i : Nat) (hi : i < d.T.length) (t : List Nat) (ht : d.T.getD i [] = t) (s : Nat) (hs : im t 0 = s) : Calls Try.prog 31 #[.pointer (some ⟨g, 0, none⟩), .int .i64 i] w fun e w' => e = .returned (.tuple #[.bool (d.ac.getD s false), .int .i64 0]) ∧ Below w.heap.size w w' := by
  have HT := Aside0.mk ht
  have B0 := Aside0.mk (below_alloc (Below.refl w.heap.size w) (.cells #[.int .i64 i] 3))
  have H := Aside0.mk (h.below B0.out)
  have HX := Aside0.mk (one_C w i)
  have hchk := chk_in hi
  have HN := Aside0.mk hd.n
  have n1 : 1 ≤ d.n := by rw [HN.out]; exact hd.fit.n1
  have n64 : d.n ≤ 64 := by rw [HN.out]; exact hd.fit.n64
  have hG := hd.full.good hi
  rw [ht] at hG
  have HG := Aside0.mk (fun (j : Nat) (hj : j < d.n) => hG.im j hj)
  have h0 : im t 0 < d.n := hG.im 0 (by omega)
  obtain ⟨A3, A4, c3, c4, g5, c5, g6, c6, g7, c7, g8, c8, gR, gF, V⟩ := H.out
  have x4 : (w.alloc (.cells #[.int .i64 i] 3)).cell? ⟨g, 4, none⟩ = some (.slice (some ⟨g5, 0, none⟩) d.T.length c5) := (blk_cell V.blk 4).trans rfl
  have HV := Aside0.mk V
  obtain ⟨c, base, hr⟩ := V.trs
  have HR := Aside0.mk hr
  clear V hr hG ht
  go_enter Try.func31, Try.ntmps31
  go_upto_region 5 with (first
    | (go_at_call 53; refine (check_calls _ g d H.out _ _ [(i : Int)] HX.out (by simp)).mono ?_; rintro e w1 ⟨rfl, hw1⟩; subst hw1; rw [hchk])
    | (refine loadR_arm i t HT.out rfl HR.out hi rfl rfl ?_)
    | (go_at_call 69; refine (at_calls _ (im t) d.n (by omega) (by omega) HG.out 0 (by omega)).mono ?_; rintro e w1 ⟨rfl, hb1⟩))
  have V1 := HV.out.below hb1
  clear HR
  rw [hs] at h0
  have x2 : w1.cell? ⟨g, 2, none⟩ = some (.slice A4 d.ac.length c4) := (blk_cell V1.blk 2).trans rfl
  have p1 : (0 : Int) ≤ (s : Int) := by omega
  have p2 : (s : Int) < (d.ac.length : Int) := by have := HN.out; omega
  obtain ⟨ad, e1, x3⟩ := Kd.at_bool V1.acs (s : Int) p1 p2
  subst e1
  rw [Int.toNat_natCast, show rdOf false d.ac (s : Int) = d.ac.getD s false from rfl] at x3
  have B1 := Aside0.mk (below_then B0.out B0.out.size hb1)
  clear V1 hb1
  go_wp2_with fail
  go_ret2
  exact ⟨rfl, B1.out⟩
end
end Go.Proofs.Ytcnnlddjnmkioaa.HAcc
