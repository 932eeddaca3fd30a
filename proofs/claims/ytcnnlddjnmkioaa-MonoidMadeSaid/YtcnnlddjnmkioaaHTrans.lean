/- trans.Identity, trans.Check, trans.Compose: contracts, of transformations that pack made. -/
import Derived.Test.YtcnnlddjnmkioaaHTopen
set_option linter.unusedVariables false
set_option linter.unusedSimpArgs false
namespace Go.Proofs.Ytcnnlddjnmkioaa.HTrans
open Go Go.RowKit Go.Proofs.Ytcnnlddjnmkioaa.HReads Go.Proofs.Ytcnnlddjnmkioaa.HArr Go.Proofs.Ytcnnlddjnmkioaa.HPack Go.Proofs.Ytcnnlddjnmkioaa.HTkey Go.Proofs.YtcnnlddjnmkioaaW.PrintWords Go.Proofs.YtcnnlddjnmkioaaW.PrintLast Go.Proofs.YtcnnlddjnmkioaaW.PrintMore

/-- The cells of the zero transformation. -/
abbrev z8 : Array Value := #[.int .i64 0, .int .u64 0, .int .u64 0, .int .u64 0, .int .u64 0, .int .u64 0, .int .u64 0, .int .u64 0]
abbrev z64 : Array Value := #[.int .i64 0, .int .i64 0, .int .i64 0, .int .i64 0, .int .i64 0, .int .i64 0, .int .i64 0, .int .i64 0, .int .i64 0, .int .i64 0, .int .i64 0, .int .i64 0, .int .i64 0, .int .i64 0, .int .i64 0, .int .i64 0, .int .i64 0, .int .i64 0, .int .i64 0, .int .i64 0, .int .i64 0, .int .i64 0, .int .i64 0, .int .i64 0, .int .i64 0, .int .i64 0, .int .i64 0, .int .i64 0, .int .i64 0, .int .i64 0, .int .i64 0, .int .i64 0, .int .i64 0, .int .i64 0, .int .i64 0, .int .i64 0, .int .i64 0, .int .i64 0, .int .i64 0, .int .i64 0, .int .i64 0, .int .i64 0, .int .i64 0, .int .i64 0, .int .i64 0, .int .i64 0, .int .i64 0, .int .i64 0, .int .i64 0, .int .i64 0, .int .i64 0, .int .i64 0, .int .i64 0, .int .i64 0, .int .i64 0, .int .i64 0, .int .i64 0, .int .i64 0, .int .i64 0, .int .i64 0, .int .i64 0, .int .i64 0, .int .i64 0, .int .i64 0]
theorem z64_arr : z64 = arr (fun _ => 0) := rfl
theorem pk_congr (p q : Nat → Nat) (n : Nat) (h : ∀ i, i < n → p i = q i) : pk p n n = pk q n n := by
  have hd : ∀ (f g : Nat → Nat) (r : Nat), (∀ i, i < r → f i = g i) → dig f r = dig g r := by
    intro f g r
    induction r with
    | zero => intro _; rfl
    | succ r ih => intro h; show dig f r + f r * 64 ^ r = dig g r + g r * 64 ^ r; rw [ih (fun i hi => h i (by omega)), h r (by omega)]
  have hw : ∀ j, wrd p n j = wrd q n j := fun j => hd _ _ _ (fun r hr => h _ (by omega))
  unfold pk
  simp only [hw]

set_option maxHeartbeats 1000000 in
set_option maxRecDepth 100000 in
theorem identity_calls (w : World) (n : Nat) (h1 : 1 ≤ n) (h2 : n ≤ 64) :
    Calls Try.prog 76 #[.int .i64 n] w fun e w' => e = .returned (.tuple #[.agg (pk (fun i => i) n n), .int .i64 0]) ∧ Below w.heap.size w w' := by
  have g1 : decide ((n : Int) < 1) = false := decide_eq_false (by omega)
  have g2 : decide (64 < (n : Int)) = false := decide_eq_false (by omega)
  have H0 := Aside0.mk (blk_new w (.cells z8 57))
  have B0 := Aside0.mk (below_alloc (Below.refl w.heap.size w) (.cells z8 57))
  go_enter Try.func76, Try.ntmps76
  go_wp2_with (first
    | (go_at_call 90; refine (HArr.same_calls _).mono ?_; rintro e w1 ⟨rfl, hb1⟩; have H1 := Aside0.mk (blk_below H0.out hb1); have B1 := Aside0.mk (below_then B0.out B0.out.size hb1); clear hb1)
    | (go_at_call 67; refine (HPack.calls _ (fun i => (i : Int)) (fun i => i) n h1 h2 (fun _ _ => rfl) (fun i hi => by omega)).mono ?_; rintro e w2 ⟨rfl, hb2⟩; have H2 := Aside0.mk (blk_below H1.out hb2); have B2 := Aside0.mk (below_then B1.out B1.out.size hb2); clear hb2)
    | (refine storeT_arm rfl _ _ rfl w.heap.size (pk (fun i => i) n n) rfl rfl z8 rfl rfl (pk_one _ _ _) H2.out ?_))
  have F := Aside0.mk (setRow_heap w2 w.heap.size _ (pk (fun i => i) n n) _ _ H2.out)
  refine bodyPost_ret (results_list (rs := [.cell 2 57, .tmp 3]) rfl (by simp) (.cell w.heap.size 57 (pk (fun i => i) n n) (0, 0) _ rfl F.out Try.underlying57 rfl (by kernel_rfl) (.tmp .nil))) rfl ?_
  exact ⟨rfl, below_setRow B2.out (Nat.le_refl _) _⟩

set_option maxHeartbeats 1000000 in
set_option maxRecDepth 100000 in
theorem check_calls (w : World) (p : Nat → Nat) (n : Nat) (h1 : 1 ≤ n) (h2 : n ≤ 64) (hp : ∀ i, i < n → p i < n) :
    Calls Try.prog 92 #[.agg (pk p n n)] w fun e w' => e = .returned (.int .i64 0) ∧ Below w.heap.size w w' := by
  have HP := Aside0.mk hp
  clear hp
  have H0 := Aside0.mk (blk_new w (.cells (pk p n n) 57))
  have B0 := Aside0.mk (below_alloc (Below.refl w.heap.size w) (.cells (pk p n n) 57))
  go_enter Try.func92, Try.ntmps92
  go_wp2_with (first
    | (refine loadT_arm rfl _ rfl w.heap.size rfl (pk p n n) rfl H0.out ?_)
    | (go_at_call 66; refine (HTopen.calls _ p n h1 h2 HP.out).mono ?_; rintro e w1 ⟨rfl, hb1⟩; have B1 := Aside0.mk (below_then B0.out B0.out.size hb1); have L1 := Aside0.mk (show w.heap.size ≤ w1.heap.size from B1.out.size); have N1 := Aside0.mk (blk_new w1 (.cells (arr (fun _ => 0)) 103)); have B2 := Aside0.mk (below_alloc B1.out (.cells (arr (fun _ => 0)) 103)); clear hb1)
    | (refine store_arm rfl _ _ rfl w1.heap.size (fun i => if i < n then (p i : Int) else 0) rfl rfl (fun _ => 0) N1.out ?_))
  refine bodyPost_ret (results_tmp rfl _ _ _) rfl ?_
  exact ⟨rfl, below_setRow B2.out L1.out _⟩

set_option maxHeartbeats 2000000 in
set_option maxRecDepth 100000 in
theorem compose_calls (w : World) (p q : Nat → Nat) (n : Nat) (h1 : 1 ≤ n) (h2 : n ≤ 64) (hp : ∀ i, i < n → p i < n) (hq : ∀ i, i < n → q i < n) :
    Calls Try.prog 30 #[.agg (pk p n n), .agg (pk q n n)] w fun e w' => e = .returned (.tuple #[.agg (pk (fun i => q (p i)) n n), .int .i64 0]) ∧ Below w.heap.size w w' := by
  have HP := Aside0.mk hp
  have HQ := Aside0.mk hq
  clear hp hq
  have X0 := Aside0.mk (blk_alloc (blk_alloc (blk_new w (.cells (pk p n n) 57)) (.cells (pk q n n) 57)) (.cells z8 57))
  have Y0 : Aside0 ((((w.alloc (.cells (pk p n n) 57)).alloc (.cells (pk q n n) 57)).alloc (.cells z8 57)).heap[w.heap.size + 1]? = some (.cells (pk q n n) 57 (0, 0))) := by
    have := blk_alloc (blk_new (w.alloc (.cells (pk p n n) 57)) (.cells (pk q n n) 57)) (.cells z8 57)
    rw [show (w.alloc (.cells (pk p n n) 57)).heap.size = w.heap.size + 1 by show (w.heap.push _).size = _; simp] at this
    exact ⟨this⟩
  have Z0 : Aside0 ((((w.alloc (.cells (pk p n n) 57)).alloc (.cells (pk q n n) 57)).alloc (.cells z8 57)).heap[w.heap.size + 1 + 1]? = some (.cells z8 57 (0, 0))) := by
    have := blk_new ((w.alloc (.cells (pk p n n) 57)).alloc (.cells (pk q n n) 57)) (.cells z8 57)
    rw [show ((w.alloc (.cells (pk p n n) 57)).alloc (.cells (pk q n n) 57)).heap.size = w.heap.size + 1 + 1 by show ((w.heap.push _).push _).size = _; simp] at this
    exact ⟨this⟩
  have B0 := Aside0.mk (below_alloc (below_alloc (below_alloc (Below.refl w.heap.size w) (.cells (pk p n n) 57)) (.cells (pk q n n) 57)) (.cells z8 57))
  go_enter Try.func30, Try.ntmps30
  go_upto_region 1 with fail
  generalize ((w.alloc (.cells (pk p n n) 57)).alloc (.cells (pk q n n) 57)).alloc (.cells z8 57) = w0 at *
  go_upto_region 2 with (first
    | (refine loadT_arm rfl _ rfl w.heap.size rfl (pk p n n) rfl X0.out ?_)
    | (go_at_call 66; refine (HTopen.calls _ p n h1 h2 HP.out).mono ?_; rintro e w1 ⟨rfl, hb1⟩; have B1 := Aside0.mk (below_then B0.out B0.out.size hb1); have L1 := Aside0.mk (show w0.heap.size ≤ w1.heap.size from hb1.size); have X1 := Aside0.mk (blk_below X0.out hb1); have Y1 := Aside0.mk (blk_below Y0.out hb1); have Z1 := Aside0.mk (blk_below Z0.out hb1); have N1 : Aside0 ((w1.alloc (.cells z64 103)).heap[w1.heap.size]? = some (.cells (arr (fun _ => 0)) 103 (0, 0))) := ⟨blk_new w1 (.cells (arr (fun _ => 0)) 103)⟩; clear hb1)
    | (refine store_arm rfl _ _ rfl w1.heap.size (fun i => if i < n then (p i : Int) else 0) rfl rfl (fun _ => 0) N1.out ?_))
  have l1 := blk_lt X1.out
  have l2 := blk_lt Y1.out
  have l3 := blk_lt Z1.out
  have XA : Aside0 (((w1.alloc (.cells z64 103)).setRow w1.heap.size (arr (fun i => if i < n then (p i : Int) else 0))).heap[w.heap.size]? = some (.cells (pk p n n) 57 (0, 0))) := ⟨(setRow_other _ _ _ _ (by omega)).trans (blk_alloc X1.out _)⟩
  have YA : Aside0 (((w1.alloc (.cells z64 103)).setRow w1.heap.size (arr (fun i => if i < n then (p i : Int) else 0))).heap[w.heap.size + 1]? = some (.cells (pk q n n) 57 (0, 0))) := ⟨(setRow_other _ _ _ _ (by omega)).trans (blk_alloc Y1.out _)⟩
  have ZA : Aside0 (((w1.alloc (.cells z64 103)).setRow w1.heap.size (arr (fun i => if i < n then (p i : Int) else 0))).heap[w.heap.size + 1 + 1]? = some (.cells z8 57 (0, 0))) := ⟨(setRow_other _ _ _ _ (by omega)).trans (blk_alloc Z1.out _)⟩
  have NA : Aside0 (((w1.alloc (.cells z64 103)).setRow w1.heap.size (arr (fun i => if i < n then (p i : Int) else 0))).heap[w1.heap.size]? = some (.cells (arr (fun i => if i < n then (p i : Int) else 0)) 103 (0, 0))) := ⟨setRow_heap _ _ _ _ _ _ N1.out⟩
  have BA : Aside0 (Below w.heap.size w ((w1.alloc (.cells z64 103)).setRow w1.heap.size (arr (fun i => if i < n then (p i : Int) else 0)))) := ⟨below_setRow (below_alloc B1.out _) B1.out.size _⟩
  have N6 := Aside0.mk (show w.heap.size + 1 + 1 < w1.heap.size from l3)
  clear X1 Y1 Z1 N1 B1 L1 l1 l2 l3 X0 Y0 Z0 B0
  generalize (w1.alloc (.cells z64 103)).setRow w1.heap.size (arr (fun i => if i < n then (p i : Int) else 0)) = v1 at *
  generalize w1.heap.size = b6 at *
  go_upto_region 3 with (first
    | (refine loadT_arm rfl _ rfl (w.heap.size + 1) rfl (pk q n n) rfl YA.out ?_)
    | (go_at_call 66; refine (HTopen.calls _ q n h1 h2 HQ.out).mono ?_; rintro e w2 ⟨rfl, hb1⟩; have B1 := Aside0.mk (below_then BA.out BA.out.size hb1); have X1 := Aside0.mk (blk_below XA.out hb1); have Y1 := Aside0.mk (blk_below YA.out hb1); have Z1 := Aside0.mk (blk_below ZA.out hb1); have N1 := Aside0.mk (blk_below NA.out hb1); have M1 : Aside0 ((w2.alloc (.cells z64 103)).heap[w2.heap.size]? = some (.cells (arr (fun _ => 0)) 103 (0, 0))) := ⟨blk_new w2 (.cells (arr (fun _ => 0)) 103)⟩; clear hb1)
    | (refine store_arm rfl _ _ rfl w2.heap.size (fun i => if i < n then (q i : Int) else 0) rfl rfl (fun _ => 0) M1.out ?_))
  have l1 := blk_lt X1.out
  have l2 := blk_lt Y1.out
  have l3 := blk_lt Z1.out
  have l4 := blk_lt N1.out
  have X2 : Aside0 (((w2.alloc (.cells z64 103)).setRow w2.heap.size (arr (fun i => if i < n then (q i : Int) else 0))).heap[w.heap.size]? = some (.cells (pk p n n) 57 (0, 0))) := ⟨(setRow_other _ _ _ _ (by omega)).trans (blk_alloc X1.out _)⟩
  have Y2 : Aside0 (((w2.alloc (.cells z64 103)).setRow w2.heap.size (arr (fun i => if i < n then (q i : Int) else 0))).heap[w.heap.size + 1]? = some (.cells (pk q n n) 57 (0, 0))) := ⟨(setRow_other _ _ _ _ (by omega)).trans (blk_alloc Y1.out _)⟩
  have Z2 : Aside0 (((w2.alloc (.cells z64 103)).setRow w2.heap.size (arr (fun i => if i < n then (q i : Int) else 0))).heap[w.heap.size + 1 + 1]? = some (.cells z8 57 (0, 0))) := ⟨(setRow_other _ _ _ _ (by omega)).trans (blk_alloc Z1.out _)⟩
  have N2 : Aside0 (((w2.alloc (.cells z64 103)).setRow w2.heap.size (arr (fun i => if i < n then (q i : Int) else 0))).heap[b6]? = some (.cells (arr (fun i => if i < n then (p i : Int) else 0)) 103 (0, 0))) := ⟨(setRow_other _ _ _ _ (by omega)).trans (blk_alloc N1.out _)⟩
  have M2 : Aside0 (((w2.alloc (.cells z64 103)).setRow w2.heap.size (arr (fun i => if i < n then (q i : Int) else 0))).heap[w2.heap.size]? = some (.cells (arr (fun i => if i < n then (q i : Int) else 0)) 103 (0, 0))) := ⟨setRow_heap _ _ _ _ _ _ M1.out⟩
  have B2 : Aside0 (Below w.heap.size w ((w2.alloc (.cells z64 103)).setRow w2.heap.size (arr (fun i => if i < n then (q i : Int) else 0)))) := ⟨below_setRow (below_alloc B1.out _) B1.out.size _⟩
  have N8 := Aside0.mk (show w.heap.size + 1 + 1 < w2.heap.size from l3)
  clear X1 Y1 Z1 N1 M1 B1 l1 l2 l3 l4 XA YA ZA NA BA
  generalize (w2.alloc (.cells z64 103)).setRow w2.heap.size (arr (fun i => if i < n then (q i : Int) else 0)) = v2 at *
  generalize w2.heap.size = b8 at *
  have r1 : v2.cell? ⟨w.heap.size, 0, none⟩ = some (.int .i64 n) := (blk_cell X2.out 0).trans rfl
  have r2 : v2.cell? ⟨w.heap.size + 1, 0, none⟩ = some (.int .i64 n) := (blk_cell Y2.out 0).trans rfl
  go_upto_region 7 with fail
  clear r1 r2
  have X3 : Aside0 (v2.drew.heap[w.heap.size]? = some (.cells (pk p n n) 57 (0, 0))) := ⟨X2.out⟩
  have N3 : Aside0 (v2.drew.heap[b6]? = some (.cells (arr (fun i => if i < n then (p i : Int) else 0)) 103 (0, 0))) := ⟨N2.out⟩
  have M3 : Aside0 (v2.drew.heap[b8]? = some (.cells (arr (fun i => if i < n then (q i : Int) else 0)) 103 (0, 0))) := ⟨M2.out⟩
  --R7
  refine start_ (n := 10) (S := fun w' => w'.heap[w.heap.size]? = some (.cells (pk p n n) 57 (0, 0)) ∧ w'.heap[b6]? = some (.cells (arr (fun i => if i < n then (p i : Int) else 0)) 103 (0, 0)) ∧ w'.heap[b8]? = some (.cells (arr (fun i => if i < n then (q i : Int) else 0)) 103 (0, 0))) (ds := []) #[false, false, false, false, false, false, false, false, false, false] (by kernel_rfl) rfl rfl ⟨X3.out, N3.out, M3.out⟩ (fun hHeld => ?_)
  have T0 := Aside0.mk (below_drew1 B2.out)
  have R0 : Aside0 (v2.drew.heap[w.heap.size + 1 + 1]? = some (.cells z8 57 (0, 0))) := ⟨Z2.out⟩
  clear X2 Y2 Z2 N2 M2 B2
  generalize v2.drew = y0 at *
  refine pure_ (i := 0) (N := (some 35)) (v := ?_) (a' := ?_) #[true, false, false, false, false, false, false, false, false, false] rfl rfl (by kernel_rfl) (fun _ _ _ h => h) (Or.inl ⟨by rfl, ?_⟩) ?_ ?_
  rotate_left
  · intro w'
    go_simp
    with_reducible rfl
  rotate_left
  · simp only [Act.put, List.setIfInBounds_toArray, List.set_cons_zero, List.set_cons_succ, i64_w, i32_w]
    rfl
  refine pure_ (i := 2) (N := (some 37)) (v := ?_) (a' := ?_) #[true, false, true, false, false, false, false, false, false, false] rfl rfl (by kernel_rfl) (fun _ _ _ h => h) (Or.inl ⟨by rfl, ?_⟩) ?_ ?_
  rotate_left
  · intro w'
    go_simp
    with_reducible rfl
  rotate_left
  · simp only [Act.put, List.setIfInBounds_toArray, List.set_cons_zero, List.set_cons_succ, i64_w, i32_w]
    rfl
  refine take_ (i := 1) (N := (some 36)) (v := ?_) (a' := ?_) #[true, true, true, false, false, false, false, false, false, false] rfl rfl (by kernel_rfl) (fun _ _ _ h => h) (Or.inl ⟨by rfl, ?_⟩) hHeld ?_ ?_
  rotate_left
  · rintro w' ⟨s0, s1, s2⟩
    have s3 := (blk_cell s0 0).trans (show (pk p n n)[0]? = some (.int .i64 n) from rfl)
    go_simp
    with_reducible rfl
  rotate_left
  · simp only [Act.put, List.setIfInBounds_toArray, List.set_cons_zero, List.set_cons_succ, i64_w, i32_w]
    rfl
  refine take_ (i := 3) (N := (some 38)) (v := ?_) (a' := ?_) #[true, true, true, true, false, false, false, false, false, false] rfl rfl (by kernel_rfl) (fun _ _ _ h => h) (Or.inl ⟨by rfl, ?_⟩) hHeld ?_ ?_
  rotate_left
  · rintro w' ⟨s0, s1, s2⟩
    have s3 := (blk_cell s0 0).trans (show (pk p n n)[0]? = some (.int .i64 n) from rfl)
    go_simp
    with_reducible rfl
  rotate_left
  · simp only [Act.put, List.setIfInBounds_toArray, List.set_cons_zero, List.set_cons_succ, i64_w, i32_w]
    rfl
  refine take_ (i := 4) (N := (some 39)) (v := .agg (arr (fun i => if i < n then (p i : Int) else 0))) (a' := ?_) #[true, true, true, true, true, false, false, false, false, false] rfl rfl (by kernel_rfl) (fun _ _ _ h => h) (Or.inl ⟨by rfl, ?_⟩) hHeld ?_ ?_
  · rintro w' ⟨s0, s1, s2⟩
    exact exec_load64 (op := _) (a := _) (x := .tmp 6) rfl rfl s1
  rotate_left
  · simp only [Act.put, List.setIfInBounds_toArray, List.set_cons_zero, List.set_cons_succ, i64_w, i32_w]
    rfl
  refine take_ (i := 5) (N := (some 40)) (v := .agg (arr (fun i => if i < n then (q i : Int) else 0))) (a' := ?_) #[true, true, true, true, true, true, false, false, false, false] rfl rfl (by kernel_rfl) (fun _ _ _ h => h) (Or.inl ⟨by rfl, ?_⟩) hHeld ?_ ?_
  · rintro w' ⟨s0, s1, s2⟩
    exact exec_load64 (op := _) (a := _) (x := .tmp 8) rfl rfl s2
  rotate_left
  · simp only [Act.put, List.setIfInBounds_toArray, List.set_cons_zero, List.set_cons_succ, i64_w, i32_w]
    rfl
  refine one_ (i := 6) (N := (some 41)) #[true, true, true, true, true, true, true, false, false, false] rfl rfl (by kernel_rfl) (by decide) (fun K hK => ?_)
  refine call_ 68 #[.int .i64 n, .agg (arr (fun i => if i < n then (p i : Int) else 0)), .agg (arr (fun i => if i < n then (q i : Int) else 0))] (by rfl) rfl (by go_simp) ?_
  refine (HArr.behind_calls y0 n h2 (fun i => if i < n then (p i : Int) else 0) (fun i => if i < n then (q i : Int) else 0) p (fun i hi => by rw [if_pos hi]) (fun i hi => by have := HP.out i hi; omega)).mono ?_
  rintro e y1 ⟨rfl, hb⟩
  refine ⟨_, rfl, ?_⟩
  have T1 := Aside0.mk (below_then T0.out T0.out.size hb)
  have G0 := Aside0.mk (blk_below hHeld.1 hb)
  have G1 := Aside0.mk (blk_below hHeld.2.1 hb)
  have G2 := Aside0.mk (blk_below hHeld.2.2 hb)
  have R1 := Aside0.mk (blk_below R0.out hb)
  clear hb
  refine hK.out _ _ (⟨G0.out, G1.out, G2.out⟩) (fun hHeld => ?_)
  clear hK K
  refine norm_ (a' := ?_) ?_ ?_
  rotate_left
  · show Act.put _ (some 41) _ = _
    simp only [Act.put, List.setIfInBounds_toArray, List.set_cons_zero, List.set_cons_succ, i64_w, i32_w]
    rfl
  refine one_ (i := 7) (N := (some 42)) #[true, true, true, true, true, true, true, true, false, false] rfl rfl (by kernel_rfl) (by decide) (fun K hK => ?_)
  refine call_ 67 #[.int .i64 n, .agg (arr (fun i => if i < n then (fun i : Nat => if i < n then (q i : Int) else 0) (p i) else (if i < n then (p i : Int) else 0)))] (by rfl) rfl (by go_simp) ?_
  refine (HPack.calls y1 _ (fun i => q (p i)) n h1 h2 (fun i hi => by simp [hi, HP.out i hi]) (fun i hi => by have := HQ.out _ (HP.out i hi); omega)).mono ?_
  rintro e y2 ⟨rfl, hb⟩
  refine ⟨_, rfl, ?_⟩
  have T2 := Aside0.mk (below_then T1.out T1.out.size hb)
  have G3 := Aside0.mk (blk_below hHeld.1 hb)
  have G4 := Aside0.mk (blk_below hHeld.2.1 hb)
  have G5 := Aside0.mk (blk_below hHeld.2.2 hb)
  have R2 := Aside0.mk (blk_below R1.out hb)
  clear hb
  refine hK.out _ _ (⟨G3.out, G4.out, G5.out⟩) (fun hHeld => ?_)
  clear hK K
  refine norm_ (a' := ?_) ?_ ?_
  rotate_left
  · show Act.put _ (some 42) _ = _
    simp only [Act.put, List.setIfInBounds_toArray, List.set_cons_zero, List.set_cons_succ, i64_w, i32_w]
    rfl
  refine one_ (i := 8) (N := none) #[true, true, true, true, true, true, true, true, true, false] rfl rfl (by kernel_rfl) (by decide) (fun K hK => ?_)
  refine skip_ (w1 := y2.setRow (w.heap.size + 1 + 1) (pk (fun i => q (p i)) n n)) (by rfl) rfl (exec_storeT (op := _) (a := _) (x := .tmp 4) (y := .tmp 42) rfl rfl rfl rfl rfl (pk_one _ _ _) R2.out) ?_
  have T3 := Aside0.mk (below_setRow T2.out (show w.heap.size ≤ w.heap.size + 1 + 1 by omega) (pk (fun i => q (p i)) n n))
  have F1 := Aside0.mk (setRow_heap y2 (w.heap.size + 1 + 1) _ (pk (fun i => q (p i)) n n) _ _ R2.out)
  refine hK.out _ _ (⟨(setRow_other y2 _ _ _ (by omega)).trans hHeld.1, (setRow_other y2 _ _ _ (by have := N6.out; omega)).trans hHeld.2.1, (setRow_other y2 _ _ _ (by have := N8.out; omega)).trans hHeld.2.2⟩) (fun hHeld => ?_)
  clear hK K
  refine pure_ (i := 9) (N := (some 5)) (v := ?_) (a' := ?_) #[true, true, true, true, true, true, true, true, true, true] rfl rfl (by kernel_rfl) (fun _ _ _ h => h) (Or.inl ⟨by rfl, ?_⟩) ?_ ?_
  rotate_left
  · intro w'
    go_simp
    with_reducible rfl
  rotate_left
  · simp only [Act.put, List.setIfInBounds_toArray, List.set_cons_zero, List.set_cons_succ, i64_w, i32_w]
    rfl
  refine done_ (by kernel_rfl) ?_
  go_wp2_with fail
  refine bodyPost_ret (results_list (rs := [.cell 4 57, .tmp 5]) rfl (by simp) (.cell (w.heap.size + 1 + 1) 57 (pk (fun i => q (p i)) n n) (0, 0) _ rfl F1.out Try.underlying57 rfl (by kernel_rfl) (.tmp .nil))) rfl ?_
  exact ⟨rfl, T3.out⟩
  --ENDR7
end Go.Proofs.Ytcnnlddjnmkioaa.HTrans
