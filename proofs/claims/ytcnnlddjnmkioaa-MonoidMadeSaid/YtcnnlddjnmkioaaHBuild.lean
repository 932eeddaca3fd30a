/- monoid.Build: contract. -/
import Derived.Test.YtcnnlddjnmkioaaHMon
import Derived.Test.YtcnnlddjnmkioaaHOfWord
set_option linter.unusedVariables false
set_option linter.unusedSimpArgs false
namespace Go.Proofs.Ytcnnlddjnmkioaa.HBuild
open Go Go.RowKit Go.Proofs.Ytcnnlddjnmkioaa.MA Go.Proofs.Ytcnnlddjnmkioaa.HReads Go.Proofs.Ytcnnlddjnmkioaa.HArr Go.Proofs.Ytcnnlddjnmkioaa.HPack Go.Proofs.Ytcnnlddjnmkioaa.HTable Go.Proofs.Ytcnnlddjnmkioaa.HTrans Go.Proofs.Ytcnnlddjnmkioaa.HPut Go.Proofs.Ytcnnlddjnmkioaa.HRows Go.Proofs.Ytcnnlddjnmkioaa.HSt Go.Proofs.Ytcnnlddjnmkioaa.HMon Go.Proofs.YtcnnlddjnmkioaaW.PrintWords Go.Proofs.YtcnnlddjnmkioaaW.PrintLast Go.Proofs.YtcnnlddjnmkioaaW.PrintMore

set_option maxRecDepth 100000 in
theorem exec_buildT {op : Oper} {a : Act} {w : World} (x : Operand) (ho : op.op = .buildSlice 81 1 #[(0, x)]) (p : Nat → Nat) (n : Nat) (hx : a.eval x = .agg (pk p n n)) :
    (execOp a.eval op).run Try.prog w = .ok (.value (.slice (some ⟨w.heap.size, 0, none⟩) 1 1)) (w.alloc (.cells (pk p n n).toList.toArray 57)) := by
  generalize a.eval = ev at *
  rw [pk_open] at hx ⊢
  unfold execOp
  rw [ho]
  go_simp
theorem buildT_arm {ops : Array Oper} {rest : List Oper} {op : Oper} {a : Act} {w : World} {Q : Exit → Act → World → Prop} (hgd : op.guard = none) (x : Operand) (ho : op.op = .buildSlice 81 1 #[(0, x)]) (p : Nat → Nat) (n : Nat) (hx : a.eval x = .agg (pk p n n))
    (h : wpList Try.prog ops Q rest (a.put op.dst (.slice (some ⟨w.heap.size, 0, none⟩) 1 1)) (w.alloc (.cells (pk p n n).toList.toArray 57))) : wpList Try.prog ops Q (op :: rest) a w :=
  wpList_plain hgd fun K hK => by
    unfold Oper.wp
    rw [exec_buildT x ho p n hx]
    exact hK _ _ h
theorem enc_chr (l : Nat) (h : l < 8) : Utf8.encode (97 + (l : Int)) = chrB l := by
  rcases (show l = 0 ∨ l = 1 ∨ l = 2 ∨ l = 3 ∨ l = 4 ∨ l = 5 ∨ l = 6 ∨ l = 7 by omega) with rfl | rfl | rfl | rfl | rfl | rfl | rfl | rfl <;> rfl
theorem pl0 (q : List Nat) : pList [] q = [q] := by simp [pList]
/-- An automaton that may be built on. -/
structure Fit (k : Nat) (nx : List Int) (ac : List Bool) : Prop where
  k1 : 1 ≤ k
  k8 : k ≤ 8
  n1 : 1 ≤ ac.length
  n64 : ac.length ≤ 64
  len : nx.length = ac.length * k
  chk : ∃ K, auto_Check.f K k nx ac = some 0
  run : ∀ i : Nat, i < ac.length → ∀ l : Nat, l < k → ∃ K, auto_Run.f K k nx ac (i : Int) (chrB l) = some (((im (lt nx k ac.length l) i : Nat) : Int), 0)
  good : ∀ l : Nat, l < k → HTable.Good ac.length (lt nx k ac.length l)
theorem infoS : (Try.prog.info? 9).map (fun i => (i.zero, i.size, i.bytes)) = some (some (.string ⟨#[]⟩), 1, 16) := by kernel_rfl
theorem sizeLS : (Try.prog.info? 47).map (·.size) = some 1 := by kernel_rfl
theorem str_cell {W : World} {base g N cap : Nat} {ok : Nat → Prop} {xs : List ByteArray} (h : Kd.R Kd.string 9 W base ok (.slice (some ⟨g, 0, none⟩) N cap) xs) (i : Nat) (hi : i < xs.length) : W.cell? ⟨g, i, none⟩ = some (.string (xs.getD i ⟨#[]⟩)) := by
  have hN := (Kd.R_reads' h).1
  obtain ⟨c, hl, hM, hc⟩ := Kd.R_get h ⟨#[]⟩ (i : Int) (by omega) (by omega)
  have hM' : c = [.string (xs.getD (i : Int).toNat ⟨#[]⟩)] := hM
  subst hM'
  have := hc 0 _ rfl
  rw [Addr.add_mid] at this
  simpa [show Kd.string.sz = 1 from rfl] using this
set_option maxHeartbeats 8000000 in
set_option maxRecDepth 100000 in
theorem good_calls (w : World) (k : Nat) (A1 : Option Addr) (c1 : Nat) (nx : List Int) (A2 : Option Addr) (c2 : Nat) (ac : List Bool) (r : Option B)
    (hn : Kd.C (Kd.int .i64) w A1 nx.length nx) (hc1 : nx.length ≤ c1) (ha : Kd.C Kd.bool w A2 ac.length ac) (hc2 : ac.length ≤ c2) (hF : Fit k nx ac) (hr : built ac.length k (letters nx k ac.length) = r) :
    Calls Try.prog 49 #[.agg #[.int .i64 k, .slice A1 nx.length c1, .slice A2 ac.length c2]] w fun e w' => Below w.heap.size w w' ∧
      ((r = none ∧ e = .returned (.tuple #[.pointer none, .int .i64 140])) ∨
       ∃ T Ws Rs g, r = some (T, Ws, Rs) ∧ e = .returned (.tuple #[.pointer (some ⟨g, 0, none⟩), .int .i64 0]) ∧ Mon w' w.heap.size g k ac.length nx ac T Ws Rs (lefts ac.length k (letters nx k ac.length) T (T.length * k))) := by
  have HN := Aside0.mk hn
  have HA := Aside0.mk ha
  have HF := Aside0.mk hF
  have HR := Aside0.mk hr
  have k1 := hF.k1
  have k8 := hF.k8
  have n1 := hF.n1
  have n64 := hF.n64
  have hlen := hF.len
  have hl1 : nx.length ≤ 4096 := by rw [hlen]; exact Nat.le_trans (Nat.mul_le_mul n64 k8) (by decide)
  obtain ⟨K0, hC0⟩ := hF.chk
  have HC := Aside0.mk hC0
  clear hn ha hF hr hC0 hlen
  have g1 : decide (64 < (ac.length : Int)) = false := decide_eq_false (by omega)
  have B0 := Aside0.mk (below_alloc (Below.refl w.heap.size w) (.cells #[.int .i64 k, .slice A1 nx.length c1, .slice A2 ac.length c2] 25))
  have X0 := Aside0.mk (blk_new w (.cells #[.int .i64 k, .slice A1 nx.length c1, .slice A2 ac.length c2] 25))
  go_enter Try.func49, Try.ntmps49
  go_upto_region 1 with fail
  generalize w.alloc (.cells #[.int .i64 k, .slice A1 nx.length c1, .slice A2 ac.length c2] 25) = w0 at *
  have x0 : w0.cell? ⟨w.heap.size, 0, none⟩ = some (.int .i64 k) := (blk_cell X0.out 0).trans rfl
  have x1 : w0.cell? ⟨w.heap.size, 1, none⟩ = some (.slice A1 nx.length c1) := (blk_cell X0.out 1).trans rfl
  have x2 : w0.cell? ⟨w.heap.size, 2, none⟩ = some (.slice A2 ac.length c2) := (blk_cell X0.out 2).trans rfl
  go_upto_region 2 with (go_at_call 73; refine (auto_Check.calls K0 k A1 c1 nx A2 c2 ac 0 w0 (Kd.C_below HN.out B0.out) hc1 (Kd.C_below HA.out B0.out) hc2 HC.out).mono ?_; rintro e w1 ⟨rfl, hb1⟩)
  have X1 := Aside0.mk (blk_below X0.out hb1)
  have B1 := Aside0.mk (below_then B0.out B0.out.size hb1)
  clear hb1 x0 x1 x2 X0 B0
  have x0 : w1.cell? ⟨w.heap.size, 0, none⟩ = some (.int .i64 k) := (blk_cell X1.out 0).trans rfl
  have x1 : w1.cell? ⟨w.heap.size, 1, none⟩ = some (.slice A1 nx.length c1) := (blk_cell X1.out 1).trans rfl
  have x2 : w1.cell? ⟨w.heap.size, 2, none⟩ = some (.slice A2 ac.length c2) := (blk_cell X1.out 2).trans rfl
  go_upto_region 4 with fail
  --P4
  refine start_ (n := 7) (S := fun w' => w'.heap[w.heap.size]? = some (.cells #[.int .i64 k, .slice A1 nx.length c1, .slice A2 ac.length c2] 25 (0, 0))) (ds := []) #[false, false, false, false, false, false, false] (by kernel_rfl) rfl rfl X1.out (fun hHeld => ?_)
  have X2 : Aside0 (w1.drew.heap[w.heap.size]? = _) := ⟨X1.out⟩
  have B2 := Aside0.mk (below_drew1 B1.out)
  clear X1 B1 x0 x1 x2
  generalize w1.drew = w2 at *
  refine pure_ (i := 0) (N := (some 36)) (v := ?_) (a' := ?_) #[true, false, false, false, false, false, false] rfl rfl (by kernel_rfl) (fun _ _ _ h => h) (Or.inl ⟨by rfl, ?_⟩) ?_ ?_
  rotate_left
  · intro w'
    go_simp
    with_reducible rfl
  rotate_left
  · simp only [Act.put, List.setIfInBounds_toArray, List.set_cons_zero, List.set_cons_succ, i64_w, i32_w]
    rfl
  refine pure_ (i := 3) (N := (some 39)) (v := ?_) (a' := ?_) #[true, false, false, true, false, false, false] rfl rfl (by kernel_rfl) (fun _ _ _ h => h) (Or.inl ⟨by rfl, ?_⟩) ?_ ?_
  rotate_left
  · intro w'
    go_simp
    with_reducible rfl
  rotate_left
  · simp only [Act.put, List.setIfInBounds_toArray, List.set_cons_zero, List.set_cons_succ, i64_w, i32_w]
    rfl
  refine take_ (i := 1) (N := (some 37)) (v := ?_) (a' := ?_) #[true, true, false, true, false, false, false] rfl rfl (by kernel_rfl) (fun _ _ _ h => h) (Or.inl ⟨by rfl, ?_⟩) hHeld ?_ ?_
  rotate_left
  · rintro w' s0
    have s3 := (blk_cell s0 2).trans rfl
    go_simp
    with_reducible rfl
  rotate_left
  · simp only [Act.put, List.setIfInBounds_toArray, List.set_cons_zero, List.set_cons_succ, i64_w, i32_w]
    rfl
  refine pure_ (i := 2) (N := (some 38)) (v := ?_) (a' := ?_) #[true, true, true, true, false, false, false] rfl rfl (by kernel_rfl) (fun _ _ _ h => h) (Or.inl ⟨by rfl, ?_⟩) ?_ ?_
  rotate_left
  · intro w'
    go_simp
    with_reducible rfl
  rotate_left
  · simp only [Act.put, List.setIfInBounds_toArray, List.set_cons_zero, List.set_cons_succ, i64_w, i32_w]
    rfl
  refine pure_ (i := 5) (N := (some 5)) (v := ?_) (a' := ?_) #[true, true, true, true, false, true, false] rfl rfl (by kernel_rfl) (fun _ _ _ h => h) (Or.inl ⟨by rfl, ?_⟩) ?_ ?_
  rotate_left
  · intro w'
    go_simp
    with_reducible rfl
  rotate_left
  · simp only [Act.put, List.setIfInBounds_toArray, List.set_cons_zero, List.set_cons_succ, i64_w, i32_w]
    rfl
  refine take_ (i := 4) (N := (some 40)) (v := ?_) (a' := ?_) #[true, true, true, true, true, true, false] rfl rfl (by kernel_rfl) (fun _ _ _ h => h) (Or.inl ⟨by rfl, ?_⟩) hHeld ?_ ?_
  rotate_left
  · rintro w' s0
    have s3 := (blk_cell s0 0).trans rfl
    go_simp
    with_reducible rfl
  rotate_left
  · simp only [Act.put, List.setIfInBounds_toArray, List.set_cons_zero, List.set_cons_succ, i64_w, i32_w]
    rfl
  refine pure_ (i := 6) (N := (some 6)) (v := ?_) (a' := ?_) #[true, true, true, true, true, true, true] rfl rfl (by kernel_rfl) (fun _ _ _ h => h) (Or.inl ⟨by rfl, ?_⟩) ?_ ?_
  rotate_left
  · intro w'
    go_simp
    with_reducible rfl
  rotate_left
  · simp only [Act.put, List.setIfInBounds_toArray, List.set_cons_zero, List.set_cons_succ, i64_w, i32_w]
    rfl
  refine done_ (by kernel_rfl) ?_
  --ENDP4
  have x0 : w2.cell? ⟨w.heap.size, 0, none⟩ = some (.int .i64 k) := (blk_cell X2.out 0).trans rfl
  have x1 : w2.cell? ⟨w.heap.size, 1, none⟩ = some (.slice A1 nx.length c1) := (blk_cell X2.out 1).trans rfl
  have x2 : w2.cell? ⟨w.heap.size, 2, none⟩ = some (.slice A2 ac.length c2) := (blk_cell X2.out 2).trans rfl
  go_upto_region 8 with (go_at_call 72; refine (clone_calls w2 k A1 c1 nx A2 c2 ac (Kd.C_below HN.out B2.out) hc1 (Kd.C_below HA.out B2.out) hc2 hl1 (by omega)).mono ?_; rintro e w3 ⟨A3, c3, A4, c4, rfl, hr3, hr4, hb3⟩)
  have N3 := Aside0.mk (blk_new w3 (.cells #[.int .i64 k, .slice A3 nx.length c3, .slice A4 ac.length c4, .bool true, .slice none 0 0, .slice none 0 0, .slice none 0 0, .slice none 0 0] 84))
  have X3 := Aside0.mk (blk_alloc (blk_below X2.out hb3) (.cells #[.int .i64 k, .slice A3 nx.length c3, .slice A4 ac.length c4, .bool true, .slice none 0 0, .slice none 0 0, .slice none 0 0, .slice none 0 0] 84))
  have B3 := Aside0.mk (below_alloc (below_then B2.out B2.out.size hb3) (.cells #[.int .i64 k, .slice A3 nx.length c3, .slice A4 ac.length c4, .bool true, .slice none 0 0, .slice none 0 0, .slice none 0 0, .slice none 0 0] 84))
  have G3 := Aside0.mk (show w.heap.size ≤ w3.heap.size from Nat.le_trans B2.out.size hb3.size)
  have R3 := Aside0.mk (Kd.R_alloc (Kd.R_lower hr3 B2.out.size) (.cells #[.int .i64 k, .slice A3 nx.length c3, .slice A4 ac.length c4, .bool true, .slice none 0 0, .slice none 0 0, .slice none 0 0, .slice none 0 0] 84))
  have R4 := Aside0.mk (Kd.R_alloc (Kd.R_lower hr4 B2.out.size) (.cells #[.int .i64 k, .slice A3 nx.length c3, .slice A4 ac.length c4, .bool true, .slice none 0 0, .slice none 0 0, .slice none 0 0, .slice none 0 0] 84))
  clear hb3 hr3 hr4 x0 x1 x2 X2 B2
  generalize w3.alloc (.cells #[.int .i64 k, .slice A3 nx.length c3, .slice A4 ac.length c4, .bool true, .slice none 0 0, .slice none 0 0, .slice none 0 0, .slice none 0 0] 84) = w4 at *
  generalize w3.heap.size = gm at *
  go_upto_region 9 with (go_at_call 75; refine (new_calls w4 ac.length n1 n64).mono ?_; rintro e w5 ⟨bt, bm, rfl, ht, hb5⟩)
  have S5 := Aside0.mk (st_init (below_then B3.out B3.out.size hb5) G3.out (blk_below X3.out hb5) (blk_below N3.out hb5) (tab_lower ht B3.out.size) (Kd.R_below R3.out hb5) (Kd.R_below R4.out hb5))
  clear ht hb5 N3 X3 B3 G3 R3 R4
  go_upto_region 10 with (first
    | (go_at_call 76; refine (identity_calls w5 ac.length n1 n64).mono ?_; rintro e w6 ⟨rfl, hb6⟩; rw [HMon.pk_id]; have Z6 := Aside0.mk (blk_new w6 (.cells z8 57)))
    | (refine storeT_arm rfl _ _ rfl w6.heap.size (pk (im (List.range ac.length)) ac.length ac.length) rfl rfl z8 rfl rfl (pk_one _ _ _) Z6.out ?_))
  have Z7 := Aside0.mk (setRow_heap (w6.alloc (.cells z8 57)) w6.heap.size _ (pk (im (List.range ac.length)) ac.length ac.length) _ _ Z6.out)
  have S7 := Aside0.mk (S5.out.step (below_setRow (below_alloc hb6 (.cells z8 57)) hb6.size (pk (im (List.range ac.length)) ac.length ac.length)))
  have L7 := Aside0.mk (show w.heap.size ≤ w6.heap.size from Nat.le_trans S5.out.below.size hb6.size)
  clear Z6 S5 hb6
  generalize (w6.alloc (.cells z8 57)).setRow w6.heap.size (pk (im (List.range ac.length)) ac.length ac.length) = w7 at *
  generalize w6.heap.size = b1 at *
  go_upto_region 11 with (first
    | (refine loadT_arm rfl _ rfl b1 rfl (pk (im (List.range ac.length)) ac.length ac.length) rfl Z7.out ?_)
    | (go_at_call 77; refine (HPut.calls w7 w.heap.size bt bm ac.length (.slice none 0 0) [] (List.range ac.length) n1 n64 S7.out.tab (good_id _) (by simp) S7.out.below.size).mono ?_; rintro e w8 ⟨v8, rfl, ht8, hk8, hat8, hb8⟩))
  rw [pl0] at ht8
  have S8 := Aside0.mk (S7.out.put ht8 hk8 hat8 hb8)
  have Z8 := Aside0.mk (S7.out.far hk8 Z7.out (by decide) (by simp [Value.ownBlock]))
  clear ht8 hk8 hat8 hb8 S7 Z7
  have S9 := Aside0.mk (S8.out.addT (y := .slice (some ⟨w8.heap.size, 0, none⟩) 1 1) (ys := [List.range ac.length]) (row_one (kT_mkM _ _ _ _ _) (blk_new w8 (.cells (pk (im (List.range ac.length)) ac.length ac.length).toList.toArray 57)) S8.out.below.size) (below_alloc S8.out.below _) (World.grownBy_alloc w8 _ none) (.inr ⟨_, rfl, Nat.le_refl _⟩))
  have S10 := Aside0.mk (S9.out.addW (W' := (w8.alloc (.cells (pk (im (List.range ac.length)) ac.length ac.length).toList.toArray 57)).alloc (.cells #[.string ⟨#[]⟩] 9)) (y := .slice (some ⟨w8.heap.size + 1, 0, none⟩) 1 1) (ys := [⟨#[]⟩]) (row_one (cs := [.string ⟨#[]⟩]) rfl (by have := blk_new (w8.alloc (.cells (pk (im (List.range ac.length)) ac.length ac.length).toList.toArray 57)) (.cells #[.string ⟨#[]⟩] 9); rw [show (w8.alloc (.cells (pk (im (List.range ac.length)) ac.length ac.length).toList.toArray 57)).heap.size = w8.heap.size + 1 by show (w8.heap.push _).size = _; simp] at this; exact this) (by have := S8.out.below.size; omega)) (below_alloc S9.out.below _) (World.grownBy_alloc _ _ none) (.inr ⟨_, rfl, by show (w8.heap.push _).size ≤ _; simp⟩))
  have S11 := Aside0.mk ((S10.out.setT (.slice (some ⟨w8.heap.size, 0, none⟩) 1 1)).setW (.slice (some ⟨w8.heap.size + 1, 0, none⟩) 1 1))
  have y4 : ((w8.alloc (.cells (pk (im (List.range ac.length)) ac.length ac.length).toList.toArray 57)).alloc (.cells #[.string ⟨#[]⟩] 9)).cell? ⟨gm, 4, none⟩ = some (.slice none 0 0) := (blk_cell S10.out.mon 4).trans rfl
  have y5 : ((w8.alloc (.cells (pk (im (List.range ac.length)) ac.length ac.length).toList.toArray 57)).alloc (.cells #[.string ⟨#[]⟩] 9)).cell? ⟨gm, 5, none⟩ = some (.slice none 0 0) := (blk_cell S10.out.mon 5).trans rfl
  have z4 := blk_frozen S10.out.mon 4
  have z5 := blk_frozen S10.out.mon 5
  have S12 : Aside0 (St w ((((w8.alloc (.cells (pk (im (List.range ac.length)) ac.length ac.length) 57)).alloc (.cells #[.string ⟨#[]⟩] 9)).setCell ⟨gm, 4, none⟩ (.slice (some ⟨w8.heap.size, 0, none⟩) 1 1)).setCell ⟨gm, 5, none⟩ (.slice (some ⟨w8.heap.size + 1, 0, none⟩) 1 1)) w.heap.size gm bt bm k ac.length A1 c1 nx A2 c2 ac (.slice A3 nx.length c3) (.slice A4 ac.length c4) v8 (.slice (some ⟨w8.heap.size, 0, none⟩) 1 1) (.slice (some ⟨w8.heap.size + 1, 0, none⟩) 1 1) (.slice none 0 0) (.slice none 0 0) (.slice none 0 0) (.slice none 0 0) (.slice (some ⟨w8.heap.size, 0, none⟩) 1 1) (.slice (some ⟨w8.heap.size + 1, 0, none⟩) 1 1) (.slice none 0 0) 0 0 [List.range ac.length] [List.range ac.length] [] [⟨#[]⟩] [] []) := ⟨S11.out⟩
  clear S8 S9 S10 S11
  go_upto_region 12 with (first
    | (refine loadT_arm rfl _ rfl b1 rfl (pk (im (List.range ac.length)) ac.length ac.length) rfl Z8.out ?_)
    | (refine buildT_arm rfl _ rfl (im (List.range ac.length)) ac.length rfl ?_))
  clear y4 y5 z4 z5 Z8
  generalize ((((w8.alloc (.cells (pk (im (List.range ac.length)) ac.length ac.length) 57)).alloc (.cells #[.string ⟨#[]⟩] 9)).setCell ⟨gm, 4, none⟩ (.slice (some ⟨w8.heap.size, 0, none⟩) 1 1)).setCell ⟨gm, 5, none⟩ (.slice (some ⟨w8.heap.size + 1, 0, none⟩) 1 1)) = w12 at *
  generalize w8.heap.size = b8 at *
  go_wp2_with fail
  go_loopw [12, 70] (fun v12 v70 wr => ∃ l : Nat, v70 = .int .i64 l ∧ l ≤ k ∧ Aside0 (St w wr w.heap.size gm bt bm k ac.length A1 c1 nx A2 c2 ac (.slice A3 nx.length c3) (.slice A4 ac.length c4) v8 (.slice (some ⟨b8, 0, none⟩) 1 1) (.slice (some ⟨b8 + 1, 0, none⟩) 1 1) v12 (.slice none 0 0) (.slice none 0 0) (.slice none 0 0) (.slice (some ⟨b8, 0, none⟩) 1 1) (.slice (some ⟨b8 + 1, 0, none⟩) 1 1) (.slice none 0 0) 0 0 [List.range ac.length] [List.range ac.length] ((List.range l).map (lt nx k ac.length)) [⟨#[]⟩] [] [])) (fun _ v70 _ => k - (intOf v70).toNat)
  case atStart => exact ⟨0, rfl, Nat.zero_le _, S12⟩
  case round =>
    obtain ⟨l, rfl, hl, H⟩ := hrel
    clear S12
    by_cases hlt : l < k
    --DONE1
    · have x0 : wr.cell? ⟨w.heap.size, 0, none⟩ = some (.int .i64 k) := (blk_cell H.out.box 0).trans rfl
      have x1 : wr.cell? ⟨w.heap.size, 1, none⟩ = some (.slice A1 nx.length c1) := (blk_cell H.out.box 1).trans rfl
      have x2 : wr.cell? ⟨w.heap.size, 2, none⟩ = some (.slice A2 ac.length c2) := (blk_cell H.out.box 2).trans rfl
      obtain ⟨A12, c12, hv⟩ := Kd.R_slice H.out.lts
      rw [List.length_map, List.length_map, List.length_range] at hv
      subst hv
      go_upto_region 17 with (first
        | (go_at_call 78; rw [enc_chr l (by omega)]; refine (HOfWord.calls wr k A1 c1 nx A2 c2 ac (chrB l) (im (lt nx k ac.length l)) (Kd.C_below HN.out H.out.below) hc1 (Kd.C_below HA.out H.out.below) hc2 n1 n64 HF.out.chk (fun i hi => HF.out.run i hi l hlt) (fun i hi => (HF.out.good l hlt).im i hi)).mono ?_; rintro e w13 ⟨rfl, hb13⟩; have Z13 := Aside0.mk (blk_new w13 (.cells z8 57)))
        | (refine storeT_arm rfl _ _ rfl w13.heap.size (pk (im (lt nx k ac.length l)) ac.length ac.length) rfl rfl z8 rfl rfl (pk_one _ _ _) Z13.out ?_))
      have Z14 := Aside0.mk (setRow_heap (w13.alloc (.cells z8 57)) w13.heap.size _ (pk (im (lt nx k ac.length l)) ac.length ac.length) _ _ Z13.out)
      have S14 := Aside0.mk (H.out.step (below_setRow (below_alloc hb13 (.cells z8 57)) hb13.size (pk (im (lt nx k ac.length l)) ac.length ac.length)))
      clear Z13 H hb13 x0 x1 x2
      generalize (w13.alloc (.cells z8 57)).setRow w13.heap.size (pk (im (lt nx k ac.length l)) ac.length ac.length) = w14 at *
      generalize w13.heap.size = b2 at *
      have hlen : (((List.range l).map (lt nx k ac.length)).map (tup ac.length)).length = l := by simp
      go_wp2_with (first
        | (refine loadT_arm rfl _ rfl b2 rfl (pk (im (lt nx k ac.length l)) ac.length ac.length) rfl Z14.out ?_)
        | (refine buildT_arm rfl _ rfl (im (lt nx k ac.length l)) ac.length rfl ?_)
        | ((with_reducible refine gate_builtin (b := .append) (xs := #[.tmp 82, .tmp 84]) rfl ?_); at_builtin; refine Kd.R_append kT (w0 := w) w.heap.size rfl (.tmp 82) (.tmp 84) 81 57 zeroT 64 rfl Try.underlying81 infoT rfl (by decide) (by omega) (.slice A12 l c12) (((List.range l).map (lt nx k ac.length)).map (tup ac.length)) (tup ac.length (lt nx k ac.length l)) (pk (im (lt nx k ac.length l)) ac.length ac.length).toList (fun _ => True) (fun _ => False) rfl rfl (kT_mkM _ _ _ _ _) (fun _ hk => hk.elim) (fun _ _ => trivial) S14.out.lts S14.out.below S14.out.below.size (by rw [hlen]; omega) ?_; intro v15 w15 ho15 hb15 hg15 hat15))
      refine ⟨⟨l + 1, by go_num, by omega, ⟨S14.out.addL (y := v15) (ys := (List.range (l + 1)).map (lt nx k ac.length)) (by rw [List.range_succ, List.map_append, List.map_append]; exact ho15) hb15 hg15 hat15⟩⟩, by simp [intOf]; omega⟩
    --ENDDONE1
    · have hx : k = l := by omega
      subst hx
      obtain ⟨A12, c12, hv⟩ := Kd.R_slice H.out.lts
      rw [List.length_map, List.length_map, List.length_range] at hv
      subst hv
      obtain ⟨gL, hgL⟩ := row_some H.out.lts (by rw [List.length_map, List.length_map, List.length_range]; omega)
      subst hgL
      go_wp2_with fail
      go_loopw [16, 17] (fun v16 v17 wr => ∃ (i : Nat) (T : List (List Nat)) (Ws : List ByteArray) (Rs : List Int) (v vT vW : Value), v17 = .int .i64 i ∧ i ≤ T.length ∧ T.length ≤ 512 ∧ 1 ≤ T.length ∧ Ws.length = T.length ∧ Aside0 (∀ x ∈ Ws, x.size ≤ T.length) ∧ Aside0 (Rs.length = i * k) ∧ Aside0 (allB ac.length k (letters nx k ac.length) (513 - i) i (T, Ws, Rs) = r) ∧ Aside0 (St w wr w.heap.size gm bt bm k ac.length A1 c1 nx A2 c2 ac (.slice A3 nx.length c3) (.slice A4 ac.length c4) v vT vW (.slice (some ⟨gL, 0, none⟩) k c12) v16 (.slice none 0 0) (.slice none 0 0) vT vW (.slice none 0 0) 0 0 T T (letters nx k ac.length) Ws Rs [])) (fun _ v17 _ => 513 - (intOf v17).toNat)
      case atStart => exact ⟨0, [List.range ac.length], [⟨#[]⟩], [], _, _, _, rfl, Nat.zero_le _, by simp, by simp, rfl, ⟨by intro x hx; simp at hx; subst hx; exact Nat.zero_le _⟩, ⟨by simp⟩, HR, ⟨H.out⟩⟩
      case round =>
        obtain ⟨i, T, Ws, Rs, v, vT, vW, rfl, hi, hT, hT1, hW, HSZ, hRl, HA1, S1⟩ := hrel
        clear H
        obtain ⟨A5, c5, hv⟩ := Kd.R_slice S1.out.trs
        rw [List.length_map] at hv
        subst hv
        have y4 : wr.cell? ⟨gm, 4, none⟩ = some (.slice A5 T.length c5) := (blk_cell S1.out.mon 4).trans rfl
        by_cases hit : i < T.length
        · have g2 : decide ((i : Int) < (T.length : Int)) = true := decide_eq_true (by omega)
          obtain ⟨f, hf⟩ : ∃ f, 513 - i = f + 1 := ⟨512 - i, by omega⟩
          have hA1 := HA1.out
          rw [hf] at hA1
          simp only [allB] at hA1
          rw [if_pos (show i < (T, Ws, Rs).1.length from hit)] at hA1
          have HA2 := Aside0.mk hA1
          clear hA1
          go_wp2_with fail
          go_loopw [16, 97] (fun v16 v97 wi => ∃ (l : Nat) (T : List (List Nat)) (Ws : List ByteArray) (Rs : List Int) (v vT vW : Value), v97 = .int .i64 l ∧ l ≤ k ∧ i < T.length ∧ T.length ≤ 512 ∧ Ws.length = T.length ∧ Aside0 (∀ x ∈ Ws, x.size ≤ T.length) ∧ Aside0 (Rs.length = i * k + l) ∧ Aside0 ((rowB ac.length (letters nx k ac.length) i (k - l) l (T, Ws, Rs)).bind (allB ac.length k (letters nx k ac.length) f (i + 1)) = r) ∧ Aside0 (St w wi w.heap.size gm bt bm k ac.length A1 c1 nx A2 c2 ac (.slice A3 nx.length c3) (.slice A4 ac.length c4) v vT vW (.slice (some ⟨gL, 0, none⟩) k c12) v16 (.slice none 0 0) (.slice none 0 0) vT vW (.slice none 0 0) 0 0 T T (letters nx k ac.length) Ws Rs [])) (fun _ v97 _ => k - (intOf v97).toNat)
          case atStart => exact ⟨0, T, Ws, Rs, _, _, _, rfl, Nat.zero_le _, hit, hT, hW, HSZ, hRl, HA2, S1⟩
          case round =>
            clear S1 y4 g2 HA1 HA2 HSZ hT hT1 hW hRl hit hi
            obtain ⟨l, T, Ws, Rs, v, vT, vW, rfl, hl, hit, hT, hW, HSZ, hRl, HB, S1⟩ := hrel
            obtain ⟨A5, c5, hv⟩ := Kd.R_slice S1.out.trs
            rw [List.length_map] at hv
            subst hv
            obtain ⟨g5, hg5⟩ := row_some S1.out.trs (by rw [List.length_map]; omega)
            subst hg5
            obtain ⟨A6, c6, hv⟩ := Kd.R_slice S1.out.wds
            rw [hW] at hv
            subst hv
            obtain ⟨g6, hg6⟩ := row_some S1.out.wds (by omega)
            subst hg6
            obtain ⟨A16, c16, hv⟩ := Kd.R_slice S1.out.rts
            subst hv
            by_cases hlt : l < k
            · obtain ⟨t, ht⟩ : ∃ t, t = (comp ac.length (T.getD i []) ((letters nx k ac.length).getD l [])) := ⟨_, rfl⟩
              have HT := Aside0.mk ht
              clear ht
              have hll : (letters nx k ac.length).length = k := by simp [letters]
              have GT := Aside0.mk (show HTable.Good ac.length t by
                rw [HT.out]
                refine good_comp ?_ ?_
                · rw [List.getD_eq_getElem?_getD, List.getElem?_eq_getElem hit]
                  exact S1.out.tab.good _ (List.getElem_mem hit)
                · rw [show (letters nx k ac.length).getD l [] = lt nx k ac.length l by simp [letters, List.getD_eq_getElem?_getD, List.getElem?_map, List.getElem?_range hlt]]
                  exact HF.out.good l hlt)
              go_upto_region 26 with fail
              go_cut [19] from 98 to 160 (fun v19 wd => ∃ bx : Nat, v19 = .pointer (some ⟨bx, 0, none⟩) ∧ Aside0 (wd.heap[bx]? = some (.cells (pk (im t) ac.length ac.length) 57 (0, 0))) ∧ Aside0 (v.ownBlock ≠ some bx ∧ (Value.slice (some ⟨g5, 0, none⟩) T.length c5).ownBlock ≠ some bx) ∧ Aside0 (St w wd w.heap.size gm bt bm k ac.length A1 c1 nx A2 c2 ac (.slice A3 nx.length c3) (.slice A4 ac.length c4) v (.slice (some ⟨g5, 0, none⟩) T.length c5) (.slice (some ⟨g6, 0, none⟩) T.length c6) (.slice (some ⟨gL, 0, none⟩) k c12) (.slice A16 Rs.length c16) (.slice none 0 0) (.slice none 0 0) (.slice (some ⟨g5, 0, none⟩) T.length c5) (.slice (some ⟨g6, 0, none⟩) T.length c6) (.slice none 0 0) 0 0 T T (letters nx k ac.length) Ws Rs []))
              case first =>
                --DONE2
                --P26
                refine start_ (n := 18) (S := fun w' => St w w' w.heap.size gm bt bm k ac.length A1 c1 nx A2 c2 ac (.slice A3 nx.length c3) (.slice A4 ac.length c4) v (.slice (some ⟨g5, 0, none⟩) T.length c5) (.slice (some ⟨g6, 0, none⟩) T.length c6) (.slice (some ⟨gL, 0, none⟩) k c12) (.slice A16 Rs.length c16) (.slice none 0 0) (.slice none 0 0) (.slice (some ⟨g5, 0, none⟩) T.length c5) (.slice (some ⟨g6, 0, none⟩) T.length c6) (.slice none 0 0) 0 0 T T (letters nx k ac.length) Ws Rs []) (ds := []) #[false, false, false, false, false, false, false, false, false, false, false, false, false, false, false, false, false, false] (by kernel_rfl) rfl rfl (S1.out.step (below_drew1 (Below.refl _ _))) (fun hHeld => ?_)
                have S0 : Aside0 (St w wr.drew w.heap.size gm bt bm k ac.length A1 c1 nx A2 c2 ac (.slice A3 nx.length c3) (.slice A4 ac.length c4) v (.slice (some ⟨g5, 0, none⟩) T.length c5) (.slice (some ⟨g6, 0, none⟩) T.length c6) (.slice (some ⟨gL, 0, none⟩) k c12) (.slice A16 Rs.length c16) (.slice none 0 0) (.slice none 0 0) (.slice (some ⟨g5, 0, none⟩) T.length c5) (.slice (some ⟨g6, 0, none⟩) T.length c6) (.slice none 0 0) 0 0 T T (letters nx k ac.length) Ws Rs []) := ⟨S1.out.step (below_drew1 (Below.refl _ _))⟩
                clear S1
                generalize wr.drew = y0 at *
                refine pure_ (i := 0) (N := (some 101)) (v := ?_) (a' := ?_) #[true, false, false, false, false, false, false, false, false, false, false, false, false, false, false, false, false, false] rfl rfl (by kernel_rfl) (fun _ _ _ h => h) (Or.inl ⟨by rfl, ?_⟩) ?_ ?_
                rotate_left
                · intro w'
                  go_simp
                  with_reducible rfl
                rotate_left
                · simp only [Act.put, List.setIfInBounds_toArray, List.set_cons_zero, List.set_cons_succ, i64_w, i32_w]
                  rfl
                refine pure_ (i := 1) (N := (some 102)) (v := ?_) (a' := ?_) #[true, true, false, false, false, false, false, false, false, false, false, false, false, false, false, false, false, false] rfl rfl (by kernel_rfl) (fun _ _ _ h => h) (Or.inl ⟨by rfl, ?_⟩) ?_ ?_
                rotate_left
                · intro w'
                  go_simp
                  with_reducible rfl
                rotate_left
                · simp only [Act.put, List.setIfInBounds_toArray, List.set_cons_zero, List.set_cons_succ, i64_w, i32_w]
                  rfl
                refine pure_ (i := 2) (N := (some 103)) (v := ?_) (a' := ?_) #[true, true, true, false, false, false, false, false, false, false, false, false, false, false, false, false, false, false] rfl rfl (by kernel_rfl) (fun _ _ _ h => h) (Or.inl ⟨by rfl, ?_⟩) ?_ ?_
                rotate_left
                · intro w'
                  go_simp
                  with_reducible rfl
                rotate_left
                · simp only [Act.put, List.setIfInBounds_toArray, List.set_cons_zero, List.set_cons_succ, i64_w, i32_w]
                  rfl
                refine pure_ (i := 4) (N := (some 105)) (v := ?_) (a' := ?_) #[true, true, true, false, true, false, false, false, false, false, false, false, false, false, false, false, false, false] rfl rfl (by kernel_rfl) (fun _ _ _ h => h) (Or.inl ⟨by rfl, ?_⟩) ?_ ?_
                rotate_left
                · intro w'
                  go_simp
                  with_reducible rfl
                rotate_left
                · simp only [Act.put, List.setIfInBounds_toArray, List.set_cons_zero, List.set_cons_succ, i64_w, i32_w]
                  rfl
                refine pure_ (i := 7) (N := (some 108)) (v := ?_) (a' := ?_) #[true, true, true, false, true, false, false, true, false, false, false, false, false, false, false, false, false, false] rfl rfl (by kernel_rfl) (fun _ _ _ h => h) (Or.inl ⟨by rfl, ?_⟩) ?_ ?_
                rotate_left
                · intro w'
                  go_simp
                  with_reducible rfl
                rotate_left
                · simp only [Act.put, List.setIfInBounds_toArray, List.set_cons_zero, List.set_cons_succ, i64_w, i32_w]
                  rfl
                refine pure_ (i := 8) (N := (some 109)) (v := ?_) (a' := ?_) #[true, true, true, false, true, false, false, true, true, false, false, false, false, false, false, false, false, false] rfl rfl (by kernel_rfl) (fun _ _ _ h => h) (Or.inl ⟨by rfl, ?_⟩) ?_ ?_
                rotate_left
                · intro w'
                  go_simp
                  with_reducible rfl
                rotate_left
                · simp only [Act.put, List.setIfInBounds_toArray, List.set_cons_zero, List.set_cons_succ, i64_w, i32_w]
                  rfl
                refine pure_ (i := 9) (N := (some 110)) (v := ?_) (a' := ?_) #[true, true, true, false, true, false, false, true, true, true, false, false, false, false, false, false, false, false] rfl rfl (by kernel_rfl) (fun _ _ _ h => h) (Or.inl ⟨by rfl, ?_⟩) ?_ ?_
                rotate_left
                · intro w'
                  go_simp
                  with_reducible rfl
                rotate_left
                · simp only [Act.put, List.setIfInBounds_toArray, List.set_cons_zero, List.set_cons_succ, i64_w, i32_w]
                  rfl
                refine take_ (i := 3) (N := (some 104)) (v := ?_) (a' := ?_) #[true, true, true, true, true, false, false, true, true, true, false, false, false, false, false, false, false, false] rfl rfl (by kernel_rfl) (fun _ _ _ h => h) (Or.inl ⟨by rfl, ?_⟩) hHeld ?_ ?_
                rotate_left
                · rintro w' s0
                  have s3 := (blk_cell s0.mon 4).trans rfl
                  go_simp
                  with_reducible rfl
                rotate_left
                · simp only [Act.put, List.setIfInBounds_toArray, List.set_cons_zero, List.set_cons_succ, i64_w, i32_w]
                  rfl
                refine pure_ (i := 5) (N := (some 106)) (v := ?_) (a' := ?_) #[true, true, true, true, true, true, false, true, true, true, false, false, false, false, false, false, false, false] rfl rfl (by kernel_rfl) (fun _ _ _ h => h) (Or.inl ⟨by rfl, ?_⟩) ?_ ?_
                rotate_left
                · intro w'
                  go_simp
                  with_reducible rfl
                rotate_left
                · simp only [Act.put, List.setIfInBounds_toArray, List.set_cons_zero, List.set_cons_succ, i64_w, i32_w]
                  rfl
                refine take_ (i := 6) (N := (some 107)) (v := .agg (pk (im (T.getD i [])) ac.length ac.length)) (a' := ?_) #[true, true, true, true, true, true, true, true, true, true, false, false, false, false, false, false, false, false] rfl rfl (by kernel_rfl) (fun _ _ _ h => h) (Or.inl ⟨by rfl, ?_⟩) hHeld ?_ ?_
                · rintro w' s0
                  exact exec_loadR (op := _) (a := _) (x := .tmp 106) i s0.trs hit rfl rfl
                rotate_left
                · simp only [Act.put, List.setIfInBounds_toArray, List.set_cons_zero, List.set_cons_succ, i64_w, i32_w]
                  rfl
                refine take_ (i := 10) (N := (some 111)) (v := .agg (pk (im ((letters nx k ac.length).getD l [])) ac.length ac.length)) (a' := ?_) #[true, true, true, true, true, true, true, true, true, true, true, false, false, false, false, false, false, false] rfl rfl (by kernel_rfl) (fun _ _ _ h => h) (Or.inl ⟨by rfl, ?_⟩) hHeld ?_ ?_
                · rintro w' s0
                  exact exec_loadR (op := _) (a := _) (x := .tmp 110) l s0.lts (by omega) rfl rfl
                rotate_left
                · simp only [Act.put, List.setIfInBounds_toArray, List.set_cons_zero, List.set_cons_succ, i64_w, i32_w]
                  rfl
                refine two_ (i := 11) (j := 15) (Ni := (some 112)) (Nj := (some 19)) #[true, true, true, true, true, true, true, true, true, true, true, true, false, false, false, false, false, false] #[true, true, true, true, true, true, true, true, true, true, true, false, false, false, false, true, false, false] rfl rfl rfl rfl (by kernel_rfl) (by decide) (by decide) (fun K hK => ?_) (fun K hK => ?_)
                · refine call_ 30 #[.agg (pk (im (T.getD i [])) ac.length ac.length), .agg (pk (im ((letters nx k ac.length).getD l [])) ac.length ac.length)] (by rfl) rfl (by go_simp) ?_
                  refine (HTrans.compose_calls y0 (im (T.getD i [])) (im ((letters nx k ac.length).getD l [])) ac.length n1 n64 (fun i hi => (HTable.Good.im (S0.out.tab.good _ (by rw [List.getD_eq_getElem?_getD, List.getElem?_eq_getElem hit]; exact List.getElem_mem hit)) i hi)) (fun i hi => (HTable.Good.im (by rw [show (letters nx k ac.length).getD l [] = lt nx k ac.length l by simp [letters, List.getD_eq_getElem?_getD, List.getElem?_map, List.getElem?_range hlt]]; exact HF.out.good l hlt) i hi))).mono ?_
                  rintro e y1 ⟨rfl, hb⟩
                  rw [HMon.pk_comp, ← HT.out]
                  refine ⟨_, rfl, ?_⟩
                  have S1 := Aside0.mk (S0.out.step hb)
                  clear hb
                  refine hK.out _ _ (S1.out) (fun hHeld => ?_)
                  clear hK K
                  refine norm_ (a' := ?_) ?_ ?_
                  rotate_left
                  · show Act.put _ (some 112) _ = _
                    simp only [Act.put, List.setIfInBounds_toArray, List.set_cons_zero, List.set_cons_succ, i64_w, i32_w]
                    rfl
                  refine pure_ (i := 12) (N := (some 100)) (v := ?_) (a' := ?_) #[true, true, true, true, true, true, true, true, true, true, true, true, true, false, false, false, false, false] rfl rfl (by kernel_rfl) (fun _ _ _ h => h) (Or.inl ⟨by rfl, ?_⟩) ?_ ?_
                  rotate_left
                  · intro w'
                    go_simp
                    with_reducible rfl
                  rotate_left
                  · simp only [Act.put, List.setIfInBounds_toArray, List.set_cons_zero, List.set_cons_succ, i64_w, i32_w]
                    rfl
                  refine pure_ (i := 13) (N := (some 113)) (v := ?_) (a' := ?_) #[true, true, true, true, true, true, true, true, true, true, true, true, true, true, false, false, false, false] rfl rfl (by kernel_rfl) (fun _ _ _ h => h) (Or.inl ⟨by rfl, ?_⟩) ?_ ?_
                  rotate_left
                  · intro w'
                    go_simp
                    with_reducible rfl
                  rotate_left
                  · simp only [Act.put, List.setIfInBounds_toArray, List.set_cons_zero, List.set_cons_succ, i64_w, i32_w]
                    rfl
                  refine pure_ (i := 14) (N := (some 114)) (v := ?_) (a' := ?_) #[true, true, true, true, true, true, true, true, true, true, true, true, true, true, true, false, false, false] rfl rfl (by kernel_rfl) (fun _ _ _ h => h) (Or.inl ⟨by rfl, ?_⟩) ?_ ?_
                  rotate_left
                  · intro w'
                    go_simp
                    with_reducible rfl
                  rotate_left
                  · simp only [Act.put, List.setIfInBounds_toArray, List.set_cons_zero, List.set_cons_succ, i64_w, i32_w]
                    rfl
                  refine one_ (i := 15) (N := (some 19)) #[true, true, true, true, true, true, true, true, true, true, true, true, true, true, true, true, false, false] rfl rfl (by kernel_rfl) (by decide) (fun K hK => ?_)
                  refine value_ (v := .pointer (some ⟨y1.heap.size, 0, none⟩)) (w1 := y1.alloc (.cells z8 57)) (by rfl) rfl (by go_simp) ?_
                  have HZ2 := Aside0.mk (below_alloc (Below.refl y1.heap.size y1) (.cells z8 57))
                  have Z2 := Aside0.mk (blk_new y1 (.cells z8 57))
                  have S2 := Aside0.mk (S1.out.step HZ2.out)
                  generalize y1.alloc (.cells z8 57) = y2 at *
                  refine hK.out _ _ (S2.out) (fun hHeld => ?_)
                  clear hK K
                  refine norm_ (a' := ?_) ?_ ?_
                  rotate_left
                  · show Act.put _ (some 19) _ = _
                    simp only [Act.put, List.setIfInBounds_toArray, List.set_cons_zero, List.set_cons_succ, i64_w, i32_w]
                    rfl
                  refine one_ (i := 16) (N := none) #[true, true, true, true, true, true, true, true, true, true, true, true, true, true, true, true, true, false] rfl rfl (by kernel_rfl) (by decide) (fun K hK => ?_)
                  refine skip_ (w1 := y2.setRow y1.heap.size (pk (im t) ac.length ac.length)) (by rfl) rfl (exec_storeT (op := _) (a := _) (x := .tmp 19) (y := .tmp 113) rfl rfl rfl rfl rfl (pk_one _ _ _) Z2.out) ?_
                  have S3 := Aside0.mk (S1.out.step (below_setRow HZ2.out (Nat.le_refl _) (pk (im t) ac.length ac.length)))
                  have Z3 := Aside0.mk (setRow_heap y2 y1.heap.size _ (pk (im t) ac.length ac.length) _ _ Z2.out)
                  have E3 := Aside0.mk (show v.ownBlock ≠ some y1.heap.size ∧ (Value.slice (some ⟨g5, 0, none⟩) T.length c5).ownBlock ≠ some y1.heap.size from ⟨fun q => Nat.lt_irrefl _ (Kd.R_lt S1.out.tab.row _ q), fun q => Nat.lt_irrefl _ (Kd.R_lt S1.out.trs _ q)⟩)
                  refine hK.out _ _ (S3.out) (fun hHeld => ?_)
                  clear hK K
                  refine pure_ (i := 17) (N := (some 20)) (v := ?_) (a' := ?_) #[true, true, true, true, true, true, true, true, true, true, true, true, true, true, true, true, true, true] rfl rfl (by kernel_rfl) (fun _ _ _ h => h) (Or.inl ⟨by rfl, ?_⟩) ?_ ?_
                  rotate_left
                  · intro w'
                    go_simp
                    with_reducible rfl
                  rotate_left
                  · simp only [Act.put, List.setIfInBounds_toArray, List.set_cons_zero, List.set_cons_succ, i64_w, i32_w]
                    rfl
                  refine done_ (by kernel_rfl) ?_
                  go_wp2_with fail
                  go_meet
                  exact ⟨_, rfl, Z3, E3, S3⟩
                · refine value_ (v := .pointer (some ⟨y0.heap.size, 0, none⟩)) (w1 := y0.alloc (.cells z8 57)) (by rfl) rfl (by go_simp) ?_
                  have HZ1 := Aside0.mk (below_alloc (Below.refl y0.heap.size y0) (.cells z8 57))
                  have Z1 := Aside0.mk (blk_new y0 (.cells z8 57))
                  have S1 := Aside0.mk (S0.out.step HZ1.out)
                  generalize y0.alloc (.cells z8 57) = y1 at *
                  refine hK.out _ _ (S1.out) (fun hHeld => ?_)
                  clear hK K
                  refine norm_ (a' := ?_) ?_ ?_
                  rotate_left
                  · show Act.put _ (some 19) _ = _
                    simp only [Act.put, List.setIfInBounds_toArray, List.set_cons_zero, List.set_cons_succ, i64_w, i32_w]
                    rfl
                  refine one_ (i := 11) (N := (some 112)) #[true, true, true, true, true, true, true, true, true, true, true, true, false, false, false, true, false, false] rfl rfl (by kernel_rfl) (by decide) (fun K hK => ?_)
                  refine call_ 30 #[.agg (pk (im (T.getD i [])) ac.length ac.length), .agg (pk (im ((letters nx k ac.length).getD l [])) ac.length ac.length)] (by rfl) rfl (by go_simp) ?_
                  refine (HTrans.compose_calls y1 (im (T.getD i [])) (im ((letters nx k ac.length).getD l [])) ac.length n1 n64 (fun i hi => (HTable.Good.im (S0.out.tab.good _ (by rw [List.getD_eq_getElem?_getD, List.getElem?_eq_getElem hit]; exact List.getElem_mem hit)) i hi)) (fun i hi => (HTable.Good.im (by rw [show (letters nx k ac.length).getD l [] = lt nx k ac.length l by simp [letters, List.getD_eq_getElem?_getD, List.getElem?_map, List.getElem?_range hlt]]; exact HF.out.good l hlt) i hi))).mono ?_
                  rintro e y2 ⟨rfl, hb⟩
                  rw [HMon.pk_comp, ← HT.out]
                  refine ⟨_, rfl, ?_⟩
                  have HZ2 := Aside0.mk (below_then HZ1.out (Nat.le_of_lt (blk_lt Z1.out)) hb)
                  have Z2 := Aside0.mk (blk_below Z1.out hb)
                  have S2 := Aside0.mk (S1.out.step hb)
                  clear hb
                  refine hK.out _ _ (S2.out) (fun hHeld => ?_)
                  clear hK K
                  refine norm_ (a' := ?_) ?_ ?_
                  rotate_left
                  · show Act.put _ (some 112) _ = _
                    simp only [Act.put, List.setIfInBounds_toArray, List.set_cons_zero, List.set_cons_succ, i64_w, i32_w]
                    rfl
                  refine pure_ (i := 12) (N := (some 100)) (v := ?_) (a' := ?_) #[true, true, true, true, true, true, true, true, true, true, true, true, true, false, false, true, false, false] rfl rfl (by kernel_rfl) (fun _ _ _ h => h) (Or.inl ⟨by rfl, ?_⟩) ?_ ?_
                  rotate_left
                  · intro w'
                    go_simp
                    with_reducible rfl
                  rotate_left
                  · simp only [Act.put, List.setIfInBounds_toArray, List.set_cons_zero, List.set_cons_succ, i64_w, i32_w]
                    rfl
                  refine pure_ (i := 13) (N := (some 113)) (v := ?_) (a' := ?_) #[true, true, true, true, true, true, true, true, true, true, true, true, true, true, false, true, false, false] rfl rfl (by kernel_rfl) (fun _ _ _ h => h) (Or.inl ⟨by rfl, ?_⟩) ?_ ?_
                  rotate_left
                  · intro w'
                    go_simp
                    with_reducible rfl
                  rotate_left
                  · simp only [Act.put, List.setIfInBounds_toArray, List.set_cons_zero, List.set_cons_succ, i64_w, i32_w]
                    rfl
                  refine pure_ (i := 14) (N := (some 114)) (v := ?_) (a' := ?_) #[true, true, true, true, true, true, true, true, true, true, true, true, true, true, true, true, false, false] rfl rfl (by kernel_rfl) (fun _ _ _ h => h) (Or.inl ⟨by rfl, ?_⟩) ?_ ?_
                  rotate_left
                  · intro w'
                    go_simp
                    with_reducible rfl
                  rotate_left
                  · simp only [Act.put, List.setIfInBounds_toArray, List.set_cons_zero, List.set_cons_succ, i64_w, i32_w]
                    rfl
                  refine one_ (i := 16) (N := none) #[true, true, true, true, true, true, true, true, true, true, true, true, true, true, true, true, true, false] rfl rfl (by kernel_rfl) (by decide) (fun K hK => ?_)
                  refine skip_ (w1 := y2.setRow y0.heap.size (pk (im t) ac.length ac.length)) (by rfl) rfl (exec_storeT (op := _) (a := _) (x := .tmp 19) (y := .tmp 113) rfl rfl rfl rfl rfl (pk_one _ _ _) Z2.out) ?_
                  have S3 := Aside0.mk (S0.out.step (below_setRow HZ2.out (Nat.le_refl _) (pk (im t) ac.length ac.length)))
                  have Z3 := Aside0.mk (setRow_heap y2 y0.heap.size _ (pk (im t) ac.length ac.length) _ _ Z2.out)
                  have E3 := Aside0.mk (show v.ownBlock ≠ some y0.heap.size ∧ (Value.slice (some ⟨g5, 0, none⟩) T.length c5).ownBlock ≠ some y0.heap.size from ⟨fun q => Nat.lt_irrefl _ (Kd.R_lt S0.out.tab.row _ q), fun q => Nat.lt_irrefl _ (Kd.R_lt S0.out.trs _ q)⟩)
                  refine hK.out _ _ (S3.out) (fun hHeld => ?_)
                  clear hK K
                  refine pure_ (i := 17) (N := (some 20)) (v := ?_) (a' := ?_) #[true, true, true, true, true, true, true, true, true, true, true, true, true, true, true, true, true, true] rfl rfl (by kernel_rfl) (fun _ _ _ h => h) (Or.inl ⟨by rfl, ?_⟩) ?_ ?_
                  rotate_left
                  · intro w'
                    go_simp
                    with_reducible rfl
                  rotate_left
                  · simp only [Act.put, List.setIfInBounds_toArray, List.set_cons_zero, List.set_cons_succ, i64_w, i32_w]
                    rfl
                  refine done_ (by kernel_rfl) ?_
                  go_wp2_with fail
                  go_meet
                  exact ⟨_, rfl, Z3, E3, S3⟩
                --ENDP26
                --ENDDONE2
              case rest =>
                obtain ⟨bx, rfl, ZB, EB, S2⟩ := hcut
                clear S1
                have hRb : Rs.length < 5000 := by
                  rw [hRl.out]
                  have := Nat.mul_le_mul (show i ≤ 511 by omega) k8
                  omega
                have HBn := HB.out
                obtain ⟨m, hm⟩ : ∃ m, k - l = m + 1 := ⟨k - l - 1, by omega⟩
                rw [hm] at HBn
                simp only [rowB] at HBn
                unfold stepB at HBn
                simp only [← HT.out] at HBn
                have HB2 := Aside0.mk HBn
                clear HBn HB
                have hm1 : k - (l + 1) = m := by omega
                by_cases hmem : t ∈ T
                --DONE3
                · have e1 : pNum T t = (T.idxOf t : Int) := by unfold pNum; rw [if_pos hmem]
                  have e2 : pNew T t = false := by unfold pNew; rw [if_pos hmem]
                  have e3 : pErr T t = 0 := by unfold pErr; rw [if_pos hmem]
                  have e4 : pList T t = T := by unfold pList; rw [if_pos hmem]
                  have HB3 := HB2.out
                  rw [if_pos hmem] at HB3
                  have HB4 := Aside0.mk HB3
                  clear HB3 HB2
                  have hix := List.idxOf_lt_length_of_mem hmem
                  generalize List.idxOf t T = j at *
                  go_upto_region 33 with (first
                    | (refine loadT_arm rfl _ rfl bx rfl (pk (im t) ac.length ac.length) rfl ZB.out ?_)
                    | (go_at_call 77; refine (HPut.calls _ w.heap.size bt bm ac.length v T t n1 n64 S2.out.tab GT.out hT S2.out.below.size).mono ?_; rintro e w8 ⟨v8, rfl, ht8, hk8, hat8, hb8⟩; rw [e1, e2, e3]; rw [e4] at ht8))
                  have S3 := Aside0.mk (S2.out.put ht8 hk8 hat8 hb8)
                  clear ht8 hk8 hat8 hb8 ZB EB S2 e1 e2 e3 e4
                  go_wp2_with ((with_reducible refine gate_builtin (b := .append) (xs := #[.tmp 156, .tmp 158]) rfl ?_); at_builtin; refine Kd.R_append (Kd.int .i64) (w0 := w) w.heap.size rfl (.tmp 156) (.tmp 158) 22 3 (.int .i64 0) 8 rfl Try.underlying22 infoI rfl (by decide) (by omega) (.slice A16 Rs.length c16) Rs j [.int .i64 j] (fun _ => True) (fun _ => False) rfl rfl rfl (fun _ hk => hk.elim) (fun _ _ => trivial) S3.out.rts S3.out.below S3.out.below.size (by omega) ?_; intro v15 w15 ho15 hb15 hg15 hat15)
                  go_roundw
                  case measure => simp [intOf]; omega
                  case rel => exact ⟨l + 1, T, Ws, Rs ++ [(j : Int)], _, _, _, by go_num, by omega, hit, hT, hW, HSZ, ⟨by simp [hRl.out]; omega⟩, ⟨by rw [hm1]; exact HB4.out⟩, ⟨S3.out.addR ho15 hb15 hg15 hat15⟩⟩
                --ENDDONE3
                · by_cases h5 : 512 ≤ T.length
                  --DONE4
                  · have e1 : pNum T t = 0 := by unfold pNum; rw [if_neg hmem, if_pos h5]
                    have e2 : pNew T t = false := by unfold pNew; rw [if_neg hmem, if_pos h5]
                    have e3 : pErr T t = 2 := by unfold pErr; rw [if_neg hmem, if_pos h5]
                    have HB3 := HB2.out
                    rw [if_neg hmem, if_pos (show 512 ≤ (T, Ws, Rs).1.length from h5)] at HB3
                    go_wp2_with (first
                      | (refine loadT_arm rfl _ rfl bx rfl (pk (im t) ac.length ac.length) rfl ZB.out ?_)
                      | (go_at_call 77; refine (HPut.calls _ w.heap.size bt bm ac.length v T t n1 n64 S2.out.tab GT.out hT S2.out.below.size).mono ?_; rintro e w8 ⟨v8, rfl, ht8, hk8, hat8, hb8⟩; rw [e1, e2, e3]))
                    go_ret2
                    exact ⟨S2.out.below.trans hb8, .inl ⟨HB3.symm, rfl⟩⟩
                  --ENDDONE4
                  --DONE5
                  · have e1 : pNum T t = (T.length : Int) := by unfold pNum; rw [if_neg hmem, if_neg h5]
                    have e2 : pNew T t = true := by unfold pNew; rw [if_neg hmem, if_neg h5]
                    have e3 : pErr T t = 0 := by unfold pErr; rw [if_neg hmem, if_neg h5]
                    have e4 : pList T t = T ++ [t] := by unfold pList; rw [if_neg hmem, if_neg h5]
                    have HB3 := HB2.out
                    rw [if_neg hmem, if_neg (show ¬ 512 ≤ (T, Ws, Rs).1.length from h5)] at HB3
                    have HB4 := Aside0.mk HB3
                    clear HB3 HB2
                    obtain ⟨ww, hww⟩ : ∃ ww, ww = Ws.getD i ⟨#[]⟩ := ⟨_, rfl⟩
                    have HWW := Aside0.mk hww
                    have hws : ww.size ≤ T.length := HSZ.out _ (by rw [hww, List.getD_eq_getElem?_getD, List.getElem?_eq_getElem (by omega)]; exact List.getElem_mem _)
                    clear hww
                    have hsz : ∀ x ∈ Ws ++ [ww ++ chrB l], x.size ≤ (T ++ [t]).length := by
                      intro x hx
                      rw [List.length_append, List.length_singleton]
                      rcases List.mem_append.1 hx with h | h
                      · have := HSZ.out x h
                        omega
                      · simp at h
                        subst h
                        rw [ByteArray.size_append, show (chrB l).size = 1 from rfl]
                        omega
                    have HSZ2 := Aside0.mk hsz
                    clear hsz
                    go_upto_region 31 with (first
                      | (refine loadT_arm rfl _ rfl bx rfl (pk (im t) ac.length ac.length) rfl ZB.out ?_)
                      | (go_at_call 77; refine (HPut.calls _ w.heap.size bt bm ac.length v T t n1 n64 S2.out.tab GT.out hT S2.out.below.size).mono ?_; rintro e w3 ⟨v8, rfl, ht8, hk8, hat8, hb8⟩; rw [e1, e2, e3]; rw [e4] at ht8))
                    have S3 := Aside0.mk (S2.out.put ht8 hk8 hat8 hb8)
                    have Z3 := Aside0.mk (S2.out.far hk8 ZB.out (by decide) EB.out.1)
                    clear ht8 hk8 hat8 hb8 ZB EB S2 e1 e2 e3 e4
                    --P31
                    refine start_ (n := 11) (S := fun w' => w'.heap[bx]? = some (.cells (pk (im t) ac.length ac.length) 57 (0, 0)) ∧ St w w' w.heap.size gm bt bm k ac.length A1 c1 nx A2 c2 ac (.slice A3 nx.length c3) (.slice A4 ac.length c4) v8 (.slice (some ⟨g5, 0, none⟩) T.length c5) (.slice (some ⟨g6, 0, none⟩) T.length c6) (.slice (some ⟨gL, 0, none⟩) k c12) (.slice A16 Rs.length c16) (.slice none 0 0) (.slice none 0 0) (.slice (some ⟨g5, 0, none⟩) T.length c5) (.slice (some ⟨g6, 0, none⟩) T.length c6) (.slice none 0 0) 0 0 (T ++ [t]) T (letters nx k ac.length) Ws Rs []) (ds := [7, 10]) #[false, false, false, false, false, false, false, false, false, false, false] (by kernel_rfl) rfl rfl ⟨Z3.out, S3.out.step (below_drew1 (Below.refl _ _))⟩ (fun hHeld => ?_)
                    have S4 : Aside0 (St w w3.drew w.heap.size gm bt bm k ac.length A1 c1 nx A2 c2 ac (.slice A3 nx.length c3) (.slice A4 ac.length c4) v8 (.slice (some ⟨g5, 0, none⟩) T.length c5) (.slice (some ⟨g6, 0, none⟩) T.length c6) (.slice (some ⟨gL, 0, none⟩) k c12) (.slice A16 Rs.length c16) (.slice none 0 0) (.slice none 0 0) (.slice (some ⟨g5, 0, none⟩) T.length c5) (.slice (some ⟨g6, 0, none⟩) T.length c6) (.slice none 0 0) 0 0 (T ++ [t]) T (letters nx k ac.length) Ws Rs []) := ⟨S3.out.step (below_drew1 (Below.refl _ _))⟩
                    have Z4 : Aside0 (w3.drew.heap[bx]? = some (.cells (pk (im t) ac.length ac.length) 57 (0, 0))) := ⟨Z3.out⟩
                    clear S3 Z3
                    generalize w3.drew = z4 at *
                    refine pure_ (i := 0) (N := (some 125)) (v := ?_) (a' := ?_) #[true, false, false, false, false, false, false, false, false, false, false] rfl rfl (by kernel_rfl) (fun _ _ _ h => h) (Or.inl ⟨by rfl, ?_⟩) ?_ ?_
                    rotate_left
                    · intro w'
                      go_simp
                      with_reducible rfl
                    rotate_left
                    · simp only [Act.put, List.setIfInBounds_toArray, List.set_cons_zero, List.set_cons_succ, i64_w, i32_w]
                      rfl
                    refine pure_ (i := 1) (N := (some 126)) (v := ?_) (a' := ?_) #[true, true, false, false, false, false, false, false, false, false, false] rfl rfl (by kernel_rfl) (fun _ _ _ h => h) (Or.inl ⟨by rfl, ?_⟩) ?_ ?_
                    rotate_left
                    · intro w'
                      go_simp
                      with_reducible rfl
                    rotate_left
                    · simp only [Act.put, List.setIfInBounds_toArray, List.set_cons_zero, List.set_cons_succ, i64_w, i32_w]
                      rfl
                    refine pure_ (i := 2) (N := (some 127)) (v := ?_) (a' := ?_) #[true, true, true, false, false, false, false, false, false, false, false] rfl rfl (by kernel_rfl) (fun _ _ _ h => h) (Or.inl ⟨by rfl, ?_⟩) ?_ ?_
                    rotate_left
                    · intro w'
                      go_simp
                      with_reducible rfl
                    rotate_left
                    · simp only [Act.put, List.setIfInBounds_toArray, List.set_cons_zero, List.set_cons_succ, i64_w, i32_w]
                      rfl
                    refine pure_ (i := 3) (N := (some 128)) (v := ?_) (a' := ?_) #[true, true, true, true, false, false, false, false, false, false, false] rfl rfl (by kernel_rfl) (fun _ _ _ h => h) (Or.inl ⟨by rfl, ?_⟩) ?_ ?_
                    rotate_left
                    · intro w'
                      go_simp
                      with_reducible rfl
                    rotate_left
                    · simp only [Act.put, List.setIfInBounds_toArray, List.set_cons_zero, List.set_cons_succ, i64_w, i32_w]
                      rfl
                    refine take_ (i := 4) (N := (some 129)) (v := ?_) (a' := ?_) #[true, true, true, true, true, false, false, false, false, false, false] rfl rfl (by kernel_rfl) (fun _ _ _ h => h) (Or.inl ⟨by rfl, ?_⟩) hHeld ?_ ?_
                    rotate_left
                    · rintro w' ⟨s0, s1⟩
                      have s3 := (blk_cell s1.mon 4).trans rfl
                      go_simp
                      with_reducible rfl
                    rotate_left
                    · simp only [Act.put, List.setIfInBounds_toArray, List.set_cons_zero, List.set_cons_succ, i64_w, i32_w]
                      rfl
                    refine take_ (i := 5) (N := (some 130)) (v := .agg (pk (im t) ac.length ac.length)) (a' := ?_) #[true, true, true, true, true, true, false, false, false, false, false] rfl rfl (by kernel_rfl) (fun _ _ _ h => h) (Or.inl ⟨by rfl, ?_⟩) hHeld ?_ ?_
                    · rintro w' ⟨s0, s1⟩
                      exact exec_loadT (op := _) (a := _) (x := .tmp 19) rfl rfl rfl s0
                    rotate_left
                    · simp only [Act.put, List.setIfInBounds_toArray, List.set_cons_zero, List.set_cons_succ, i64_w, i32_w]
                      rfl
                    refine one_ (i := 6) (N := (some 131)) #[true, true, true, true, true, true, true, false, false, false, false] rfl rfl (by kernel_rfl) (by decide) (fun K hK => ?_)
                    refine value_ (v := .slice (some ⟨z4.heap.size, 0, none⟩) 1 1) (w1 := z4.alloc (.cells (pk (im t) ac.length ac.length).toList.toArray 57)) (by rfl) rfl (by simp only [pk_open]; go_simp) ?_
                    refine hK.out _ _ (⟨blk_alloc Z4.out _, S4.out.step (below_alloc (Below.refl _ _) _)⟩) (fun hHeld => ?_)
                    clear hK K
                    refine norm_ (a' := ?_) ?_ ?_
                    rotate_left
                    · show Act.put _ (some 131) _ = _
                      simp only [Act.put, List.setIfInBounds_toArray, List.set_cons_zero, List.set_cons_succ, i64_w, i32_w]
                      rfl
                    refine last_ (i := 7) (N := (some 132)) #[true, true, true, true, true, true, true, true, false, false, false] rfl rfl (by kernel_rfl) (by decide) (fun K hK => ?_)
                    refine Kd.R_append_step kT (w0 := w) w.heap.size (by rfl) (.tmp 129) (.tmp 131) 81 57 zeroT 64 rfl Try.underlying81 infoT rfl (by decide) (by omega) (.slice (some ⟨g5, 0, none⟩) T.length c5) (T.map (tup ac.length)) (tup ac.length t) (pk (im t) ac.length ac.length).toList (fun _ => True) (fun _ => False) rfl rfl (kT_mkM _ _ _ _ _) (fun _ hk => hk.elim) (fun _ _ => trivial) S4.out.trs S4.out.below S4.out.below.size (by rw [List.length_map]; omega) ?_
                    intro v5 w5 ho5 hb5 hg5 hat5
                    rw [show T.map (tup ac.length) ++ [tup ac.length t] = (T ++ [t]).map (tup ac.length) by rw [List.map_append]; rfl] at ho5
                    have S5 := Aside0.mk (S4.out.addT (y := v5) (ys := T ++ [t]) ho5 hb5 hg5 hat5)
                    obtain ⟨A7, c7, hv7⟩ := Kd.R_slice ho5
                    rw [show ((T ++ [t]).map (tup ac.length)).length = T.length + 1 by simp] at hv7
                    subst hv7
                    clear ho5 hb5 hg5 hat5 S4 Z4
                    refine hK.out _ _ ?_
                    clear hK K
                    refine norm_ (a' := ?_) ?_ ?_
                    rotate_left
                    · show Act.put _ (some 132) _ = _
                      simp only [Act.put, List.setIfInBounds_toArray, List.set_cons_zero, List.set_cons_succ, i64_w, i32_w]
                      rfl
                    refine pure_ (i := 8) (N := (some 133)) (v := ?_) (a' := ?_) #[true, true, true, true, true, true, true, true, true, false, false] rfl rfl (by kernel_rfl) (fun _ _ _ h => h) (Or.inl ⟨by rfl, ?_⟩) ?_ ?_
                    rotate_left
                    · intro w'
                      go_simp
                      with_reducible rfl
                    rotate_left
                    · simp only [Act.put, List.setIfInBounds_toArray, List.set_cons_zero, List.set_cons_succ, i64_w, i32_w]
                      rfl
                    refine pure_ (i := 9) (N := (some 134)) (v := ?_) (a' := ?_) #[true, true, true, true, true, true, true, true, true, true, false] rfl rfl (by kernel_rfl) (fun _ _ _ h => h) (Or.inl ⟨by rfl, ?_⟩) ?_ ?_
                    rotate_left
                    · intro w'
                      go_simp
                      with_reducible rfl
                    rotate_left
                    · simp only [Act.put, List.setIfInBounds_toArray, List.set_cons_zero, List.set_cons_succ, i64_w, i32_w]
                      rfl
                    refine last_ (i := 10) (N := none) #[true, true, true, true, true, true, true, true, true, true, true] rfl rfl (by kernel_rfl) (by decide) (fun K hK => ?_)
                    refine skip_ (w1 := w5.setCells gm 4 [.slice A7 (T.length + 1) c7]) (by rfl) rfl ?_ ?_
                    · have hrun := run_store_run (P := Try.prog) (o := 4) 81 (.slice A7 (T.length + 1) c7) [.slice A7 (T.length + 1) c7] S5.out.mon rfl sizeL (by simp) (by intro q hq; simp at hq; subst hq; rfl)
                      simp [execOp, Act.eval, hrun]
                    have S6 := Aside0.mk (S5.out.setT (.slice A7 (T.length + 1) c7))
                    clear S5
                    refine hK.out _ _ ?_
                    clear hK K
                    refine done_ (by kernel_rfl) ?_
                    --ENDP31
                    generalize w5.setCells gm 4 [.slice A7 (T.length + 1) c7] = w6 at *
                    go_upto_region 32 with fail
                    --P32
                    refine start_ (n := 22) (S := fun w' => St w w' w.heap.size gm bt bm k ac.length A1 c1 nx A2 c2 ac (.slice A3 nx.length c3) (.slice A4 ac.length c4) v8 (.slice A7 (T.length + 1) c7) (.slice (some ⟨g6, 0, none⟩) T.length c6) (.slice (some ⟨gL, 0, none⟩) k c12) (.slice A16 Rs.length c16) (.slice none 0 0) (.slice none 0 0) (.slice A7 (T.length + 1) c7) (.slice (some ⟨g6, 0, none⟩) T.length c6) (.slice none 0 0) 0 0 (T ++ [t]) (T ++ [t]) (letters nx k ac.length) Ws Rs []) (ds := [18, 21]) #[false, false, false, false, false, false, false, false, false, false, false, false, false, false, false, false, false, false, false, false, false, false] (by kernel_rfl) rfl rfl (S6.out.step (below_drew1 (Below.refl _ _))) (fun hHeld => ?_)
                    have S7 : Aside0 (St w w6.drew w.heap.size gm bt bm k ac.length A1 c1 nx A2 c2 ac (.slice A3 nx.length c3) (.slice A4 ac.length c4) v8 (.slice A7 (T.length + 1) c7) (.slice (some ⟨g6, 0, none⟩) T.length c6) (.slice (some ⟨gL, 0, none⟩) k c12) (.slice A16 Rs.length c16) (.slice none 0 0) (.slice none 0 0) (.slice A7 (T.length + 1) c7) (.slice (some ⟨g6, 0, none⟩) T.length c6) (.slice none 0 0) 0 0 (T ++ [t]) (T ++ [t]) (letters nx k ac.length) Ws Rs []) := ⟨S6.out.step (below_drew1 (Below.refl _ _))⟩
                    clear S6
                    generalize w6.drew = z7 at *
                    refine pure_ (i := 0) (N := (some 135)) (v := ?_) (a' := ?_) #[true, false, false, false, false, false, false, false, false, false, false, false, false, false, false, false, false, false, false, false, false, false] rfl rfl (by kernel_rfl) (fun _ _ _ h => h) (Or.inl ⟨by rfl, ?_⟩) ?_ ?_
                    rotate_left
                    · intro w'
                      go_simp
                      with_reducible rfl
                    rotate_left
                    · simp only [Act.put, List.setIfInBounds_toArray, List.set_cons_zero, List.set_cons_succ, i64_w, i32_w]
                      rfl
                    refine pure_ (i := 1) (N := (some 136)) (v := ?_) (a' := ?_) #[true, true, false, false, false, false, false, false, false, false, false, false, false, false, false, false, false, false, false, false, false, false] rfl rfl (by kernel_rfl) (fun _ _ _ h => h) (Or.inl ⟨by rfl, ?_⟩) ?_ ?_
                    rotate_left
                    · intro w'
                      go_simp
                      with_reducible rfl
                    rotate_left
                    · simp only [Act.put, List.setIfInBounds_toArray, List.set_cons_zero, List.set_cons_succ, i64_w, i32_w]
                      rfl
                    refine pure_ (i := 2) (N := (some 137)) (v := ?_) (a' := ?_) #[true, true, true, false, false, false, false, false, false, false, false, false, false, false, false, false, false, false, false, false, false, false] rfl rfl (by kernel_rfl) (fun _ _ _ h => h) (Or.inl ⟨by rfl, ?_⟩) ?_ ?_
                    rotate_left
                    · intro w'
                      go_simp
                      with_reducible rfl
                    rotate_left
                    · simp only [Act.put, List.setIfInBounds_toArray, List.set_cons_zero, List.set_cons_succ, i64_w, i32_w]
                      rfl
                    refine pure_ (i := 3) (N := (some 138)) (v := ?_) (a' := ?_) #[true, true, true, true, false, false, false, false, false, false, false, false, false, false, false, false, false, false, false, false, false, false] rfl rfl (by kernel_rfl) (fun _ _ _ h => h) (Or.inl ⟨by rfl, ?_⟩) ?_ ?_
                    rotate_left
                    · intro w'
                      go_simp
                      with_reducible rfl
                    rotate_left
                    · simp only [Act.put, List.setIfInBounds_toArray, List.set_cons_zero, List.set_cons_succ, i64_w, i32_w]
                      rfl
                    refine pure_ (i := 5) (N := (some 140)) (v := ?_) (a' := ?_) #[true, true, true, true, false, true, false, false, false, false, false, false, false, false, false, false, false, false, false, false, false, false] rfl rfl (by kernel_rfl) (fun _ _ _ h => h) (Or.inl ⟨by rfl, ?_⟩) ?_ ?_
                    rotate_left
                    · intro w'
                      go_simp
                      with_reducible rfl
                    rotate_left
                    · simp only [Act.put, List.setIfInBounds_toArray, List.set_cons_zero, List.set_cons_succ, i64_w, i32_w]
                      rfl
                    refine pure_ (i := 6) (N := (some 141)) (v := ?_) (a' := ?_) #[true, true, true, true, false, true, true, false, false, false, false, false, false, false, false, false, false, false, false, false, false, false] rfl rfl (by kernel_rfl) (fun _ _ _ h => h) (Or.inl ⟨by rfl, ?_⟩) ?_ ?_
                    rotate_left
                    · intro w'
                      go_simp
                      with_reducible rfl
                    rotate_left
                    · simp only [Act.put, List.setIfInBounds_toArray, List.set_cons_zero, List.set_cons_succ, i64_w, i32_w]
                      rfl
                    refine pure_ (i := 7) (N := (some 142)) (v := ?_) (a' := ?_) #[true, true, true, true, false, true, true, true, false, false, false, false, false, false, false, false, false, false, false, false, false, false] rfl rfl (by kernel_rfl) (fun _ _ _ h => h) (Or.inl ⟨by rfl, ?_⟩) ?_ ?_
                    rotate_left
                    · intro w'
                      go_simp
                      with_reducible rfl
                    rotate_left
                    · simp only [Act.put, List.setIfInBounds_toArray, List.set_cons_zero, List.set_cons_succ, i64_w, i32_w]
                      rfl
                    refine pure_ (i := 9) (N := (some 144)) (v := ?_) (a' := ?_) #[true, true, true, true, false, true, true, true, false, true, false, false, false, false, false, false, false, false, false, false, false, false] rfl rfl (by kernel_rfl) (fun _ _ _ h => h) (Or.inl ⟨by rfl, ?_⟩) ?_ ?_
                    rotate_left
                    · intro w'
                      go_simp
                      with_reducible rfl
                    rotate_left
                    · simp only [Act.put, List.setIfInBounds_toArray, List.set_cons_zero, List.set_cons_succ, i64_w, i32_w]
                      rfl
                    refine pure_ (i := 12) (N := (some 147)) (v := ?_) (a' := ?_) #[true, true, true, true, false, true, true, true, false, true, false, false, true, false, false, false, false, false, false, false, false, false] rfl rfl (by kernel_rfl) (fun _ _ _ h => h) (Or.inl ⟨by rfl, ?_⟩) ?_ ?_
                    rotate_left
                    · intro w'
                      go_simp
                      with_reducible rfl
                    rotate_left
                    · simp only [Act.put, List.setIfInBounds_toArray, List.set_cons_zero, List.set_cons_succ, i64_w, i32_w]
                      rfl
                    refine pure_ (i := 13) (N := (some 148)) (v := .int .i64 (97 + (l : Int))) (a' := ?_) #[true, true, true, true, false, true, true, true, false, true, false, false, true, true, false, false, false, false, false, false, false, false] rfl rfl (by kernel_rfl) (fun _ _ _ h => h) (Or.inl ⟨by rfl, ?_⟩) ?_ ?_
                    · intro w'
                      go_simp
                      rw [IntWalk.i64_left, IntWalk.wrap64_in _ (by omega)]
                    rotate_left
                    · simp only [Act.put, List.setIfInBounds_toArray, List.set_cons_zero, List.set_cons_succ, i64_w, i32_w]
                      rfl
                    refine pure_ (i := 14) (N := (some 149)) (v := .int .i32 (97 + (l : Int))) (a' := ?_) #[true, true, true, true, false, true, true, true, false, true, false, false, true, true, true, false, false, false, false, false, false, false] rfl rfl (by kernel_rfl) (fun _ _ _ h => h) (Or.inl ⟨by rfl, ?_⟩) ?_ ?_
                    · intro w'
                      go_simp
                      rw [IntWalk.i32_left, IntWalk.wrap32_in _ (by omega)]
                    rotate_left
                    · simp only [Act.put, List.setIfInBounds_toArray, List.set_cons_zero, List.set_cons_succ, i64_w, i32_w]
                      rfl
                    refine pure_ (i := 15) (N := (some 150)) (v := .string (chrB l)) (a' := ?_) #[true, true, true, true, false, true, true, true, false, true, false, false, true, true, true, true, false, false, false, false, false, false] rfl rfl (by kernel_rfl) (fun _ _ _ h => h) (Or.inl ⟨by rfl, ?_⟩) ?_ ?_
                    · intro w'
                      go_simp
                      exact enc_chr l (by omega)
                    rotate_left
                    · simp only [Act.put, List.setIfInBounds_toArray, List.set_cons_zero, List.set_cons_succ, i64_w, i32_w]
                      rfl
                    refine take_ (i := 4) (N := (some 139)) (v := ?_) (a' := ?_) #[true, true, true, true, true, true, true, true, false, true, false, false, true, true, true, true, false, false, false, false, false, false] rfl rfl (by kernel_rfl) (fun _ _ _ h => h) (Or.inl ⟨by rfl, ?_⟩) hHeld ?_ ?_
                    rotate_left
                    · rintro w' s0
                      have s3 := (blk_cell s0.mon 5).trans rfl
                      go_simp
                      with_reducible rfl
                    rotate_left
                    · simp only [Act.put, List.setIfInBounds_toArray, List.set_cons_zero, List.set_cons_succ, i64_w, i32_w]
                      rfl
                    refine take_ (i := 8) (N := (some 143)) (v := ?_) (a' := ?_) #[true, true, true, true, true, true, true, true, true, true, false, false, true, true, true, true, false, false, false, false, false, false] rfl rfl (by kernel_rfl) (fun _ _ _ h => h) (Or.inl ⟨by rfl, ?_⟩) hHeld ?_ ?_
                    rotate_left
                    · rintro w' s0
                      have s3 := (blk_cell s0.mon 5).trans rfl
                      go_simp
                      with_reducible rfl
                    rotate_left
                    · simp only [Act.put, List.setIfInBounds_toArray, List.set_cons_zero, List.set_cons_succ, i64_w, i32_w]
                      rfl
                    refine pure_ (i := 10) (N := (some 145)) (v := ?_) (a' := ?_) #[true, true, true, true, true, true, true, true, true, true, true, false, true, true, true, true, false, false, false, false, false, false] rfl rfl (by kernel_rfl) (fun _ _ _ h => h) (Or.inl ⟨by rfl, ?_⟩) ?_ ?_
                    rotate_left
                    · intro w'
                      go_simp
                      with_reducible rfl
                    rotate_left
                    · simp only [Act.put, List.setIfInBounds_toArray, List.set_cons_zero, List.set_cons_succ, i64_w, i32_w]
                      rfl
                    refine take_ (i := 11) (N := (some 146)) (v := .string ww) (a' := ?_) #[true, true, true, true, true, true, true, true, true, true, true, true, true, true, true, true, false, false, false, false, false, false] rfl rfl (by kernel_rfl) (fun _ _ _ h => h) (Or.inl ⟨by rfl, ?_⟩) hHeld ?_ ?_
                    · rintro w' s0
                      have s3 := str_cell s0.wds i (by omega)
                      rw [← HWW.out] at s3
                      go_simp
                    rotate_left
                    · simp only [Act.put, List.setIfInBounds_toArray, List.set_cons_zero, List.set_cons_succ, i64_w, i32_w]
                      rfl
                    refine pure_ (i := 16) (N := (some 151)) (v := .string (ww ++ chrB l)) (a' := ?_) #[true, true, true, true, true, true, true, true, true, true, true, true, true, true, true, true, true, false, false, false, false, false] rfl rfl (by kernel_rfl) (fun _ _ _ h => h) (Or.inl ⟨by rfl, ?_⟩) ?_ ?_
                    · intro w'
                      go_simp
                      have : (chrB l).size = 1 := rfl
                      omega
                    rotate_left
                    · simp only [Act.put, List.setIfInBounds_toArray, List.set_cons_zero, List.set_cons_succ, i64_w, i32_w]
                      rfl
                    refine one_ (i := 17) (N := (some 152)) #[true, true, true, true, true, true, true, true, true, true, true, true, true, true, true, true, true, true, false, false, false, false] rfl rfl (by kernel_rfl) (by decide) (fun K hK => ?_)
                    refine value_ (v := .slice (some ⟨z7.heap.size, 0, none⟩) 1 1) (w1 := z7.alloc (.cells #[.string (ww ++ chrB l)] 9)) (by rfl) rfl (by go_simp) ?_
                    refine hK.out _ _ ((S7.out.step (below_alloc (Below.refl _ _) _))) (fun hHeld => ?_)
                    clear hK K
                    refine norm_ (a' := ?_) ?_ ?_
                    rotate_left
                    · show Act.put _ (some 152) _ = _
                      simp only [Act.put, List.setIfInBounds_toArray, List.set_cons_zero, List.set_cons_succ, i64_w, i32_w]
                      rfl
                    refine last_ (i := 18) (N := (some 153)) #[true, true, true, true, true, true, true, true, true, true, true, true, true, true, true, true, true, true, true, false, false, false] rfl rfl (by kernel_rfl) (by decide) (fun K hK => ?_)
                    refine Kd.R_append_step Kd.string (w0 := w) w.heap.size (by rfl) (.tmp 139) (.tmp 152) 47 9 (.string ⟨#[]⟩) 16 rfl Try.underlying47 infoS rfl (by decide) (by omega) (.slice (some ⟨g6, 0, none⟩) T.length c6) Ws (ww ++ chrB l) [.string (ww ++ chrB l)] (fun _ => True) (fun _ => False) rfl rfl rfl (fun _ hk => hk.elim) (fun _ _ => trivial) S7.out.wds S7.out.below S7.out.below.size (by omega) ?_
                    intro v8' w8' ho5 hb5 hg5 hat5
                    have S8 := Aside0.mk (S7.out.addW (y := v8') (ys := Ws ++ [(ww ++ chrB l)]) ho5 hb5 hg5 hat5)
                    obtain ⟨A8, c8, hv8⟩ := Kd.R_slice ho5
                    rw [show (Ws ++ [(ww ++ chrB l)]).length = T.length + 1 by simp [hW]] at hv8
                    subst hv8
                    clear ho5 hb5 hg5 hat5 S7
                    refine hK.out _ _ ?_
                    clear hK K
                    refine norm_ (a' := ?_) ?_ ?_
                    rotate_left
                    · show Act.put _ (some 153) _ = _
                      simp only [Act.put, List.setIfInBounds_toArray, List.set_cons_zero, List.set_cons_succ, i64_w, i32_w]
                      rfl
                    refine pure_ (i := 19) (N := (some 154)) (v := ?_) (a' := ?_) #[true, true, true, true, true, true, true, true, true, true, true, true, true, true, true, true, true, true, true, true, false, false] rfl rfl (by kernel_rfl) (fun _ _ _ h => h) (Or.inl ⟨by rfl, ?_⟩) ?_ ?_
                    rotate_left
                    · intro w'
                      go_simp
                      with_reducible rfl
                    rotate_left
                    · simp only [Act.put, List.setIfInBounds_toArray, List.set_cons_zero, List.set_cons_succ, i64_w, i32_w]
                      rfl
                    refine pure_ (i := 20) (N := (some 155)) (v := ?_) (a' := ?_) #[true, true, true, true, true, true, true, true, true, true, true, true, true, true, true, true, true, true, true, true, true, false] rfl rfl (by kernel_rfl) (fun _ _ _ h => h) (Or.inl ⟨by rfl, ?_⟩) ?_ ?_
                    rotate_left
                    · intro w'
                      go_simp
                      with_reducible rfl
                    rotate_left
                    · simp only [Act.put, List.setIfInBounds_toArray, List.set_cons_zero, List.set_cons_succ, i64_w, i32_w]
                      rfl
                    refine last_ (i := 21) (N := none) #[true, true, true, true, true, true, true, true, true, true, true, true, true, true, true, true, true, true, true, true, true, true] rfl rfl (by kernel_rfl) (by decide) (fun K hK => ?_)
                    refine skip_ (w1 := w8'.setCells gm 5 [.slice A8 (T.length + 1) c8]) (by rfl) rfl ?_ ?_
                    · have hrun := run_store_run (P := Try.prog) (o := 5) 47 (.slice A8 (T.length + 1) c8) [.slice A8 (T.length + 1) c8] S8.out.mon rfl sizeLS (by simp) (by intro q hq; simp at hq; subst hq; rfl)
                      simp [execOp, Act.eval, hrun]
                    have S9 := Aside0.mk (S8.out.setW (.slice A8 (T.length + 1) c8))
                    clear S8
                    refine hK.out _ _ ?_
                    clear hK K
                    refine done_ (by kernel_rfl) ?_
                    --ENDP32
                    generalize w8'.setCells gm 5 [.slice A8 (T.length + 1) c8] = w9 at *
                    go_wp2_with ((with_reducible refine gate_builtin (b := .append) (xs := #[.tmp 156, .tmp 158]) rfl ?_); at_builtin; refine Kd.R_append (Kd.int .i64) (w0 := w) w.heap.size rfl (.tmp 156) (.tmp 158) 22 3 (.int .i64 0) 8 rfl Try.underlying22 infoI rfl (by decide) (by omega) (.slice A16 Rs.length c16) Rs T.length [.int .i64 T.length] (fun _ => True) (fun _ => False) rfl rfl rfl (fun _ hk => hk.elim) (fun _ _ => trivial) S9.out.rts S9.out.below S9.out.below.size (by omega) ?_; intro v15 w15 ho15 hb15 hg15 hat15)
                    go_roundw
                    case measure => simp [intOf]; omega
                    case rel => exact ⟨l + 1, T ++ [t], Ws ++ [ww ++ chrB l], Rs ++ [(T.length : Int)], _, _, _, by go_num, by omega, by simp; omega, by simp; omega, by simp [hW], HSZ2, ⟨by simp [hRl.out]; omega⟩, ⟨by rw [hm1, HWW.out]; exact HB4.out⟩, ⟨S9.out.addR ho15 hb15 hg15 hat15⟩⟩
                  --ENDDONE5
            --PEND
            · have hx : k = l := by omega
              subst hx
              --DONE6
              have HB2 := HB.out
              rw [Nat.sub_self] at HB2
              simp only [rowB, Option.bind_some] at HB2
              have HB3 := Aside0.mk HB2
              clear HB HB2
              have g3 : decide ((k : Int) < (k : Int)) = false := by simp
              go_wp2_with fail
              go_roundw
              case measure => simp [intOf]; omega
              case rel => exact ⟨i + 1, T, Ws, Rs, _, _, _, by go_num, by omega, hT, by omega, hW, HSZ, ⟨by rw [hRl.out, Nat.succ_mul]⟩, ⟨by rw [show 513 - (i + 1) = f by omega]; exact HB3.out⟩, S1⟩
              --ENDDONE6
        · have hx : i = T.length := by omega
          subst hx
          obtain ⟨f, hf⟩ : ∃ f, 513 - T.length = f + 1 := ⟨512 - T.length, by omega⟩
          have HA2 := HA1.out
          rw [hf] at HA2
          simp only [allB] at HA2
          rw [if_neg (Nat.lt_irrefl _)] at HA2
          have HA3 := Aside0.mk HA2
          clear HA2 HA1 hf
          have g2 : decide ((T.length : Int) < (T.length : Int)) = false := by simp
          obtain ⟨g5, hg5⟩ := row_some S1.out.trs (by rw [List.length_map]; omega)
          subst hg5
          obtain ⟨A6, c6, hv⟩ := Kd.R_slice S1.out.wds
          rw [hW] at hv
          subst hv
          obtain ⟨g6, hg6⟩ := row_some S1.out.wds (by omega)
          subst hg6
          have hRb : Rs.length ≤ 4096 := by
            rw [hRl.out]
            exact Nat.le_trans (Nat.mul_le_mul hT k8) (by decide)
          have hR1 : 0 < Rs.length := by
            rw [hRl.out]
            exact Nat.mul_pos hT1 k1
          obtain ⟨A16, c16, hv⟩ := Kd.R_slice S1.out.rts
          subst hv
          obtain ⟨gR, hgR⟩ := row_some S1.out.rts hR1
          subst hgR
          have hc16 := (Kd.R_reads' S1.out.rts).2.1
          go_upto_region 36 with (go_at_call 79; refine (rows_calls _ gR k T.length Rs.length c16 k1 k8 hT hRl.out hc16).mono ?_; rintro e w13 ⟨A17, c17, rfl, hr13, hb13⟩; have S2 : Aside0 (St w w13 w.heap.size gm bt bm k ac.length A1 c1 nx A2 c2 ac (.slice A3 nx.length c3) (.slice A4 ac.length c4) v (.slice (some ⟨g5, 0, none⟩) T.length c5) (.slice (some ⟨g6, 0, none⟩) T.length c6) (.slice (some ⟨gL, 0, none⟩) k c12) (.slice (some ⟨gR, 0, none⟩) Rs.length c16) (.slice none 0 0) (.slice none 0 0) (.slice (some ⟨g5, 0, none⟩) T.length c5) (.slice (some ⟨g6, 0, none⟩) T.length c6) (.slice none 0 0) 0 0 T T (letters nx k ac.length) Ws Rs []) := ⟨S1.out.step hb13⟩; have S3 : Aside0 (St w w13 w.heap.size gm bt bm k ac.length A1 c1 nx A2 c2 ac (.slice A3 nx.length c3) (.slice A4 ac.length c4) v (.slice (some ⟨g5, 0, none⟩) T.length c5) (.slice (some ⟨g6, 0, none⟩) T.length c6) (.slice (some ⟨gL, 0, none⟩) k c12) (.slice (some ⟨gR, 0, none⟩) Rs.length c16) (.slice none 0 0) (.slice A17 T.length c17) (.slice (some ⟨g5, 0, none⟩) T.length c5) (.slice (some ⟨g6, 0, none⟩) T.length c6) (.slice none 0 0) gR T.length T T (letters nx k ac.length) Ws Rs []) := ⟨{ S2.out with rrs := Kd.R_lower hr13 S1.out.below.size }⟩; have y6 : w13.cell? ⟨gm, 6, none⟩ = some (.slice none 0 0) := (blk_cell S3.out.mon 6).trans rfl; have z6 := blk_frozen S3.out.mon 6)
          have S4 : Aside0 (St w (w13.setCell ⟨gm, 6, none⟩ (.slice A17 T.length c17)) w.heap.size gm bt bm k ac.length A1 c1 nx A2 c2 ac (.slice A3 nx.length c3) (.slice A4 ac.length c4) v (.slice (some ⟨g5, 0, none⟩) T.length c5) (.slice (some ⟨g6, 0, none⟩) T.length c6) (.slice (some ⟨gL, 0, none⟩) k c12) (.slice (some ⟨gR, 0, none⟩) Rs.length c16) (.slice none 0 0) (.slice A17 T.length c17) (.slice (some ⟨g5, 0, none⟩) T.length c5) (.slice (some ⟨g6, 0, none⟩) T.length c6) (.slice A17 T.length c17) gR T.length T T (letters nx k ac.length) Ws Rs []) := ⟨S3.out.setr (.slice A17 T.length c17)⟩
          clear hr13 hb13 S1 S2 S3 y4 y6 z6
          generalize w13.setCell ⟨gm, 6, none⟩ (.slice A17 T.length c17) = w14 at *
          have y4 : w14.cell? ⟨gm, 4, none⟩ = some (.slice (some ⟨g5, 0, none⟩) T.length c5) := (blk_cell S4.out.mon 4).trans rfl
          go_wp2_with fail
          go_loopw [24, 172] (fun v24 v172 wr => ∃ (i : Nat) (F : List Int), v172 = .int .i64 i ∧ i ≤ T.length ∧ Aside0 (F = (lefts ac.length k (letters nx k ac.length) T (i * k))) ∧ Aside0 (St w wr w.heap.size gm bt bm k ac.length A1 c1 nx A2 c2 ac (.slice A3 nx.length c3) (.slice A4 ac.length c4) v (.slice (some ⟨g5, 0, none⟩) T.length c5) (.slice (some ⟨g6, 0, none⟩) T.length c6) (.slice (some ⟨gL, 0, none⟩) k c12) (.slice (some ⟨gR, 0, none⟩) Rs.length c16) v24 (.slice A17 T.length c17) (.slice (some ⟨g5, 0, none⟩) T.length c5) (.slice (some ⟨g6, 0, none⟩) T.length c6) (.slice A17 T.length c17) gR T.length T T (letters nx k ac.length) Ws Rs F)) (fun _ v172 _ => T.length - (intOf v172).toNat)
          case atStart => exact ⟨0, [], rfl, Nat.zero_le _, ⟨by rw [Nat.zero_mul]; rfl⟩, S4⟩
          case round =>
            obtain ⟨i, F, rfl, hi, HFe, S1⟩ := hrel
            clear S4 y4
            by_cases hit : i < T.length
            · have g4 : decide ((i : Int) < (T.length : Int)) = true := decide_eq_true (by omega)
              go_wp2_with fail
              go_loopw [24, 176] (fun v24 v176 wi => ∃ (l : Nat) (F : List Int), v176 = .int .i64 l ∧ l ≤ k ∧ Aside0 (F = (lefts ac.length k (letters nx k ac.length) T (i * k + l))) ∧ Aside0 (St w wi w.heap.size gm bt bm k ac.length A1 c1 nx A2 c2 ac (.slice A3 nx.length c3) (.slice A4 ac.length c4) v (.slice (some ⟨g5, 0, none⟩) T.length c5) (.slice (some ⟨g6, 0, none⟩) T.length c6) (.slice (some ⟨gL, 0, none⟩) k c12) (.slice (some ⟨gR, 0, none⟩) Rs.length c16) v24 (.slice A17 T.length c17) (.slice (some ⟨g5, 0, none⟩) T.length c5) (.slice (some ⟨g6, 0, none⟩) T.length c6) (.slice A17 T.length c17) gR T.length T T (letters nx k ac.length) Ws Rs F)) (fun _ v176 _ => k - (intOf v176).toNat)
              case atStart => exact ⟨0, F, rfl, Nat.zero_le _, HFe, S1⟩
              case round =>
                clear S1 HFe g4
                obtain ⟨l, F, rfl, hl, HFe, S1⟩ := hrel
                have hFb : F.length < 5000 := by
                  rw [HFe.out, lefts_len]
                  have := Nat.mul_le_mul (show i ≤ 511 by omega) k8
                  omega
                obtain ⟨A24, c24, hv⟩ := Kd.R_slice S1.out.fts
                subst hv
                by_cases hlt : l < k
                · obtain ⟨t, ht⟩ : ∃ t, t = (comp ac.length ((letters nx k ac.length).getD l []) (T.getD i [])) := ⟨_, rfl⟩
                  have HT := Aside0.mk ht
                  clear ht
                  have hll : (letters nx k ac.length).length = k := by simp [letters]
                  have GT := Aside0.mk (show HTable.Good ac.length t by
                    rw [HT.out]
                    refine good_comp ?_ ?_
                    · rw [show (letters nx k ac.length).getD l [] = lt nx k ac.length l by simp [letters, List.getD_eq_getElem?_getD, List.getElem?_map, List.getElem?_range hlt]]
                      exact HF.out.good l hlt
                    · rw [List.getD_eq_getElem?_getD, List.getElem?_eq_getElem hit]
                      exact S1.out.tab.good _ (List.getElem_mem hit))
                  go_upto_region 43 with fail
                  go_cut [27] from 178 to 204 (fun v27 wd => ∃ bx : Nat, v27 = .pointer (some ⟨bx, 0, none⟩) ∧ Aside0 (wd.heap[bx]? = some (.cells (pk (im t) ac.length ac.length) 57 (0, 0))) ∧ Aside0 (v.ownBlock ≠ some bx ∧ (Value.slice (some ⟨g5, 0, none⟩) T.length c5).ownBlock ≠ some bx) ∧ Aside0 (St w wd w.heap.size gm bt bm k ac.length A1 c1 nx A2 c2 ac (.slice A3 nx.length c3) (.slice A4 ac.length c4) v (.slice (some ⟨g5, 0, none⟩) T.length c5) (.slice (some ⟨g6, 0, none⟩) T.length c6) (.slice (some ⟨gL, 0, none⟩) k c12) (.slice (some ⟨gR, 0, none⟩) Rs.length c16) (.slice A24 F.length c24) (.slice A17 T.length c17) (.slice (some ⟨g5, 0, none⟩) T.length c5) (.slice (some ⟨g6, 0, none⟩) T.length c6) (.slice A17 T.length c17) gR T.length T T (letters nx k ac.length) Ws Rs F))
                  case first =>
                    --DONE7
                    refine start_ (n := 18) (S := fun w' => St w w' w.heap.size gm bt bm k ac.length A1 c1 nx A2 c2 ac (.slice A3 nx.length c3) (.slice A4 ac.length c4) v (.slice (some ⟨g5, 0, none⟩) T.length c5) (.slice (some ⟨g6, 0, none⟩) T.length c6) (.slice (some ⟨gL, 0, none⟩) k c12) (.slice (some ⟨gR, 0, none⟩) Rs.length c16) (.slice A24 F.length c24) (.slice A17 T.length c17) (.slice (some ⟨g5, 0, none⟩) T.length c5) (.slice (some ⟨g6, 0, none⟩) T.length c6) (.slice A17 T.length c17) gR T.length T T (letters nx k ac.length) Ws Rs F) (ds := []) #[false, false, false, false, false, false, false, false, false, false, false, false, false, false, false, false, false, false] (by kernel_rfl) rfl rfl (S1.out.step (below_drew1 (Below.refl _ _))) (fun hHeld => ?_)
                    have S0 : Aside0 (St w wr.drew w.heap.size gm bt bm k ac.length A1 c1 nx A2 c2 ac (.slice A3 nx.length c3) (.slice A4 ac.length c4) v (.slice (some ⟨g5, 0, none⟩) T.length c5) (.slice (some ⟨g6, 0, none⟩) T.length c6) (.slice (some ⟨gL, 0, none⟩) k c12) (.slice (some ⟨gR, 0, none⟩) Rs.length c16) (.slice A24 F.length c24) (.slice A17 T.length c17) (.slice (some ⟨g5, 0, none⟩) T.length c5) (.slice (some ⟨g6, 0, none⟩) T.length c6) (.slice A17 T.length c17) gR T.length T T (letters nx k ac.length) Ws Rs F) := ⟨S1.out.step (below_drew1 (Below.refl _ _))⟩
                    clear S1
                    generalize wr.drew = y0 at *
                    refine pure_ (i := 0) (N := (some 180)) (v := ?_) (a' := ?_) #[true, false, false, false, false, false, false, false, false, false, false, false, false, false, false, false, false, false] rfl rfl (by kernel_rfl) (fun _ _ _ h => h) (Or.inl ⟨by rfl, ?_⟩) ?_ ?_
                    rotate_left
                    · intro w'
                      go_simp
                      with_reducible rfl
                    rotate_left
                    · simp only [Act.put, List.setIfInBounds_toArray, List.set_cons_zero, List.set_cons_succ, i64_w, i32_w]
                      rfl
                    refine pure_ (i := 1) (N := (some 181)) (v := ?_) (a' := ?_) #[true, true, false, false, false, false, false, false, false, false, false, false, false, false, false, false, false, false] rfl rfl (by kernel_rfl) (fun _ _ _ h => h) (Or.inl ⟨by rfl, ?_⟩) ?_ ?_
                    rotate_left
                    · intro w'
                      go_simp
                      with_reducible rfl
                    rotate_left
                    · simp only [Act.put, List.setIfInBounds_toArray, List.set_cons_zero, List.set_cons_succ, i64_w, i32_w]
                      rfl
                    refine pure_ (i := 2) (N := (some 182)) (v := ?_) (a' := ?_) #[true, true, true, false, false, false, false, false, false, false, false, false, false, false, false, false, false, false] rfl rfl (by kernel_rfl) (fun _ _ _ h => h) (Or.inl ⟨by rfl, ?_⟩) ?_ ?_
                    rotate_left
                    · intro w'
                      go_simp
                      with_reducible rfl
                    rotate_left
                    · simp only [Act.put, List.setIfInBounds_toArray, List.set_cons_zero, List.set_cons_succ, i64_w, i32_w]
                      rfl
                    refine pure_ (i := 4) (N := (some 184)) (v := ?_) (a' := ?_) #[true, true, true, false, true, false, false, false, false, false, false, false, false, false, false, false, false, false] rfl rfl (by kernel_rfl) (fun _ _ _ h => h) (Or.inl ⟨by rfl, ?_⟩) ?_ ?_
                    rotate_left
                    · intro w'
                      go_simp
                      with_reducible rfl
                    rotate_left
                    · simp only [Act.put, List.setIfInBounds_toArray, List.set_cons_zero, List.set_cons_succ, i64_w, i32_w]
                      rfl
                    refine pure_ (i := 5) (N := (some 185)) (v := ?_) (a' := ?_) #[true, true, true, false, true, true, false, false, false, false, false, false, false, false, false, false, false, false] rfl rfl (by kernel_rfl) (fun _ _ _ h => h) (Or.inl ⟨by rfl, ?_⟩) ?_ ?_
                    rotate_left
                    · intro w'
                      go_simp
                      with_reducible rfl
                    rotate_left
                    · simp only [Act.put, List.setIfInBounds_toArray, List.set_cons_zero, List.set_cons_succ, i64_w, i32_w]
                      rfl
                    refine pure_ (i := 6) (N := (some 186)) (v := ?_) (a' := ?_) #[true, true, true, false, true, true, true, false, false, false, false, false, false, false, false, false, false, false] rfl rfl (by kernel_rfl) (fun _ _ _ h => h) (Or.inl ⟨by rfl, ?_⟩) ?_ ?_
                    rotate_left
                    · intro w'
                      go_simp
                      with_reducible rfl
                    rotate_left
                    · simp only [Act.put, List.setIfInBounds_toArray, List.set_cons_zero, List.set_cons_succ, i64_w, i32_w]
                      rfl
                    refine pure_ (i := 8) (N := (some 188)) (v := ?_) (a' := ?_) #[true, true, true, false, true, true, true, false, true, false, false, false, false, false, false, false, false, false] rfl rfl (by kernel_rfl) (fun _ _ _ h => h) (Or.inl ⟨by rfl, ?_⟩) ?_ ?_
                    rotate_left
                    · intro w'
                      go_simp
                      with_reducible rfl
                    rotate_left
                    · simp only [Act.put, List.setIfInBounds_toArray, List.set_cons_zero, List.set_cons_succ, i64_w, i32_w]
                      rfl
                    refine take_ (i := 3) (N := (some 183)) (v := .agg (pk (im ((letters nx k ac.length).getD l [])) ac.length ac.length)) (a' := ?_) #[true, true, true, true, true, true, true, false, true, false, false, false, false, false, false, false, false, false] rfl rfl (by kernel_rfl) (fun _ _ _ h => h) (Or.inl ⟨by rfl, ?_⟩) hHeld ?_ ?_
                    · rintro w' s0
                      exact exec_loadR (op := _) (a := _) (x := .tmp 182) l s0.lts (by omega) rfl rfl
                    rotate_left
                    · simp only [Act.put, List.setIfInBounds_toArray, List.set_cons_zero, List.set_cons_succ, i64_w, i32_w]
                      rfl
                    refine take_ (i := 7) (N := (some 187)) (v := ?_) (a' := ?_) #[true, true, true, true, true, true, true, true, true, false, false, false, false, false, false, false, false, false] rfl rfl (by kernel_rfl) (fun _ _ _ h => h) (Or.inl ⟨by rfl, ?_⟩) hHeld ?_ ?_
                    rotate_left
                    · rintro w' s0
                      have s3 := (blk_cell s0.mon 4).trans rfl
                      go_simp
                      with_reducible rfl
                    rotate_left
                    · simp only [Act.put, List.setIfInBounds_toArray, List.set_cons_zero, List.set_cons_succ, i64_w, i32_w]
                      rfl
                    refine pure_ (i := 9) (N := (some 189)) (v := ?_) (a' := ?_) #[true, true, true, true, true, true, true, true, true, true, false, false, false, false, false, false, false, false] rfl rfl (by kernel_rfl) (fun _ _ _ h => h) (Or.inl ⟨by rfl, ?_⟩) ?_ ?_
                    rotate_left
                    · intro w'
                      go_simp
                      with_reducible rfl
                    rotate_left
                    · simp only [Act.put, List.setIfInBounds_toArray, List.set_cons_zero, List.set_cons_succ, i64_w, i32_w]
                      rfl
                    refine take_ (i := 10) (N := (some 190)) (v := .agg (pk (im (T.getD i [])) ac.length ac.length)) (a' := ?_) #[true, true, true, true, true, true, true, true, true, true, true, false, false, false, false, false, false, false] rfl rfl (by kernel_rfl) (fun _ _ _ h => h) (Or.inl ⟨by rfl, ?_⟩) hHeld ?_ ?_
                    · rintro w' s0
                      exact exec_loadR (op := _) (a := _) (x := .tmp 189) i s0.trs hit rfl rfl
                    rotate_left
                    · simp only [Act.put, List.setIfInBounds_toArray, List.set_cons_zero, List.set_cons_succ, i64_w, i32_w]
                      rfl
                    refine two_ (i := 11) (j := 15) (Ni := (some 191)) (Nj := (some 27)) #[true, true, true, true, true, true, true, true, true, true, true, true, false, false, false, false, false, false] #[true, true, true, true, true, true, true, true, true, true, true, false, false, false, false, true, false, false] rfl rfl rfl rfl (by kernel_rfl) (by decide) (by decide) (fun K hK => ?_) (fun K hK => ?_)
                    · refine call_ 30 #[.agg (pk (im ((letters nx k ac.length).getD l [])) ac.length ac.length), .agg (pk (im (T.getD i [])) ac.length ac.length)] (by rfl) rfl (by go_simp) ?_
                      refine (HTrans.compose_calls y0 (im ((letters nx k ac.length).getD l [])) (im (T.getD i [])) ac.length n1 n64 (fun i hi => (HTable.Good.im (by rw [show (letters nx k ac.length).getD l [] = lt nx k ac.length l by simp [letters, List.getD_eq_getElem?_getD, List.getElem?_map, List.getElem?_range hlt]]; exact HF.out.good l hlt) i hi)) (fun i hi => (HTable.Good.im (S0.out.tab.good _ (by rw [List.getD_eq_getElem?_getD, List.getElem?_eq_getElem hit]; exact List.getElem_mem hit)) i hi))).mono ?_
                      rintro e y1 ⟨rfl, hb⟩
                      rw [HMon.pk_comp, ← HT.out]
                      refine ⟨_, rfl, ?_⟩
                      have S1 := Aside0.mk (S0.out.step hb)
                      clear hb
                      refine hK.out _ _ (S1.out) (fun hHeld => ?_)
                      clear hK K
                      refine norm_ (a' := ?_) ?_ ?_
                      rotate_left
                      · show Act.put _ (some 191) _ = _
                        simp only [Act.put, List.setIfInBounds_toArray, List.set_cons_zero, List.set_cons_succ, i64_w, i32_w]
                        rfl
                      refine pure_ (i := 12) (N := (some 179)) (v := ?_) (a' := ?_) #[true, true, true, true, true, true, true, true, true, true, true, true, true, false, false, false, false, false] rfl rfl (by kernel_rfl) (fun _ _ _ h => h) (Or.inl ⟨by rfl, ?_⟩) ?_ ?_
                      rotate_left
                      · intro w'
                        go_simp
                        with_reducible rfl
                      rotate_left
                      · simp only [Act.put, List.setIfInBounds_toArray, List.set_cons_zero, List.set_cons_succ, i64_w, i32_w]
                        rfl
                      refine pure_ (i := 13) (N := (some 192)) (v := ?_) (a' := ?_) #[true, true, true, true, true, true, true, true, true, true, true, true, true, true, false, false, false, false] rfl rfl (by kernel_rfl) (fun _ _ _ h => h) (Or.inl ⟨by rfl, ?_⟩) ?_ ?_
                      rotate_left
                      · intro w'
                        go_simp
                        with_reducible rfl
                      rotate_left
                      · simp only [Act.put, List.setIfInBounds_toArray, List.set_cons_zero, List.set_cons_succ, i64_w, i32_w]
                        rfl
                      refine pure_ (i := 14) (N := (some 193)) (v := ?_) (a' := ?_) #[true, true, true, true, true, true, true, true, true, true, true, true, true, true, true, false, false, false] rfl rfl (by kernel_rfl) (fun _ _ _ h => h) (Or.inl ⟨by rfl, ?_⟩) ?_ ?_
                      rotate_left
                      · intro w'
                        go_simp
                        with_reducible rfl
                      rotate_left
                      · simp only [Act.put, List.setIfInBounds_toArray, List.set_cons_zero, List.set_cons_succ, i64_w, i32_w]
                        rfl
                      refine one_ (i := 15) (N := (some 27)) #[true, true, true, true, true, true, true, true, true, true, true, true, true, true, true, true, false, false] rfl rfl (by kernel_rfl) (by decide) (fun K hK => ?_)
                      refine value_ (v := .pointer (some ⟨y1.heap.size, 0, none⟩)) (w1 := y1.alloc (.cells z8 57)) (by rfl) rfl (by go_simp) ?_
                      have HZ2 := Aside0.mk (below_alloc (Below.refl y1.heap.size y1) (.cells z8 57))
                      have Z2 := Aside0.mk (blk_new y1 (.cells z8 57))
                      have S2 := Aside0.mk (S1.out.step HZ2.out)
                      generalize y1.alloc (.cells z8 57) = y2 at *
                      refine hK.out _ _ (S2.out) (fun hHeld => ?_)
                      clear hK K
                      refine norm_ (a' := ?_) ?_ ?_
                      rotate_left
                      · show Act.put _ (some 27) _ = _
                        simp only [Act.put, List.setIfInBounds_toArray, List.set_cons_zero, List.set_cons_succ, i64_w, i32_w]
                        rfl
                      refine one_ (i := 16) (N := none) #[true, true, true, true, true, true, true, true, true, true, true, true, true, true, true, true, true, false] rfl rfl (by kernel_rfl) (by decide) (fun K hK => ?_)
                      refine skip_ (w1 := y2.setRow y1.heap.size (pk (im t) ac.length ac.length)) (by rfl) rfl (exec_storeT (op := _) (a := _) (x := .tmp 27) (y := .tmp 192) rfl rfl rfl rfl rfl (pk_one _ _ _) Z2.out) ?_
                      have S3 := Aside0.mk (S1.out.step (below_setRow HZ2.out (Nat.le_refl _) (pk (im t) ac.length ac.length)))
                      have Z3 := Aside0.mk (setRow_heap y2 y1.heap.size _ (pk (im t) ac.length ac.length) _ _ Z2.out)
                      have E3 := Aside0.mk (show v.ownBlock ≠ some y1.heap.size ∧ (Value.slice (some ⟨g5, 0, none⟩) T.length c5).ownBlock ≠ some y1.heap.size from ⟨fun q => Nat.lt_irrefl _ (Kd.R_lt S1.out.tab.row _ q), fun q => Nat.lt_irrefl _ (Kd.R_lt S1.out.trs _ q)⟩)
                      refine hK.out _ _ (S3.out) (fun hHeld => ?_)
                      clear hK K
                      refine pure_ (i := 17) (N := (some 28)) (v := ?_) (a' := ?_) #[true, true, true, true, true, true, true, true, true, true, true, true, true, true, true, true, true, true] rfl rfl (by kernel_rfl) (fun _ _ _ h => h) (Or.inl ⟨by rfl, ?_⟩) ?_ ?_
                      rotate_left
                      · intro w'
                        go_simp
                        with_reducible rfl
                      rotate_left
                      · simp only [Act.put, List.setIfInBounds_toArray, List.set_cons_zero, List.set_cons_succ, i64_w, i32_w]
                        rfl
                      refine done_ (by kernel_rfl) ?_
                      go_wp2_with fail
                      go_meet
                      exact ⟨_, rfl, Z3, E3, S3⟩
                    · refine value_ (v := .pointer (some ⟨y0.heap.size, 0, none⟩)) (w1 := y0.alloc (.cells z8 57)) (by rfl) rfl (by go_simp) ?_
                      have HZ1 := Aside0.mk (below_alloc (Below.refl y0.heap.size y0) (.cells z8 57))
                      have Z1 := Aside0.mk (blk_new y0 (.cells z8 57))
                      have S1 := Aside0.mk (S0.out.step HZ1.out)
                      generalize y0.alloc (.cells z8 57) = y1 at *
                      refine hK.out _ _ (S1.out) (fun hHeld => ?_)
                      clear hK K
                      refine norm_ (a' := ?_) ?_ ?_
                      rotate_left
                      · show Act.put _ (some 27) _ = _
                        simp only [Act.put, List.setIfInBounds_toArray, List.set_cons_zero, List.set_cons_succ, i64_w, i32_w]
                        rfl
                      refine one_ (i := 11) (N := (some 191)) #[true, true, true, true, true, true, true, true, true, true, true, true, false, false, false, true, false, false] rfl rfl (by kernel_rfl) (by decide) (fun K hK => ?_)
                      refine call_ 30 #[.agg (pk (im ((letters nx k ac.length).getD l [])) ac.length ac.length), .agg (pk (im (T.getD i [])) ac.length ac.length)] (by rfl) rfl (by go_simp) ?_
                      refine (HTrans.compose_calls y1 (im ((letters nx k ac.length).getD l [])) (im (T.getD i [])) ac.length n1 n64 (fun i hi => (HTable.Good.im (by rw [show (letters nx k ac.length).getD l [] = lt nx k ac.length l by simp [letters, List.getD_eq_getElem?_getD, List.getElem?_map, List.getElem?_range hlt]]; exact HF.out.good l hlt) i hi)) (fun i hi => (HTable.Good.im (S0.out.tab.good _ (by rw [List.getD_eq_getElem?_getD, List.getElem?_eq_getElem hit]; exact List.getElem_mem hit)) i hi))).mono ?_
                      rintro e y2 ⟨rfl, hb⟩
                      rw [HMon.pk_comp, ← HT.out]
                      refine ⟨_, rfl, ?_⟩
                      have HZ2 := Aside0.mk (below_then HZ1.out (Nat.le_of_lt (blk_lt Z1.out)) hb)
                      have Z2 := Aside0.mk (blk_below Z1.out hb)
                      have S2 := Aside0.mk (S1.out.step hb)
                      clear hb
                      refine hK.out _ _ (S2.out) (fun hHeld => ?_)
                      clear hK K
                      refine norm_ (a' := ?_) ?_ ?_
                      rotate_left
                      · show Act.put _ (some 191) _ = _
                        simp only [Act.put, List.setIfInBounds_toArray, List.set_cons_zero, List.set_cons_succ, i64_w, i32_w]
                        rfl
                      refine pure_ (i := 12) (N := (some 179)) (v := ?_) (a' := ?_) #[true, true, true, true, true, true, true, true, true, true, true, true, true, false, false, true, false, false] rfl rfl (by kernel_rfl) (fun _ _ _ h => h) (Or.inl ⟨by rfl, ?_⟩) ?_ ?_
                      rotate_left
                      · intro w'
                        go_simp
                        with_reducible rfl
                      rotate_left
                      · simp only [Act.put, List.setIfInBounds_toArray, List.set_cons_zero, List.set_cons_succ, i64_w, i32_w]
                        rfl
                      refine pure_ (i := 13) (N := (some 192)) (v := ?_) (a' := ?_) #[true, true, true, true, true, true, true, true, true, true, true, true, true, true, false, true, false, false] rfl rfl (by kernel_rfl) (fun _ _ _ h => h) (Or.inl ⟨by rfl, ?_⟩) ?_ ?_
                      rotate_left
                      · intro w'
                        go_simp
                        with_reducible rfl
                      rotate_left
                      · simp only [Act.put, List.setIfInBounds_toArray, List.set_cons_zero, List.set_cons_succ, i64_w, i32_w]
                        rfl
                      refine pure_ (i := 14) (N := (some 193)) (v := ?_) (a' := ?_) #[true, true, true, true, true, true, true, true, true, true, true, true, true, true, true, true, false, false] rfl rfl (by kernel_rfl) (fun _ _ _ h => h) (Or.inl ⟨by rfl, ?_⟩) ?_ ?_
                      rotate_left
                      · intro w'
                        go_simp
                        with_reducible rfl
                      rotate_left
                      · simp only [Act.put, List.setIfInBounds_toArray, List.set_cons_zero, List.set_cons_succ, i64_w, i32_w]
                        rfl
                      refine one_ (i := 16) (N := none) #[true, true, true, true, true, true, true, true, true, true, true, true, true, true, true, true, true, false] rfl rfl (by kernel_rfl) (by decide) (fun K hK => ?_)
                      refine skip_ (w1 := y2.setRow y0.heap.size (pk (im t) ac.length ac.length)) (by rfl) rfl (exec_storeT (op := _) (a := _) (x := .tmp 27) (y := .tmp 192) rfl rfl rfl rfl rfl (pk_one _ _ _) Z2.out) ?_
                      have S3 := Aside0.mk (S0.out.step (below_setRow HZ2.out (Nat.le_refl _) (pk (im t) ac.length ac.length)))
                      have Z3 := Aside0.mk (setRow_heap y2 y0.heap.size _ (pk (im t) ac.length ac.length) _ _ Z2.out)
                      have E3 := Aside0.mk (show v.ownBlock ≠ some y0.heap.size ∧ (Value.slice (some ⟨g5, 0, none⟩) T.length c5).ownBlock ≠ some y0.heap.size from ⟨fun q => Nat.lt_irrefl _ (Kd.R_lt S0.out.tab.row _ q), fun q => Nat.lt_irrefl _ (Kd.R_lt S0.out.trs _ q)⟩)
                      refine hK.out _ _ (S3.out) (fun hHeld => ?_)
                      clear hK K
                      refine pure_ (i := 17) (N := (some 28)) (v := ?_) (a' := ?_) #[true, true, true, true, true, true, true, true, true, true, true, true, true, true, true, true, true, true] rfl rfl (by kernel_rfl) (fun _ _ _ h => h) (Or.inl ⟨by rfl, ?_⟩) ?_ ?_
                      rotate_left
                      · intro w'
                        go_simp
                        with_reducible rfl
                      rotate_left
                      · simp only [Act.put, List.setIfInBounds_toArray, List.set_cons_zero, List.set_cons_succ, i64_w, i32_w]
                        rfl
                      refine done_ (by kernel_rfl) ?_
                      go_wp2_with fail
                      go_meet
                      exact ⟨_, rfl, Z3, E3, S3⟩
                    --ENDDONE7
                  case rest =>
                    --DONE8
                    obtain ⟨bx, rfl, ZB, EB, S2⟩ := hcut
                    clear S1
                    obtain ⟨c, hc⟩ : ∃ c : Int, c = fnd T t := ⟨_, rfl⟩
                    have HC2 := Aside0.mk hc
                    clear hc
                    go_upto_region 45 with (first
                      | (refine loadT_arm rfl _ rfl bx rfl (pk (im t) ac.length ac.length) rfl ZB.out ?_)
                      | (go_at_call 80; refine (find_calls _ w.heap.size bt bm ac.length v T t n64 S2.out.tab GT.out).mono ?_; rintro e w8 ⟨rfl, hb8⟩; rw [show (if t ∈ T then (T.idxOf t : Int) else 0) = c from HC2.out.symm]))
                    have S3 := Aside0.mk (S2.out.step hb8)
                    clear hb8 ZB EB S2
                    go_wp2_with ((with_reducible refine gate_builtin (b := .append) (xs := #[.tmp 200, .tmp 202]) rfl ?_); at_builtin; refine Kd.R_append (Kd.int .i64) (w0 := w) w.heap.size rfl (.tmp 200) (.tmp 202) 22 3 (.int .i64 0) 8 rfl Try.underlying22 infoI rfl (by decide) (by omega) (.slice A24 F.length c24) F c [.int .i64 c] (fun _ => True) (fun _ => False) rfl rfl rfl (fun _ hk => hk.elim) (fun _ _ => trivial) S3.out.fts S3.out.below S3.out.below.size (by omega) ?_; intro v15 w15 ho15 hb15 hg15 hat15)
                    go_roundw
                    case measure => simp [intOf]; omega
                    case rel => exact ⟨l + 1, F ++ [c], by go_num, by omega, ⟨by rw [HFe.out, HC2.out, HT.out]; exact (lefts_succ _ _ _ _ _ _ hlt).symm⟩, ⟨S3.out.addF ho15 hb15 hg15 hat15⟩⟩
                    --ENDDONE8
                · have hx : k = l := by omega
                  subst hx
                  --DONE9
                  have g3 : decide ((k : Int) < (k : Int)) = false := by simp
                  go_wp2_with fail
                  go_roundw
                  case measure => simp [intOf]; omega
                  case rel => exact ⟨i + 1, F, by go_num, by omega, ⟨by rw [HFe.out, Nat.succ_mul]⟩, S1⟩
                  --ENDDONE9
            · have hx : i = T.length := by omega
              subst hx
              --DONE10
              have g4 : decide ((T.length : Int) < (T.length : Int)) = false := by simp
              obtain ⟨A24, c24, hv⟩ := Kd.R_slice S1.out.fts
              subst hv
              have hFl : F.length = T.length * k := by rw [HFe.out, lefts_len]
              have hF1 : 0 < F.length := by rw [hFl]; exact Nat.mul_pos hT1 k1
              obtain ⟨gF, hgF⟩ := row_some S1.out.fts hF1
              subst hgF
              have hc24 := (Kd.R_reads' S1.out.fts).2.1
              have hFb : F.length ≤ 4096 := by
                rw [hFl]
                exact Nat.le_trans (Nat.mul_le_mul hT k8) (by decide)
              have HFl := Aside0.mk hFl
              clear hFl
              go_upto_region 49 with (go_at_call 79; refine (rows_calls _ gF k T.length F.length c24 k1 k8 hT HFl.out hc24).mono ?_; rintro e w15 ⟨A18, c18, rfl, hr15, hb15⟩; have S5 : Aside0 (St w w15 w.heap.size gm bt bm k ac.length A1 c1 nx A2 c2 ac (.slice A3 nx.length c3) (.slice A4 ac.length c4) v (.slice (some ⟨g5, 0, none⟩) T.length c5) (.slice (some ⟨g6, 0, none⟩) T.length c6) (.slice (some ⟨gL, 0, none⟩) k c12) (.slice (some ⟨gR, 0, none⟩) Rs.length c16) (.slice (some ⟨gF, 0, none⟩) F.length c24) (.slice A17 T.length c17) (.slice (some ⟨g5, 0, none⟩) T.length c5) (.slice (some ⟨g6, 0, none⟩) T.length c6) (.slice A17 T.length c17) gR T.length T T (letters nx k ac.length) Ws Rs F) := ⟨S1.out.step hb15⟩; have y7 : w15.cell? ⟨gm, 7, none⟩ = some (.slice none 0 0) := (blk_cell S5.out.mon 7).trans rfl; have z7 := blk_frozen S5.out.mon 7)
              have FIN := Aside0.mk (mon_fin S5.out rfl hW rfl rfl (Kd.R_lower hr15 S1.out.below.size))
              clear hr15 hb15 S5 y7 z7 S1
              generalize w15.setCell ⟨gm, 7, none⟩ (.slice A18 T.length c18) = w16 at *
              go_wp2_with fail
              go_ret2
              exact ⟨FIN.out.2, .inr ⟨T, Ws, Rs, gm, HA3.out.symm, rfl, HFe.out ▸ FIN.out.1⟩⟩
              --ENDDONE10
            --ENDPEND
end Go.Proofs.Ytcnnlddjnmkioaa.HBuild
