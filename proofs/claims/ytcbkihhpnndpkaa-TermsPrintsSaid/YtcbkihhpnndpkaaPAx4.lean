/- Contracts of Go functions, each with the walk through its code, written by a program of this session. -/
import Derived.Test.YtcbkihhpnndpkaaPAx0
import Derived.Test.YtcbkihhpnndpkaaPAx3
namespace Go.Proofs.Ytcbkihhpnndpkaa.PA
open Go.RowKit Go.Proofs.YtcbkihhpnndpkaaW.PrintWords Go.Proofs.YtcbkihhpnndpkaaW.PrintLast Go.Proofs.YtcbkihhpnndpkaaW.PrintMore
attribute [local go_sem] max2_int min2_int max_two min_two max_three min_three max_four min_four   -- for this text's walks alone
set_option linter.unusedVariables false
set_option linter.unusedSimpArgs false

/-! ### eggboxref19_Cut: function 108 -/
def eggboxref19_Cut.l0 : Nat → List (S97) → Int → Int → Int → Option ((List (List (S97))))
 | 0, _, _, _, _ => none
 | k + 1, x0, x3, x4, x5 => if 0 ≤ x4 then (if x4 < (x0.length : Int) then ((eggboxref19_arity.f ((rd_T97 x0 x4).f0)).bind fun t146 => (if (wrap64 ((wrap64 (x5 - 1)) + t146)) = 0 then (if x4 ≤ (x0.length : Int) then (if x4 ≤ x3 then (if x3 ≤ (x0.length : Int) then (some (([(x0.take (x4 : Int).toNat), ((x0.take (x3 : Int).toNat).drop (x4 : Int).toNat)] : List (List (S97))))) else (none)) else (none)) else (none)) else (eggboxref19_Cut.l0 k x0 x3 (wrap64 (x4 - 1)) (wrap64 ((wrap64 (x5 - 1)) + t146))))) else (none)) else (none)
def eggboxref19_Cut.f (k : Nat) (l0 : List (S97)) : Option ((List (List (S97)))) := if 0 ≤ (wrap64 ((l0.length : Int) - 1)) then (if (wrap64 ((l0.length : Int) - 1)) < (l0.length : Int) then ((eggboxref19_arity.f ((rd_T97 l0 (wrap64 ((l0.length : Int) - 1))).f0)).bind fun t136 => (if t136 = 1 then (if (wrap64 ((l0.length : Int) - 1)) ≤ (l0.length : Int) then (some (([(l0.take ((wrap64 ((l0.length : Int) - 1)) : Int).toNat)] : List (List (S97))))) else (none)) else (if t136 = 2 then (eggboxref19_Cut.l0 k l0 (wrap64 ((l0.length : Int) - 1)) (wrap64 ((wrap64 ((l0.length : Int) - 1)) - 1)) 1) else (some ([] : List (List (S97))))))) else (none)) else (none)
def eggboxref19_Cut.T10 : Bool × List (List Nat × List Nat) := (true, [([], []), ([], []), ([0, 1], [0, 1]), ([], []), ([], []), ([], []), ([3, 4, 5], [3, 4, 5]), ([2, 6], [2, 6]), ([7, 0, 1, 2, 3, 4, 5, 6, 7], [7])])
def eggboxref19_Cut.B10 : List Nat := [0, 0, 3, 0, 0, 0, 56, 127, 255]
theorem eggboxref19_Cut.tab10 : rtab .any (opsOf Try.f108 10) = eggboxref19_Cut.T10 := by kernel_rfl
theorem eggboxref19_Cut.bits10 : waitsOk eggboxref19_Cut.T10.2 eggboxref19_Cut.B10 = true := by kernel_rfl
set_option maxHeartbeats 8000000 in
set_option maxRecDepth 100000 in
theorem eggboxref19_Cut.calls (k : Nat) (P0_ : Nat → Prop) (A0 : Option Addr) (c0 : Nat) (l0 : List (S97)) (r : List (List (S97))) (w : World) (hs0 : Kd.V k97 97 w w.heap.size (fun k_ => P0_ k_) (.slice A0 l0.length c0) l0) (h : eggboxref19_Cut.f k l0 = some r) :
 Calls Try.prog 108 #[.slice A0 l0.length c0] w fun e w' => ∃ v0_ : Value, e = .returned (v0_) ∧ Kd.N (Kd.slice 97 k97) 22 w' w.heap.size (fun k_ => (P0_ k_ ∨ w.heap.size ≤ k_)) v0_ r ∧ Below w.heap.size w w' := by
 have HO0 := Aside0.mk (show Kd.V k97 97 w w.heap.size (fun k_ => (P0_ k_ ∨ w.heap.size ≤ k_)) (.slice A0 l0.length c0) l0 from Kd.V_mono hs0 (fun k_ hk => .inl hk))
 have HB := Aside0.mk (Below.refl w.heap.size w)
 have H : (if 0 ≤ (wrap64 ((l0.length : Int) - 1)) then (if (wrap64 ((l0.length : Int) - 1)) < (l0.length : Int) then ((eggboxref19_arity.f ((rd_T97 l0 (wrap64 ((l0.length : Int) - 1))).f0)).bind fun t136 => (if t136 = 1 then (if (wrap64 ((l0.length : Int) - 1)) ≤ (l0.length : Int) then (some (([(l0.take ((wrap64 ((l0.length : Int) - 1)) : Int).toNat)] : List (List (S97))))) else (none)) else (if t136 = 2 then (eggboxref19_Cut.l0 k l0 (wrap64 ((l0.length : Int) - 1)) (wrap64 ((wrap64 ((l0.length : Int) - 1)) - 1)) 1) else (some ([] : List (List (S97))))))) else (none)) else (none)) = some r := h
 clear h
 obtain ⟨ji2, hji2⟩ : ∃ j_ : Int, (wrap64 ((l0.length : Int) - 1)) = j_ := ⟨_, rfl⟩
 replace H : (if 0 ≤ (ji2) then (if (ji2) < (l0.length : Int) then ((eggboxref19_arity.f ((rd_T97 l0 (ji2)).f0)).bind fun t136 => (if t136 = 1 then (if (ji2) ≤ (l0.length : Int) then (some (([(l0.take ((ji2) : Int).toNat)] : List (List (S97))))) else (none)) else (if t136 = 2 then (eggboxref19_Cut.l0 k l0 ji2 (wrap64 ((ji2) - 1)) 1) else (some ([] : List (List (S97))))))) else (none)) else (none)) = some r := by first | (rw [hji2] at H; exact H) | (simp only [hji2] at H ⊢; exact H)
 have hji2w : (IntKind.i64.wrap ((l0.length : Int) - 1)) = ji2 := (i64_w _).trans hji2
 by_cases c3 : 0 ≤ (ji2)
 · rw [if_pos c3] at H
   have c3b0 : decide (0 ≤ (ji2)) = true := decide_eq_true c3
   clear c3
   by_cases c4 : (ji2) < (l0.length : Int)
   · rw [if_pos c4] at H
     have c4b0 : decide ((ji2) < (l0.length : Int)) = true := decide_eq_true c4
     clear c4
     replace H := Option.bind_eq_some_iff.mp H
     obtain ⟨t136, A50, H⟩ := H
     replace H : (if t136 = 1 then (if (ji2) ≤ (l0.length : Int) then (some (([(l0.take ((ji2) : Int).toNat)] : List (List (S97))))) else (none)) else (if t136 = 2 then (eggboxref19_Cut.l0 k l0 ji2 (wrap64 ((ji2) - 1)) 1) else (some ([] : List (List (S97)))))) = some r := H
     have A5 := Aside0.mk A50
     clear A50
     by_cases c6 : t136 = 1
     · rw [if_pos c6] at H
       have c6b0 : (t136 == 1) = true := beq_iff_eq.mpr c6
       have c6b1 : (t136 != 1) = false := bne_eq_false_iff_eq.mpr c6
       clear c6
       have c7b0 := eq_true (of_decide_eq_true (by first | (with_reducible assumption) | assumption) : 0 ≤ (ji2))
       by_cases c8 : (ji2) ≤ (l0.length : Int)
       · rw [if_pos c8] at H
         have c8b0 := eq_true c8
         have c8b1 : decide ((ji2) ≤ (l0.length : Int)) = true := decide_eq_true c8
         clear c8
         obtain ⟨y137, hy137⟩ : ∃ y_ : List (S97), y_ = (l0.take ((ji2) : Int).toNat) := ⟨_, rfl⟩
         replace H : (some (([y137] : List (List (S97))))) = some r := by first | (rw [hy137]; with_reducible exact H) | (have H2_ := (Option.bind_some _ _).symm.trans H; rw [hy137]; with_reducible exact H2_) | (have H2_ := (Option.bind_some _ _).symm.trans H; with_reducible exact H2_) | with_reducible exact H | (rw [hy137]; exact H) | exact H
         have Ny137 := Aside0.mk hy137
         clear hy137
         obtain ⟨y142, hy142⟩ : ∃ y_ : List (List (S97)), y_ = (([y137] : List (List (S97)))) := ⟨_, rfl⟩
         replace H : (some y142) = some r := by first | (rw [hy142]; with_reducible exact H) | (have H2_ := (Option.bind_some _ _).symm.trans H; rw [hy142]; with_reducible exact H2_) | (have H2_ := (Option.bind_some _ _).symm.trans H; with_reducible exact H2_) | with_reducible exact H | (rw [hy142]; exact H) | exact H
         have Ny142 := Aside0.mk hy142
         clear hy142
         obtain rfl := Option.some.inj H
         have p135 : 0 ≤ ((ji2) : Int) := of_decide_eq_true (by first | (with_reducible assumption) | assumption)
         have q135 : (ji2) < (l0.length : Int) := of_decide_eq_true (by first | (with_reducible assumption) | assumption)
         obtain ⟨ad135, e135, hx135_0, hx135_1⟩ := at_T97 (Kd.V_reads' HO0.out).2.2 (ji2) p135 q135
         cases e135
         replace p135 := eq_true p135
         replace q135 := eq_true q135
         go_enter Try.func108, Try.ntmps108
         go_wp2_with (first | ((with_reducible refine gate_callee (f := 111) rfl ?_); refine goesL_ (some 14) rfl rfl Try.func111 (by kernel_rfl) rfl #[.int .i64 ((rd_T97 l0 (ji2)).f0)] rfl (by (try simp only [List.map_toArray, List.map_cons, List.map_nil]); first | done | (simp only [hji2]; rfl) | rfl | (simp only [List.length_drop, List.length_take]; rfl)) ?_; (with_reducible refine (eggboxref19_arity.calls ((rd_T97 l0 (ji2)).f0) t136 _ A5.out).mono ?_); rintro e w' ⟨rfl, ⟨nd, rfl⟩⟩; refine ⟨_, rfl, ?_⟩; have q9 : ((ji2) : Int) ≤ ((l0.length : Int) : Int) := of_decide_eq_true (by first | (with_reducible assumption) | assumption); obtain ⟨i09, hi09, _, hsz9, _⟩ := info_parts info97; have hroom9 : l0.length ≤ c0 := (Kd.V_reads' HO0.out).2.1; have hC9 : Kd.F k97 _ _ (some ad135) l0.length l0 := (Kd.V_at (base := w.heap.size) HO0.out).2.2; have hcut9 := cut_to (P := Try.prog) 22 97 .i64 Try.underlying22 hi09 (some ad135) l0.length c0 (ji2) (of_decide_eq_true (by first | (with_reducible assumption) | assumption)) q9 hroom9; have hr9 := Kd.F_take (m := ((ji2) : Int).toNat) hC9 (by omega); have hy9 : y137.length = ((ji2) : Int).toNat := (by rw [Ny137.out, List.length_take]; omega); rw [← Ny137.out] at hr9; rw [← hy9] at hcut9; have HO141 := Aside0.mk (show Kd.V k97 97 _ w.heap.size _ (.slice (some ad135) y137.length c0) y137 from Kd.V_mk (by omega) hr9); have HC141 := Aside0.mk (show y137.length ≤ c0 from by omega); clear hr9 hC9 hroom9 hi09 hsz9; have KY9 := Aside0.mk hy9; clear hy9; replace q9 := eq_true q9) | ((with_reducible refine gate_dst (N := 20) rfl ?_); refine Kd.N_lit (Kd.slice 97 k97) _ 22 ?hg (N' := 20) ?hd (xs := ([y137] : List (List (S97)))) (inner := [.slice (some ad135) y137.length c0]) (ok := (fun k_ => (P0_ k_ ∨ w.heap.size ≤ k_))) (okp := (fun k_ => (P0_ k_ ∨ w.heap.size ≤ k_))) ?hr ?hp (fun _ hk => hk) ((show ∀ k_, w.heap.size ≤ k_ → (fun k_ => (P0_ k_ ∨ w.heap.size ≤ k_)) k_ from fun k_ hk => (.inr (Nat.le_trans (below_size (by repeat (first | (with_reducible first | exact HB.out | apply below_alloc | apply pw_below_drewN | apply below_drew1) | exact HB.out))) hk))) _ (Nat.le_refl _)) (Below.refl _ _) (Nat.le_refl _) (by simp) ?_; (case hd => rfl); (case hg => rfl); (case hr => first | (go_simp; done) | (go_simp; rfl)); (case hp => exact (Reps.one (show Kd.FK (Kd.slice 97 k97) _ _ y137 [.slice (some ad135) y137.length c0] from (Kd.FK_slice_mk (Kd.V_reads' (Kd.V_mono (ok' := (fun k_ => (P0_ k_ ∨ w.heap.size ≤ k_))) (Kd.V_drewN HO141.out nd) (fun k_ hk => hk))).2.1 (Kd.V_F (Kd.V_mono (ok' := (fun k_ => (P0_ k_ ∨ w.heap.size ≤ k_))) (Kd.V_drewN HO141.out nd) (fun k_ hk => hk))))) (Reps.none _ _))); intro v143 w10 ho11 hb hg_ hnew_; clear hg_ hnew_; (first | rw [← Ny142.out] at ho11 | (simp only [Int.reduceToNat] at ho11; rw [← Ny142.out] at ho11)); have n0_ := Aside0.mk (Kd.V_elder' (by (with_reducible repeat (first | apply Kd.V_alloc | apply Kd.V_drewN | apply Kd.V_drew)); exact HO0.out) (Kd.N_base ho11) hb); have n1_ := Aside0.mk (Kd.V_elder' (by (with_reducible repeat (first | apply Kd.V_alloc | apply Kd.V_drewN | apply Kd.V_drew)); exact HO141.out) (Kd.N_base ho11) hb); have n2_ := Aside0.mk (Kd.N_lower ho11 (below_size (by repeat (first | (with_reducible first | exact HB.out | apply below_alloc | apply pw_below_drewN | apply below_drew1) | exact HB.out)))); have n3_ := Aside0.mk (below_step (by repeat (first | (with_reducible first | exact HB.out | apply below_alloc | apply pw_below_drewN | apply below_drew1) | exact HB.out)) hb); clear HO0; clear HO141; clear HB; have HO0 := n0_; have HO141 := n1_; have HO144 := n2_; have HB := n3_; clear n0_ n1_ n2_ n3_; clear hb ho11))
         go_ret
         exact ⟨_, by first | rfl | (simp [errW_none, errW_some] <;> rfl) | (simp only [← hji2]; first | rfl | (simp [errW_none, errW_some] <;> rfl)) | (simp [*, errW_none, errW_some] <;> rfl), by (with_reducible repeat (first | apply Kd.N_alloc | apply Kd.N_drewN | apply Kd.N_drew)); exact HO144.out, by repeat (first | (with_reducible first | exact HB.out | apply below_alloc | apply pw_below_drewN | apply below_drew1) | exact HB.out)⟩
       · rw [if_neg c8] at H
         exact absurd H (by simp)
     · rw [if_neg c6] at H
       have c6b0 : (t136 == 1) = false := beq_eq_false_iff_ne.mpr c6
       have c6b1 : (t136 != 1) = true := bne_iff_ne.mpr c6
       by_cases c12 : t136 = 2
       · rw [if_pos c12] at H
         have c12b0 : (t136 == 2) = true := beq_iff_eq.mpr c12
         have c12b1 : (t136 != 2) = false := bne_eq_false_iff_eq.mpr c12
         clear c12
         have H' := Aside0.mk H
         clear H
         have p135 : 0 ≤ ((ji2) : Int) := of_decide_eq_true (by first | (with_reducible assumption) | assumption)
         have q135 : (ji2) < (l0.length : Int) := of_decide_eq_true (by first | (with_reducible assumption) | assumption)
         obtain ⟨ad135, e135, hx135_0, hx135_1⟩ := at_T97 (Kd.V_reads' HO0.out).2.2 (ji2) p135 q135
         cases e135
         replace p135 := eq_true p135
         replace q135 := eq_true q135
         go_enter Try.func108, Try.ntmps108
         go_wp2_with (first | ((with_reducible refine gate_callee (f := 111) rfl ?_); refine goesL_ (some 14) rfl rfl Try.func111 (by kernel_rfl) rfl #[.int .i64 ((rd_T97 l0 (ji2)).f0)] rfl (by (try simp only [List.map_toArray, List.map_cons, List.map_nil]); first | done | (simp only [hji2]; rfl) | rfl | (simp only [List.length_drop, List.length_take]; rfl)) ?_; (with_reducible refine (eggboxref19_arity.calls ((rd_T97 l0 (ji2)).f0) t136 _ A5.out).mono ?_); rintro e w' ⟨rfl, ⟨nd, rfl⟩⟩; refine ⟨_, rfl, ?_⟩))
         go_loopg [4, 5] k (fun kq v4 v5 w' => ∃ (x4_1 : Int) (x5_1 : Int), v4 = .int .i64 x4_1 ∧ v5 = .int .i64 x5_1 ∧ Aside0 (eggboxref19_Cut.l0 kq l0 ji2 x4_1 x5_1 = some r) ∧ Aside0 (kq ≤ k) ∧ Aside0 (Kd.V k97 97 w' w.heap.size (fun k_ => (P0_ k_ ∨ w.heap.size ≤ k_)) (.slice (some ad135) l0.length c0) l0) ∧ Aside0 (Below w.heap.size w w'))
         case atStart => exact ⟨(wrap64 ((ji2) - 1)), (1), (by first | rfl | (simp; done) | (simp only [← hji2] <;> (first | rfl | simp)) | (simp [*]; done)), (by first | rfl | (simp; done) | (simp [*]; done)), H', ⟨Nat.le_refl _⟩, ⟨by (with_reducible repeat (first | apply Kd.V_alloc | apply Kd.V_drewN | apply Kd.V_drew)); exact HO0.out⟩, ⟨by repeat (first | (with_reducible first | exact HB.out | apply below_alloc | apply pw_below_drewN | apply below_drew1) | exact HB.out)⟩⟩
         case round =>
          clear H'
          try clear c1
          try clear p1
          try clear q1
          try clear hx1
          try clear p2
          try clear c3
          try clear c3b0
          try clear c4
          try clear c4b0
          try clear c6
          try clear c6b0
          try clear c6b1
          try clear p6
          try clear c7
          try clear c7b0
          try clear c8
          try clear c8b0
          try clear c8b1
          try clear q9
          try clear c10
          try clear c11
          try clear c12
          try clear c12b0
          try clear c12b1
          try clear hx135_0
          try clear hx135_1
          try clear p135
          try clear q135
          try clear q9
          obtain ⟨x4_1, x5_1, rfl, rfl, HA, HK1, HO_0, HB⟩ := hrel
          cases gk with
          | zero => exact absurd HA.out (by simp [eggboxref19_Cut.l0])
          | succ k1 =>
           have H := HA.out
           clear HA
           simp only [eggboxref19_Cut.l0] at H
           by_cases c13 : 0 ≤ x4_1
           · rw [if_pos c13] at H
             have c13b0 : decide (0 ≤ x4_1) = true := decide_eq_true c13
             clear c13
             by_cases c14 : x4_1 < (l0.length : Int)
             · rw [if_pos c14] at H
               have c14b0 : decide (x4_1 < (l0.length : Int)) = true := decide_eq_true c14
               clear c14
               replace H := Option.bind_eq_some_iff.mp H
               obtain ⟨t146, A150, H⟩ := H
               replace H : (if (wrap64 ((wrap64 (x5_1 - 1)) + t146)) = 0 then (if x4_1 ≤ (l0.length : Int) then (if x4_1 ≤ ji2 then (if ji2 ≤ (l0.length : Int) then (some (([(l0.take (x4_1 : Int).toNat), ((l0.take (ji2 : Int).toNat).drop (x4_1 : Int).toNat)] : List (List (S97))))) else (none)) else (none)) else (none)) else (eggboxref19_Cut.l0 k1 l0 ji2 (wrap64 (x4_1 - 1)) (wrap64 ((wrap64 (x5_1 - 1)) + t146)))) = some r := H
               have A15 := Aside0.mk A150
               clear A150
               by_cases c16 : (wrap64 ((wrap64 (x5_1 - 1)) + t146)) = 0
               · rw [if_pos c16] at H
                 have c16b0 : ((wrap64 ((wrap64 (x5_1 - 1)) + t146)) == 0) = true := beq_iff_eq.mpr c16
                 have c16b1 : ((wrap64 ((wrap64 (x5_1 - 1)) + t146)) != 0) = false := bne_eq_false_iff_eq.mpr c16
                 clear c16
                 have c17b0 := eq_true (of_decide_eq_true (by first | (with_reducible assumption) | assumption) : 0 ≤ x4_1)
                 by_cases c18 : x4_1 ≤ (l0.length : Int)
                 · rw [if_pos c18] at H
                   have c18b0 := eq_true c18
                   have c18b1 : decide (x4_1 ≤ (l0.length : Int)) = true := decide_eq_true c18
                   clear c18
                   obtain ⟨y147, hy147⟩ : ∃ y_ : List (S97), y_ = (l0.take (x4_1 : Int).toNat) := ⟨_, rfl⟩
                   replace H : (if x4_1 ≤ ji2 then (if ji2 ≤ (l0.length : Int) then (some (([y147, ((l0.take (ji2 : Int).toNat).drop (x4_1 : Int).toNat)] : List (List (S97))))) else (none)) else (none)) = some r := by first | (rw [hy147]; with_reducible exact H) | (have H2_ := (Option.bind_some _ _).symm.trans H; rw [hy147]; with_reducible exact H2_) | (have H2_ := (Option.bind_some _ _).symm.trans H; with_reducible exact H2_) | with_reducible exact H | (rw [hy147]; exact H) | exact H
                   have Ny147 := Aside0.mk hy147
                   clear hy147
                   have c19b0 := eq_true (of_decide_eq_true (by first | (with_reducible assumption) | assumption) : 0 ≤ x4_1)
                   by_cases c20 : x4_1 ≤ ji2
                   · rw [if_pos c20] at H
                     have c20b0 := eq_true c20
                     have c20b1 : decide (x4_1 ≤ ji2) = true := decide_eq_true c20
                     clear c20
                     by_cases c21 : ji2 ≤ (l0.length : Int)
                     · rw [if_pos c21] at H
                       have c21b0 := eq_true c21
                       have c21b1 : decide (ji2 ≤ (l0.length : Int)) = true := decide_eq_true c21
                       clear c21
                       obtain ⟨y152, hy152⟩ : ∃ y_ : List (S97), y_ = ((l0.take (ji2 : Int).toNat).drop (x4_1 : Int).toNat) := ⟨_, rfl⟩
                       replace H : (some (([y147, y152] : List (List (S97))))) = some r := by first | (rw [hy152]; with_reducible exact H) | (have H2_ := (Option.bind_some _ _).symm.trans H; rw [hy152]; with_reducible exact H2_) | (have H2_ := (Option.bind_some _ _).symm.trans H; with_reducible exact H2_) | with_reducible exact H | (rw [hy152]; exact H) | exact H
                       have Ny152 := Aside0.mk hy152
                       clear hy152
                       obtain ⟨y157, hy157⟩ : ∃ y_ : List (List (S97)), y_ = (([y147, y152] : List (List (S97)))) := ⟨_, rfl⟩
                       replace H : (some y157) = some r := by first | (rw [hy157]; with_reducible exact H) | (have H2_ := (Option.bind_some _ _).symm.trans H; rw [hy157]; with_reducible exact H2_) | (have H2_ := (Option.bind_some _ _).symm.trans H; with_reducible exact H2_) | with_reducible exact H | (rw [hy157]; exact H) | exact H
                       have Ny157 := Aside0.mk hy157
                       clear hy157
                       obtain rfl := Option.some.inj H
                       have p145 : 0 ≤ (x4_1 : Int) := of_decide_eq_true (by first | (with_reducible assumption) | assumption)
                       have q145 : x4_1 < (l0.length : Int) := of_decide_eq_true (by first | (with_reducible assumption) | assumption)
                       obtain ⟨ad145, e145, hx145_0, hx145_1⟩ := at_T97 (Kd.V_reads' HO_0.out).2.2 x4_1 p145 q145
                       obtain rfl : ad135 = ad145 := (by injection e145)
                       replace p145 := eq_true p145
                       replace q145 := eq_true q145
                       try go_wp2_with (first | ((with_reducible refine gate_callee (f := 111) rfl ?_); refine goesL_ (some 32) rfl rfl Try.func111 (by kernel_rfl) rfl #[.int .i64 ((rd_T97 l0 x4_1).f0)] rfl (by (try simp only [List.map_toArray, List.map_cons, List.map_nil]); first | done | rfl | (simp only [List.length_drop, List.length_take]; rfl)) ?_; (with_reducible refine (eggboxref19_arity.calls ((rd_T97 l0 x4_1).f0) t146 _ A15.out).mono ?_); rintro e w' ⟨rfl, ⟨nd, rfl⟩⟩; refine ⟨_, rfl, ?_⟩))
                       (try (rw [drewN_self wr]; generalize hq_ : World.drewN wr _ = wr; have n0_ : Aside0 (Kd.V k97 97 wr w.heap.size (fun k_ => (P0_ k_ ∨ w.heap.size ≤ k_)) (.slice (some ad135) l0.length c0) l0) := ⟨by rw [← hq_]; exact (by (with_reducible repeat (first | apply Kd.V_alloc | apply Kd.V_drewN | apply Kd.V_drew)); exact HO_0.out)⟩; have n1_ : Aside0 (Below w.heap.size w wr) := ⟨by rw [← hq_]; exact (by repeat (first | (with_reducible first | exact HB.out | apply below_alloc | apply pw_below_drewN | apply below_drew1) | exact HB.out))⟩; clear HO_0 HB hq_; have HO_0 := n0_; have HB := n1_; clear n0_ n1_))
                       have n0_ := Aside0.mk (Kd.V_drew HO_0.out)
                       have n1_ := Aside0.mk (below_drew1 HB.out)
                       clear HO_0
                       clear HB
                       have HO_0 := n0_
                       have HB := n1_
                       clear n0_ n1_
                       have q23 : (x4_1 : Int) ≤ ((l0.length : Int) : Int) := of_decide_eq_true (by first | (with_reducible assumption) | assumption)
                       obtain ⟨i023, hi023, _, hsz23, _⟩ := info_parts info97
                       have hroom23 : l0.length ≤ c0 := (Kd.V_reads' HO_0.out).2.1
                       have hC23 : Kd.F k97 _ _ (some ad135) l0.length l0 := (Kd.V_at (base := w.heap.size) HO_0.out).2.2
                       have hcut23 := cut_to (P := Try.prog) 22 97 .i64 Try.underlying22 hi023 (some ad135) l0.length c0 x4_1 (of_decide_eq_true (by first | (with_reducible assumption) | assumption)) q23 hroom23
                       have hr23 := Kd.F_take (m := (x4_1 : Int).toNat) hC23 (by omega)
                       have hy23 : y147.length = (x4_1 : Int).toNat := (by rw [Ny147.out, List.length_take]; omega)
                       rw [← Ny147.out] at hr23
                       rw [← hy23] at hcut23
                       have HO151 := Aside0.mk (show Kd.V k97 97 _ w.heap.size _ (.slice (some ad135) y147.length c0) y147 from Kd.V_mk (by omega) hr23)
                       have HC151 := Aside0.mk (show y147.length ≤ c0 from by omega)
                       clear hr23 hC23 hroom23 hi023 hsz23
                       have KY23 := Aside0.mk hy23
                       clear hy23
                       replace q23 := eq_true q23
                       have q24 : (ji2 : Int) ≤ ((l0.length : Int) : Int) := of_decide_eq_true (by first | (with_reducible assumption) | assumption)
                       obtain ⟨i024, hi024, _, hsz24, _⟩ := info_parts info97
                       have hroom24 : l0.length ≤ c0 := (Kd.V_reads' HO_0.out).2.1
                       have hC24 : Kd.F k97 _ _ (some ad135) l0.length l0 := (Kd.V_at (base := w.heap.size) HO_0.out).2.2
                       have ql24 : (x4_1 : Int) ≤ (ji2 : Int) := of_decide_eq_true (by first | (with_reducible assumption) | assumption)
                       have q024 : (0 : Int) ≤ (x4_1 : Int) := of_decide_eq_true (by first | (with_reducible assumption) | assumption)
                       have hcut24 := cut_mid (P := Try.prog) 22 97 .i64 .i64 Try.underlying22 hi024 2 hsz24 (some ad135) l0.length c0 x4_1 ji2 q024 ql24 q24 hroom24
                       have hr24 := Kd.F_mid (lo := (x4_1 : Int).toNat) (hi := (ji2 : Int).toNat) (c := c0) hC24 (by omega) (by omega) hroom24
                       obtain ⟨A24, hA24⟩ : ∃ A1, A1 = (if c0 = (x4_1 : Int).toNat then (some ad135) else ((some ad135) : Option Addr).map (·.add ((x4_1 : Int).toNat * 2))) := ⟨_, rfl⟩
                       obtain ⟨c24, hc24⟩ : ∃ c1, c1 = c0 - (x4_1 : Int).toNat := ⟨_, rfl⟩
                       have hy24 : y152.length = (ji2 : Int).toNat - (x4_1 : Int).toNat := (by rw [Ny152.out, List.length_drop, List.length_take] <;> omega)
                       rw [show ((l0).take (ji2 : Int).toNat).drop (x4_1 : Int).toNat = y152 from Ny152.out.symm] at hr24
                       replace hr24 : Kd.F k97 _ _ A24 y152.length y152 := (by rw [hA24]; exact hr24)
                       rw [← hy24, ← hA24, ← hc24] at hcut24
                       have HO156 := Aside0.mk (show Kd.V k97 97 _ w.heap.size _ (.slice A24 y152.length c24) y152 from Kd.V_mk (by rw [hy24, hc24]; exact Nat.sub_le_sub_right (Nat.le_trans (by omega) hroom24) _) hr24)
                       have HC156 := Aside0.mk (show y152.length ≤ c24 from by rw [hy24, hc24]; exact Nat.sub_le_sub_right (Nat.le_trans (by omega) hroom24) _)
                       clear hr24 hC24 hroom24 hi024 hsz24 hc24
                       have KY24 := Aside0.mk hy24
                       have KA24 := Aside0.mk hA24
                       clear hy24 hA24
                       replace q24 := eq_true q24
                       refine start_ (n := 9) (S := fun w' => True) (ds := []) #[false, false, false, false, false, false, false, false, false] (by kernel_rfl) rfl rfl trivial (fun hHeld => ?_); refine with_tabW eggboxref19_Cut.tab10 eggboxref19_Cut.bits10 (fun HT_ HW_ => ?_)
                       generalize wr.drew = w22 at HO_0 HB HO151 HO156 hHeld ⊢
                       refine pure_ (i := 0) (N := some 36) (v := ?_) (a' := ?_) #[true, false, false, false, false, false, false, false, false] rfl rfl (any_of HT_.out (by kernel_rfl)) (fun _ _ _ h => h) (Or.inl ⟨by rfl, ?_⟩) ?_ ?_
                       rotate_left
                       · intro w'
                         go_simp
                         with_reducible rfl
                       rotate_left
                       · simp only [Act.put, sA_, sZ_, sS_, i64_w, i32_w]
                         rfl
                       refine pure_ (i := 1) (N := some 37) (v := ?_) (a' := ?_) #[true, true, false, false, false, false, false, false, false] rfl rfl (any_of HT_.out (by kernel_rfl)) (fun _ _ _ h => h) (Or.inl ⟨by rfl, ?_⟩) ?_ ?_
                       rotate_left
                       · intro w'
                         go_simp
                         with_reducible rfl
                       rotate_left
                       · simp only [Act.put, sA_, sZ_, sS_, i64_w, i32_w]
                         rfl
                       refine pure_ (i := 2) (N := some 38) (v := ?_) (a' := ?_) #[true, true, true, false, false, false, false, false, false] rfl rfl (any_of HT_.out (by kernel_rfl)) (fun _ _ _ h => h) (Or.inl ⟨by rfl, ?_⟩) ?_ ?_
                       rotate_left
                       · intro w'
                         go_simp
                         with_reducible rfl
                       rotate_left
                       · simp only [Act.put, sA_, sZ_, sS_, i64_w, i32_w]
                         rfl
                       refine pure_ (i := 3) (N := some 39) (v := ?_) (a' := ?_) #[true, true, true, true, false, false, false, false, false] rfl rfl (any_of HT_.out (by kernel_rfl)) (fun _ _ _ h => h) (Or.inl ⟨by rfl, ?_⟩) ?_ ?_
                       rotate_left
                       · intro w'
                         go_simp
                         with_reducible rfl
                       rotate_left
                       · simp only [Act.put, sA_, sZ_, sS_, i64_w, i32_w]
                         rfl
                       refine pure_ (i := 4) (N := some 40) (v := ?_) (a' := ?_) #[true, true, true, true, true, false, false, false, false] rfl rfl (any_of HT_.out (by kernel_rfl)) (fun _ _ _ h => h) (Or.inl ⟨by rfl, ?_⟩) ?_ ?_
                       rotate_left
                       · intro w'
                         go_simp
                         with_reducible rfl
                       rotate_left
                       · simp only [Act.put, sA_, sZ_, sS_, i64_w, i32_w]
                         rfl
                       refine pure_ (i := 5) (N := some 41) (v := ?_) (a' := ?_) #[true, true, true, true, true, true, false, false, false] rfl rfl (any_of HT_.out (by kernel_rfl)) (fun _ _ _ h => h) (Or.inl ⟨by rfl, ?_⟩) ?_ ?_
                       rotate_left
                       · intro w'
                         go_simp
                         with_reducible rfl
                       rotate_left
                       · simp only [Act.put, sA_, sZ_, sS_, i64_w, i32_w]
                         rfl
                       refine pure_ (i := 6) (N := some 42) (v := ?_) (a' := ?_) #[true, true, true, true, true, true, true, false, false] rfl rfl (any_of HT_.out (by kernel_rfl)) (fun _ _ _ h => h) (Or.inl ⟨by rfl, ?_⟩) ?_ ?_
                       rotate_left
                       · intro w'
                         go_simp
                         with_reducible rfl
                       rotate_left
                       · simp only [Act.put, sA_, sZ_, sS_, i64_w, i32_w]
                         rfl
                       refine one_ (i := 7) (N := some 43) #[true, true, true, true, true, true, true, true, false] rfl rfl (one_of HT_.out (by kernel_rfl)) (by decide) (fun K hK => ?_)
                       refine Kd.N_lit_step (Kd.slice 97 k97) _ 22 ?hg (N' := 43) ?hd (xs := ([y147, y152] : List (List (S97)))) (inner := [.slice (some ad135) y147.length c0, .slice A24 y152.length c24]) (ok := (fun k_ => (P0_ k_ ∨ w.heap.size ≤ k_))) (okp := (fun k_ => (P0_ k_ ∨ w.heap.size ≤ k_))) ?hr ?hp (fun _ hk => hk) ((show ∀ k_, w22.heap.size ≤ k_ → (fun k_ => (P0_ k_ ∨ w.heap.size ≤ k_)) k_ from fun k_ hk => (.inr (Nat.le_trans (below_size (by repeat (first | (with_reducible first | exact HB.out | apply below_alloc | apply pw_below_drewN | apply below_drew1) | exact HB.out))) hk))) _ (Nat.le_refl _)) (Below.refl _ _) (Nat.le_refl _) (by simp) ?_; (case hd => rfl); (case hg => rfl); (case hr => first | (go_simp; done) | (go_simp; rfl)); (case hp => exact (Reps.one (show Kd.FK (Kd.slice 97 k97) _ _ y147 [.slice (some ad135) y147.length c0] from (Kd.FK_slice_mk (Kd.V_reads' (Kd.V_mono (ok' := (fun k_ => (P0_ k_ ∨ w.heap.size ≤ k_))) (HO151.out) (fun k_ hk => hk))).2.1 (Kd.V_F (Kd.V_mono (ok' := (fun k_ => (P0_ k_ ∨ w.heap.size ≤ k_))) (HO151.out) (fun k_ hk => hk))))) (Reps.one (show Kd.FK (Kd.slice 97 k97) _ _ y152 [.slice A24 y152.length c24] from (Kd.FK_slice_mk (Kd.V_reads' (Kd.V_mono (ok' := (fun k_ => (P0_ k_ ∨ w.heap.size ≤ k_))) (HO156.out) (fun k_ hk => hk))).2.1 (Kd.V_F (Kd.V_mono (ok' := (fun k_ => (P0_ k_ ∨ w.heap.size ≤ k_))) (HO156.out) (fun k_ hk => hk))))) (Reps.none _ _))))
                       intro v158 w25 ho26 hb hg_ hnew_
                       clear hg_ hnew_
                       (first | rw [← Ny157.out] at ho26 | (simp only [Int.reduceToNat] at ho26; rw [← Ny157.out] at ho26))
                       have n0_ := Aside0.mk (Kd.V_elder' (by (with_reducible repeat (first | apply Kd.V_alloc | apply Kd.V_drewN | apply Kd.V_drew)); exact HO_0.out) (Kd.N_base ho26) hb)
                       have n1_ := Aside0.mk (Kd.V_elder' (by (with_reducible repeat (first | apply Kd.V_alloc | apply Kd.V_drewN | apply Kd.V_drew)); exact HO151.out) (Kd.N_base ho26) hb)
                       have n2_ := Aside0.mk (Kd.V_elder' (by (with_reducible repeat (first | apply Kd.V_alloc | apply Kd.V_drewN | apply Kd.V_drew)); exact HO156.out) (Kd.N_base ho26) hb)
                       have n3_ := Aside0.mk (Kd.N_lower ho26 (below_size (by repeat (first | (with_reducible first | exact HB.out | apply below_alloc | apply pw_below_drewN | apply below_drew1) | exact HB.out))))
                       have n4_ := Aside0.mk (below_step (by repeat (first | (with_reducible first | exact HB.out | apply below_alloc | apply pw_below_drewN | apply below_drew1) | exact HB.out)) hb)
                       clear HO_0
                       clear HO151
                       clear HO156
                       clear HB
                       have HO_0 := n0_
                       have HO151 := n1_
                       have HO156 := n2_
                       have HO159 := n3_
                       have HB := n4_
                       clear n0_ n1_ n2_ n3_ n4_
                       clear hb ho26
                       refine hK.out _ _ trivial (fun hHeld => ?_)
                       clear hK K
                       refine norm_ (a' := ?_) ?_ ?_
                       rotate_left
                       · show Act.put _ (some 43) _ = _
                         simp only [Act.put, sA_, sZ_, sS_, i64_w, i32_w]
                         rfl
                       refine pure_ (i := 8) (N := some 2) (v := ?_) (a' := ?_) #[true, true, true, true, true, true, true, true, true] rfl rfl (any_of HT_.out (by kernel_rfl)) (fun _ _ _ h => h) (Or.inl ⟨by rfl, ?_⟩) ?_ ?_
                       rotate_left
                       · intro w'
                         go_simp
                         with_reducible rfl
                       rotate_left
                       · simp only [Act.put, sA_, sZ_, sS_, i64_w, i32_w]
                         rfl
                       refine done_ (done_of HT_.out (by kernel_rfl)) ?_
                       try go_wp2
                       go_ret
                       exact ⟨_, by first | rfl | (simp [errW_none, errW_some] <;> rfl) | (simp only [← hji2]; first | rfl | (simp [errW_none, errW_some] <;> rfl)) | (simp [*, errW_none, errW_some] <;> rfl), by (with_reducible repeat (first | apply Kd.N_alloc | apply Kd.N_drewN | apply Kd.N_drew)); exact HO159.out, by repeat (first | (with_reducible first | exact HB.out | apply below_alloc | apply pw_below_drewN | apply below_drew1) | exact HB.out)⟩
                     · rw [if_neg c21] at H
                       exact absurd H (by simp)
                   · rw [if_neg c20] at H
                     exact absurd H (by simp)
                 · rw [if_neg c18] at H
                   exact absurd H (by simp)
               · rw [if_neg c16] at H
                 have c16b0 : ((wrap64 ((wrap64 (x5_1 - 1)) + t146)) == 0) = false := beq_eq_false_iff_ne.mpr c16
                 have c16b1 : ((wrap64 ((wrap64 (x5_1 - 1)) + t146)) != 0) = true := bne_iff_ne.mpr c16
                 have H' := Aside0.mk H
                 clear H
                 have p145 : 0 ≤ (x4_1 : Int) := of_decide_eq_true (by first | (with_reducible assumption) | assumption)
                 have q145 : x4_1 < (l0.length : Int) := of_decide_eq_true (by first | (with_reducible assumption) | assumption)
                 obtain ⟨ad145, e145, hx145_0, hx145_1⟩ := at_T97 (Kd.V_reads' HO_0.out).2.2 x4_1 p145 q145
                 obtain rfl : ad135 = ad145 := (by injection e145)
                 replace p145 := eq_true p145
                 replace q145 := eq_true q145
                 go_wp2_with (first | ((with_reducible refine gate_callee (f := 111) rfl ?_); refine goesL_ (some 32) rfl rfl Try.func111 (by kernel_rfl) rfl #[.int .i64 ((rd_T97 l0 x4_1).f0)] rfl (by (try simp only [List.map_toArray, List.map_cons, List.map_nil]); first | done | rfl | (simp only [List.length_drop, List.length_take]; rfl)) ?_; (with_reducible refine (eggboxref19_arity.calls ((rd_T97 l0 x4_1).f0) t146 _ A15.out).mono ?_); rintro e w' ⟨rfl, ⟨nd, rfl⟩⟩; refine ⟨_, rfl, ?_⟩))
                 go_roundg k1
                 case measure => have := HK1.out; omega
                 case rel => exact ⟨(wrap64 (x4_1 - 1)), (wrap64 ((wrap64 (x5_1 - 1)) + t146)), (by first | rfl | (simp; done) | (simp [*]; done)), (by first | rfl | (simp; done) | (simp [*]; done)), H', ⟨by have := HK1.out; omega⟩, ⟨by (with_reducible repeat (first | apply Kd.V_alloc | apply Kd.V_drewN | apply Kd.V_drew)); exact HO_0.out⟩, ⟨by repeat (first | (with_reducible first | exact HB.out | apply below_alloc | apply pw_below_drewN | apply below_drew1) | exact HB.out)⟩⟩
             · rw [if_neg c14] at H
               exact absurd H (by simp)
           · rw [if_neg c13] at H
             exact absurd H (by simp)
       · rw [if_neg c12] at H
         have c12b0 : (t136 == 2) = false := beq_eq_false_iff_ne.mpr c12
         have c12b1 : (t136 != 2) = true := bne_iff_ne.mpr c12
         obtain rfl := Option.some.inj H
         have p135 : 0 ≤ ((ji2) : Int) := of_decide_eq_true (by first | (with_reducible assumption) | assumption)
         have q135 : (ji2) < (l0.length : Int) := of_decide_eq_true (by first | (with_reducible assumption) | assumption)
         obtain ⟨ad135, e135, hx135_0, hx135_1⟩ := at_T97 (Kd.V_reads' HO0.out).2.2 (ji2) p135 q135
         cases e135
         replace p135 := eq_true p135
         replace q135 := eq_true q135
         go_enter Try.func108, Try.ntmps108
         go_wp2_with (first | ((with_reducible refine gate_callee (f := 111) rfl ?_); refine goesL_ (some 14) rfl rfl Try.func111 (by kernel_rfl) rfl #[.int .i64 ((rd_T97 l0 (ji2)).f0)] rfl (by (try simp only [List.map_toArray, List.map_cons, List.map_nil]); first | done | (simp only [hji2]; rfl) | rfl | (simp only [List.length_drop, List.length_take]; rfl)) ?_; (with_reducible refine (eggboxref19_arity.calls ((rd_T97 l0 (ji2)).f0) t136 _ A5.out).mono ?_); rintro e w' ⟨rfl, ⟨nd, rfl⟩⟩; refine ⟨_, rfl, ?_⟩))
         go_ret
         exact ⟨_, by first | rfl | (simp [errW_none, errW_some] <;> rfl) | (simp only [← hji2]; first | rfl | (simp [errW_none, errW_some] <;> rfl)) | (simp [*, errW_none, errW_some] <;> rfl), by first | exact Kd.S_nil _ _ _ _ _ | exact Kd.N_nil _ _ _ _ _ | exact Kd.V_nil _ _ _ _ _ | exact Kd.Q_nil _ _ _ _ _ | exact Kd.R_nil _ _ _ _ _, by repeat (first | (with_reducible first | exact HB.out | apply below_alloc | apply pw_below_drewN | apply below_drew1) | exact HB.out)⟩
   · rw [if_neg c4] at H
     exact absurd H (by simp)
 · rw [if_neg c3] at H
   exact absurd H (by simp)

end Go.Proofs.Ytcbkihhpnndpkaa.PA
