/- Contracts of Go functions, each with the walk through its code, written by a program of this session. -/
import Derived.Test.YtcbkihhpnndpkaaPAx0
import Derived.Test.YtcbkihhpnndpkaaPAx3
import Derived.Test.YtcbkihhpnndpkaaPAx7
namespace Go.Proofs.Ytcbkihhpnndpkaa.PA
open Go.RowKit Go.Proofs.YtcbkihhpnndpkaaW.PrintWords Go.Proofs.YtcbkihhpnndpkaaW.PrintLast Go.Proofs.YtcbkihhpnndpkaaW.PrintMore
attribute [local go_sem] max2_int min2_int max_two min_two max_three min_three max_four min_four   -- for this text's walks alone
set_option linter.unusedVariables false
set_option linter.unusedSimpArgs false

/-! ### eggboxref19_spelt: function 71 -/
mutual
def eggboxref19_spelt.l0 : Nat → List (S97) → List ByteArray → Int → List ByteArray → Int → Option (ByteArray × Bool)
 | 0, _, _, _, _, _ => none
 | k + 1, x0, x1, x2, x8, x9 => if x9 < (x0.length : Int) then (if 0 ≤ x9 then (if ((rd_T97 x0 x9).f0) = 1 then (if x8.length < 8796093022208 then ((some (x8 ++ [(⟨#[]⟩ : ByteArray)] : List ByteArray)).bind fun y223 => (if 0 ≤ (wrap64 ((y223.length : Int) - 1)) then (if (wrap64 ((y223.length : Int) - 1)) < (y223.length : Int) then (if ((rdOf ByteArray.empty y223 (wrap64 ((y223.length : Int) - 1))).size : Int) > 4096 then (some ((⟨#[]⟩ : ByteArray), false)) else (eggboxref19_spelt.l0 k x0 x1 x2 y223 (wrap64 (x9 + 1)))) else (none)) else (none))) else (none)) else (if ((rd_T97 x0 x9).f0) = 2 then ((eggboxref19_Place.f ((rd_T97 x0 x9).f1)).bind fun t228 => (if 0 ≤ t228 then (if t228 < (x1.length : Int) then (if x8.length < 8796093022208 then ((some (x8 ++ [rdOf ByteArray.empty x1 t228] : List ByteArray)).bind fun y230 => (if 0 ≤ (wrap64 ((y230.length : Int) - 1)) then (if (wrap64 ((y230.length : Int) - 1)) < (y230.length : Int) then (if ((rdOf ByteArray.empty y230 (wrap64 ((y230.length : Int) - 1))).size : Int) > 4096 then (some ((⟨#[]⟩ : ByteArray), false)) else (eggboxref19_spelt.l0 k x0 x1 x2 y230 (wrap64 (x9 + 1)))) else (none)) else (none))) else (none)) else (none)) else (none))) else (if ((rd_T97 x0 x9).f0) = 4 then (if 0 ≤ (wrap64 ((x8.length : Int) - 1)) then (if (wrap64 ((x8.length : Int) - 1)) < (x8.length : Int) then (if ((rdOf ByteArray.empty x8 (wrap64 ((x8.length : Int) - 1))).size : Int) > 0 then (if ((rdOf ByteArray.empty x8 (wrap64 ((x8.length : Int) - 1))).size : Int) = 0 then (none) else (eggboxref19_spelt.j1 k x0 x1 x2 x8 x9 (x8.length : Int) (rdOf ByteArray.empty x8 (wrap64 ((x8.length : Int) - 1))) (decide (x2 > (wrap64 ((4096 : Int) / ((rdOf ByteArray.empty x8 (wrap64 ((x8.length : Int) - 1))).size : Int))))))) else (eggboxref19_spelt.j1 k x0 x1 x2 x8 x9 (x8.length : Int) (rdOf ByteArray.empty x8 (wrap64 ((x8.length : Int) - 1))) false)) else (none)) else (none)) else (if ((rd_T97 x0 x9).f0) = 3 then (if 0 ≤ (wrap64 ((x8.length : Int) - 2)) then (if (wrap64 ((x8.length : Int) - 2)) < (x8.length : Int) then (if 0 ≤ (wrap64 ((x8.length : Int) - 1)) then (if (wrap64 ((x8.length : Int) - 1)) < (x8.length : Int) then (if (rdOf ByteArray.empty x8 (wrap64 ((x8.length : Int) - 2))).size + (rdOf ByteArray.empty x8 (wrap64 ((x8.length : Int) - 1))).size ≤ 9223372036854775807 then (if (wrap64 ((x8.length : Int) - 1)) ≤ (x8.length : Int) then ((some (x8.take ((wrap64 ((x8.length : Int) - 1)) : Int).toNat : List ByteArray)).bind fun y241 => (if (wrap64 ((x8.length : Int) - 2)) < (y241.length : Int) then ((some (y241.set ((wrap64 ((x8.length : Int) - 2)) : Int).toNat ((rdOf ByteArray.empty x8 (wrap64 ((x8.length : Int) - 2))) ++ (rdOf ByteArray.empty x8 (wrap64 ((x8.length : Int) - 1)))) : List ByteArray)).bind fun y244 => (if 0 ≤ (wrap64 ((y241.length : Int) - 1)) then (if (wrap64 ((y241.length : Int) - 1)) < (y241.length : Int) then (if ((rdOf ByteArray.empty y244 (wrap64 ((y241.length : Int) - 1))).size : Int) > 4096 then (some ((⟨#[]⟩ : ByteArray), false)) else (eggboxref19_spelt.l0 k x0 x1 x2 y244 (wrap64 (x9 + 1)))) else (none)) else (none))) else (none))) else (none)) else (none)) else (none)) else (none)) else (none)) else (none)) else (if 0 ≤ (wrap64 ((x8.length : Int) - 1)) then (if (wrap64 ((x8.length : Int) - 1)) < (x8.length : Int) then (if ((rdOf ByteArray.empty x8 (wrap64 ((x8.length : Int) - 1))).size : Int) > 4096 then (some ((⟨#[]⟩ : ByteArray), false)) else (eggboxref19_spelt.l0 k x0 x1 x2 x8 (wrap64 (x9 + 1)))) else (none)) else (none)))))) else (none)) else (if 0 < (x8.length : Int) then (some (rdOf ByteArray.empty x8 0, true)) else (none))
def eggboxref19_spelt.j1 : Nat → List (S97) → List ByteArray → Int → List ByteArray → Int → Int → ByteArray → Bool → Option (ByteArray × Bool)
 | 0, _, _, _, _, _, _, _, _ => none
 | k + 1, x0, x1, x2, x8, x9, x10, x11, x61 => if x61 = true then (some ((⟨#[]⟩ : ByteArray), false)) else (if (x11.size : Int) > 0 then ((strings_Repeat.f x11 x2).bind fun t235 => (if 0 ≤ (wrap64 (x10 - 1)) then (if (wrap64 (x10 - 1)) < (x8.length : Int) then ((some (x8.set ((wrap64 (x10 - 1)) : Int).toNat t235 : List ByteArray)).bind fun y236 => (if 0 ≤ (wrap64 ((x8.length : Int) - 1)) then (if (wrap64 ((x8.length : Int) - 1)) < (x8.length : Int) then (if ((rdOf ByteArray.empty y236 (wrap64 ((x8.length : Int) - 1))).size : Int) > 4096 then (some ((⟨#[]⟩ : ByteArray), false)) else (eggboxref19_spelt.l0 k x0 x1 x2 y236 (wrap64 (x9 + 1)))) else (none)) else (none))) else (none)) else (none))) else (if 0 ≤ (wrap64 ((x8.length : Int) - 1)) then (if (wrap64 ((x8.length : Int) - 1)) < (x8.length : Int) then (if ((rdOf ByteArray.empty x8 (wrap64 ((x8.length : Int) - 1))).size : Int) > 4096 then (some ((⟨#[]⟩ : ByteArray), false)) else (eggboxref19_spelt.l0 k x0 x1 x2 x8 (wrap64 (x9 + 1)))) else (none)) else (none)))
end
def eggboxref19_spelt.f (k : Nat) (l0 : List (S97)) (l1 : List ByteArray) (a2 : Int) : Option (ByteArray × Bool) := eggboxref19_spelt.l0 k l0 l1 a2 ([] : List ByteArray) 0
theorem wdiv_ (s : ByteArray) : wrap64 ((4096 : Int) / (s.size : Int)) = (4096 : Int) / (s.size : Int) := by
 have h1 : (0 : Int) ≤ (4096 : Int) / (s.size : Int) := Int.ediv_nonneg (by omega) (by omega)
 have h2 : (4096 : Int) / (s.size : Int) ≤ 4096 := Int.ediv_le_self _ (by omega)
 unfold wrap64
 omega
set_option maxHeartbeats 8000000 in
set_option maxRecDepth 100000 in
theorem eggboxref19_spelt.calls (k : Nat) (A0 : Option Addr) (c0 : Nat) (l0 : List (S97)) (A1 : Option Addr) (c1 : Nat) (l1 : List ByteArray) (a2 : Int) (r1 : ByteArray) (r2 : Bool) (w : World) (hr0 : Kd.C k97 w A0 l0.length l0) (hc0 : l0.length ≤ c0) (hr1 : Kd.C Kd.string w A1 l1.length l1) (hc1 : l1.length ≤ c1) (h : eggboxref19_spelt.f k l0 l1 a2 = some (r1, r2)) :
 Calls Try.prog 71 #[.slice A0 l0.length c0, .slice A1 l1.length c1, .int .i64 a2] w fun e w' => e = .returned (.tuple #[.string r1, .bool r2]) ∧ Below w.heap.size w w' := by
 have HR0 := Aside0.mk hr0
 have HC0 := Aside0.mk hc0
 clear hr0 hc0
 have HR1 := Aside0.mk hr1
 have HC1 := Aside0.mk hc1
 clear hr1 hc1
 have HB := Aside0.mk (Below.refl w.heap.size w)
 have H : (eggboxref19_spelt.l0 k l0 l1 a2 ([] : List ByteArray) 0) = some (r1, r2) := h
 clear h
 have H' := Aside0.mk H
 clear H
 go_enter Try.func71, Try.ntmps71
 go_wp2
 repeat (go_quiet (fail); try go_wp2)
 go_loopg [8, 9] k (fun kq v8 v9 w' => ∃ (x8_1 : List ByteArray) (x9_1 : Int), v9 = .int .i64 x9_1 ∧ Aside0 (eggboxref19_spelt.l0 kq l0 l1 a2 x8_1 x9_1 = some (r1, r2)) ∧ Aside0 (kq ≤ k) ∧ Aside0 (Kd.R Kd.string 9 w' w.heap.size (fun _ => True) v8 x8_1) ∧ Aside0 (Below w.heap.size w w'))
 case atStart => exact ⟨(([] : List ByteArray)), (0), (by first | rfl | (simp; done) | (simp [*]; done)), H', ⟨Nat.le_refl _⟩, ⟨by first | exact Kd.R_nil _ _ _ _ _ | exact Kd.N_nil _ _ _ _ _ | exact Kd.V_nil _ _ _ _ _ | exact Kd.Q_nil _ _ _ _ _ | exact Kd.S_nil _ _ _ _ _⟩, ⟨by repeat (first | (with_reducible first | exact HB.out | apply below_alloc | apply pw_below_drewN | apply below_drew1) | exact HB.out)⟩⟩
 case round =>
  clear H'
  try clear c1
  try clear p2
  obtain ⟨x8_1, x9_1, rfl, HA, HK1, HO_8, HB⟩ := hrel
  cases gk with
  | zero => exact absurd HA.out (by simp [eggboxref19_spelt.l0])
  | succ k1 =>
   have H := HA.out
   clear HA
   simp only [eggboxref19_spelt.l0] at H
   by_cases c4 : x9_1 < (l0.length : Int)
   · rw [if_pos c4] at H
     have c4b0 : decide (x9_1 < (l0.length : Int)) = true := decide_eq_true c4
     clear c4
     by_cases c5 : 0 ≤ x9_1
     · rw [if_pos c5] at H
       have c5b0 : decide (0 ≤ x9_1) = true := decide_eq_true c5
       clear c5
       by_cases c6 : ((rd_T97 l0 x9_1).f0) = 1
       · rw [if_pos c6] at H
         have c6b0 : (((rd_T97 l0 x9_1).f0) == 1) = true := beq_iff_eq.mpr c6
         have c6b1 : (((rd_T97 l0 x9_1).f0) != 1) = false := bne_eq_false_iff_eq.mpr c6
         clear c6
         by_cases c7 : x8_1.length < 8796093022208
         · rw [if_pos c7] at H
           have LMc7 := Aside0.mk c7
           clear c7
           obtain ⟨y223, hy223⟩ : ∃ y_ : List ByteArray, y_ = (x8_1 ++ [(⟨#[]⟩ : ByteArray)]) := ⟨_, rfl⟩
           replace H : (if 0 ≤ (wrap64 ((y223.length : Int) - 1)) then (if (wrap64 ((y223.length : Int) - 1)) < (y223.length : Int) then (if ((rdOf ByteArray.empty y223 (wrap64 ((y223.length : Int) - 1))).size : Int) > 4096 then (some ((⟨#[]⟩ : ByteArray), false)) else (eggboxref19_spelt.l0 k1 l0 l1 a2 y223 (wrap64 (x9_1 + 1)))) else (none)) else (none)) = some (r1, r2) := by first | (rw [hy223]; with_reducible exact H) | (have H2_ := (Option.bind_some _ _).symm.trans H; rw [hy223]; with_reducible exact H2_) | (have H2_ := (Option.bind_some _ _).symm.trans H; with_reducible exact H2_) | with_reducible exact H | (rw [hy223]; exact H) | exact H
           have Ny223 := Aside0.mk hy223
           clear hy223
           obtain ⟨ji8, hji8⟩ : ∃ j_ : Int, (wrap64 ((y223.length : Int) - 1)) = j_ := ⟨_, rfl⟩
           replace H : (if 0 ≤ (ji8) then (if (ji8) < (y223.length : Int) then (if ((rdOf ByteArray.empty y223 (ji8)).size : Int) > 4096 then (some ((⟨#[]⟩ : ByteArray), false)) else (eggboxref19_spelt.l0 k1 l0 l1 a2 y223 (wrap64 (x9_1 + 1)))) else (none)) else (none)) = some (r1, r2) := by first | (rw [hji8] at H; exact H) | (simp only [hji8] at H ⊢; exact H)
           have hji8w : (IntKind.i64.wrap ((y223.length : Int) - 1)) = ji8 := (i64_w _).trans hji8
           by_cases c9 : 0 ≤ (ji8)
           · rw [if_pos c9] at H
             have c9b0 : decide (0 ≤ (ji8)) = true := decide_eq_true c9
             clear c9
             by_cases c10 : (ji8) < (y223.length : Int)
             · rw [if_pos c10] at H
               have c10b0 : decide ((ji8) < (y223.length : Int)) = true := decide_eq_true c10
               clear c10
               by_cases c11 : ((rdOf ByteArray.empty y223 (ji8)).size : Int) > 4096
               · rw [if_pos c11] at H
                 have c11b0 : decide (4096 < ((rdOf ByteArray.empty y223 (ji8)).size : Int)) = true := decide_eq_true c11
                 have c11b1 : decide (4096 < (rdOf ByteArray.empty y223 (ji8)).size) = true := decide_eq_true (by omega)
                 clear c11
                 simp only [Option.some.injEq, Prod.mk.injEq] at H
                 obtain ⟨rfl, rfl⟩ := H
                 obtain ⟨Ao12, co12, eo12⟩ := Kd.R_slice HO_8.out
                 subst eo12
                 have p222 : 0 ≤ (x9_1 : Int) := of_decide_eq_true (by first | (with_reducible assumption) | assumption)
                 have q222 : x9_1 < (l0.length : Int) := of_decide_eq_true (by first | (with_reducible assumption) | assumption)
                 obtain ⟨ad222, e222, hx222_0, hx222_1⟩ := at_T97 HR0.out x9_1 p222 q222
                 cases e222
                 replace hx222_0 := (HB.out.cell (World.block_lt_of_cell? w _ hx222_0)).trans hx222_0
                 replace hx222_1 := (HB.out.cell (World.block_lt_of_cell? w _ hx222_1)).trans hx222_1
                 replace p222 := eq_true p222
                 replace q222 := eq_true q222
                 go_wp2_with (first | ((with_reducible refine gate_builtin (b := .append) (xs := #[.tmp 28, .tmp 29]) rfl ?_); (try (refine gate_guard (by rfl) ?_; dsimp only)); at_builtin; refine Kd.R_append Kd.string (w0 := w) w.heap.size rfl (.tmp 28) (.tmp 29) 56 9 (.string ⟨#[]⟩) 16 rfl Try.underlying56 info9 rfl (by decide) (by omega) (.slice Ao12 x8_1.length co12) x8_1 (⟨#[]⟩ : ByteArray) [.string (⟨#[]⟩ : ByteArray)] (fun _ => True) (fun _ => False) rfl rfl ?aP (fun _ hk => hk.elim) ?aF ?aO ?aB ?aS ?aL ?_; (case aP => exact rfl); (case aB => exact (by repeat (first | (with_reducible first | exact HB.out | apply below_alloc | apply pw_below_drewN | apply below_drew1) | exact HB.out))); (case aF => exact (fun _ _ => trivial)); (case aO => exact (by (with_reducible repeat (first | apply Kd.R_alloc | apply Kd.R_drewN | apply Kd.R_drew)); exact HO_8.out)); (case aS => exact (below_size (by repeat (first | (with_reducible first | exact HB.out | apply below_alloc | apply pw_below_drewN | apply below_drew1) | exact HB.out)))); (case aL => have := LMc7.out; omega); intro v224 w13 ho hb hg hat; rw [← Ny223.out] at ho; have n0_ := Aside0.mk (hb); have n1_ := Aside0.mk (ho); clear HB; clear HO_8; have HB := n0_; have HO225 := n1_; clear n0_ n1_; clear ho hb hg hat; obtain ⟨Ao14, co14, eo14⟩ := Kd.R_slice HO225.out; subst eo14; have p226 : 0 ≤ ((ji8) : Int) := of_decide_eq_true (by first | (with_reducible assumption) | assumption); have q226 : (ji8) < (y223.length : Int) := of_decide_eq_true (by first | (with_reducible assumption) | assumption); obtain ⟨ad226, e226, hx226_0⟩ := Kd.at_string (Kd.R_reads' HO225.out).2.2 (ji8) p226 q226; cases e226; replace p226 := eq_true p226; replace q226 := eq_true q226))
                 repeat (go_quiet (first | ((with_reducible refine gate_builtin (b := .append) (xs := #[.tmp 28, .tmp 29]) rfl ?_); (try (refine gate_guard (by rfl) ?_; dsimp only)); at_builtin; refine Kd.R_append Kd.string (w0 := w) w.heap.size rfl (.tmp 28) (.tmp 29) 56 9 (.string ⟨#[]⟩) 16 rfl Try.underlying56 info9 rfl (by decide) (by omega) (.slice Ao12 x8_1.length co12) x8_1 (⟨#[]⟩ : ByteArray) [.string (⟨#[]⟩ : ByteArray)] (fun _ => True) (fun _ => False) rfl rfl ?aP (fun _ hk => hk.elim) ?aF ?aO ?aB ?aS ?aL ?_; (case aP => exact rfl); (case aB => exact (by repeat (first | (with_reducible first | exact HB.out | apply below_alloc | apply pw_below_drewN | apply below_drew1) | exact HB.out))); (case aF => exact (fun _ _ => trivial)); (case aO => exact (by (with_reducible repeat (first | apply Kd.R_alloc | apply Kd.R_drewN | apply Kd.R_drew)); exact HO_8.out)); (case aS => exact (below_size (by repeat (first | (with_reducible first | exact HB.out | apply below_alloc | apply pw_below_drewN | apply below_drew1) | exact HB.out)))); (case aL => have := LMc7.out; omega); intro v224 w13 ho hb hg hat; rw [← Ny223.out] at ho; have n0_ := Aside0.mk (hb); have n1_ := Aside0.mk (ho); clear HB; clear HO_8; have HB := n0_; have HO225 := n1_; clear n0_ n1_; clear ho hb hg hat; obtain ⟨Ao14, co14, eo14⟩ := Kd.R_slice HO225.out; subst eo14; have p226 : 0 ≤ ((ji8) : Int) := of_decide_eq_true (by first | (with_reducible assumption) | assumption); have q226 : (ji8) < (y223.length : Int) := of_decide_eq_true (by first | (with_reducible assumption) | assumption); obtain ⟨ad226, e226, hx226_0⟩ := Kd.at_string (Kd.R_reads' HO225.out).2.2 (ji8) p226 q226; cases e226; replace p226 := eq_true p226; replace q226 := eq_true q226)); try go_wp2_with (first | ((with_reducible refine gate_builtin (b := .append) (xs := #[.tmp 28, .tmp 29]) rfl ?_); (try (refine gate_guard (by rfl) ?_; dsimp only)); at_builtin; refine Kd.R_append Kd.string (w0 := w) w.heap.size rfl (.tmp 28) (.tmp 29) 56 9 (.string ⟨#[]⟩) 16 rfl Try.underlying56 info9 rfl (by decide) (by omega) (.slice Ao12 x8_1.length co12) x8_1 (⟨#[]⟩ : ByteArray) [.string (⟨#[]⟩ : ByteArray)] (fun _ => True) (fun _ => False) rfl rfl ?aP (fun _ hk => hk.elim) ?aF ?aO ?aB ?aS ?aL ?_; (case aP => exact rfl); (case aB => exact (by repeat (first | (with_reducible first | exact HB.out | apply below_alloc | apply pw_below_drewN | apply below_drew1) | exact HB.out))); (case aF => exact (fun _ _ => trivial)); (case aO => exact (by (with_reducible repeat (first | apply Kd.R_alloc | apply Kd.R_drewN | apply Kd.R_drew)); exact HO_8.out)); (case aS => exact (below_size (by repeat (first | (with_reducible first | exact HB.out | apply below_alloc | apply pw_below_drewN | apply below_drew1) | exact HB.out)))); (case aL => have := LMc7.out; omega); intro v224 w13 ho hb hg hat; rw [← Ny223.out] at ho; have n0_ := Aside0.mk (hb); have n1_ := Aside0.mk (ho); clear HB; clear HO_8; have HB := n0_; have HO225 := n1_; clear n0_ n1_; clear ho hb hg hat; obtain ⟨Ao14, co14, eo14⟩ := Kd.R_slice HO225.out; subst eo14; have p226 : 0 ≤ ((ji8) : Int) := of_decide_eq_true (by first | (with_reducible assumption) | assumption); have q226 : (ji8) < (y223.length : Int) := of_decide_eq_true (by first | (with_reducible assumption) | assumption); obtain ⟨ad226, e226, hx226_0⟩ := Kd.at_string (Kd.R_reads' HO225.out).2.2 (ji8) p226 q226; cases e226; replace p226 := eq_true p226; replace q226 := eq_true q226)))
                 go_ret2
                 exact ⟨by first | rfl | (simp [errW_none, errW_some] <;> rfl) | (simp only [← hji8]; first | rfl | (simp [errW_none, errW_some] <;> rfl)) | (simp [*, errW_none, errW_some] <;> rfl), by repeat (first | (with_reducible first | exact HB.out | apply below_alloc | apply pw_below_drewN | apply below_drew1) | exact HB.out)⟩
               · rw [if_neg c11] at H
                 have c11b0 : decide (4096 < ((rdOf ByteArray.empty y223 (ji8)).size : Int)) = false := decide_eq_false c11
                 have c11b1 : decide (4096 < (rdOf ByteArray.empty y223 (ji8)).size) = false := decide_eq_false (by omega)
                 clear c11
                 have H' := Aside0.mk H
                 clear H
                 obtain ⟨Ao15, co15, eo15⟩ := Kd.R_slice HO_8.out
                 subst eo15
                 have p222 : 0 ≤ (x9_1 : Int) := of_decide_eq_true (by first | (with_reducible assumption) | assumption)
                 have q222 : x9_1 < (l0.length : Int) := of_decide_eq_true (by first | (with_reducible assumption) | assumption)
                 obtain ⟨ad222, e222, hx222_0, hx222_1⟩ := at_T97 HR0.out x9_1 p222 q222
                 cases e222
                 replace hx222_0 := (HB.out.cell (World.block_lt_of_cell? w _ hx222_0)).trans hx222_0
                 replace hx222_1 := (HB.out.cell (World.block_lt_of_cell? w _ hx222_1)).trans hx222_1
                 replace p222 := eq_true p222
                 replace q222 := eq_true q222
                 go_wp2_with (first | ((with_reducible refine gate_builtin (b := .append) (xs := #[.tmp 28, .tmp 29]) rfl ?_); (try (refine gate_guard (by rfl) ?_; dsimp only)); at_builtin; refine Kd.R_append Kd.string (w0 := w) w.heap.size rfl (.tmp 28) (.tmp 29) 56 9 (.string ⟨#[]⟩) 16 rfl Try.underlying56 info9 rfl (by decide) (by omega) (.slice Ao15 x8_1.length co15) x8_1 (⟨#[]⟩ : ByteArray) [.string (⟨#[]⟩ : ByteArray)] (fun _ => True) (fun _ => False) rfl rfl ?aP (fun _ hk => hk.elim) ?aF ?aO ?aB ?aS ?aL ?_; (case aP => exact rfl); (case aB => exact (by repeat (first | (with_reducible first | exact HB.out | apply below_alloc | apply pw_below_drewN | apply below_drew1) | exact HB.out))); (case aF => exact (fun _ _ => trivial)); (case aO => exact (by (with_reducible repeat (first | apply Kd.R_alloc | apply Kd.R_drewN | apply Kd.R_drew)); exact HO_8.out)); (case aS => exact (below_size (by repeat (first | (with_reducible first | exact HB.out | apply below_alloc | apply pw_below_drewN | apply below_drew1) | exact HB.out)))); (case aL => have := LMc7.out; omega); intro v224 w16 ho hb hg hat; rw [← Ny223.out] at ho; have n0_ := Aside0.mk (hb); have n1_ := Aside0.mk (ho); clear HB; clear HO_8; have HB := n0_; have HO225 := n1_; clear n0_ n1_; clear ho hb hg hat; obtain ⟨Ao17, co17, eo17⟩ := Kd.R_slice HO225.out; subst eo17; have p226 : 0 ≤ ((ji8) : Int) := of_decide_eq_true (by first | (with_reducible assumption) | assumption); have q226 : (ji8) < (y223.length : Int) := of_decide_eq_true (by first | (with_reducible assumption) | assumption); obtain ⟨ad226, e226, hx226_0⟩ := Kd.at_string (Kd.R_reads' HO225.out).2.2 (ji8) p226 q226; cases e226; replace p226 := eq_true p226; replace q226 := eq_true q226))
                 repeat (go_quiet (first | ((with_reducible refine gate_builtin (b := .append) (xs := #[.tmp 28, .tmp 29]) rfl ?_); (try (refine gate_guard (by rfl) ?_; dsimp only)); at_builtin; refine Kd.R_append Kd.string (w0 := w) w.heap.size rfl (.tmp 28) (.tmp 29) 56 9 (.string ⟨#[]⟩) 16 rfl Try.underlying56 info9 rfl (by decide) (by omega) (.slice Ao15 x8_1.length co15) x8_1 (⟨#[]⟩ : ByteArray) [.string (⟨#[]⟩ : ByteArray)] (fun _ => True) (fun _ => False) rfl rfl ?aP (fun _ hk => hk.elim) ?aF ?aO ?aB ?aS ?aL ?_; (case aP => exact rfl); (case aB => exact (by repeat (first | (with_reducible first | exact HB.out | apply below_alloc | apply pw_below_drewN | apply below_drew1) | exact HB.out))); (case aF => exact (fun _ _ => trivial)); (case aO => exact (by (with_reducible repeat (first | apply Kd.R_alloc | apply Kd.R_drewN | apply Kd.R_drew)); exact HO_8.out)); (case aS => exact (below_size (by repeat (first | (with_reducible first | exact HB.out | apply below_alloc | apply pw_below_drewN | apply below_drew1) | exact HB.out)))); (case aL => have := LMc7.out; omega); intro v224 w16 ho hb hg hat; rw [← Ny223.out] at ho; have n0_ := Aside0.mk (hb); have n1_ := Aside0.mk (ho); clear HB; clear HO_8; have HB := n0_; have HO225 := n1_; clear n0_ n1_; clear ho hb hg hat; obtain ⟨Ao17, co17, eo17⟩ := Kd.R_slice HO225.out; subst eo17; have p226 : 0 ≤ ((ji8) : Int) := of_decide_eq_true (by first | (with_reducible assumption) | assumption); have q226 : (ji8) < (y223.length : Int) := of_decide_eq_true (by first | (with_reducible assumption) | assumption); obtain ⟨ad226, e226, hx226_0⟩ := Kd.at_string (Kd.R_reads' HO225.out).2.2 (ji8) p226 q226; cases e226; replace p226 := eq_true p226; replace q226 := eq_true q226)); try go_wp2_with (first | ((with_reducible refine gate_builtin (b := .append) (xs := #[.tmp 28, .tmp 29]) rfl ?_); (try (refine gate_guard (by rfl) ?_; dsimp only)); at_builtin; refine Kd.R_append Kd.string (w0 := w) w.heap.size rfl (.tmp 28) (.tmp 29) 56 9 (.string ⟨#[]⟩) 16 rfl Try.underlying56 info9 rfl (by decide) (by omega) (.slice Ao15 x8_1.length co15) x8_1 (⟨#[]⟩ : ByteArray) [.string (⟨#[]⟩ : ByteArray)] (fun _ => True) (fun _ => False) rfl rfl ?aP (fun _ hk => hk.elim) ?aF ?aO ?aB ?aS ?aL ?_; (case aP => exact rfl); (case aB => exact (by repeat (first | (with_reducible first | exact HB.out | apply below_alloc | apply pw_below_drewN | apply below_drew1) | exact HB.out))); (case aF => exact (fun _ _ => trivial)); (case aO => exact (by (with_reducible repeat (first | apply Kd.R_alloc | apply Kd.R_drewN | apply Kd.R_drew)); exact HO_8.out)); (case aS => exact (below_size (by repeat (first | (with_reducible first | exact HB.out | apply below_alloc | apply pw_below_drewN | apply below_drew1) | exact HB.out)))); (case aL => have := LMc7.out; omega); intro v224 w16 ho hb hg hat; rw [← Ny223.out] at ho; have n0_ := Aside0.mk (hb); have n1_ := Aside0.mk (ho); clear HB; clear HO_8; have HB := n0_; have HO225 := n1_; clear n0_ n1_; clear ho hb hg hat; obtain ⟨Ao17, co17, eo17⟩ := Kd.R_slice HO225.out; subst eo17; have p226 : 0 ≤ ((ji8) : Int) := of_decide_eq_true (by first | (with_reducible assumption) | assumption); have q226 : (ji8) < (y223.length : Int) := of_decide_eq_true (by first | (with_reducible assumption) | assumption); obtain ⟨ad226, e226, hx226_0⟩ := Kd.at_string (Kd.R_reads' HO225.out).2.2 (ji8) p226 q226; cases e226; replace p226 := eq_true p226; replace q226 := eq_true q226)))
                 go_roundg k1
                 case measure => have := HK1.out; omega
                 case rel => exact ⟨(y223), (wrap64 (x9_1 + 1)), (by first | rfl | (simp; done) | (simp [*]; done)), H', ⟨by have := HK1.out; omega⟩, ⟨by (with_reducible repeat (first | apply Kd.R_alloc | apply Kd.R_drewN | apply Kd.R_drew)); exact HO225.out⟩, ⟨by repeat (first | (with_reducible first | exact HB.out | apply below_alloc | apply pw_below_drewN | apply below_drew1) | exact HB.out)⟩⟩
             · rw [if_neg c10] at H
               exact absurd H (by simp)
           · rw [if_neg c9] at H
             exact absurd H (by simp)
         · rw [if_neg c7] at H
           exact absurd H (by simp)
       · rw [if_neg c6] at H
         have c6b0 : (((rd_T97 l0 x9_1).f0) == 1) = false := beq_eq_false_iff_ne.mpr c6
         have c6b1 : (((rd_T97 l0 x9_1).f0) != 1) = true := bne_iff_ne.mpr c6
         by_cases c18 : ((rd_T97 l0 x9_1).f0) = 2
         · rw [if_pos c18] at H
           have c18b0 : (((rd_T97 l0 x9_1).f0) == 2) = true := beq_iff_eq.mpr c18
           have c18b1 : (((rd_T97 l0 x9_1).f0) != 2) = false := bne_eq_false_iff_eq.mpr c18
           clear c18
           replace H := Option.bind_eq_some_iff.mp H
           obtain ⟨t228, A190, H⟩ := H
           replace H : (if 0 ≤ t228 then (if t228 < (l1.length : Int) then (if x8_1.length < 8796093022208 then ((some (x8_1 ++ [rdOf ByteArray.empty l1 t228] : List ByteArray)).bind fun y230 => (if 0 ≤ (wrap64 ((y230.length : Int) - 1)) then (if (wrap64 ((y230.length : Int) - 1)) < (y230.length : Int) then (if ((rdOf ByteArray.empty y230 (wrap64 ((y230.length : Int) - 1))).size : Int) > 4096 then (some ((⟨#[]⟩ : ByteArray), false)) else (eggboxref19_spelt.l0 k1 l0 l1 a2 y230 (wrap64 (x9_1 + 1)))) else (none)) else (none))) else (none)) else (none)) else (none)) = some (r1, r2) := H
           have A19 := Aside0.mk A190
           clear A190
           by_cases c20 : 0 ≤ t228
           · rw [if_pos c20] at H
             have c20b0 : decide (0 ≤ t228) = true := decide_eq_true c20
             clear c20
             by_cases c21 : t228 < (l1.length : Int)
             · rw [if_pos c21] at H
               have c21b0 : decide (t228 < (l1.length : Int)) = true := decide_eq_true c21
               clear c21
               by_cases c22 : x8_1.length < 8796093022208
               · rw [if_pos c22] at H
                 have LMc22 := Aside0.mk c22
                 clear c22
                 obtain ⟨y230, hy230⟩ : ∃ y_ : List ByteArray, y_ = (x8_1 ++ [rdOf ByteArray.empty l1 t228]) := ⟨_, rfl⟩
                 replace H : (if 0 ≤ (wrap64 ((y230.length : Int) - 1)) then (if (wrap64 ((y230.length : Int) - 1)) < (y230.length : Int) then (if ((rdOf ByteArray.empty y230 (wrap64 ((y230.length : Int) - 1))).size : Int) > 4096 then (some ((⟨#[]⟩ : ByteArray), false)) else (eggboxref19_spelt.l0 k1 l0 l1 a2 y230 (wrap64 (x9_1 + 1)))) else (none)) else (none)) = some (r1, r2) := by first | (rw [hy230]; with_reducible exact H) | (have H2_ := (Option.bind_some _ _).symm.trans H; rw [hy230]; with_reducible exact H2_) | (have H2_ := (Option.bind_some _ _).symm.trans H; with_reducible exact H2_) | with_reducible exact H | (rw [hy230]; exact H) | exact H
                 have Ny230 := Aside0.mk hy230
                 clear hy230
                 obtain ⟨ji23, hji23⟩ : ∃ j_ : Int, (wrap64 ((y230.length : Int) - 1)) = j_ := ⟨_, rfl⟩
                 replace H : (if 0 ≤ (ji23) then (if (ji23) < (y230.length : Int) then (if ((rdOf ByteArray.empty y230 (ji23)).size : Int) > 4096 then (some ((⟨#[]⟩ : ByteArray), false)) else (eggboxref19_spelt.l0 k1 l0 l1 a2 y230 (wrap64 (x9_1 + 1)))) else (none)) else (none)) = some (r1, r2) := by first | (rw [hji23] at H; exact H) | (simp only [hji23] at H ⊢; exact H)
                 (try rw [hji23] at A19)
                 have hji23w : (IntKind.i64.wrap ((y230.length : Int) - 1)) = ji23 := (i64_w _).trans hji23
                 by_cases c24 : 0 ≤ (ji23)
                 · rw [if_pos c24] at H
                   have c24b0 : decide (0 ≤ (ji23)) = true := decide_eq_true c24
                   clear c24
                   by_cases c25 : (ji23) < (y230.length : Int)
                   · rw [if_pos c25] at H
                     have c25b0 : decide ((ji23) < (y230.length : Int)) = true := decide_eq_true c25
                     clear c25
                     by_cases c26 : ((rdOf ByteArray.empty y230 (ji23)).size : Int) > 4096
                     · rw [if_pos c26] at H
                       have c26b0 : decide (4096 < ((rdOf ByteArray.empty y230 (ji23)).size : Int)) = true := decide_eq_true c26
                       have c26b1 : decide (4096 < (rdOf ByteArray.empty y230 (ji23)).size) = true := decide_eq_true (by omega)
                       clear c26
                       simp only [Option.some.injEq, Prod.mk.injEq] at H
                       obtain ⟨rfl, rfl⟩ := H
                       obtain ⟨Ao27, co27, eo27⟩ := Kd.R_slice HO_8.out
                       subst eo27
                       have p222 : 0 ≤ (x9_1 : Int) := of_decide_eq_true (by first | (with_reducible assumption) | assumption)
                       have q222 : x9_1 < (l0.length : Int) := of_decide_eq_true (by first | (with_reducible assumption) | assumption)
                       obtain ⟨ad222, e222, hx222_0, hx222_1⟩ := at_T97 HR0.out x9_1 p222 q222
                       cases e222
                       replace hx222_0 := (HB.out.cell (World.block_lt_of_cell? w _ hx222_0)).trans hx222_0
                       replace hx222_1 := (HB.out.cell (World.block_lt_of_cell? w _ hx222_1)).trans hx222_1
                       replace p222 := eq_true p222
                       replace q222 := eq_true q222
                       have p227 : 0 ≤ (x9_1 : Int) := of_decide_eq_true (by first | (with_reducible assumption) | assumption)
                       have q227 : x9_1 < (l0.length : Int) := of_decide_eq_true (by first | (with_reducible assumption) | assumption)
                       obtain ⟨ad227, e227, hx227_0, hx227_1⟩ := at_T97 HR0.out x9_1 p227 q227
                       obtain rfl : ad222 = ad227 := (by injection e227)
                       replace hx227_0 := (HB.out.cell (World.block_lt_of_cell? w _ hx227_0)).trans hx227_0
                       replace hx227_1 := (HB.out.cell (World.block_lt_of_cell? w _ hx227_1)).trans hx227_1
                       replace p227 := eq_true p227
                       replace q227 := eq_true q227
                       go_wp2_with (first | (go_at_call 121; (with_reducible refine (eggboxref19_Place.calls ((rd_T97 l0 x9_1).f1) t228 _ A19.out).mono ?_); rintro e w' ⟨rfl, ⟨nd, rfl⟩⟩; (try first | exact ⟨rfl, _, World.drewN_drewN _ _ _⟩ | exact ⟨rfl, _, Eq.trans (World.drewN_drewN _ _ _) (congrArg (World.drewN _) (Nat.add_assoc _ _ _))⟩); have p229 : 0 ≤ (t228 : Int) := of_decide_eq_true (by first | (with_reducible assumption) | assumption); have q229 : t228 < (l1.length : Int) := of_decide_eq_true (by first | (with_reducible assumption) | assumption); obtain ⟨ad229, e229, hx229_0⟩ := Kd.at_string HR1.out t228 p229 q229; cases e229; replace hx229_0 := (HB.out.cell (World.block_lt_of_cell? w _ hx229_0)).trans hx229_0; replace p229 := eq_true p229; replace q229 := eq_true q229) | ((with_reducible refine gate_builtin (b := .append) (xs := #[.tmp 33, .tmp 43]) rfl ?_); (try (refine gate_guard (by rfl) ?_; dsimp only)); at_builtin; refine Kd.R_append Kd.string (w0 := w) w.heap.size rfl (.tmp 33) (.tmp 43) 56 9 (.string ⟨#[]⟩) 16 rfl Try.underlying56 info9 rfl (by decide) (by omega) (.slice Ao27 x8_1.length co27) x8_1 (rdOf ByteArray.empty l1 t228) [.string (rdOf ByteArray.empty l1 t228)] (fun _ => True) (fun _ => False) rfl rfl ?aP (fun _ hk => hk.elim) ?aF ?aO ?aB ?aS ?aL ?_; (case aP => exact rfl); (case aB => exact (by repeat (first | (with_reducible first | exact HB.out | apply below_alloc | apply pw_below_drewN | apply below_drew1) | exact HB.out))); (case aF => exact (fun _ _ => trivial)); (case aO => exact (by (with_reducible repeat (first | apply Kd.R_alloc | apply Kd.R_drewN | apply Kd.R_drew)); exact HO_8.out)); (case aS => exact (below_size (by repeat (first | (with_reducible first | exact HB.out | apply below_alloc | apply pw_below_drewN | apply below_drew1) | exact HB.out)))); (case aL => have := LMc22.out; omega); intro v231 w28 ho hb hg hat; rw [← Ny230.out] at ho; have n0_ := Aside0.mk (hb); have n1_ := Aside0.mk (ho); clear HB; clear HO_8; have HB := n0_; have HO232 := n1_; clear n0_ n1_; clear ho hb hg hat; obtain ⟨Ao29, co29, eo29⟩ := Kd.R_slice HO232.out; subst eo29; have p233 : 0 ≤ ((ji23) : Int) := of_decide_eq_true (by first | (with_reducible assumption) | assumption); have q233 : (ji23) < (y230.length : Int) := of_decide_eq_true (by first | (with_reducible assumption) | assumption); obtain ⟨ad233, e233, hx233_0⟩ := Kd.at_string (Kd.R_reads' HO232.out).2.2 (ji23) p233 q233; cases e233; replace p233 := eq_true p233; replace q233 := eq_true q233))
                       repeat (go_quiet (first | (go_at_call 121; (with_reducible refine (eggboxref19_Place.calls ((rd_T97 l0 x9_1).f1) t228 _ A19.out).mono ?_); rintro e w' ⟨rfl, ⟨nd, rfl⟩⟩; (try first | exact ⟨rfl, _, World.drewN_drewN _ _ _⟩ | exact ⟨rfl, _, Eq.trans (World.drewN_drewN _ _ _) (congrArg (World.drewN _) (Nat.add_assoc _ _ _))⟩); have p229 : 0 ≤ (t228 : Int) := of_decide_eq_true (by first | (with_reducible assumption) | assumption); have q229 : t228 < (l1.length : Int) := of_decide_eq_true (by first | (with_reducible assumption) | assumption); obtain ⟨ad229, e229, hx229_0⟩ := Kd.at_string HR1.out t228 p229 q229; cases e229; replace hx229_0 := (HB.out.cell (World.block_lt_of_cell? w _ hx229_0)).trans hx229_0; replace p229 := eq_true p229; replace q229 := eq_true q229) | ((with_reducible refine gate_builtin (b := .append) (xs := #[.tmp 33, .tmp 43]) rfl ?_); (try (refine gate_guard (by rfl) ?_; dsimp only)); at_builtin; refine Kd.R_append Kd.string (w0 := w) w.heap.size rfl (.tmp 33) (.tmp 43) 56 9 (.string ⟨#[]⟩) 16 rfl Try.underlying56 info9 rfl (by decide) (by omega) (.slice Ao27 x8_1.length co27) x8_1 (rdOf ByteArray.empty l1 t228) [.string (rdOf ByteArray.empty l1 t228)] (fun _ => True) (fun _ => False) rfl rfl ?aP (fun _ hk => hk.elim) ?aF ?aO ?aB ?aS ?aL ?_; (case aP => exact rfl); (case aB => exact (by repeat (first | (with_reducible first | exact HB.out | apply below_alloc | apply pw_below_drewN | apply below_drew1) | exact HB.out))); (case aF => exact (fun _ _ => trivial)); (case aO => exact (by (with_reducible repeat (first | apply Kd.R_alloc | apply Kd.R_drewN | apply Kd.R_drew)); exact HO_8.out)); (case aS => exact (below_size (by repeat (first | (with_reducible first | exact HB.out | apply below_alloc | apply pw_below_drewN | apply below_drew1) | exact HB.out)))); (case aL => have := LMc22.out; omega); intro v231 w28 ho hb hg hat; rw [← Ny230.out] at ho; have n0_ := Aside0.mk (hb); have n1_ := Aside0.mk (ho); clear HB; clear HO_8; have HB := n0_; have HO232 := n1_; clear n0_ n1_; clear ho hb hg hat; obtain ⟨Ao29, co29, eo29⟩ := Kd.R_slice HO232.out; subst eo29; have p233 : 0 ≤ ((ji23) : Int) := of_decide_eq_true (by first | (with_reducible assumption) | assumption); have q233 : (ji23) < (y230.length : Int) := of_decide_eq_true (by first | (with_reducible assumption) | assumption); obtain ⟨ad233, e233, hx233_0⟩ := Kd.at_string (Kd.R_reads' HO232.out).2.2 (ji23) p233 q233; cases e233; replace p233 := eq_true p233; replace q233 := eq_true q233)); try go_wp2_with (first | (go_at_call 121; (with_reducible refine (eggboxref19_Place.calls ((rd_T97 l0 x9_1).f1) t228 _ A19.out).mono ?_); rintro e w' ⟨rfl, ⟨nd, rfl⟩⟩; (try first | exact ⟨rfl, _, World.drewN_drewN _ _ _⟩ | exact ⟨rfl, _, Eq.trans (World.drewN_drewN _ _ _) (congrArg (World.drewN _) (Nat.add_assoc _ _ _))⟩); have p229 : 0 ≤ (t228 : Int) := of_decide_eq_true (by first | (with_reducible assumption) | assumption); have q229 : t228 < (l1.length : Int) := of_decide_eq_true (by first | (with_reducible assumption) | assumption); obtain ⟨ad229, e229, hx229_0⟩ := Kd.at_string HR1.out t228 p229 q229; cases e229; replace hx229_0 := (HB.out.cell (World.block_lt_of_cell? w _ hx229_0)).trans hx229_0; replace p229 := eq_true p229; replace q229 := eq_true q229) | ((with_reducible refine gate_builtin (b := .append) (xs := #[.tmp 33, .tmp 43]) rfl ?_); (try (refine gate_guard (by rfl) ?_; dsimp only)); at_builtin; refine Kd.R_append Kd.string (w0 := w) w.heap.size rfl (.tmp 33) (.tmp 43) 56 9 (.string ⟨#[]⟩) 16 rfl Try.underlying56 info9 rfl (by decide) (by omega) (.slice Ao27 x8_1.length co27) x8_1 (rdOf ByteArray.empty l1 t228) [.string (rdOf ByteArray.empty l1 t228)] (fun _ => True) (fun _ => False) rfl rfl ?aP (fun _ hk => hk.elim) ?aF ?aO ?aB ?aS ?aL ?_; (case aP => exact rfl); (case aB => exact (by repeat (first | (with_reducible first | exact HB.out | apply below_alloc | apply pw_below_drewN | apply below_drew1) | exact HB.out))); (case aF => exact (fun _ _ => trivial)); (case aO => exact (by (with_reducible repeat (first | apply Kd.R_alloc | apply Kd.R_drewN | apply Kd.R_drew)); exact HO_8.out)); (case aS => exact (below_size (by repeat (first | (with_reducible first | exact HB.out | apply below_alloc | apply pw_below_drewN | apply below_drew1) | exact HB.out)))); (case aL => have := LMc22.out; omega); intro v231 w28 ho hb hg hat; rw [← Ny230.out] at ho; have n0_ := Aside0.mk (hb); have n1_ := Aside0.mk (ho); clear HB; clear HO_8; have HB := n0_; have HO232 := n1_; clear n0_ n1_; clear ho hb hg hat; obtain ⟨Ao29, co29, eo29⟩ := Kd.R_slice HO232.out; subst eo29; have p233 : 0 ≤ ((ji23) : Int) := of_decide_eq_true (by first | (with_reducible assumption) | assumption); have q233 : (ji23) < (y230.length : Int) := of_decide_eq_true (by first | (with_reducible assumption) | assumption); obtain ⟨ad233, e233, hx233_0⟩ := Kd.at_string (Kd.R_reads' HO232.out).2.2 (ji23) p233 q233; cases e233; replace p233 := eq_true p233; replace q233 := eq_true q233)))
                       go_ret2
                       exact ⟨by first | rfl | (simp [errW_none, errW_some] <;> rfl) | (simp only [← hji23]; first | rfl | (simp [errW_none, errW_some] <;> rfl)) | (simp [*, errW_none, errW_some] <;> rfl), by repeat (first | (with_reducible first | exact HB.out | apply below_alloc | apply pw_below_drewN | apply below_drew1) | exact HB.out)⟩
                     · rw [if_neg c26] at H
                       have c26b0 : decide (4096 < ((rdOf ByteArray.empty y230 (ji23)).size : Int)) = false := decide_eq_false c26
                       have c26b1 : decide (4096 < (rdOf ByteArray.empty y230 (ji23)).size) = false := decide_eq_false (by omega)
                       clear c26
                       have H' := Aside0.mk H
                       clear H
                       obtain ⟨Ao30, co30, eo30⟩ := Kd.R_slice HO_8.out
                       subst eo30
                       have p222 : 0 ≤ (x9_1 : Int) := of_decide_eq_true (by first | (with_reducible assumption) | assumption)
                       have q222 : x9_1 < (l0.length : Int) := of_decide_eq_true (by first | (with_reducible assumption) | assumption)
                       obtain ⟨ad222, e222, hx222_0, hx222_1⟩ := at_T97 HR0.out x9_1 p222 q222
                       cases e222
                       replace hx222_0 := (HB.out.cell (World.block_lt_of_cell? w _ hx222_0)).trans hx222_0
                       replace hx222_1 := (HB.out.cell (World.block_lt_of_cell? w _ hx222_1)).trans hx222_1
                       replace p222 := eq_true p222
                       replace q222 := eq_true q222
                       have p227 : 0 ≤ (x9_1 : Int) := of_decide_eq_true (by first | (with_reducible assumption) | assumption)
                       have q227 : x9_1 < (l0.length : Int) := of_decide_eq_true (by first | (with_reducible assumption) | assumption)
                       obtain ⟨ad227, e227, hx227_0, hx227_1⟩ := at_T97 HR0.out x9_1 p227 q227
                       obtain rfl : ad222 = ad227 := (by injection e227)
                       replace hx227_0 := (HB.out.cell (World.block_lt_of_cell? w _ hx227_0)).trans hx227_0
                       replace hx227_1 := (HB.out.cell (World.block_lt_of_cell? w _ hx227_1)).trans hx227_1
                       replace p227 := eq_true p227
                       replace q227 := eq_true q227
                       go_wp2_with (first | (go_at_call 121; (with_reducible refine (eggboxref19_Place.calls ((rd_T97 l0 x9_1).f1) t228 _ A19.out).mono ?_); rintro e w' ⟨rfl, ⟨nd, rfl⟩⟩; (try first | exact ⟨rfl, _, World.drewN_drewN _ _ _⟩ | exact ⟨rfl, _, Eq.trans (World.drewN_drewN _ _ _) (congrArg (World.drewN _) (Nat.add_assoc _ _ _))⟩); have p229 : 0 ≤ (t228 : Int) := of_decide_eq_true (by first | (with_reducible assumption) | assumption); have q229 : t228 < (l1.length : Int) := of_decide_eq_true (by first | (with_reducible assumption) | assumption); obtain ⟨ad229, e229, hx229_0⟩ := Kd.at_string HR1.out t228 p229 q229; cases e229; replace hx229_0 := (HB.out.cell (World.block_lt_of_cell? w _ hx229_0)).trans hx229_0; replace p229 := eq_true p229; replace q229 := eq_true q229) | ((with_reducible refine gate_builtin (b := .append) (xs := #[.tmp 33, .tmp 43]) rfl ?_); (try (refine gate_guard (by rfl) ?_; dsimp only)); at_builtin; refine Kd.R_append Kd.string (w0 := w) w.heap.size rfl (.tmp 33) (.tmp 43) 56 9 (.string ⟨#[]⟩) 16 rfl Try.underlying56 info9 rfl (by decide) (by omega) (.slice Ao30 x8_1.length co30) x8_1 (rdOf ByteArray.empty l1 t228) [.string (rdOf ByteArray.empty l1 t228)] (fun _ => True) (fun _ => False) rfl rfl ?aP (fun _ hk => hk.elim) ?aF ?aO ?aB ?aS ?aL ?_; (case aP => exact rfl); (case aB => exact (by repeat (first | (with_reducible first | exact HB.out | apply below_alloc | apply pw_below_drewN | apply below_drew1) | exact HB.out))); (case aF => exact (fun _ _ => trivial)); (case aO => exact (by (with_reducible repeat (first | apply Kd.R_alloc | apply Kd.R_drewN | apply Kd.R_drew)); exact HO_8.out)); (case aS => exact (below_size (by repeat (first | (with_reducible first | exact HB.out | apply below_alloc | apply pw_below_drewN | apply below_drew1) | exact HB.out)))); (case aL => have := LMc22.out; omega); intro v231 w31 ho hb hg hat; rw [← Ny230.out] at ho; have n0_ := Aside0.mk (hb); have n1_ := Aside0.mk (ho); clear HB; clear HO_8; have HB := n0_; have HO232 := n1_; clear n0_ n1_; clear ho hb hg hat; obtain ⟨Ao32, co32, eo32⟩ := Kd.R_slice HO232.out; subst eo32; have p233 : 0 ≤ ((ji23) : Int) := of_decide_eq_true (by first | (with_reducible assumption) | assumption); have q233 : (ji23) < (y230.length : Int) := of_decide_eq_true (by first | (with_reducible assumption) | assumption); obtain ⟨ad233, e233, hx233_0⟩ := Kd.at_string (Kd.R_reads' HO232.out).2.2 (ji23) p233 q233; cases e233; replace p233 := eq_true p233; replace q233 := eq_true q233))
                       repeat (go_quiet (first | (go_at_call 121; (with_reducible refine (eggboxref19_Place.calls ((rd_T97 l0 x9_1).f1) t228 _ A19.out).mono ?_); rintro e w' ⟨rfl, ⟨nd, rfl⟩⟩; (try first | exact ⟨rfl, _, World.drewN_drewN _ _ _⟩ | exact ⟨rfl, _, Eq.trans (World.drewN_drewN _ _ _) (congrArg (World.drewN _) (Nat.add_assoc _ _ _))⟩); have p229 : 0 ≤ (t228 : Int) := of_decide_eq_true (by first | (with_reducible assumption) | assumption); have q229 : t228 < (l1.length : Int) := of_decide_eq_true (by first | (with_reducible assumption) | assumption); obtain ⟨ad229, e229, hx229_0⟩ := Kd.at_string HR1.out t228 p229 q229; cases e229; replace hx229_0 := (HB.out.cell (World.block_lt_of_cell? w _ hx229_0)).trans hx229_0; replace p229 := eq_true p229; replace q229 := eq_true q229) | ((with_reducible refine gate_builtin (b := .append) (xs := #[.tmp 33, .tmp 43]) rfl ?_); (try (refine gate_guard (by rfl) ?_; dsimp only)); at_builtin; refine Kd.R_append Kd.string (w0 := w) w.heap.size rfl (.tmp 33) (.tmp 43) 56 9 (.string ⟨#[]⟩) 16 rfl Try.underlying56 info9 rfl (by decide) (by omega) (.slice Ao30 x8_1.length co30) x8_1 (rdOf ByteArray.empty l1 t228) [.string (rdOf ByteArray.empty l1 t228)] (fun _ => True) (fun _ => False) rfl rfl ?aP (fun _ hk => hk.elim) ?aF ?aO ?aB ?aS ?aL ?_; (case aP => exact rfl); (case aB => exact (by repeat (first | (with_reducible first | exact HB.out | apply below_alloc | apply pw_below_drewN | apply below_drew1) | exact HB.out))); (case aF => exact (fun _ _ => trivial)); (case aO => exact (by (with_reducible repeat (first | apply Kd.R_alloc | apply Kd.R_drewN | apply Kd.R_drew)); exact HO_8.out)); (case aS => exact (below_size (by repeat (first | (with_reducible first | exact HB.out | apply below_alloc | apply pw_below_drewN | apply below_drew1) | exact HB.out)))); (case aL => have := LMc22.out; omega); intro v231 w31 ho hb hg hat; rw [← Ny230.out] at ho; have n0_ := Aside0.mk (hb); have n1_ := Aside0.mk (ho); clear HB; clear HO_8; have HB := n0_; have HO232 := n1_; clear n0_ n1_; clear ho hb hg hat; obtain ⟨Ao32, co32, eo32⟩ := Kd.R_slice HO232.out; subst eo32; have p233 : 0 ≤ ((ji23) : Int) := of_decide_eq_true (by first | (with_reducible assumption) | assumption); have q233 : (ji23) < (y230.length : Int) := of_decide_eq_true (by first | (with_reducible assumption) | assumption); obtain ⟨ad233, e233, hx233_0⟩ := Kd.at_string (Kd.R_reads' HO232.out).2.2 (ji23) p233 q233; cases e233; replace p233 := eq_true p233; replace q233 := eq_true q233)); try go_wp2_with (first | (go_at_call 121; (with_reducible refine (eggboxref19_Place.calls ((rd_T97 l0 x9_1).f1) t228 _ A19.out).mono ?_); rintro e w' ⟨rfl, ⟨nd, rfl⟩⟩; (try first | exact ⟨rfl, _, World.drewN_drewN _ _ _⟩ | exact ⟨rfl, _, Eq.trans (World.drewN_drewN _ _ _) (congrArg (World.drewN _) (Nat.add_assoc _ _ _))⟩); have p229 : 0 ≤ (t228 : Int) := of_decide_eq_true (by first | (with_reducible assumption) | assumption); have q229 : t228 < (l1.length : Int) := of_decide_eq_true (by first | (with_reducible assumption) | assumption); obtain ⟨ad229, e229, hx229_0⟩ := Kd.at_string HR1.out t228 p229 q229; cases e229; replace hx229_0 := (HB.out.cell (World.block_lt_of_cell? w _ hx229_0)).trans hx229_0; replace p229 := eq_true p229; replace q229 := eq_true q229) | ((with_reducible refine gate_builtin (b := .append) (xs := #[.tmp 33, .tmp 43]) rfl ?_); (try (refine gate_guard (by rfl) ?_; dsimp only)); at_builtin; refine Kd.R_append Kd.string (w0 := w) w.heap.size rfl (.tmp 33) (.tmp 43) 56 9 (.string ⟨#[]⟩) 16 rfl Try.underlying56 info9 rfl (by decide) (by omega) (.slice Ao30 x8_1.length co30) x8_1 (rdOf ByteArray.empty l1 t228) [.string (rdOf ByteArray.empty l1 t228)] (fun _ => True) (fun _ => False) rfl rfl ?aP (fun _ hk => hk.elim) ?aF ?aO ?aB ?aS ?aL ?_; (case aP => exact rfl); (case aB => exact (by repeat (first | (with_reducible first | exact HB.out | apply below_alloc | apply pw_below_drewN | apply below_drew1) | exact HB.out))); (case aF => exact (fun _ _ => trivial)); (case aO => exact (by (with_reducible repeat (first | apply Kd.R_alloc | apply Kd.R_drewN | apply Kd.R_drew)); exact HO_8.out)); (case aS => exact (below_size (by repeat (first | (with_reducible first | exact HB.out | apply below_alloc | apply pw_below_drewN | apply below_drew1) | exact HB.out)))); (case aL => have := LMc22.out; omega); intro v231 w31 ho hb hg hat; rw [← Ny230.out] at ho; have n0_ := Aside0.mk (hb); have n1_ := Aside0.mk (ho); clear HB; clear HO_8; have HB := n0_; have HO232 := n1_; clear n0_ n1_; clear ho hb hg hat; obtain ⟨Ao32, co32, eo32⟩ := Kd.R_slice HO232.out; subst eo32; have p233 : 0 ≤ ((ji23) : Int) := of_decide_eq_true (by first | (with_reducible assumption) | assumption); have q233 : (ji23) < (y230.length : Int) := of_decide_eq_true (by first | (with_reducible assumption) | assumption); obtain ⟨ad233, e233, hx233_0⟩ := Kd.at_string (Kd.R_reads' HO232.out).2.2 (ji23) p233 q233; cases e233; replace p233 := eq_true p233; replace q233 := eq_true q233)))
                       go_roundg k1
                       case measure => have := HK1.out; omega
                       case rel => exact ⟨(y230), (wrap64 (x9_1 + 1)), (by first | rfl | (simp; done) | (simp [*]; done)), H', ⟨by have := HK1.out; omega⟩, ⟨by (with_reducible repeat (first | apply Kd.R_alloc | apply Kd.R_drewN | apply Kd.R_drew)); exact HO232.out⟩, ⟨by repeat (first | (with_reducible first | exact HB.out | apply below_alloc | apply pw_below_drewN | apply below_drew1) | exact HB.out)⟩⟩
                   · rw [if_neg c25] at H
                     exact absurd H (by simp)
                 · rw [if_neg c24] at H
                   exact absurd H (by simp)
               · rw [if_neg c22] at H
                 exact absurd H (by simp)
             · rw [if_neg c21] at H
               exact absurd H (by simp)
           · rw [if_neg c20] at H
             exact absurd H (by simp)
         · rw [if_neg c18] at H
           have c18b0 : (((rd_T97 l0 x9_1).f0) == 2) = false := beq_eq_false_iff_ne.mpr c18
           have c18b1 : (((rd_T97 l0 x9_1).f0) != 2) = true := bne_iff_ne.mpr c18
           by_cases c33 : ((rd_T97 l0 x9_1).f0) = 4
           · rw [if_pos c33] at H
             have c33b0 : (((rd_T97 l0 x9_1).f0) == 4) = true := beq_iff_eq.mpr c33
             have c33b1 : (((rd_T97 l0 x9_1).f0) != 4) = false := bne_eq_false_iff_eq.mpr c33
             clear c33
             obtain ⟨ji34, hji34⟩ : ∃ j_ : Int, (wrap64 ((x8_1.length : Int) - 1)) = j_ := ⟨_, rfl⟩
             replace H : (if 0 ≤ (ji34) then (if (ji34) < (x8_1.length : Int) then (if ((rdOf ByteArray.empty x8_1 (ji34)).size : Int) > 0 then (if ((rdOf ByteArray.empty x8_1 (ji34)).size : Int) = 0 then (none) else (eggboxref19_spelt.j1 k1 l0 l1 a2 x8_1 x9_1 (x8_1.length : Int) (rdOf ByteArray.empty x8_1 (ji34)) (decide (a2 > (wrap64 ((4096 : Int) / ((rdOf ByteArray.empty x8_1 (ji34)).size : Int))))))) else (eggboxref19_spelt.j1 k1 l0 l1 a2 x8_1 x9_1 (x8_1.length : Int) (rdOf ByteArray.empty x8_1 (ji34)) false)) else (none)) else (none)) = some (r1, r2) := by first | (rw [hji34] at H; exact H) | (simp only [hji34] at H ⊢; exact H)
             have hji34w : (IntKind.i64.wrap ((x8_1.length : Int) - 1)) = ji34 := (i64_w _).trans hji34
             by_cases c35 : 0 ≤ (ji34)
             · rw [if_pos c35] at H
               have c35b0 : decide (0 ≤ (ji34)) = true := decide_eq_true c35
               clear c35
               by_cases c36 : (ji34) < (x8_1.length : Int)
               · rw [if_pos c36] at H
                 have c36b0 : decide ((ji34) < (x8_1.length : Int)) = true := decide_eq_true c36
                 clear c36
                 have HC37 := Aside0.mk H
                 clear H
                 obtain ⟨Ao38, co38, eo38⟩ := Kd.R_slice HO_8.out
                 subst eo38
                 have p222 : 0 ≤ (x9_1 : Int) := of_decide_eq_true (by first | (with_reducible assumption) | assumption)
                 have q222 : x9_1 < (l0.length : Int) := of_decide_eq_true (by first | (with_reducible assumption) | assumption)
                 obtain ⟨ad222, e222, hx222_0, hx222_1⟩ := at_T97 HR0.out x9_1 p222 q222
                 cases e222
                 replace hx222_0 := (HB.out.cell (World.block_lt_of_cell? w _ hx222_0)).trans hx222_0
                 replace hx222_1 := (HB.out.cell (World.block_lt_of_cell? w _ hx222_1)).trans hx222_1
                 replace p222 := eq_true p222
                 replace q222 := eq_true q222
                 have p234 : 0 ≤ ((ji34) : Int) := of_decide_eq_true (by first | (with_reducible assumption) | assumption)
                 have q234 : (ji34) < (x8_1.length : Int) := of_decide_eq_true (by first | (with_reducible assumption) | assumption)
                 obtain ⟨ad234, e234, hx234_0⟩ := Kd.at_string (Kd.R_reads' HO_8.out).2.2 (ji34) p234 q234
                 cases e234
                 replace p234 := eq_true p234
                 replace q234 := eq_true q234
                 go_upto_region 13 with (fail)
                 repeat (go_quiet (fail); go_upto_region 13 with (fail))
                 go_cut [61] (fun v61 wc => ∃ (kq : Nat) (x61_36 : Bool), v61 = .bool x61_36 ∧ Aside0 (eggboxref19_spelt.j1 kq l0 l1 a2 x8_1 x9_1 (x8_1.length : Int) (rdOf ByteArray.empty x8_1 (ji34)) x61_36 = some (r1, r2)) ∧ Aside0 (kq ≤ k1) ∧ Aside0 (Kd.R Kd.string 9 wc w.heap.size (fun _ => True) (.slice (some ad234) x8_1.length co38) x8_1) ∧ Aside0 (Below w.heap.size w wc))
                 case first =>
                  have H := HC37.out
                  clear HC37
                  by_cases c39 : ((rdOf ByteArray.empty x8_1 (ji34)).size : Int) > 0
                  · rw [if_pos c39] at H
                    have c39b0 : decide (0 < ((rdOf ByteArray.empty x8_1 (ji34)).size : Int)) = true := decide_eq_true c39
                    have c39b1 : decide (0 < (rdOf ByteArray.empty x8_1 (ji34)).size) = true := decide_eq_true (by omega)
                    clear c39
                    (first | rw [c39b0] | (simp only [i64_w, i32_w]; rw [c39b0]) | skip)
                    by_cases c40 : ((rdOf ByteArray.empty x8_1 (ji34)).size : Int) = 0
                    · rw [if_pos c40] at H
                      exact absurd H (by simp)
                    · rw [if_neg c40] at H
                      have c40b0 : (((rdOf ByteArray.empty x8_1 (ji34)).size : Int) == 0) = false := beq_eq_false_iff_ne.mpr c40
                      have c40b1 : (((rdOf ByteArray.empty x8_1 (ji34)).size : Int) != 0) = true := bne_iff_ne.mpr c40
                      have H' := Aside0.mk H
                      clear H
                      go_wp2
                      repeat (go_quiet (fail); try go_wp2)
                      go_meet
                      case rel => exact ⟨_, (decide (a2 > (wrap64 ((4096 : Int) / ((rdOf ByteArray.empty x8_1 (ji34)).size : Int))))), (by first | rfl | (simp; done) | (simp only [wdiv_, gt_iff_lt]; done) | (simp only [← hji34] <;> (first | rfl | simp)) | (simp [*]; done)), H', ⟨by have := HK1.out; first | omega | exact Nat.le_refl _⟩, ⟨by (with_reducible repeat (first | apply Kd.R_alloc | apply Kd.R_drewN | apply Kd.R_drew)); exact HO_8.out⟩, ⟨by repeat (first | (with_reducible first | exact HB.out | apply below_alloc | apply pw_below_drewN | apply below_drew1) | exact HB.out)⟩⟩
                  · rw [if_neg c39] at H
                    have c39b0 : decide (0 < ((rdOf ByteArray.empty x8_1 (ji34)).size : Int)) = false := decide_eq_false c39
                    have c39b1 : decide (0 < (rdOf ByteArray.empty x8_1 (ji34)).size) = false := decide_eq_false (by omega)
                    clear c39
                    (first | rw [c39b0] | (simp only [i64_w, i32_w]; rw [c39b0]) | skip)
                    have H' := Aside0.mk H
                    clear H
                    go_wp2
                    repeat (go_quiet (fail); try go_wp2)
                    go_meet
                    case rel => exact ⟨_, (false), (by first | rfl | (simp; done) | (simp [*]; done)), H', ⟨by have := HK1.out; first | omega | exact Nat.le_refl _⟩, ⟨by (with_reducible repeat (first | apply Kd.R_alloc | apply Kd.R_drewN | apply Kd.R_drew)); exact HO_8.out⟩, ⟨by repeat (first | (with_reducible first | exact HB.out | apply below_alloc | apply pw_below_drewN | apply below_drew1) | exact HB.out)⟩⟩
                 case rest =>
                  clear HC37
                  try clear c1
                  try clear c2
                  try clear p2
                  try clear q2
                  try clear hx2
                  try clear c3
                  try clear c4
                  try clear c4b0
                  try clear c5
                  try clear c5b0
                  try clear c6
                  try clear c6b0
                  try clear c6b1
                  try clear p6
                  try clear c7
                  try clear c9
                  try clear c9b0
                  try clear c10
                  try clear c10b0
                  try clear c11
                  try clear c11b0
                  try clear c11b1
                  try clear c18
                  try clear c18b0
                  try clear c18b1
                  try clear c20
                  try clear c20b0
                  try clear c21
                  try clear c21b0
                  try clear c22
                  try clear p22
                  try clear q22
                  try clear hx22
                  try clear p23
                  try clear q23
                  try clear hx23
                  try clear c24
                  try clear c24b0
                  try clear c25
                  try clear c25b0
                  try clear c26
                  try clear c26b0
                  try clear c26b1
                  try clear c33
                  try clear c33b0
                  try clear c33b1
                  try clear c35
                  try clear c35b0
                  try clear c36
                  try clear c36b0
                  try clear c39
                  try clear c39b0
                  try clear c39b1
                  try clear c40
                  try clear c40b0
                  try clear c40b1
                  try clear hx222_0
                  try clear hx222_1
                  try clear hx226_0
                  try clear hx227_0
                  try clear hx227_1
                  try clear hx229_0
                  try clear hx233_0
                  try clear hx234_0
                  try clear p2
                  try clear p222
                  try clear p226
                  try clear p227
                  try clear p229
                  try clear p233
                  try clear p234
                  try clear q222
                  try clear q226
                  try clear q227
                  try clear q229
                  try clear q233
                  try clear q234
                  obtain ⟨kq, x61_36, rfl, HA, HJ36, HO_8, HB⟩ := hcut
                  cases kq with
                  | zero => exact absurd HA.out (by simp [eggboxref19_spelt.j1])
                  | succ kj36 =>
                   have H := HA.out
                   clear HA
                   simp only [eggboxref19_spelt.j1] at H
                   by_cases c41 : x61_36 = true
                   · subst c41
                     have H1 : (some ((⟨#[]⟩ : ByteArray), false)) = some (r1, r2) := by rw [if_pos rfl] at H; exact H
                     clear H
                     have H := H1
                     clear H1
                     simp only [Option.some.injEq, Prod.mk.injEq] at H
                     obtain ⟨rfl, rfl⟩ := H
                     go_wp2
                     repeat (go_quiet (fail); try go_wp2)
                     go_ret2
                     exact ⟨by first | rfl | (simp [errW_none, errW_some] <;> rfl) | (simp only [← hji34]; first | rfl | (simp [errW_none, errW_some] <;> rfl)) | (simp [*, errW_none, errW_some] <;> rfl), by repeat (first | (with_reducible first | exact HB.out | apply below_alloc | apply pw_below_drewN | apply below_drew1) | exact HB.out)⟩
                   · replace c41 := Bool.eq_false_iff.mpr c41
                     subst c41
                     have H1 : (if ((rdOf ByteArray.empty x8_1 (ji34)).size : Int) > 0 then ((strings_Repeat.f (rdOf ByteArray.empty x8_1 (ji34)) a2).bind fun t235 => (if 0 ≤ (wrap64 ((x8_1.length : Int) - 1)) then (if (wrap64 ((x8_1.length : Int) - 1)) < (x8_1.length : Int) then ((some (x8_1.set ((wrap64 ((x8_1.length : Int) - 1)) : Int).toNat t235 : List ByteArray)).bind fun y236 => (if 0 ≤ (wrap64 ((x8_1.length : Int) - 1)) then (if (wrap64 ((x8_1.length : Int) - 1)) < (x8_1.length : Int) then (if ((rdOf ByteArray.empty y236 (wrap64 ((x8_1.length : Int) - 1))).size : Int) > 4096 then (some ((⟨#[]⟩ : ByteArray), false)) else (eggboxref19_spelt.l0 kj36 l0 l1 a2 y236 (wrap64 (x9_1 + 1)))) else (none)) else (none))) else (none)) else (none))) else (if 0 ≤ (wrap64 ((x8_1.length : Int) - 1)) then (if (wrap64 ((x8_1.length : Int) - 1)) < (x8_1.length : Int) then (if ((rdOf ByteArray.empty x8_1 (wrap64 ((x8_1.length : Int) - 1))).size : Int) > 4096 then (some ((⟨#[]⟩ : ByteArray), false)) else (eggboxref19_spelt.l0 kj36 l0 l1 a2 x8_1 (wrap64 (x9_1 + 1)))) else (none)) else (none))) = some (r1, r2) := by rw [if_neg (show ¬ (false = true) by decide)] at H; exact H
                     clear H
                     have H := H1
                     clear H1
                     by_cases c42 : ((rdOf ByteArray.empty x8_1 (ji34)).size : Int) > 0
                     · rw [if_pos c42] at H
                       have c42b0 : decide (0 < ((rdOf ByteArray.empty x8_1 (ji34)).size : Int)) = true := decide_eq_true c42
                       have c42b1 : decide (0 < (rdOf ByteArray.empty x8_1 (ji34)).size) = true := decide_eq_true (by omega)
                       clear c42
                       replace H := Option.bind_eq_some_iff.mp H
                       obtain ⟨t235, A430, H⟩ := H
                       replace H : (if 0 ≤ (wrap64 ((x8_1.length : Int) - 1)) then (if (wrap64 ((x8_1.length : Int) - 1)) < (x8_1.length : Int) then ((some (x8_1.set ((wrap64 ((x8_1.length : Int) - 1)) : Int).toNat t235 : List ByteArray)).bind fun y236 => (if 0 ≤ (wrap64 ((x8_1.length : Int) - 1)) then (if (wrap64 ((x8_1.length : Int) - 1)) < (x8_1.length : Int) then (if ((rdOf ByteArray.empty y236 (wrap64 ((x8_1.length : Int) - 1))).size : Int) > 4096 then (some ((⟨#[]⟩ : ByteArray), false)) else (eggboxref19_spelt.l0 kj36 l0 l1 a2 y236 (wrap64 (x9_1 + 1)))) else (none)) else (none))) else (none)) else (none)) = some (r1, r2) := H
                       have A43 := Aside0.mk A430
                       clear A430
                       obtain ⟨ji44, hji44⟩ : ∃ j_ : Int, (wrap64 ((x8_1.length : Int) - 1)) = j_ := ⟨_, rfl⟩
                       obtain rfl : ji34 = ji44 := hji34.symm.trans hji44
                       replace H : (if 0 ≤ (ji34) then (if (ji34) < (x8_1.length : Int) then ((some (x8_1.set ((ji34) : Int).toNat t235 : List ByteArray)).bind fun y236 => (if 0 ≤ (ji34) then (if (ji34) < (x8_1.length : Int) then (if ((rdOf ByteArray.empty y236 (ji34)).size : Int) > 4096 then (some ((⟨#[]⟩ : ByteArray), false)) else (eggboxref19_spelt.l0 kj36 l0 l1 a2 y236 (wrap64 (x9_1 + 1)))) else (none)) else (none))) else (none)) else (none)) = some (r1, r2) := by first | (rw [hji44] at H; exact H) | (simp only [hji44] at H ⊢; exact H)
                       (try rw [hji44] at A43)
                       have hji44w : (IntKind.i64.wrap ((x8_1.length : Int) - 1)) = ji34 := (i64_w _).trans hji44
                       by_cases c45 : 0 ≤ (ji34)
                       · rw [if_pos c45] at H
                         have c45b0 : decide (0 ≤ (ji34)) = true := decide_eq_true c45
                         clear c45
                         by_cases c46 : (ji34) < (x8_1.length : Int)
                         · rw [if_pos c46] at H
                           have c46b0 : decide ((ji34) < (x8_1.length : Int)) = true := decide_eq_true c46
                           clear c46
                           obtain ⟨y236, hy236⟩ : ∃ y_ : List ByteArray, y_ = (x8_1.set ((ji34) : Int).toNat t235) := ⟨_, rfl⟩
                           replace H : (if 0 ≤ (ji34) then (if (ji34) < (x8_1.length : Int) then (if ((rdOf ByteArray.empty y236 (ji34)).size : Int) > 4096 then (some ((⟨#[]⟩ : ByteArray), false)) else (eggboxref19_spelt.l0 kj36 l0 l1 a2 y236 (wrap64 (x9_1 + 1)))) else (none)) else (none)) = some (r1, r2) := by first | (rw [hy236]; with_reducible exact H) | (have H2_ := (Option.bind_some _ _).symm.trans H; rw [hy236]; with_reducible exact H2_) | (have H2_ := (Option.bind_some _ _).symm.trans H; with_reducible exact H2_) | with_reducible exact H | (rw [hy236]; exact H) | exact H
                           have Ny236 := Aside0.mk hy236
                           clear hy236
                           by_cases c48 : 0 ≤ (ji34)
                           · rw [if_pos c48] at H
                             have c48b0 : decide (0 ≤ (ji34)) = true := decide_eq_true c48
                             clear c48
                             by_cases c49 : (ji34) < (x8_1.length : Int)
                             · rw [if_pos c49] at H
                               have c49b0 : decide ((ji34) < (x8_1.length : Int)) = true := decide_eq_true c49
                               clear c49
                               by_cases c50 : ((rdOf ByteArray.empty y236 (ji34)).size : Int) > 4096
                               · rw [if_pos c50] at H
                                 have c50b0 : decide (4096 < ((rdOf ByteArray.empty y236 (ji34)).size : Int)) = true := decide_eq_true c50
                                 have c50b1 : decide (4096 < (rdOf ByteArray.empty y236 (ji34)).size) = true := decide_eq_true (by omega)
                                 clear c50
                                 simp only [Option.some.injEq, Prod.mk.injEq] at H
                                 obtain ⟨rfl, rfl⟩ := H
                                 go_wp2_with (first | (go_at_call 66; (with_reducible refine (strings_Repeat.calls (rdOf ByteArray.empty x8_1 (ji34)) a2 t235 _ A43.out).mono ?_); rintro e w51 ⟨rfl, hb⟩; have n0_ := Aside0.mk (Kd.R_below (by (with_reducible repeat (first | apply Kd.R_alloc | apply Kd.R_drewN | apply Kd.R_drew)); exact HO_8.out) hb); have n1_ := Aside0.mk (below_step (by repeat (first | (with_reducible first | exact HB.out | apply below_alloc | apply pw_below_drewN | apply below_drew1) | exact HB.out)) hb); clear HO_8; clear HB; have HO_8 := n0_; have HB := n1_; clear n0_ n1_; (try clear hb); (try clear hb2); (try clear hk); (try clear hi); have p47 : 0 ≤ ((ji34) : Int) := of_decide_eq_true (by first | (with_reducible assumption) | assumption); have q47 : ((ji34) : Int) < ((x8_1.length : Int) : Int) := of_decide_eq_true (by first | (with_reducible assumption) | assumption); obtain ⟨go47, co47, eo47, gb47, gl47, cl47, HG47⟩ := Kd.R_form HO_8.out (by omega); (first | cases eo47 | (injection eo47 with ea_ en_ ec_; (first | subst ea_ | (injection ea_ with ea_; subst ea_)); subst ec_; clear en_)); have GB47 := Aside0.mk gb47; have GG47 := Aside0.mk HG47; clear gb47 gl47 HG47; (first | simp only [add_plain] at hx234_0 | skip); obtain ⟨hx47_0, hf47_0⟩ := Kd.R_celln (⟨#[]⟩ : ByteArray) HO_8.out ((ji34) : Int) p47 q47; replace p47 := eq_true p47; replace q47 := eq_true q47; obtain ⟨hy52_, hz52_⟩ := Kd.R_celln (⟨#[]⟩ : ByteArray) HO_8.out ((ji34) : Int) (of_decide_eq_true (by first | (with_reducible assumption) | assumption)) (of_decide_eq_true (by first | (with_reducible assumption) | assumption)); have HP52 := Kd.R_putg HO_8.out ((ji34) : Int) t235) | ((with_reducible refine gate_store (t := 9) (p := 71) rfl ?_); (try (rw [drewN_self w51]; generalize hq_ : World.drewN w51 _ = w51; have n0_ := Aside0.mk (Kd.R_at hq_ HO_8.out); have n1_ := Aside0.mk (below_at hq_ HB.out); clear hq_ HO_8 HB; have HO_8 := n0_; have HB := n1_; clear n0_ n1_; (try (obtain ⟨hy52_, hz52_⟩ := Kd.R_celln (⟨#[]⟩ : ByteArray) HO_8.out ((ji34) : Int) (of_decide_eq_true (by first | (with_reducible assumption) | assumption)) (of_decide_eq_true (by first | (with_reducible assumption) | assumption)))); (try (have HP52 := Kd.R_putg HO_8.out ((ji34) : Int) t235)))); refine store_event (t := 9) (p := 71) (v := ?vo_w53) (w1 := (w51.setCell ⟨go47, ((ji34) : Int).toNat, none⟩ (.string t235))) ?hg ?ho ?hn ?hr ?_; (case ho => rfl); (case hg => rfl); (case hn => rfl); (case hr => first | (go_simp; done) | (go_simp; rfl)); intro w53 hw; have hg : w51.grownBy w53 (some go47) := (by rw [hw]; exact HP52.2); have hp_ : Kd.R Kd.string 9 w53 w.heap.size (fun _ => True) (.slice (some ⟨go47, 0, none⟩) x8_1.length co38) y236 := (by rw [hw, Ny236.out]; exact HP52.1); clear HP52; have n0_ := Aside0.mk (hp_); have n1_ := Aside0.mk ((by rw [hw]; exact below_set (HB.out) GB47.out : Below w.heap.size w w53)); clear HO_8; clear HB; have HO_8 := n0_; have HB := n1_; clear n0_ n1_; clear hg hw hp_; have p237 : 0 ≤ ((ji34) : Int) := of_decide_eq_true (by first | (with_reducible assumption) | assumption); have q237 : (ji34) < (y236.length : Int) := (by have h_ : ((ji34) : Int) < ((x8_1.length : Int) : Int) := of_decide_eq_true (by first | (with_reducible assumption) | assumption); first | (have e_ := (Kd.R_reads' HO_8.out).1; omega) | simpa only [Ny236.out, List.length_set] using h_); have ql237 : (((ji34) : Int) < ((x8_1.length : Int) : Int)) = True := eq_true (of_decide_eq_true (by first | (with_reducible assumption) | assumption)); obtain ⟨ad237, e237, hx237_0⟩ := Kd.at_string (Kd.R_reads' HO_8.out).2.2 (ji34) p237 q237; obtain rfl : (⟨go47, 0, none⟩ : Addr) = ad237 := (by injection e237); (first | simp only [add_plain] at hx237_0 | simp only [add_at] at hx237_0 | simp only [Addr.add, Nat.zero_add] at hx237_0 | skip); replace p237 := eq_true p237; replace q237 := eq_true q237))
                                 repeat (go_quiet (first | (go_at_call 66; (with_reducible refine (strings_Repeat.calls (rdOf ByteArray.empty x8_1 (ji34)) a2 t235 _ A43.out).mono ?_); rintro e w51 ⟨rfl, hb⟩; have n0_ := Aside0.mk (Kd.R_below (by (with_reducible repeat (first | apply Kd.R_alloc | apply Kd.R_drewN | apply Kd.R_drew)); exact HO_8.out) hb); have n1_ := Aside0.mk (below_step (by repeat (first | (with_reducible first | exact HB.out | apply below_alloc | apply pw_below_drewN | apply below_drew1) | exact HB.out)) hb); clear HO_8; clear HB; have HO_8 := n0_; have HB := n1_; clear n0_ n1_; (try clear hb); (try clear hb2); (try clear hk); (try clear hi); have p47 : 0 ≤ ((ji34) : Int) := of_decide_eq_true (by first | (with_reducible assumption) | assumption); have q47 : ((ji34) : Int) < ((x8_1.length : Int) : Int) := of_decide_eq_true (by first | (with_reducible assumption) | assumption); obtain ⟨go47, co47, eo47, gb47, gl47, cl47, HG47⟩ := Kd.R_form HO_8.out (by omega); (first | cases eo47 | (injection eo47 with ea_ en_ ec_; (first | subst ea_ | (injection ea_ with ea_; subst ea_)); subst ec_; clear en_)); have GB47 := Aside0.mk gb47; have GG47 := Aside0.mk HG47; clear gb47 gl47 HG47; (first | simp only [add_plain] at hx234_0 | skip); obtain ⟨hx47_0, hf47_0⟩ := Kd.R_celln (⟨#[]⟩ : ByteArray) HO_8.out ((ji34) : Int) p47 q47; replace p47 := eq_true p47; replace q47 := eq_true q47; obtain ⟨hy52_, hz52_⟩ := Kd.R_celln (⟨#[]⟩ : ByteArray) HO_8.out ((ji34) : Int) (of_decide_eq_true (by first | (with_reducible assumption) | assumption)) (of_decide_eq_true (by first | (with_reducible assumption) | assumption)); have HP52 := Kd.R_putg HO_8.out ((ji34) : Int) t235) | ((with_reducible refine gate_store (t := 9) (p := 71) rfl ?_); (try (rw [drewN_self w51]; generalize hq_ : World.drewN w51 _ = w51; have n0_ := Aside0.mk (Kd.R_at hq_ HO_8.out); have n1_ := Aside0.mk (below_at hq_ HB.out); clear hq_ HO_8 HB; have HO_8 := n0_; have HB := n1_; clear n0_ n1_; (try (obtain ⟨hy52_, hz52_⟩ := Kd.R_celln (⟨#[]⟩ : ByteArray) HO_8.out ((ji34) : Int) (of_decide_eq_true (by first | (with_reducible assumption) | assumption)) (of_decide_eq_true (by first | (with_reducible assumption) | assumption)))); (try (have HP52 := Kd.R_putg HO_8.out ((ji34) : Int) t235)))); refine store_event (t := 9) (p := 71) (v := ?vo_w53) (w1 := (w51.setCell ⟨go47, ((ji34) : Int).toNat, none⟩ (.string t235))) ?hg ?ho ?hn ?hr ?_; (case ho => rfl); (case hg => rfl); (case hn => rfl); (case hr => first | (go_simp; done) | (go_simp; rfl)); intro w53 hw; have hg : w51.grownBy w53 (some go47) := (by rw [hw]; exact HP52.2); have hp_ : Kd.R Kd.string 9 w53 w.heap.size (fun _ => True) (.slice (some ⟨go47, 0, none⟩) x8_1.length co38) y236 := (by rw [hw, Ny236.out]; exact HP52.1); clear HP52; have n0_ := Aside0.mk (hp_); have n1_ := Aside0.mk ((by rw [hw]; exact below_set (HB.out) GB47.out : Below w.heap.size w w53)); clear HO_8; clear HB; have HO_8 := n0_; have HB := n1_; clear n0_ n1_; clear hg hw hp_; have p237 : 0 ≤ ((ji34) : Int) := of_decide_eq_true (by first | (with_reducible assumption) | assumption); have q237 : (ji34) < (y236.length : Int) := (by have h_ : ((ji34) : Int) < ((x8_1.length : Int) : Int) := of_decide_eq_true (by first | (with_reducible assumption) | assumption); first | (have e_ := (Kd.R_reads' HO_8.out).1; omega) | simpa only [Ny236.out, List.length_set] using h_); have ql237 : (((ji34) : Int) < ((x8_1.length : Int) : Int)) = True := eq_true (of_decide_eq_true (by first | (with_reducible assumption) | assumption)); obtain ⟨ad237, e237, hx237_0⟩ := Kd.at_string (Kd.R_reads' HO_8.out).2.2 (ji34) p237 q237; obtain rfl : (⟨go47, 0, none⟩ : Addr) = ad237 := (by injection e237); (first | simp only [add_plain] at hx237_0 | simp only [add_at] at hx237_0 | simp only [Addr.add, Nat.zero_add] at hx237_0 | skip); replace p237 := eq_true p237; replace q237 := eq_true q237)); try go_wp2_with (first | (go_at_call 66; (with_reducible refine (strings_Repeat.calls (rdOf ByteArray.empty x8_1 (ji34)) a2 t235 _ A43.out).mono ?_); rintro e w51 ⟨rfl, hb⟩; have n0_ := Aside0.mk (Kd.R_below (by (with_reducible repeat (first | apply Kd.R_alloc | apply Kd.R_drewN | apply Kd.R_drew)); exact HO_8.out) hb); have n1_ := Aside0.mk (below_step (by repeat (first | (with_reducible first | exact HB.out | apply below_alloc | apply pw_below_drewN | apply below_drew1) | exact HB.out)) hb); clear HO_8; clear HB; have HO_8 := n0_; have HB := n1_; clear n0_ n1_; (try clear hb); (try clear hb2); (try clear hk); (try clear hi); have p47 : 0 ≤ ((ji34) : Int) := of_decide_eq_true (by first | (with_reducible assumption) | assumption); have q47 : ((ji34) : Int) < ((x8_1.length : Int) : Int) := of_decide_eq_true (by first | (with_reducible assumption) | assumption); obtain ⟨go47, co47, eo47, gb47, gl47, cl47, HG47⟩ := Kd.R_form HO_8.out (by omega); (first | cases eo47 | (injection eo47 with ea_ en_ ec_; (first | subst ea_ | (injection ea_ with ea_; subst ea_)); subst ec_; clear en_)); have GB47 := Aside0.mk gb47; have GG47 := Aside0.mk HG47; clear gb47 gl47 HG47; (first | simp only [add_plain] at hx234_0 | skip); obtain ⟨hx47_0, hf47_0⟩ := Kd.R_celln (⟨#[]⟩ : ByteArray) HO_8.out ((ji34) : Int) p47 q47; replace p47 := eq_true p47; replace q47 := eq_true q47; obtain ⟨hy52_, hz52_⟩ := Kd.R_celln (⟨#[]⟩ : ByteArray) HO_8.out ((ji34) : Int) (of_decide_eq_true (by first | (with_reducible assumption) | assumption)) (of_decide_eq_true (by first | (with_reducible assumption) | assumption)); have HP52 := Kd.R_putg HO_8.out ((ji34) : Int) t235) | ((with_reducible refine gate_store (t := 9) (p := 71) rfl ?_); (try (rw [drewN_self w51]; generalize hq_ : World.drewN w51 _ = w51; have n0_ := Aside0.mk (Kd.R_at hq_ HO_8.out); have n1_ := Aside0.mk (below_at hq_ HB.out); clear hq_ HO_8 HB; have HO_8 := n0_; have HB := n1_; clear n0_ n1_; (try (obtain ⟨hy52_, hz52_⟩ := Kd.R_celln (⟨#[]⟩ : ByteArray) HO_8.out ((ji34) : Int) (of_decide_eq_true (by first | (with_reducible assumption) | assumption)) (of_decide_eq_true (by first | (with_reducible assumption) | assumption)))); (try (have HP52 := Kd.R_putg HO_8.out ((ji34) : Int) t235)))); refine store_event (t := 9) (p := 71) (v := ?vo_w53) (w1 := (w51.setCell ⟨go47, ((ji34) : Int).toNat, none⟩ (.string t235))) ?hg ?ho ?hn ?hr ?_; (case ho => rfl); (case hg => rfl); (case hn => rfl); (case hr => first | (go_simp; done) | (go_simp; rfl)); intro w53 hw; have hg : w51.grownBy w53 (some go47) := (by rw [hw]; exact HP52.2); have hp_ : Kd.R Kd.string 9 w53 w.heap.size (fun _ => True) (.slice (some ⟨go47, 0, none⟩) x8_1.length co38) y236 := (by rw [hw, Ny236.out]; exact HP52.1); clear HP52; have n0_ := Aside0.mk (hp_); have n1_ := Aside0.mk ((by rw [hw]; exact below_set (HB.out) GB47.out : Below w.heap.size w w53)); clear HO_8; clear HB; have HO_8 := n0_; have HB := n1_; clear n0_ n1_; clear hg hw hp_; have p237 : 0 ≤ ((ji34) : Int) := of_decide_eq_true (by first | (with_reducible assumption) | assumption); have q237 : (ji34) < (y236.length : Int) := (by have h_ : ((ji34) : Int) < ((x8_1.length : Int) : Int) := of_decide_eq_true (by first | (with_reducible assumption) | assumption); first | (have e_ := (Kd.R_reads' HO_8.out).1; omega) | simpa only [Ny236.out, List.length_set] using h_); have ql237 : (((ji34) : Int) < ((x8_1.length : Int) : Int)) = True := eq_true (of_decide_eq_true (by first | (with_reducible assumption) | assumption)); obtain ⟨ad237, e237, hx237_0⟩ := Kd.at_string (Kd.R_reads' HO_8.out).2.2 (ji34) p237 q237; obtain rfl : (⟨go47, 0, none⟩ : Addr) = ad237 := (by injection e237); (first | simp only [add_plain] at hx237_0 | simp only [add_at] at hx237_0 | simp only [Addr.add, Nat.zero_add] at hx237_0 | skip); replace p237 := eq_true p237; replace q237 := eq_true q237)))
                                 go_ret2
                                 exact ⟨by first | rfl | (simp [errW_none, errW_some] <;> rfl) | (simp only [← hji34, ← hji44]; first | rfl | (simp [errW_none, errW_some] <;> rfl)) | (simp [*, errW_none, errW_some] <;> rfl), by repeat (first | (with_reducible first | exact HB.out | apply below_alloc | apply pw_below_drewN | apply below_drew1) | exact HB.out)⟩
                               · rw [if_neg c50] at H
                                 have c50b0 : decide (4096 < ((rdOf ByteArray.empty y236 (ji34)).size : Int)) = false := decide_eq_false c50
                                 have c50b1 : decide (4096 < (rdOf ByteArray.empty y236 (ji34)).size) = false := decide_eq_false (by omega)
                                 clear c50
                                 have H' := Aside0.mk H
                                 clear H
                                 go_wp2_with (first | (go_at_call 66; (with_reducible refine (strings_Repeat.calls (rdOf ByteArray.empty x8_1 (ji34)) a2 t235 _ A43.out).mono ?_); rintro e w54 ⟨rfl, hb⟩; have n0_ := Aside0.mk (Kd.R_below (by (with_reducible repeat (first | apply Kd.R_alloc | apply Kd.R_drewN | apply Kd.R_drew)); exact HO_8.out) hb); have n1_ := Aside0.mk (below_step (by repeat (first | (with_reducible first | exact HB.out | apply below_alloc | apply pw_below_drewN | apply below_drew1) | exact HB.out)) hb); clear HO_8; clear HB; have HO_8 := n0_; have HB := n1_; clear n0_ n1_; (try clear hb); (try clear hb2); (try clear hk); (try clear hi); have p47 : 0 ≤ ((ji34) : Int) := of_decide_eq_true (by first | (with_reducible assumption) | assumption); have q47 : ((ji34) : Int) < ((x8_1.length : Int) : Int) := of_decide_eq_true (by first | (with_reducible assumption) | assumption); obtain ⟨go47, co47, eo47, gb47, gl47, cl47, HG47⟩ := Kd.R_form HO_8.out (by omega); (first | cases eo47 | (injection eo47 with ea_ en_ ec_; (first | subst ea_ | (injection ea_ with ea_; subst ea_)); subst ec_; clear en_)); have GB47 := Aside0.mk gb47; have GG47 := Aside0.mk HG47; clear gb47 gl47 HG47; obtain ⟨hx47_0, hf47_0⟩ := Kd.R_celln (⟨#[]⟩ : ByteArray) HO_8.out ((ji34) : Int) p47 q47; replace p47 := eq_true p47; replace q47 := eq_true q47; obtain ⟨hy55_, hz55_⟩ := Kd.R_celln (⟨#[]⟩ : ByteArray) HO_8.out ((ji34) : Int) (of_decide_eq_true (by first | (with_reducible assumption) | assumption)) (of_decide_eq_true (by first | (with_reducible assumption) | assumption)); have HP55 := Kd.R_putg HO_8.out ((ji34) : Int) t235) | ((with_reducible refine gate_store (t := 9) (p := 71) rfl ?_); (try (rw [drewN_self w54]; generalize hq_ : World.drewN w54 _ = w54; have n0_ := Aside0.mk (Kd.R_at hq_ HO_8.out); have n1_ := Aside0.mk (below_at hq_ HB.out); clear hq_ HO_8 HB; have HO_8 := n0_; have HB := n1_; clear n0_ n1_; (try (obtain ⟨hy55_, hz55_⟩ := Kd.R_celln (⟨#[]⟩ : ByteArray) HO_8.out ((ji34) : Int) (of_decide_eq_true (by first | (with_reducible assumption) | assumption)) (of_decide_eq_true (by first | (with_reducible assumption) | assumption)))); (try (have HP55 := Kd.R_putg HO_8.out ((ji34) : Int) t235)))); refine store_event (t := 9) (p := 71) (v := ?vo_w56) (w1 := (w54.setCell ⟨go47, ((ji34) : Int).toNat, none⟩ (.string t235))) ?hg ?ho ?hn ?hr ?_; (case ho => rfl); (case hg => rfl); (case hn => rfl); (case hr => first | (go_simp; done) | (go_simp; rfl)); intro w56 hw; have hg : w54.grownBy w56 (some go47) := (by rw [hw]; exact HP55.2); have hp_ : Kd.R Kd.string 9 w56 w.heap.size (fun _ => True) (.slice (some ⟨go47, 0, none⟩) x8_1.length co38) y236 := (by rw [hw, Ny236.out]; exact HP55.1); clear HP55; have n0_ := Aside0.mk (hp_); have n1_ := Aside0.mk ((by rw [hw]; exact below_set (HB.out) GB47.out : Below w.heap.size w w56)); clear HO_8; clear HB; have HO_8 := n0_; have HB := n1_; clear n0_ n1_; clear hg hw hp_; have p237 : 0 ≤ ((ji34) : Int) := of_decide_eq_true (by first | (with_reducible assumption) | assumption); have q237 : (ji34) < (y236.length : Int) := (by have h_ : ((ji34) : Int) < ((x8_1.length : Int) : Int) := of_decide_eq_true (by first | (with_reducible assumption) | assumption); first | (have e_ := (Kd.R_reads' HO_8.out).1; omega) | simpa only [Ny236.out, List.length_set] using h_); have ql237 : (((ji34) : Int) < ((x8_1.length : Int) : Int)) = True := eq_true (of_decide_eq_true (by first | (with_reducible assumption) | assumption)); obtain ⟨ad237, e237, hx237_0⟩ := Kd.at_string (Kd.R_reads' HO_8.out).2.2 (ji34) p237 q237; obtain rfl : (⟨go47, 0, none⟩ : Addr) = ad237 := (by injection e237); (first | simp only [add_plain] at hx237_0 | simp only [add_at] at hx237_0 | simp only [Addr.add, Nat.zero_add] at hx237_0 | skip); replace p237 := eq_true p237; replace q237 := eq_true q237))
                                 repeat (go_quiet (first | (go_at_call 66; (with_reducible refine (strings_Repeat.calls (rdOf ByteArray.empty x8_1 (ji34)) a2 t235 _ A43.out).mono ?_); rintro e w54 ⟨rfl, hb⟩; have n0_ := Aside0.mk (Kd.R_below (by (with_reducible repeat (first | apply Kd.R_alloc | apply Kd.R_drewN | apply Kd.R_drew)); exact HO_8.out) hb); have n1_ := Aside0.mk (below_step (by repeat (first | (with_reducible first | exact HB.out | apply below_alloc | apply pw_below_drewN | apply below_drew1) | exact HB.out)) hb); clear HO_8; clear HB; have HO_8 := n0_; have HB := n1_; clear n0_ n1_; (try clear hb); (try clear hb2); (try clear hk); (try clear hi); have p47 : 0 ≤ ((ji34) : Int) := of_decide_eq_true (by first | (with_reducible assumption) | assumption); have q47 : ((ji34) : Int) < ((x8_1.length : Int) : Int) := of_decide_eq_true (by first | (with_reducible assumption) | assumption); obtain ⟨go47, co47, eo47, gb47, gl47, cl47, HG47⟩ := Kd.R_form HO_8.out (by omega); (first | cases eo47 | (injection eo47 with ea_ en_ ec_; (first | subst ea_ | (injection ea_ with ea_; subst ea_)); subst ec_; clear en_)); have GB47 := Aside0.mk gb47; have GG47 := Aside0.mk HG47; clear gb47 gl47 HG47; obtain ⟨hx47_0, hf47_0⟩ := Kd.R_celln (⟨#[]⟩ : ByteArray) HO_8.out ((ji34) : Int) p47 q47; replace p47 := eq_true p47; replace q47 := eq_true q47; obtain ⟨hy55_, hz55_⟩ := Kd.R_celln (⟨#[]⟩ : ByteArray) HO_8.out ((ji34) : Int) (of_decide_eq_true (by first | (with_reducible assumption) | assumption)) (of_decide_eq_true (by first | (with_reducible assumption) | assumption)); have HP55 := Kd.R_putg HO_8.out ((ji34) : Int) t235) | ((with_reducible refine gate_store (t := 9) (p := 71) rfl ?_); (try (rw [drewN_self w54]; generalize hq_ : World.drewN w54 _ = w54; have n0_ := Aside0.mk (Kd.R_at hq_ HO_8.out); have n1_ := Aside0.mk (below_at hq_ HB.out); clear hq_ HO_8 HB; have HO_8 := n0_; have HB := n1_; clear n0_ n1_; (try (obtain ⟨hy55_, hz55_⟩ := Kd.R_celln (⟨#[]⟩ : ByteArray) HO_8.out ((ji34) : Int) (of_decide_eq_true (by first | (with_reducible assumption) | assumption)) (of_decide_eq_true (by first | (with_reducible assumption) | assumption)))); (try (have HP55 := Kd.R_putg HO_8.out ((ji34) : Int) t235)))); refine store_event (t := 9) (p := 71) (v := ?vo_w56) (w1 := (w54.setCell ⟨go47, ((ji34) : Int).toNat, none⟩ (.string t235))) ?hg ?ho ?hn ?hr ?_; (case ho => rfl); (case hg => rfl); (case hn => rfl); (case hr => first | (go_simp; done) | (go_simp; rfl)); intro w56 hw; have hg : w54.grownBy w56 (some go47) := (by rw [hw]; exact HP55.2); have hp_ : Kd.R Kd.string 9 w56 w.heap.size (fun _ => True) (.slice (some ⟨go47, 0, none⟩) x8_1.length co38) y236 := (by rw [hw, Ny236.out]; exact HP55.1); clear HP55; have n0_ := Aside0.mk (hp_); have n1_ := Aside0.mk ((by rw [hw]; exact below_set (HB.out) GB47.out : Below w.heap.size w w56)); clear HO_8; clear HB; have HO_8 := n0_; have HB := n1_; clear n0_ n1_; clear hg hw hp_; have p237 : 0 ≤ ((ji34) : Int) := of_decide_eq_true (by first | (with_reducible assumption) | assumption); have q237 : (ji34) < (y236.length : Int) := (by have h_ : ((ji34) : Int) < ((x8_1.length : Int) : Int) := of_decide_eq_true (by first | (with_reducible assumption) | assumption); first | (have e_ := (Kd.R_reads' HO_8.out).1; omega) | simpa only [Ny236.out, List.length_set] using h_); have ql237 : (((ji34) : Int) < ((x8_1.length : Int) : Int)) = True := eq_true (of_decide_eq_true (by first | (with_reducible assumption) | assumption)); obtain ⟨ad237, e237, hx237_0⟩ := Kd.at_string (Kd.R_reads' HO_8.out).2.2 (ji34) p237 q237; obtain rfl : (⟨go47, 0, none⟩ : Addr) = ad237 := (by injection e237); (first | simp only [add_plain] at hx237_0 | simp only [add_at] at hx237_0 | simp only [Addr.add, Nat.zero_add] at hx237_0 | skip); replace p237 := eq_true p237; replace q237 := eq_true q237)); try go_wp2_with (first | (go_at_call 66; (with_reducible refine (strings_Repeat.calls (rdOf ByteArray.empty x8_1 (ji34)) a2 t235 _ A43.out).mono ?_); rintro e w54 ⟨rfl, hb⟩; have n0_ := Aside0.mk (Kd.R_below (by (with_reducible repeat (first | apply Kd.R_alloc | apply Kd.R_drewN | apply Kd.R_drew)); exact HO_8.out) hb); have n1_ := Aside0.mk (below_step (by repeat (first | (with_reducible first | exact HB.out | apply below_alloc | apply pw_below_drewN | apply below_drew1) | exact HB.out)) hb); clear HO_8; clear HB; have HO_8 := n0_; have HB := n1_; clear n0_ n1_; (try clear hb); (try clear hb2); (try clear hk); (try clear hi); have p47 : 0 ≤ ((ji34) : Int) := of_decide_eq_true (by first | (with_reducible assumption) | assumption); have q47 : ((ji34) : Int) < ((x8_1.length : Int) : Int) := of_decide_eq_true (by first | (with_reducible assumption) | assumption); obtain ⟨go47, co47, eo47, gb47, gl47, cl47, HG47⟩ := Kd.R_form HO_8.out (by omega); (first | cases eo47 | (injection eo47 with ea_ en_ ec_; (first | subst ea_ | (injection ea_ with ea_; subst ea_)); subst ec_; clear en_)); have GB47 := Aside0.mk gb47; have GG47 := Aside0.mk HG47; clear gb47 gl47 HG47; obtain ⟨hx47_0, hf47_0⟩ := Kd.R_celln (⟨#[]⟩ : ByteArray) HO_8.out ((ji34) : Int) p47 q47; replace p47 := eq_true p47; replace q47 := eq_true q47; obtain ⟨hy55_, hz55_⟩ := Kd.R_celln (⟨#[]⟩ : ByteArray) HO_8.out ((ji34) : Int) (of_decide_eq_true (by first | (with_reducible assumption) | assumption)) (of_decide_eq_true (by first | (with_reducible assumption) | assumption)); have HP55 := Kd.R_putg HO_8.out ((ji34) : Int) t235) | ((with_reducible refine gate_store (t := 9) (p := 71) rfl ?_); (try (rw [drewN_self w54]; generalize hq_ : World.drewN w54 _ = w54; have n0_ := Aside0.mk (Kd.R_at hq_ HO_8.out); have n1_ := Aside0.mk (below_at hq_ HB.out); clear hq_ HO_8 HB; have HO_8 := n0_; have HB := n1_; clear n0_ n1_; (try (obtain ⟨hy55_, hz55_⟩ := Kd.R_celln (⟨#[]⟩ : ByteArray) HO_8.out ((ji34) : Int) (of_decide_eq_true (by first | (with_reducible assumption) | assumption)) (of_decide_eq_true (by first | (with_reducible assumption) | assumption)))); (try (have HP55 := Kd.R_putg HO_8.out ((ji34) : Int) t235)))); refine store_event (t := 9) (p := 71) (v := ?vo_w56) (w1 := (w54.setCell ⟨go47, ((ji34) : Int).toNat, none⟩ (.string t235))) ?hg ?ho ?hn ?hr ?_; (case ho => rfl); (case hg => rfl); (case hn => rfl); (case hr => first | (go_simp; done) | (go_simp; rfl)); intro w56 hw; have hg : w54.grownBy w56 (some go47) := (by rw [hw]; exact HP55.2); have hp_ : Kd.R Kd.string 9 w56 w.heap.size (fun _ => True) (.slice (some ⟨go47, 0, none⟩) x8_1.length co38) y236 := (by rw [hw, Ny236.out]; exact HP55.1); clear HP55; have n0_ := Aside0.mk (hp_); have n1_ := Aside0.mk ((by rw [hw]; exact below_set (HB.out) GB47.out : Below w.heap.size w w56)); clear HO_8; clear HB; have HO_8 := n0_; have HB := n1_; clear n0_ n1_; clear hg hw hp_; have p237 : 0 ≤ ((ji34) : Int) := of_decide_eq_true (by first | (with_reducible assumption) | assumption); have q237 : (ji34) < (y236.length : Int) := (by have h_ : ((ji34) : Int) < ((x8_1.length : Int) : Int) := of_decide_eq_true (by first | (with_reducible assumption) | assumption); first | (have e_ := (Kd.R_reads' HO_8.out).1; omega) | simpa only [Ny236.out, List.length_set] using h_); have ql237 : (((ji34) : Int) < ((x8_1.length : Int) : Int)) = True := eq_true (of_decide_eq_true (by first | (with_reducible assumption) | assumption)); obtain ⟨ad237, e237, hx237_0⟩ := Kd.at_string (Kd.R_reads' HO_8.out).2.2 (ji34) p237 q237; obtain rfl : (⟨go47, 0, none⟩ : Addr) = ad237 := (by injection e237); (first | simp only [add_plain] at hx237_0 | simp only [add_at] at hx237_0 | simp only [Addr.add, Nat.zero_add] at hx237_0 | skip); replace p237 := eq_true p237; replace q237 := eq_true q237)))
                                 go_roundg kj36
                                 case measure => have := HK1.out; have := HJ36.out; omega
                                 case rel => exact ⟨(y236), (wrap64 (x9_1 + 1)), (by first | rfl | (simp; done) | (simp [*]; done)), H', ⟨by have := HK1.out; have := HJ36.out; omega⟩, ⟨by (with_reducible repeat (first | apply Kd.R_alloc | apply Kd.R_drewN | apply Kd.R_drew)); exact HO_8.out⟩, ⟨by repeat (first | (with_reducible first | exact HB.out | apply below_alloc | apply pw_below_drewN | apply below_drew1) | exact HB.out)⟩⟩
                             · rw [if_neg c49] at H
                               exact absurd H (by simp)
                           · rw [if_neg c48] at H
                             exact absurd H (by simp)
                         · rw [if_neg c46] at H
                           exact absurd H (by simp)
                       · rw [if_neg c45] at H
                         exact absurd H (by simp)
                     · rw [if_neg c42] at H
                       have c42b0 : decide (0 < ((rdOf ByteArray.empty x8_1 (ji34)).size : Int)) = false := decide_eq_false c42
                       have c42b1 : decide (0 < (rdOf ByteArray.empty x8_1 (ji34)).size) = false := decide_eq_false (by omega)
                       clear c42
                       obtain ⟨ji57, hji57⟩ : ∃ j_ : Int, (wrap64 ((x8_1.length : Int) - 1)) = j_ := ⟨_, rfl⟩
                       obtain rfl : ji34 = ji57 := hji34.symm.trans hji57
                       replace H : (if 0 ≤ (ji34) then (if (ji34) < (x8_1.length : Int) then (if ((rdOf ByteArray.empty x8_1 (ji34)).size : Int) > 4096 then (some ((⟨#[]⟩ : ByteArray), false)) else (eggboxref19_spelt.l0 kj36 l0 l1 a2 x8_1 (wrap64 (x9_1 + 1)))) else (none)) else (none)) = some (r1, r2) := by first | (rw [hji57] at H; exact H) | (simp only [hji57] at H ⊢; exact H)
                       have hji57w : (IntKind.i64.wrap ((x8_1.length : Int) - 1)) = ji34 := (i64_w _).trans hji57
                       by_cases c58 : 0 ≤ (ji34)
                       · rw [if_pos c58] at H
                         have c58b0 : decide (0 ≤ (ji34)) = true := decide_eq_true c58
                         clear c58
                         by_cases c59 : (ji34) < (x8_1.length : Int)
                         · rw [if_pos c59] at H
                           have c59b0 : decide ((ji34) < (x8_1.length : Int)) = true := decide_eq_true c59
                           clear c59
                           by_cases c60 : ((rdOf ByteArray.empty x8_1 (ji34)).size : Int) > 4096
                           · rw [if_pos c60] at H
                             have c60b0 : decide (4096 < ((rdOf ByteArray.empty x8_1 (ji34)).size : Int)) = true := decide_eq_true c60
                             have c60b1 : decide (4096 < (rdOf ByteArray.empty x8_1 (ji34)).size) = true := decide_eq_true (by omega)
                             clear c60
                             simp only [Option.some.injEq, Prod.mk.injEq] at H
                             obtain ⟨rfl, rfl⟩ := H
                             have p238 : 0 ≤ ((ji34) : Int) := of_decide_eq_true (by first | (with_reducible assumption) | assumption)
                             have q238 : (ji34) < (x8_1.length : Int) := of_decide_eq_true (by first | (with_reducible assumption) | assumption)
                             obtain ⟨ad238, e238, hx238_0⟩ := Kd.at_string (Kd.R_reads' HO_8.out).2.2 (ji34) p238 q238
                             obtain rfl : ad234 = ad238 := (by injection e238)
                             replace p238 := eq_true p238
                             replace q238 := eq_true q238
                             go_wp2
                             repeat (go_quiet (fail); try go_wp2)
                             go_ret2
                             exact ⟨by first | rfl | (simp [errW_none, errW_some] <;> rfl) | (simp only [← hji34, ← hji57]; first | rfl | (simp [errW_none, errW_some] <;> rfl)) | (simp [*, errW_none, errW_some] <;> rfl), by repeat (first | (with_reducible first | exact HB.out | apply below_alloc | apply pw_below_drewN | apply below_drew1) | exact HB.out)⟩
                           · rw [if_neg c60] at H
                             have c60b0 : decide (4096 < ((rdOf ByteArray.empty x8_1 (ji34)).size : Int)) = false := decide_eq_false c60
                             have c60b1 : decide (4096 < (rdOf ByteArray.empty x8_1 (ji34)).size) = false := decide_eq_false (by omega)
                             clear c60
                             have H' := Aside0.mk H
                             clear H
                             have p238 : 0 ≤ ((ji34) : Int) := of_decide_eq_true (by first | (with_reducible assumption) | assumption)
                             have q238 : (ji34) < (x8_1.length : Int) := of_decide_eq_true (by first | (with_reducible assumption) | assumption)
                             obtain ⟨ad238, e238, hx238_0⟩ := Kd.at_string (Kd.R_reads' HO_8.out).2.2 (ji34) p238 q238
                             obtain rfl : ad234 = ad238 := (by injection e238)
                             replace p238 := eq_true p238
                             replace q238 := eq_true q238
                             go_wp2
                             repeat (go_quiet (fail); try go_wp2)
                             go_roundg kj36
                             case measure => have := HK1.out; have := HJ36.out; omega
                             case rel => exact ⟨(x8_1), (wrap64 (x9_1 + 1)), (by first | rfl | (simp; done) | (simp [*]; done)), H', ⟨by have := HK1.out; have := HJ36.out; omega⟩, ⟨by (with_reducible repeat (first | apply Kd.R_alloc | apply Kd.R_drewN | apply Kd.R_drew)); exact HO_8.out⟩, ⟨by repeat (first | (with_reducible first | exact HB.out | apply below_alloc | apply pw_below_drewN | apply below_drew1) | exact HB.out)⟩⟩
                         · rw [if_neg c59] at H
                           exact absurd H (by simp)
                       · rw [if_neg c58] at H
                         exact absurd H (by simp)
               · rw [if_neg c36] at H
                 exact absurd H (by simp)
             · rw [if_neg c35] at H
               exact absurd H (by simp)
           · rw [if_neg c33] at H
             have c33b0 : (((rd_T97 l0 x9_1).f0) == 4) = false := beq_eq_false_iff_ne.mpr c33
             have c33b1 : (((rd_T97 l0 x9_1).f0) != 4) = true := bne_iff_ne.mpr c33
             by_cases c61 : ((rd_T97 l0 x9_1).f0) = 3
             · rw [if_pos c61] at H
               have c61b0 : (((rd_T97 l0 x9_1).f0) == 3) = true := beq_iff_eq.mpr c61
               have c61b1 : (((rd_T97 l0 x9_1).f0) != 3) = false := bne_eq_false_iff_eq.mpr c61
               clear c61
               obtain ⟨ji62, hji62⟩ : ∃ j_ : Int, (wrap64 ((x8_1.length : Int) - 2)) = j_ := ⟨_, rfl⟩
               replace H : (if 0 ≤ (ji62) then (if (ji62) < (x8_1.length : Int) then (if 0 ≤ (wrap64 ((x8_1.length : Int) - 1)) then (if (wrap64 ((x8_1.length : Int) - 1)) < (x8_1.length : Int) then (if (rdOf ByteArray.empty x8_1 (ji62)).size + (rdOf ByteArray.empty x8_1 (wrap64 ((x8_1.length : Int) - 1))).size ≤ 9223372036854775807 then (if (wrap64 ((x8_1.length : Int) - 1)) ≤ (x8_1.length : Int) then ((some (x8_1.take ((wrap64 ((x8_1.length : Int) - 1)) : Int).toNat : List ByteArray)).bind fun y241 => (if (ji62) < (y241.length : Int) then ((some (y241.set ((ji62) : Int).toNat ((rdOf ByteArray.empty x8_1 (ji62)) ++ (rdOf ByteArray.empty x8_1 (wrap64 ((x8_1.length : Int) - 1)))) : List ByteArray)).bind fun y244 => (if 0 ≤ (wrap64 ((y241.length : Int) - 1)) then (if (wrap64 ((y241.length : Int) - 1)) < (y241.length : Int) then (if ((rdOf ByteArray.empty y244 (wrap64 ((y241.length : Int) - 1))).size : Int) > 4096 then (some ((⟨#[]⟩ : ByteArray), false)) else (eggboxref19_spelt.l0 k1 l0 l1 a2 y244 (wrap64 (x9_1 + 1)))) else (none)) else (none))) else (none))) else (none)) else (none)) else (none)) else (none)) else (none)) else (none)) = some (r1, r2) := by first | (rw [hji62] at H; exact H) | (simp only [hji62] at H ⊢; exact H)
               have hji62w : (IntKind.i64.wrap ((x8_1.length : Int) - 2)) = ji62 := (i64_w _).trans hji62
               by_cases c63 : 0 ≤ (ji62)
               · rw [if_pos c63] at H
                 have c63b0 : decide (0 ≤ (ji62)) = true := decide_eq_true c63
                 clear c63
                 by_cases c64 : (ji62) < (x8_1.length : Int)
                 · rw [if_pos c64] at H
                   have c64b0 : decide ((ji62) < (x8_1.length : Int)) = true := decide_eq_true c64
                   clear c64
                   obtain ⟨ji65, hji65⟩ : ∃ j_ : Int, (wrap64 ((x8_1.length : Int) - 1)) = j_ := ⟨_, rfl⟩
                   replace H : (if 0 ≤ (ji65) then (if (ji65) < (x8_1.length : Int) then (if (rdOf ByteArray.empty x8_1 (ji62)).size + (rdOf ByteArray.empty x8_1 (ji65)).size ≤ 9223372036854775807 then (if (ji65) ≤ (x8_1.length : Int) then ((some (x8_1.take ((ji65) : Int).toNat : List ByteArray)).bind fun y241 => (if (ji62) < (y241.length : Int) then ((some (y241.set ((ji62) : Int).toNat ((rdOf ByteArray.empty x8_1 (ji62)) ++ (rdOf ByteArray.empty x8_1 (ji65))) : List ByteArray)).bind fun y244 => (if 0 ≤ (wrap64 ((y241.length : Int) - 1)) then (if (wrap64 ((y241.length : Int) - 1)) < (y241.length : Int) then (if ((rdOf ByteArray.empty y244 (wrap64 ((y241.length : Int) - 1))).size : Int) > 4096 then (some ((⟨#[]⟩ : ByteArray), false)) else (eggboxref19_spelt.l0 k1 l0 l1 a2 y244 (wrap64 (x9_1 + 1)))) else (none)) else (none))) else (none))) else (none)) else (none)) else (none)) else (none)) = some (r1, r2) := by first | (rw [hji65] at H; exact H) | (simp only [hji65] at H ⊢; exact H)
                   have hji65w : (IntKind.i64.wrap ((x8_1.length : Int) - 1)) = ji65 := (i64_w _).trans hji65
                   by_cases c66 : 0 ≤ (ji65)
                   · rw [if_pos c66] at H
                     have c66b0 : decide (0 ≤ (ji65)) = true := decide_eq_true c66
                     clear c66
                     by_cases c67 : (ji65) < (x8_1.length : Int)
                     · rw [if_pos c67] at H
                       have c67b0 : decide ((ji65) < (x8_1.length : Int)) = true := decide_eq_true c67
                       clear c67
                       by_cases c68 : (rdOf ByteArray.empty x8_1 (ji62)).size + (rdOf ByteArray.empty x8_1 (ji65)).size ≤ 9223372036854775807
                       · rw [if_pos c68] at H
                         have c68b0 := eq_true c68
                         have c68b1 : decide ((rdOf ByteArray.empty x8_1 (ji62)).size + (rdOf ByteArray.empty x8_1 (ji65)).size ≤ 9223372036854775807) = true := decide_eq_true c68
                         try have c68b2 : (9223372036854775807 < (rdOf ByteArray.empty x8_1 (ji62)).size + (rdOf ByteArray.empty x8_1 (ji65)).size) = False := eq_false (Nat.not_lt.2 c68)
                         by_cases c69 : (ji65) ≤ (x8_1.length : Int)
                         · rw [if_pos c69] at H
                           have c69b0 := eq_true c69
                           have c69b1 : decide ((ji65) ≤ (x8_1.length : Int)) = true := decide_eq_true c69
                           clear c69
                           obtain ⟨y241, hy241⟩ : ∃ y_ : List ByteArray, y_ = (x8_1.take ((ji65) : Int).toNat) := ⟨_, rfl⟩
                           replace H : (if (ji62) < (y241.length : Int) then ((some (y241.set ((ji62) : Int).toNat ((rdOf ByteArray.empty x8_1 (ji62)) ++ (rdOf ByteArray.empty x8_1 (ji65))) : List ByteArray)).bind fun y244 => (if 0 ≤ (wrap64 ((y241.length : Int) - 1)) then (if (wrap64 ((y241.length : Int) - 1)) < (y241.length : Int) then (if ((rdOf ByteArray.empty y244 (wrap64 ((y241.length : Int) - 1))).size : Int) > 4096 then (some ((⟨#[]⟩ : ByteArray), false)) else (eggboxref19_spelt.l0 k1 l0 l1 a2 y244 (wrap64 (x9_1 + 1)))) else (none)) else (none))) else (none)) = some (r1, r2) := by first | (rw [hy241]; with_reducible exact H) | (have H2_ := (Option.bind_some _ _).symm.trans H; rw [hy241]; with_reducible exact H2_) | (have H2_ := (Option.bind_some _ _).symm.trans H; with_reducible exact H2_) | with_reducible exact H | (rw [hy241]; exact H) | exact H
                           have Ny241 := Aside0.mk hy241
                           clear hy241
                           by_cases c70 : (ji62) < (y241.length : Int)
                           · rw [if_pos c70] at H
                             have c70b0 : decide ((ji62) < (y241.length : Int)) = true := decide_eq_true c70
                             clear c70
                             obtain ⟨y244, hy244⟩ : ∃ y_ : List ByteArray, y_ = (y241.set ((ji62) : Int).toNat ((rdOf ByteArray.empty x8_1 (ji62)) ++ (rdOf ByteArray.empty x8_1 (ji65)))) := ⟨_, rfl⟩
                             replace H : (if 0 ≤ (wrap64 ((y241.length : Int) - 1)) then (if (wrap64 ((y241.length : Int) - 1)) < (y241.length : Int) then (if ((rdOf ByteArray.empty y244 (wrap64 ((y241.length : Int) - 1))).size : Int) > 4096 then (some ((⟨#[]⟩ : ByteArray), false)) else (eggboxref19_spelt.l0 k1 l0 l1 a2 y244 (wrap64 (x9_1 + 1)))) else (none)) else (none)) = some (r1, r2) := by first | (rw [hy244]; with_reducible exact H) | (have H2_ := (Option.bind_some _ _).symm.trans H; rw [hy244]; with_reducible exact H2_) | (have H2_ := (Option.bind_some _ _).symm.trans H; with_reducible exact H2_) | with_reducible exact H | (rw [hy244]; exact H) | exact H
                             have Ny244 := Aside0.mk hy244
                             clear hy244
                             obtain ⟨ji72, hji72⟩ : ∃ j_ : Int, (wrap64 ((y241.length : Int) - 1)) = j_ := ⟨_, rfl⟩
                             replace H : (if 0 ≤ (ji72) then (if (ji72) < (y241.length : Int) then (if ((rdOf ByteArray.empty y244 (ji72)).size : Int) > 4096 then (some ((⟨#[]⟩ : ByteArray), false)) else (eggboxref19_spelt.l0 k1 l0 l1 a2 y244 (wrap64 (x9_1 + 1)))) else (none)) else (none)) = some (r1, r2) := by first | (rw [hji72] at H; exact H) | (simp only [hji72] at H ⊢; exact H)
                             have hji72w : (IntKind.i64.wrap ((y241.length : Int) - 1)) = ji72 := (i64_w _).trans hji72
                             by_cases c73 : 0 ≤ (ji72)
                             · rw [if_pos c73] at H
                               have c73b0 : decide (0 ≤ (ji72)) = true := decide_eq_true c73
                               clear c73
                               by_cases c74 : (ji72) < (y241.length : Int)
                               · rw [if_pos c74] at H
                                 have c74b0 : decide ((ji72) < (y241.length : Int)) = true := decide_eq_true c74
                                 clear c74
                                 by_cases c75 : ((rdOf ByteArray.empty y244 (ji72)).size : Int) > 4096
                                 · rw [if_pos c75] at H
                                   have c75b0 : decide (4096 < ((rdOf ByteArray.empty y244 (ji72)).size : Int)) = true := decide_eq_true c75
                                   have c75b1 : decide (4096 < (rdOf ByteArray.empty y244 (ji72)).size) = true := decide_eq_true (by omega)
                                   clear c75
                                   simp only [Option.some.injEq, Prod.mk.injEq] at H
                                   obtain ⟨rfl, rfl⟩ := H
                                   obtain ⟨Ao76, co76, eo76⟩ := Kd.R_slice HO_8.out
                                   subst eo76
                                   have p222 : 0 ≤ (x9_1 : Int) := of_decide_eq_true (by first | (with_reducible assumption) | assumption)
                                   have q222 : x9_1 < (l0.length : Int) := of_decide_eq_true (by first | (with_reducible assumption) | assumption)
                                   obtain ⟨ad222, e222, hx222_0, hx222_1⟩ := at_T97 HR0.out x9_1 p222 q222
                                   cases e222
                                   replace hx222_0 := (HB.out.cell (World.block_lt_of_cell? w _ hx222_0)).trans hx222_0
                                   replace hx222_1 := (HB.out.cell (World.block_lt_of_cell? w _ hx222_1)).trans hx222_1
                                   replace p222 := eq_true p222
                                   replace q222 := eq_true q222
                                   have p239 : 0 ≤ ((ji62) : Int) := of_decide_eq_true (by first | (with_reducible assumption) | assumption)
                                   have q239 : (ji62) < (x8_1.length : Int) := of_decide_eq_true (by first | (with_reducible assumption) | assumption)
                                   obtain ⟨ad239, e239, hx239_0⟩ := Kd.at_string (Kd.R_reads' HO_8.out).2.2 (ji62) p239 q239
                                   cases e239
                                   replace p239 := eq_true p239
                                   replace q239 := eq_true q239
                                   have p240 : 0 ≤ ((ji65) : Int) := of_decide_eq_true (by first | (with_reducible assumption) | assumption)
                                   have q240 : (ji65) < (x8_1.length : Int) := of_decide_eq_true (by first | (with_reducible assumption) | assumption)
                                   obtain ⟨ad240, e240, hx240_0⟩ := Kd.at_string (Kd.R_reads' HO_8.out).2.2 (ji65) p240 q240
                                   obtain rfl : ad239 = ad240 := (by injection e240)
                                   replace p240 := eq_true p240
                                   replace q240 := eq_true q240
                                   have q77 : ((ji65) : Int) ≤ ((x8_1.length : Int) : Int) := of_decide_eq_true (by first | (with_reducible assumption) | assumption)
                                   obtain ⟨i077, hi077, _, hsz77, _⟩ := info_parts info9
                                   have hcut77 := cut_to (P := Try.prog) 56 9 .i64 Try.underlying56 hi077 (some ad239) x8_1.length co76 (ji65) (of_decide_eq_true (by first | (with_reducible assumption) | assumption)) q77 (Kd.R_reads' HO_8.out).2.1
                                   have hr77 := Kd.R_take (m := ((ji65) : Int).toNat) HO_8.out (by omega)
                                   have hy77 : y241.length = ((ji65) : Int).toNat := (by rw [Ny241.out, List.length_take]; omega)
                                   rw [← Ny241.out] at hr77
                                   rw [← hy77] at hr77 hcut77
                                   clear hy77 hi077 hsz77 HO_8
                                   have HO243 := Aside0.mk hr77
                                   clear hr77
                                   replace q77 := eq_true q77
                                   have p71 : 0 ≤ ((ji62) : Int) := of_decide_eq_true (by first | (with_reducible assumption) | assumption)
                                   have q71 : ((ji62) : Int) < ((y241.length : Int) : Int) := of_decide_eq_true (by first | (with_reducible assumption) | assumption)
                                   obtain ⟨go71, co71, eo71, gb71, gl71, cl71, HG71⟩ := Kd.R_form HO243.out (by omega)
                                   (first | cases eo71 | (injection eo71 with ea_ en_ ec_; (first | subst ea_ | (injection ea_ with ea_; subst ea_)); subst ec_; clear en_))
                                   have GB71 := Aside0.mk gb71
                                   have GG71 := Aside0.mk HG71
                                   clear gb71 gl71 HG71
                                   (first | simp only [add_plain] at hx239_0 | skip)
                                   (first | simp only [add_plain] at hx240_0 | skip)
                                   obtain ⟨hx71_0, hf71_0⟩ := Kd.R_celln (⟨#[]⟩ : ByteArray) HO243.out ((ji62) : Int) p71 q71
                                   replace p71 := eq_true p71
                                   replace q71 := eq_true q71
                                   have HP78 := Kd.R_putg HO243.out ((ji62) : Int) ((rdOf ByteArray.empty x8_1 (ji62)) ++ (rdOf ByteArray.empty x8_1 (ji65)))
                                   have HPd : ∀ n_, Kd.R Kd.string 9 ((wr.drewN n_).setCell ⟨go71, ((ji62) : Int).toNat, none⟩ (.string ((rdOf ByteArray.empty x8_1 (ji62)) ++ (rdOf ByteArray.empty x8_1 (ji65))))) w.heap.size (fun _ => True) (.slice (some ⟨go71, 0, none⟩) y241.length co76) y244 := fun n_ => by rw [Ny244.out]; exact Kd.R_drewN HP78.1 n_
                                   have HBd : ∀ n_, Below w.heap.size w ((wr.drewN n_).setCell ⟨go71, ((ji62) : Int).toNat, none⟩ (.string ((rdOf ByteArray.empty x8_1 (ji62)) ++ (rdOf ByteArray.empty x8_1 (ji65))))) := fun n_ => pw_below_drewN (below_set HB.out GB71.out) n_
                                   have hld : ∀ n_, ((wr.drewN n_).setCell ⟨go71, ((ji62) : Int).toNat, none⟩ (.string ((rdOf ByteArray.empty x8_1 (ji62)) ++ (rdOf ByteArray.empty x8_1 (ji65))))).cell? ⟨go71, (ji72).toNat, none⟩ = some (.string (rdOf ByteArray.empty y244 (ji72))) := fun n_ => (Kd.R_celln ByteArray.empty (HPd n_) (ji72) (of_decide_eq_true (by assumption)) (of_decide_eq_true (by assumption))).1
                                   have pq0_ : (0 ≤ (ji72)) = True := eq_true (of_decide_eq_true (by assumption))
                                   have pq1_ : ((ji72) < (y241.length : Int)) = True := eq_true (of_decide_eq_true (by assumption))
                                   have HPd' := Aside0.mk HPd
                                   have HBd' := Aside0.mk HBd
                                   clear HPd HBd HP78
                                   go_wp2
                                   repeat (go_quiet (fail); try go_wp2)
                                   go_ret2
                                   exact ⟨by first | rfl | (simp [errW_none, errW_some] <;> rfl) | (simp only [← hji62, ← hji65, ← hji72]; first | rfl | (simp [errW_none, errW_some] <;> rfl)) | (simp [*, errW_none, errW_some] <;> rfl), by first | exact HBd'.out _ | exact pw_below_drewN (HBd'.out _) _⟩
                                 · rw [if_neg c75] at H
                                   have c75b0 : decide (4096 < ((rdOf ByteArray.empty y244 (ji72)).size : Int)) = false := decide_eq_false c75
                                   have c75b1 : decide (4096 < (rdOf ByteArray.empty y244 (ji72)).size) = false := decide_eq_false (by omega)
                                   clear c75
                                   have H' := Aside0.mk H
                                   clear H
                                   obtain ⟨Ao80, co80, eo80⟩ := Kd.R_slice HO_8.out
                                   subst eo80
                                   have p222 : 0 ≤ (x9_1 : Int) := of_decide_eq_true (by first | (with_reducible assumption) | assumption)
                                   have q222 : x9_1 < (l0.length : Int) := of_decide_eq_true (by first | (with_reducible assumption) | assumption)
                                   obtain ⟨ad222, e222, hx222_0, hx222_1⟩ := at_T97 HR0.out x9_1 p222 q222
                                   cases e222
                                   replace hx222_0 := (HB.out.cell (World.block_lt_of_cell? w _ hx222_0)).trans hx222_0
                                   replace hx222_1 := (HB.out.cell (World.block_lt_of_cell? w _ hx222_1)).trans hx222_1
                                   replace p222 := eq_true p222
                                   replace q222 := eq_true q222
                                   have p239 : 0 ≤ ((ji62) : Int) := of_decide_eq_true (by first | (with_reducible assumption) | assumption)
                                   have q239 : (ji62) < (x8_1.length : Int) := of_decide_eq_true (by first | (with_reducible assumption) | assumption)
                                   obtain ⟨ad239, e239, hx239_0⟩ := Kd.at_string (Kd.R_reads' HO_8.out).2.2 (ji62) p239 q239
                                   cases e239
                                   replace p239 := eq_true p239
                                   replace q239 := eq_true q239
                                   have p240 : 0 ≤ ((ji65) : Int) := of_decide_eq_true (by first | (with_reducible assumption) | assumption)
                                   have q240 : (ji65) < (x8_1.length : Int) := of_decide_eq_true (by first | (with_reducible assumption) | assumption)
                                   obtain ⟨ad240, e240, hx240_0⟩ := Kd.at_string (Kd.R_reads' HO_8.out).2.2 (ji65) p240 q240
                                   obtain rfl : ad239 = ad240 := (by injection e240)
                                   replace p240 := eq_true p240
                                   replace q240 := eq_true q240
                                   have q81 : ((ji65) : Int) ≤ ((x8_1.length : Int) : Int) := of_decide_eq_true (by first | (with_reducible assumption) | assumption)
                                   obtain ⟨i081, hi081, _, hsz81, _⟩ := info_parts info9
                                   have hcut81 := cut_to (P := Try.prog) 56 9 .i64 Try.underlying56 hi081 (some ad239) x8_1.length co80 (ji65) (of_decide_eq_true (by first | (with_reducible assumption) | assumption)) q81 (Kd.R_reads' HO_8.out).2.1
                                   have hr81 := Kd.R_take (m := ((ji65) : Int).toNat) HO_8.out (by omega)
                                   have hy81 : y241.length = ((ji65) : Int).toNat := (by rw [Ny241.out, List.length_take]; omega)
                                   rw [← Ny241.out] at hr81
                                   rw [← hy81] at hr81 hcut81
                                   clear hy81 hi081 hsz81 HO_8
                                   have HO243 := Aside0.mk hr81
                                   clear hr81
                                   replace q81 := eq_true q81
                                   have p71 : 0 ≤ ((ji62) : Int) := of_decide_eq_true (by first | (with_reducible assumption) | assumption)
                                   have q71 : ((ji62) : Int) < ((y241.length : Int) : Int) := of_decide_eq_true (by first | (with_reducible assumption) | assumption)
                                   obtain ⟨go71, co71, eo71, gb71, gl71, cl71, HG71⟩ := Kd.R_form HO243.out (by omega)
                                   (first | cases eo71 | (injection eo71 with ea_ en_ ec_; (first | subst ea_ | (injection ea_ with ea_; subst ea_)); subst ec_; clear en_))
                                   have GB71 := Aside0.mk gb71
                                   have GG71 := Aside0.mk HG71
                                   clear gb71 gl71 HG71
                                   (first | simp only [add_plain] at hx239_0 | skip)
                                   (first | simp only [add_plain] at hx240_0 | skip)
                                   obtain ⟨hx71_0, hf71_0⟩ := Kd.R_celln (⟨#[]⟩ : ByteArray) HO243.out ((ji62) : Int) p71 q71
                                   replace p71 := eq_true p71
                                   replace q71 := eq_true q71
                                   have HP82 := Kd.R_putg HO243.out ((ji62) : Int) ((rdOf ByteArray.empty x8_1 (ji62)) ++ (rdOf ByteArray.empty x8_1 (ji65)))
                                   have HPd : ∀ n_, Kd.R Kd.string 9 ((wr.drewN n_).setCell ⟨go71, ((ji62) : Int).toNat, none⟩ (.string ((rdOf ByteArray.empty x8_1 (ji62)) ++ (rdOf ByteArray.empty x8_1 (ji65))))) w.heap.size (fun _ => True) (.slice (some ⟨go71, 0, none⟩) y241.length co80) y244 := fun n_ => by rw [Ny244.out]; exact Kd.R_drewN HP82.1 n_
                                   have HBd : ∀ n_, Below w.heap.size w ((wr.drewN n_).setCell ⟨go71, ((ji62) : Int).toNat, none⟩ (.string ((rdOf ByteArray.empty x8_1 (ji62)) ++ (rdOf ByteArray.empty x8_1 (ji65))))) := fun n_ => pw_below_drewN (below_set HB.out GB71.out) n_
                                   have hld : ∀ n_, ((wr.drewN n_).setCell ⟨go71, ((ji62) : Int).toNat, none⟩ (.string ((rdOf ByteArray.empty x8_1 (ji62)) ++ (rdOf ByteArray.empty x8_1 (ji65))))).cell? ⟨go71, (ji72).toNat, none⟩ = some (.string (rdOf ByteArray.empty y244 (ji72))) := fun n_ => (Kd.R_celln ByteArray.empty (HPd n_) (ji72) (of_decide_eq_true (by assumption)) (of_decide_eq_true (by assumption))).1
                                   have pq0_ : (0 ≤ (ji72)) = True := eq_true (of_decide_eq_true (by assumption))
                                   have pq1_ : ((ji72) < (y241.length : Int)) = True := eq_true (of_decide_eq_true (by assumption))
                                   have HPd' := Aside0.mk HPd
                                   have HBd' := Aside0.mk HBd
                                   clear HPd HBd HP82
                                   go_wp2
                                   repeat (go_quiet (fail); try go_wp2)
                                   go_roundg k1
                                   case measure => have := HK1.out; omega
                                   case rel => exact ⟨(y244), (wrap64 (x9_1 + 1)), (by first | rfl | (simp; done) | (simp [*]; done)), H', ⟨by have := HK1.out; omega⟩, ⟨by first | exact HPd'.out _ | (apply Kd.R_drewN; exact HPd'.out _)⟩, ⟨by first | exact HBd'.out _ | exact pw_below_drewN (HBd'.out _) _⟩⟩
                               · rw [if_neg c74] at H
                                 exact absurd H (by simp)
                             · rw [if_neg c73] at H
                               exact absurd H (by simp)
                           · rw [if_neg c70] at H
                             exact absurd H (by simp)
                         · rw [if_neg c69] at H
                           exact absurd H (by simp)
                       · rw [if_neg c68] at H
                         exact absurd H (by simp)
                     · rw [if_neg c67] at H
                       exact absurd H (by simp)
                   · rw [if_neg c66] at H
                     exact absurd H (by simp)
                 · rw [if_neg c64] at H
                   exact absurd H (by simp)
               · rw [if_neg c63] at H
                 exact absurd H (by simp)
             · rw [if_neg c61] at H
               have c61b0 : (((rd_T97 l0 x9_1).f0) == 3) = false := beq_eq_false_iff_ne.mpr c61
               have c61b1 : (((rd_T97 l0 x9_1).f0) != 3) = true := bne_iff_ne.mpr c61
               obtain ⟨ji84, hji84⟩ : ∃ j_ : Int, (wrap64 ((x8_1.length : Int) - 1)) = j_ := ⟨_, rfl⟩
               replace H : (if 0 ≤ (ji84) then (if (ji84) < (x8_1.length : Int) then (if ((rdOf ByteArray.empty x8_1 (ji84)).size : Int) > 4096 then (some ((⟨#[]⟩ : ByteArray), false)) else (eggboxref19_spelt.l0 k1 l0 l1 a2 x8_1 (wrap64 (x9_1 + 1)))) else (none)) else (none)) = some (r1, r2) := by first | (rw [hji84] at H; exact H) | (simp only [hji84] at H ⊢; exact H)
               have hji84w : (IntKind.i64.wrap ((x8_1.length : Int) - 1)) = ji84 := (i64_w _).trans hji84
               by_cases c85 : 0 ≤ (ji84)
               · rw [if_pos c85] at H
                 have c85b0 : decide (0 ≤ (ji84)) = true := decide_eq_true c85
                 clear c85
                 by_cases c86 : (ji84) < (x8_1.length : Int)
                 · rw [if_pos c86] at H
                   have c86b0 : decide ((ji84) < (x8_1.length : Int)) = true := decide_eq_true c86
                   clear c86
                   by_cases c87 : ((rdOf ByteArray.empty x8_1 (ji84)).size : Int) > 4096
                   · rw [if_pos c87] at H
                     have c87b0 : decide (4096 < ((rdOf ByteArray.empty x8_1 (ji84)).size : Int)) = true := decide_eq_true c87
                     have c87b1 : decide (4096 < (rdOf ByteArray.empty x8_1 (ji84)).size) = true := decide_eq_true (by omega)
                     clear c87
                     simp only [Option.some.injEq, Prod.mk.injEq] at H
                     obtain ⟨rfl, rfl⟩ := H
                     obtain ⟨Ao88, co88, eo88⟩ := Kd.R_slice HO_8.out
                     subst eo88
                     have p222 : 0 ≤ (x9_1 : Int) := of_decide_eq_true (by first | (with_reducible assumption) | assumption)
                     have q222 : x9_1 < (l0.length : Int) := of_decide_eq_true (by first | (with_reducible assumption) | assumption)
                     obtain ⟨ad222, e222, hx222_0, hx222_1⟩ := at_T97 HR0.out x9_1 p222 q222
                     cases e222
                     replace hx222_0 := (HB.out.cell (World.block_lt_of_cell? w _ hx222_0)).trans hx222_0
                     replace hx222_1 := (HB.out.cell (World.block_lt_of_cell? w _ hx222_1)).trans hx222_1
                     replace p222 := eq_true p222
                     replace q222 := eq_true q222
                     have p246 : 0 ≤ ((ji84) : Int) := of_decide_eq_true (by first | (with_reducible assumption) | assumption)
                     have q246 : (ji84) < (x8_1.length : Int) := of_decide_eq_true (by first | (with_reducible assumption) | assumption)
                     obtain ⟨ad246, e246, hx246_0⟩ := Kd.at_string (Kd.R_reads' HO_8.out).2.2 (ji84) p246 q246
                     cases e246
                     replace p246 := eq_true p246
                     replace q246 := eq_true q246
                     go_wp2
                     repeat (go_quiet (fail); try go_wp2)
                     go_ret2
                     exact ⟨by first | rfl | (simp [errW_none, errW_some] <;> rfl) | (simp only [← hji84]; first | rfl | (simp [errW_none, errW_some] <;> rfl)) | (simp [*, errW_none, errW_some] <;> rfl), by repeat (first | (with_reducible first | exact HB.out | apply below_alloc | apply pw_below_drewN | apply below_drew1) | exact HB.out)⟩
                   · rw [if_neg c87] at H
                     have c87b0 : decide (4096 < ((rdOf ByteArray.empty x8_1 (ji84)).size : Int)) = false := decide_eq_false c87
                     have c87b1 : decide (4096 < (rdOf ByteArray.empty x8_1 (ji84)).size) = false := decide_eq_false (by omega)
                     clear c87
                     have H' := Aside0.mk H
                     clear H
                     obtain ⟨Ao89, co89, eo89⟩ := Kd.R_slice HO_8.out
                     subst eo89
                     have p222 : 0 ≤ (x9_1 : Int) := of_decide_eq_true (by first | (with_reducible assumption) | assumption)
                     have q222 : x9_1 < (l0.length : Int) := of_decide_eq_true (by first | (with_reducible assumption) | assumption)
                     obtain ⟨ad222, e222, hx222_0, hx222_1⟩ := at_T97 HR0.out x9_1 p222 q222
                     cases e222
                     replace hx222_0 := (HB.out.cell (World.block_lt_of_cell? w _ hx222_0)).trans hx222_0
                     replace hx222_1 := (HB.out.cell (World.block_lt_of_cell? w _ hx222_1)).trans hx222_1
                     replace p222 := eq_true p222
                     replace q222 := eq_true q222
                     have p246 : 0 ≤ ((ji84) : Int) := of_decide_eq_true (by first | (with_reducible assumption) | assumption)
                     have q246 : (ji84) < (x8_1.length : Int) := of_decide_eq_true (by first | (with_reducible assumption) | assumption)
                     obtain ⟨ad246, e246, hx246_0⟩ := Kd.at_string (Kd.R_reads' HO_8.out).2.2 (ji84) p246 q246
                     cases e246
                     replace p246 := eq_true p246
                     replace q246 := eq_true q246
                     go_wp2
                     repeat (go_quiet (fail); try go_wp2)
                     go_roundg k1
                     case measure => have := HK1.out; omega
                     case rel => exact ⟨(x8_1), (wrap64 (x9_1 + 1)), (by first | rfl | (simp; done) | (simp [*]; done)), H', ⟨by have := HK1.out; omega⟩, ⟨by (with_reducible repeat (first | apply Kd.R_alloc | apply Kd.R_drewN | apply Kd.R_drew)); exact HO_8.out⟩, ⟨by repeat (first | (with_reducible first | exact HB.out | apply below_alloc | apply pw_below_drewN | apply below_drew1) | exact HB.out)⟩⟩
                 · rw [if_neg c86] at H
                   exact absurd H (by simp)
               · rw [if_neg c85] at H
                 exact absurd H (by simp)
     · rw [if_neg c5] at H
       exact absurd H (by simp)
   · rw [if_neg c4] at H
     have c4b0 : decide (x9_1 < (l0.length : Int)) = false := decide_eq_false c4
     clear c4
     by_cases c90 : 0 < (x8_1.length : Int)
     · rw [if_pos c90] at H
       have c90b0 : decide (0 < (x8_1.length : Int)) = true := decide_eq_true c90
       have c90b1 : decide (0 < x8_1.length) = true := decide_eq_true (by omega)
       clear c90
       simp only [Option.some.injEq, Prod.mk.injEq] at H
       obtain ⟨rfl, rfl⟩ := H
       obtain ⟨Ao91, co91, eo91⟩ := Kd.R_slice HO_8.out
       subst eo91
       have p221 : 0 ≤ (0 : Int) := (by omega)
       have q221 : 0 < (x8_1.length : Int) := of_decide_eq_true (by first | (with_reducible assumption) | assumption)
       obtain ⟨ad221, e221, hx221_0⟩ := Kd.at_string (Kd.R_reads' HO_8.out).2.2 0 p221 q221
       cases e221
       have qi221 : (0 < x8_1.length) = True := eq_true (by omega)
       (try rw [show ((0 : Int)).toNat = 0 from rfl] at hx221_0)
       (try rw [Addr.add_zero'] at hx221_0)
       replace p221 := eq_true p221
       replace q221 := eq_true q221
       go_wp2
       repeat (go_quiet (fail); try go_wp2)
       go_ret2
       exact ⟨by first | rfl | (simp [errW_none, errW_some] <;> rfl) | (simp [*, errW_none, errW_some] <;> rfl), by repeat (first | (with_reducible first | exact HB.out | apply below_alloc | apply pw_below_drewN | apply below_drew1) | exact HB.out)⟩
     · rw [if_neg c90] at H
       exact absurd H (by simp)

end Go.Proofs.Ytcbkihhpnndpkaa.PA
