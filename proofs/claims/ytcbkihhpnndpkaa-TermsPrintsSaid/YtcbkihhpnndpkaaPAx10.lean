/- Contracts of Go functions, each with the walk through its code, written by a program of this session. -/
import Derived.Test.YtcbkihhpnndpkaaPAx0
namespace Go.Proofs.Ytcbkihhpnndpkaa.PA
open Go.RowKit Go.Proofs.YtcbkihhpnndpkaaW.PrintWords Go.Proofs.YtcbkihhpnndpkaaW.PrintLast Go.Proofs.YtcbkihhpnndpkaaW.PrintMore
attribute [local go_sem] max2_int min2_int max_two min_two max_three min_three max_four min_four   -- for this text's walks alone
set_option linter.unusedVariables false
set_option linter.unusedSimpArgs false

/-! ### eggboxlaw19_spoil: function 16 -/
mutual
def eggboxlaw19_spoil.l0 : Nat → Int → List (S97) → List (S97) → Bool → Option ((List (S97)) × (List (S97)))
 | 0, _, _, _, _ => none
 | k + 1, x2, x276000, x276001, x276002 => if x2 < (x276000.length : Int) then (if 0 ≤ x2 then (eggboxlaw19_spoil.l0 k (wrap64 (x2 + 1)) (x276000.set (x2 : Int).toNat (⟨9, 0⟩ : S97)) x276001 x276002) else (none)) else (eggboxlaw19_spoil.l1 k 0 x276000 x276001 x276002)
def eggboxlaw19_spoil.l1 : Nat → Int → List (S97) → List (S97) → Bool → Option ((List (S97)) × (List (S97)))
 | 0, _, _, _, _ => none
 | k + 1, x3, x276000, x276001, x276002 => if x3 < (x276001.length : Int) then (if 0 ≤ x3 then (eggboxlaw19_spoil.l1 k (wrap64 (x3 + 1)) x276000 (x276001.set (x3 : Int).toNat (⟨9, 0⟩ : S97)) x276002) else (none)) else (some (x276000, x276001))
end
def eggboxlaw19_spoil.f (k : Nat) (l0_0 : List (S97)) (l0_1 : List (S97)) (a0_2 : Bool) : Option ((List (S97)) × (List (S97))) := eggboxlaw19_spoil.l0 k 0 l0_0 l0_1 a0_2
set_option maxHeartbeats 8000000 in
set_option maxRecDepth 100000 in
theorem eggboxlaw19_spoil.calls (k : Nat) (P0_0_ : Nat → Prop) (u9000_ : Value) (l0_0 : List (S97)) (P0_1_ : Nat → Prop) (u9001_ : Value) (l0_1 : List (S97)) (a0_2 : Bool) (r1 : List (S97)) (r2 : List (S97)) (w0 w : World) (hB : Below w0.heap.size w0 w) (ho0_0 : Kd.R k97 97 w w0.heap.size P0_0_ u9000_ l0_0) (hp0_0_0_1 : ∀ k_, P0_0_ k_ → ¬ P0_1_ k_) (ho0_1 : Kd.R k97 97 w w0.heap.size P0_1_ u9001_ l0_1) (hp0_1_0_0 : ∀ k_, P0_1_ k_ → ¬ P0_0_ k_) (h : eggboxlaw19_spoil.f k l0_0 l0_1 a0_2 = some (r1, r2)) :
 Calls Try.prog 16 #[.agg #[u9000_, u9001_, .bool a0_2]] w fun e w' => e = .returned (.tuple #[]) ∧ Kd.R k97 97 w' w0.heap.size (fun k_ => ((P0_0_ k_ ∨ P0_1_ k_) ∨ w.heap.size ≤ k_)) u9000_ r1 ∧ Kd.R k97 97 w' w0.heap.size (fun k_ => ((P0_0_ k_ ∨ P0_1_ k_) ∨ w.heap.size ≤ k_)) u9001_ r2 ∧ Below w0.heap.size w0 w' ∧ Kept w w' (fun k_ => P0_0_ k_ ∨ P0_1_ k_) := by
 have hu24 := Try.underlying24
 have hu97 := Try.underlying97
 have HO0_0 := Aside0.mk (show Kd.R k97 97 w w0.heap.size (fun k_ => ((P0_0_ k_ ∨ P0_1_ k_) ∨ w.heap.size ≤ k_) ∧ some k_ ≠ (u9001_ : Value).ownBlock) u9000_ l0_0 from Kd.R_mono ho0_0 (fun k_ hk => ⟨(.inl (.inl hk)), fun e_ => hp0_0_0_1 k_ hk (ho0_1.1 k_ e_.symm)⟩))
 have HO0_1 := Aside0.mk (show Kd.R k97 97 w w0.heap.size (fun k_ => ((P0_0_ k_ ∨ P0_1_ k_) ∨ w.heap.size ≤ k_) ∧ some k_ ≠ (u9000_ : Value).ownBlock) u9001_ l0_1 from Kd.R_mono ho0_1 (fun k_ hk => ⟨(.inl (.inr hk)), fun e_ => hp0_1_0_0 k_ hk (ho0_0.1 k_ e_.symm)⟩))
 have HK := Aside0.mk (Kept.refl w (fun k_ => P0_0_ k_ ∨ P0_1_ k_))
 have HW0 := Aside0.mk hB.size
 have HB := Aside0.mk hB
 clear hB
 have H : (eggboxlaw19_spoil.l0 k 0 l0_0 l0_1 a0_2) = some (r1, r2) := h
 clear h
 have H' := Aside0.mk H
 clear H
 obtain ⟨Ao2, co2, eo2⟩ := Kd.R_slice HO0_0.out
 subst eo2
 obtain ⟨Ao3, co3, eo3⟩ := Kd.R_slice HO0_1.out
 subst eo3
 go_enter Try.func16, Try.ntmps16
 go_wp2_with (first | ((with_reducible refine gate_dst (N := 1) rfl ?_); refine box_event ?hg (N := 1) ?hd (cs := #[.slice Ao2 l0_0.length co2, .slice Ao3 l0_1.length co3, .bool a0_2]) (t := 24) ?hr ?_; (case hd => rfl); (case hg => rfl); (case hr => first | (go_simp; done) | (go_simp; rfl)); intro gb275 hg w4 hbox hb; have n0_ := Aside0.mk (Kd.R_below (by (with_reducible repeat (first | apply Kd.R_alloc | apply Kd.R_drewN | apply Kd.R_drew)); exact HO0_0.out) hb); have n1_ := Aside0.mk (Kd.R_below (by (with_reducible repeat (first | apply Kd.R_alloc | apply Kd.R_drewN | apply Kd.R_drew)); exact HO0_1.out) hb); have n2_ := Aside0.mk (Kept.below (S := (fun k_ => P0_0_ k_ ∨ P0_1_ k_)) (by repeat (first | (with_reducible first | exact HK.out | apply Kept.alloc | apply Kept.drewN | apply Kept.drew) | exact HK.out)) hb); have n3_ := Aside0.mk (below_step (by repeat (first | (with_reducible first | exact HB.out | apply below_alloc | apply pw_below_drewN | apply below_drew1) | exact HB.out)) hb); have n4_ := Aside0.mk (hbox); have n5_ := Aside0.mk ((by rw [hg]; exact (by first | exact HK.out.1 | exact (show Kept w _ (fun k_ => P0_0_ k_ ∨ P0_1_ k_) from by repeat (first | (with_reducible first | exact HK.out | apply Kept.alloc | apply Kept.drewN | apply Kept.drew) | exact HK.out)).1) : w.heap.size ≤ gb275)); have n6_ := Aside0.mk ((by rw [hg]; exact (below_size (by repeat (first | (with_reducible first | exact HB.out | apply below_alloc | apply pw_below_drewN | apply below_drew1) | exact HB.out))) : w0.heap.size ≤ gb275)); clear HO0_0; clear HO0_1; clear HK; clear HB; have HO0_0 := n0_; have HO0_1 := n1_; have HK := n2_; have HB := n3_; have BK275 := n4_; have GW275 := n5_; have GE275 := n6_; clear n0_ n1_ n2_ n3_ n4_ n5_ n6_; clear hb hbox hg))
 go_loopg [2] k (fun kq v2 w' => ∃ (x2_1 : Int) (x276000_1 : List (S97)) (x276001_1 : List (S97)), v2 = .int .i64 x2_1 ∧ Aside0 (eggboxlaw19_spoil.l0 kq x2_1 x276000_1 x276001_1 a0_2 = some (r1, r2)) ∧ Aside0 (kq ≤ k) ∧ Aside0 (Kd.R k97 97 w' w0.heap.size (fun k_ => ((P0_0_ k_ ∨ P0_1_ k_) ∨ w.heap.size ≤ k_) ∧ some k_ ≠ ((.slice Ao3 l0_1.length co3) : Value).ownBlock) (.slice Ao2 l0_0.length co2) x276000_1) ∧ Aside0 (Kd.R k97 97 w' w0.heap.size (fun k_ => ((P0_0_ k_ ∨ P0_1_ k_) ∨ w.heap.size ≤ k_) ∧ some k_ ≠ ((.slice Ao2 l0_0.length co2) : Value).ownBlock) (.slice Ao3 l0_1.length co3) x276001_1) ∧ Aside0 (w'.heap[gb275]? = some (.cells #[(.slice Ao2 l0_0.length co2), (.slice Ao3 l0_1.length co3), .bool a0_2] 24 (0, 0))) ∧ Aside0 (Kept w w' (fun k_ => P0_0_ k_ ∨ P0_1_ k_)) ∧ Aside0 (Below w0.heap.size w0 w'))
 case atStart => exact ⟨(0), (l0_0), (l0_1), (by first | rfl | (simp; done) | (simp [*]; done)), H', ⟨Nat.le_refl _⟩, ⟨by (with_reducible repeat (first | apply Kd.R_alloc | apply Kd.R_drewN | apply Kd.R_drew)); exact HO0_0.out⟩, ⟨by (with_reducible repeat (first | apply Kd.R_alloc | apply Kd.R_drewN | apply Kd.R_drew)); exact HO0_1.out⟩, ⟨by (with_reducible repeat (first | refine blk_drewN ?_ _ | refine blk_drew ?_ | refine blk_alloc ?_ _)); exact BK275.out⟩, ⟨by repeat (first | (with_reducible first | exact HK.out | apply Kept.alloc | apply Kept.drewN | apply Kept.drew | refine Kept.setCell ?_ (.inr GW275.out) _) | exact HK.out)⟩, ⟨by repeat (first | (with_reducible first | exact HB.out | apply below_alloc | apply pw_below_drewN | apply below_drew1 | refine below_set ?_ GE275.out) | exact HB.out)⟩⟩
 case round =>
  clear H'
  try clear c1
  try clear p2
  obtain ⟨x2_1, x276000_1, x276001_1, rfl, HA, HK1, HO_276000, HO_276001, BK275, HK, HB⟩ := hrel
  have hl276000_1 := (Kd.R_reads' HO_276000.out).1
  rw [hl276000_1] at HO_276000
  (try simp only [hl276000_1])
  (try simp only [hl276000_1] at BK275)
  (try simp only [hl276000_1] at HO_276001)
  have hl276001_1 := (Kd.R_reads' HO_276001.out).1
  rw [hl276001_1] at HO_276001
  (try simp only [hl276001_1])
  (try simp only [hl276001_1] at BK275)
  (try simp only [hl276001_1] at HO_276000)
  cases gk with
  | zero => exact absurd HA.out (by simp [eggboxlaw19_spoil.l0])
  | succ k1 =>
   have H := HA.out
   clear HA
   simp only [eggboxlaw19_spoil.l0] at H
   by_cases c5 : x2_1 < (x276000_1.length : Int)
   · rw [if_pos c5] at H
     have c5b0 : decide (x2_1 < (x276000_1.length : Int)) = true := decide_eq_true c5
     clear c5
     by_cases c6 : 0 ≤ x2_1
     · rw [if_pos c6] at H
       have c6b0 : decide (0 ≤ x2_1) = true := decide_eq_true c6
       clear c6
       obtain ⟨y276, hy276⟩ : ∃ y_ : List (S97), y_ = (x276000_1.set (x2_1 : Int).toNat (⟨9, 0⟩ : S97)) := ⟨_, rfl⟩
       replace H : (eggboxlaw19_spoil.l0 k1 (wrap64 (x2_1 + 1)) y276 x276001_1 a0_2) = some (r1, r2) := by first | (rw [hy276]; with_reducible exact H) | (have H2_ := (Option.bind_some _ _).symm.trans H; rw [hy276]; with_reducible exact H2_) | (have H2_ := (Option.bind_some _ _).symm.trans H; with_reducible exact H2_) | with_reducible exact H | (rw [hy276]; exact H) | exact H
       have Ny276 := Aside0.mk hy276
       clear hy276
       have H' := Aside0.mk H
       clear H
       have hcz8_0 : wr.cell? ⟨gb275, 0, none⟩ = some (.slice Ao2 x276000_1.length co2) := (blk_cell BK275.out 0).trans rfl
       have hcz8_1 : wr.cell? ⟨gb275, 1, none⟩ = some (.slice Ao3 x276001_1.length co3) := (blk_cell BK275.out 1).trans rfl
       have hcz8_2 : wr.cell? ⟨gb275, 2, none⟩ = some (.bool a0_2) := (blk_cell BK275.out 2).trans rfl
       have hfz8_0 := blk_frozen BK275.out 0
       have hfz8_1 := blk_frozen BK275.out 1
       have hfz8_2 := blk_frozen BK275.out 2
       have p7 : 0 ≤ (x2_1 : Int) := of_decide_eq_true (by first | (with_reducible assumption) | assumption)
       have q7 : (x2_1 : Int) < ((x276000_1.length : Int) : Int) := of_decide_eq_true (by first | (with_reducible assumption) | assumption)
       obtain ⟨go7, co7, eo7, gb7, gl7, cl7, HG7⟩ := Kd.R_form HO_276000.out (by omega)
       (first | cases eo7 | (injection eo7 with ea_ en_ ec_; (first | subst ea_ | (injection ea_ with ea_; subst ea_)); subst ec_; clear en_))
       have GB7 := Aside0.mk gb7
       have GG7 := Aside0.mk HG7
       clear gb7 gl7 HG7
       have HMgo7 := Aside0.mk (show ((P0_0_ go7 ∨ P0_1_ go7) ∨ w.heap.size ≤ go7) from (HO_276000.out.1 _ rfl).1)
       obtain ⟨ce7, hcl7, hM7, hcc7, hfr7⟩ := Kd.R_elem HO_276000.out z97 (x2_1 : Int) p7 q7
       obtain rfl := k97_openM hM7
       have hx7_0 : wr.cell? ⟨go7, (x2_1 : Int).toNat * 2, none⟩ = some (.int .i64 ((rd_T97 x276000_1 x2_1).f0)) := hcc7 0 _ rfl
       have hx7_1 : wr.cell? ⟨go7, (x2_1 : Int).toNat * 2 + 1, none⟩ = some (.int .u8 ((rd_T97 x276000_1 x2_1).f1)) := hcc7 1 _ rfl
       have hf7_0 : wr.frozen? ⟨go7, (x2_1 : Int).toNat * 2, none⟩ = false := hfr7 0
       have hf7_1 : wr.frozen? ⟨go7, (x2_1 : Int).toNat * 2 + 1, none⟩ = false := hfr7 1
       clear hcl7 hcc7 hfr7 hM7
       replace p7 := eq_true p7
       replace q7 := eq_true q7
       have HX9 := Aside0.mk (show Kd.R k97 97 wr w0.heap.size (fun k_ => ((P0_0_ k_ ∨ P0_1_ k_) ∨ w.heap.size ≤ k_) ∧ some k_ ≠ (.slice Ao3 x276001_1.length co3 : Value).ownBlock) (.slice (some ⟨go7, 0, none⟩) x276000_1.length co2) x276000_1 from (by (with_reducible repeat (first | apply Kd.R_alloc | apply Kd.R_drewN | apply Kd.R_drew)); exact HO_276000.out))
       obtain ⟨ce9, hcl9, hM9, hcc9, hfr9⟩ := Kd.R_elem HX9.out z97 (x2_1 : Int) (of_decide_eq_true (by first | (with_reducible assumption) | assumption)) (by have h_ : (x2_1 : Int) < ((x276000_1.length : Int) : Int) := of_decide_eq_true (by first | (with_reducible assumption) | assumption); first | exact h_ | (have e_ := (Kd.R_reads' HO_276000.out).1; omega) | simpa using h_)
       obtain rfl := k97_openM hM9
       have HP9 := Kd.R_seg HX9.out (x2_1 : Int) (of_decide_eq_true (by first | (with_reducible assumption) | assumption)) (by have h_ : (x2_1 : Int) < ((x276000_1.length : Int) : Int) := of_decide_eq_true (by first | (with_reducible assumption) | assumption); first | exact h_ | (have e_ := (Kd.R_reads' HO_276000.out).1; omega) | simpa using h_) (seg := [.int .i64 9, .int .u8 0]) (j := 0) hcl9 hcc9 (show 2 ≤ 2 from by decide) (x' := (⟨9, 0⟩ : S97)) (k97_mkM _ _ _ (⟨9, 0⟩ : S97) ) (fun _ hk => hk)
       have hx9_0 := hcc9 0 _ rfl
       (try simp only [show (k97).sz = 2 from rfl, Nat.mul_one, Nat.add_zero] at hx9_0)
       have hf9_0 := hfr9 0
       (try simp only [show (k97).sz = 2 from rfl, Nat.mul_one, Nat.add_zero] at hf9_0)
       have hx9_1 := hcc9 1 _ rfl
       (try simp only [show (k97).sz = 2 from rfl, Nat.mul_one, Nat.add_zero] at hx9_1)
       have hf9_1 := hfr9 1
       (try simp only [show (k97).sz = 2 from rfl, Nat.mul_one, Nat.add_zero] at hf9_1)
       clear hcl9 hcc9 hfr9 hM9
       go_wp2_with (first | ((with_reducible refine gate_store (t := 97) (p := 15) rfl ?_); refine store_event (t := 97) (p := 15) (v := ?vo_w10) (w1 := ((wr.setCell ⟨go7, (x2_1 : Int).toNat * 2, none⟩ (.int .i64 9)).setCell ⟨go7, (x2_1 : Int).toNat * 2 + 1, none⟩ (.int .u8 0))) ?hg ?ho ?hn ?hr ?_; (case ho => rfl); (case hg => rfl); (case hn => rfl); (case hr => first | (go_simp; done) | (go_simp; rfl)); intro w10 hw; have hg : wr.grownBy w10 (some go7) := (by rw [hw]; exact HP9.2); have hp_ : Kd.R k97 97 w10 w0.heap.size (fun k_ => ((P0_0_ k_ ∨ P0_1_ k_) ∨ w.heap.size ≤ k_) ∧ some k_ ≠ (.slice Ao3 x276001_1.length co3 : Value).ownBlock) (.slice (some ⟨go7, 0, none⟩) x276000_1.length co2) y276 := (by rw [hw, Ny276.out]; exact HP9.1); clear HP9; have n0_ := Aside0.mk (hp_); have n1_ := Aside0.mk (Kd.R_after (v := (.slice (some ⟨go7, 0, none⟩) x276000_1.length co2)) (v1 := (.slice (some ⟨go7, 0, none⟩) x276000_1.length co2)) (ok := (fun k_ => ((P0_0_ k_ ∨ P0_1_ k_) ∨ w.heap.size ≤ k_))) (by (with_reducible repeat (first | apply Kd.R_alloc | apply Kd.R_drewN | apply Kd.R_drew)); exact HO_276001.out) hg (.inl rfl)); have n2_ := Aside0.mk (blk_grown (g := gb275) (o := .cells #[.slice (some ⟨go7, 0, none⟩) x276000_1.length co2, .slice Ao3 x276001_1.length co3, .bool a0_2] 24 (0, 0)) (by (with_reducible repeat (first | refine blk_drewN ?_ _ | refine blk_drew ?_ | refine blk_alloc ?_ _)); exact BK275.out) hg (Kd.R_ne HO_276000.out BK275.out (by decide))); have n3_ := Aside0.mk ((by rw [hw]; exact below_set (below_set (HB.out) GB7.out) GB7.out : Below w0.heap.size w0 w10)); have n4_ := Aside0.mk (Kept.of_grown (S := (fun k_ => P0_0_ k_ ∨ P0_1_ k_)) hg (by repeat (first | (with_reducible first | exact HK.out | apply Kept.alloc | apply Kept.drewN | apply Kept.drew | refine Kept.setCell ?_ (.inr GW275.out) _) | exact HK.out)) (fun k_ e_ => (HO_276000.out.1 k_ e_).1)); clear HO_276000; clear HO_276001; clear BK275; clear HB; clear HK; have HO_276000 := n0_; have HO_276001 := n1_; have BK275 := n2_; have HB := n3_; have HK := n4_; clear n0_ n1_ n2_ n3_ n4_; clear hg hw hp_))
       (try simp only [← hl276000_1, ← hl276001_1])
       go_roundg k1
       case measure => have := HK1.out; omega
       case rel => exact ⟨(wrap64 (x2_1 + 1)), (y276), (x276001_1), (by first | rfl | (simp; done) | (simp [*]; done)), H', ⟨by have := HK1.out; omega⟩, ⟨by (try simp only [hl276000_1]); (try simp only [hl276001_1]); (with_reducible repeat (first | apply Kd.R_alloc | apply Kd.R_drewN | apply Kd.R_drew)); exact HO_276000.out⟩, ⟨by (try simp only [hl276000_1]); (try simp only [hl276001_1]); (with_reducible repeat (first | apply Kd.R_alloc | apply Kd.R_drewN | apply Kd.R_drew)); exact HO_276001.out⟩, ⟨by (try simp only [hl276000_1]); (try simp only [hl276001_1]); (with_reducible repeat (first | refine blk_drewN ?_ _ | refine blk_drew ?_ | refine blk_alloc ?_ _)); exact BK275.out⟩, ⟨by repeat (first | (with_reducible first | exact HK.out | apply Kept.alloc | apply Kept.drewN | apply Kept.drew | refine Kept.setCell ?_ (.inr GW275.out) _) | exact HK.out)⟩, ⟨by repeat (first | (with_reducible first | exact HB.out | apply below_alloc | apply pw_below_drewN | apply below_drew1 | refine below_set ?_ GE275.out) | exact HB.out)⟩⟩
     · rw [if_neg c6] at H
       exact absurd H (by simp)
   · rw [if_neg c5] at H
     have c5b0 : decide (x2_1 < (x276000_1.length : Int)) = false := decide_eq_false c5
     clear c5
     have H' := Aside0.mk H
     clear H
     have hcz11_0 : wr.cell? ⟨gb275, 0, none⟩ = some (.slice Ao2 x276000_1.length co2) := (blk_cell BK275.out 0).trans rfl
     have hcz11_1 : wr.cell? ⟨gb275, 1, none⟩ = some (.slice Ao3 x276001_1.length co3) := (blk_cell BK275.out 1).trans rfl
     have hcz11_2 : wr.cell? ⟨gb275, 2, none⟩ = some (.bool a0_2) := (blk_cell BK275.out 2).trans rfl
     have hfz11_0 := blk_frozen BK275.out 0
     have hfz11_1 := blk_frozen BK275.out 1
     have hfz11_2 := blk_frozen BK275.out 2
     go_wp2
     go_loopg [3] k1 (fun kq v3 w' => ∃ (x3_2 : Int) (x276000_2 : List (S97)) (x276001_2 : List (S97)), v3 = .int .i64 x3_2 ∧ Aside0 (eggboxlaw19_spoil.l1 kq x3_2 x276000_2 x276001_2 a0_2 = some (r1, r2)) ∧ Aside0 (kq ≤ k1) ∧ Aside0 (Kd.R k97 97 w' w0.heap.size (fun k_ => ((P0_0_ k_ ∨ P0_1_ k_) ∨ w.heap.size ≤ k_) ∧ some k_ ≠ ((.slice Ao3 x276001_1.length co3) : Value).ownBlock) (.slice Ao2 x276000_1.length co2) x276000_2) ∧ Aside0 (Kd.R k97 97 w' w0.heap.size (fun k_ => ((P0_0_ k_ ∨ P0_1_ k_) ∨ w.heap.size ≤ k_) ∧ some k_ ≠ ((.slice Ao2 x276000_1.length co2) : Value).ownBlock) (.slice Ao3 x276001_1.length co3) x276001_2) ∧ Aside0 (w'.heap[gb275]? = some (.cells #[(.slice Ao2 x276000_1.length co2), (.slice Ao3 x276001_1.length co3), .bool a0_2] 24 (0, 0))) ∧ Aside0 (Kept w w' (fun k_ => P0_0_ k_ ∨ P0_1_ k_)) ∧ Aside0 (Below w0.heap.size w0 w'))
     case atStart => exact ⟨(0), (x276000_1), (x276001_1), (by first | rfl | (simp; done) | (simp [*]; done)), H', ⟨Nat.le_refl _⟩, ⟨by (try simp only [hl276000_1]); (try simp only [hl276001_1]); (with_reducible repeat (first | apply Kd.R_alloc | apply Kd.R_drewN | apply Kd.R_drew)); exact HO_276000.out⟩, ⟨by (try simp only [hl276000_1]); (try simp only [hl276001_1]); (with_reducible repeat (first | apply Kd.R_alloc | apply Kd.R_drewN | apply Kd.R_drew)); exact HO_276001.out⟩, ⟨by (try simp only [hl276000_1]); (try simp only [hl276001_1]); (with_reducible repeat (first | refine blk_drewN ?_ _ | refine blk_drew ?_ | refine blk_alloc ?_ _)); exact BK275.out⟩, ⟨by repeat (first | (with_reducible first | exact HK.out | apply Kept.alloc | apply Kept.drewN | apply Kept.drew | refine Kept.setCell ?_ (.inr GW275.out) _) | exact HK.out)⟩, ⟨by repeat (first | (with_reducible first | exact HB.out | apply below_alloc | apply pw_below_drewN | apply below_drew1 | refine below_set ?_ GE275.out) | exact HB.out)⟩⟩
     case round =>
      clear H'
      try clear c1
      try clear p2
      try clear c5
      try clear c5b0
      try clear c6
      try clear c6b0
      try clear p6
      try clear c7
      try clear p7
      try clear q7
      try clear hx7
      try clear hf7
      try clear c9
      try clear hx9
      try clear hf9
      try clear hcz11_0
      try clear hcz11_1
      try clear hcz11_2
      try clear hcz8_0
      try clear hcz8_1
      try clear hcz8_2
      try clear hfz11_0
      try clear hfz11_1
      try clear hfz11_2
      try clear hfz8_0
      try clear hfz8_1
      try clear hfz8_2
      try clear hx7_0
      try clear hx7_1
      try clear hx9_0
      try clear hx9_1
      try clear p2
      try clear p7
      try clear q7
      obtain ⟨x3_2, x276000_2, x276001_2, rfl, HA, HK2, HO_276000, HO_276001, BK275, HK, HB⟩ := hrel
      have hl276000_2 := (Kd.R_reads' HO_276000.out).1
      rw [hl276000_2] at HO_276000
      (try simp only [hl276000_2])
      (try simp only [hl276000_2] at BK275)
      (try simp only [hl276000_2] at HO_276001)
      have hl276001_2 := (Kd.R_reads' HO_276001.out).1
      rw [hl276001_2] at HO_276001
      (try simp only [hl276001_2])
      (try simp only [hl276001_2] at BK275)
      (try simp only [hl276001_2] at HO_276000)
      cases gk with
      | zero => exact absurd HA.out (by simp [eggboxlaw19_spoil.l1])
      | succ k2 =>
       have H := HA.out
       clear HA
       simp only [eggboxlaw19_spoil.l1] at H
       by_cases c12 : x3_2 < (x276001_2.length : Int)
       · rw [if_pos c12] at H
         have c12b0 : decide (x3_2 < (x276001_2.length : Int)) = true := decide_eq_true c12
         clear c12
         by_cases c13 : 0 ≤ x3_2
         · rw [if_pos c13] at H
           have c13b0 : decide (0 ≤ x3_2) = true := decide_eq_true c13
           clear c13
           obtain ⟨y277, hy277⟩ : ∃ y_ : List (S97), y_ = (x276001_2.set (x3_2 : Int).toNat (⟨9, 0⟩ : S97)) := ⟨_, rfl⟩
           replace H : (eggboxlaw19_spoil.l1 k2 (wrap64 (x3_2 + 1)) x276000_2 y277 a0_2) = some (r1, r2) := by first | (rw [hy277]; with_reducible exact H) | (have H2_ := (Option.bind_some _ _).symm.trans H; rw [hy277]; with_reducible exact H2_) | (have H2_ := (Option.bind_some _ _).symm.trans H; with_reducible exact H2_) | with_reducible exact H | (rw [hy277]; exact H) | exact H
           have Ny277 := Aside0.mk hy277
           clear hy277
           have H' := Aside0.mk H
           clear H
           have hcz15_0 : wr.cell? ⟨gb275, 0, none⟩ = some (.slice Ao2 x276000_2.length co2) := (blk_cell BK275.out 0).trans rfl
           have hcz15_1 : wr.cell? ⟨gb275, 1, none⟩ = some (.slice Ao3 x276001_2.length co3) := (blk_cell BK275.out 1).trans rfl
           have hcz15_2 : wr.cell? ⟨gb275, 2, none⟩ = some (.bool a0_2) := (blk_cell BK275.out 2).trans rfl
           have hfz15_0 := blk_frozen BK275.out 0
           have hfz15_1 := blk_frozen BK275.out 1
           have hfz15_2 := blk_frozen BK275.out 2
           have p14 : 0 ≤ (x3_2 : Int) := of_decide_eq_true (by first | (with_reducible assumption) | assumption)
           have q14 : (x3_2 : Int) < ((x276001_2.length : Int) : Int) := of_decide_eq_true (by first | (with_reducible assumption) | assumption)
           obtain ⟨go14, co14, eo14, gb14, gl14, cl14, HG14⟩ := Kd.R_form HO_276001.out (by omega)
           (first | cases eo14 | (injection eo14 with ea_ en_ ec_; (first | subst ea_ | (injection ea_ with ea_; subst ea_)); subst ec_; clear en_))
           have GB14 := Aside0.mk gb14
           have GG14 := Aside0.mk HG14
           clear gb14 gl14 HG14
           have HMgo14 := Aside0.mk (show ((P0_0_ go14 ∨ P0_1_ go14) ∨ w.heap.size ≤ go14) from (HO_276001.out.1 _ rfl).1)
           obtain ⟨ce14, hcl14, hM14, hcc14, hfr14⟩ := Kd.R_elem HO_276001.out z97 (x3_2 : Int) p14 q14
           obtain rfl := k97_openM hM14
           have hx14_0 : wr.cell? ⟨go14, (x3_2 : Int).toNat * 2, none⟩ = some (.int .i64 ((rd_T97 x276001_2 x3_2).f0)) := hcc14 0 _ rfl
           have hx14_1 : wr.cell? ⟨go14, (x3_2 : Int).toNat * 2 + 1, none⟩ = some (.int .u8 ((rd_T97 x276001_2 x3_2).f1)) := hcc14 1 _ rfl
           have hf14_0 : wr.frozen? ⟨go14, (x3_2 : Int).toNat * 2, none⟩ = false := hfr14 0
           have hf14_1 : wr.frozen? ⟨go14, (x3_2 : Int).toNat * 2 + 1, none⟩ = false := hfr14 1
           clear hcl14 hcc14 hfr14 hM14
           replace p14 := eq_true p14
           replace q14 := eq_true q14
           have HX16 := Aside0.mk (show Kd.R k97 97 wr w0.heap.size (fun k_ => ((P0_0_ k_ ∨ P0_1_ k_) ∨ w.heap.size ≤ k_) ∧ some k_ ≠ (.slice Ao2 x276000_2.length co2 : Value).ownBlock) (.slice (some ⟨go14, 0, none⟩) x276001_2.length co3) x276001_2 from (by (with_reducible repeat (first | apply Kd.R_alloc | apply Kd.R_drewN | apply Kd.R_drew)); exact HO_276001.out))
           obtain ⟨ce16, hcl16, hM16, hcc16, hfr16⟩ := Kd.R_elem HX16.out z97 (x3_2 : Int) (of_decide_eq_true (by first | (with_reducible assumption) | assumption)) (by have h_ : (x3_2 : Int) < ((x276001_2.length : Int) : Int) := of_decide_eq_true (by first | (with_reducible assumption) | assumption); first | exact h_ | (have e_ := (Kd.R_reads' HO_276001.out).1; omega) | simpa using h_)
           obtain rfl := k97_openM hM16
           have HP16 := Kd.R_seg HX16.out (x3_2 : Int) (of_decide_eq_true (by first | (with_reducible assumption) | assumption)) (by have h_ : (x3_2 : Int) < ((x276001_2.length : Int) : Int) := of_decide_eq_true (by first | (with_reducible assumption) | assumption); first | exact h_ | (have e_ := (Kd.R_reads' HO_276001.out).1; omega) | simpa using h_) (seg := [.int .i64 9, .int .u8 0]) (j := 0) hcl16 hcc16 (show 2 ≤ 2 from by decide) (x' := (⟨9, 0⟩ : S97)) (k97_mkM _ _ _ (⟨9, 0⟩ : S97) ) (fun _ hk => hk)
           have hx16_0 := hcc16 0 _ rfl
           (try simp only [show (k97).sz = 2 from rfl, Nat.mul_one, Nat.add_zero] at hx16_0)
           have hf16_0 := hfr16 0
           (try simp only [show (k97).sz = 2 from rfl, Nat.mul_one, Nat.add_zero] at hf16_0)
           have hx16_1 := hcc16 1 _ rfl
           (try simp only [show (k97).sz = 2 from rfl, Nat.mul_one, Nat.add_zero] at hx16_1)
           have hf16_1 := hfr16 1
           (try simp only [show (k97).sz = 2 from rfl, Nat.mul_one, Nat.add_zero] at hf16_1)
           clear hcl16 hcc16 hfr16 hM16
           go_wp2_with (first | ((with_reducible refine gate_store (t := 97) (p := 27) rfl ?_); refine store_event (t := 97) (p := 27) (v := ?vo_w17) (w1 := ((wr.setCell ⟨go14, (x3_2 : Int).toNat * 2, none⟩ (.int .i64 9)).setCell ⟨go14, (x3_2 : Int).toNat * 2 + 1, none⟩ (.int .u8 0))) ?hg ?ho ?hn ?hr ?_; (case ho => rfl); (case hg => rfl); (case hn => rfl); (case hr => first | (go_simp; done) | (go_simp; rfl)); intro w17 hw; have hg : wr.grownBy w17 (some go14) := (by rw [hw]; exact HP16.2); have hp_ : Kd.R k97 97 w17 w0.heap.size (fun k_ => ((P0_0_ k_ ∨ P0_1_ k_) ∨ w.heap.size ≤ k_) ∧ some k_ ≠ (.slice Ao2 x276000_2.length co2 : Value).ownBlock) (.slice (some ⟨go14, 0, none⟩) x276001_2.length co3) y277 := (by rw [hw, Ny277.out]; exact HP16.1); clear HP16; have n0_ := Aside0.mk (Kd.R_after (v := (.slice (some ⟨go14, 0, none⟩) x276001_2.length co3)) (v1 := (.slice (some ⟨go14, 0, none⟩) x276001_2.length co3)) (ok := (fun k_ => ((P0_0_ k_ ∨ P0_1_ k_) ∨ w.heap.size ≤ k_))) (by (with_reducible repeat (first | apply Kd.R_alloc | apply Kd.R_drewN | apply Kd.R_drew)); exact HO_276000.out) hg (.inl rfl)); have n1_ := Aside0.mk (hp_); have n2_ := Aside0.mk (blk_grown (g := gb275) (o := .cells #[.slice Ao2 x276000_2.length co2, .slice (some ⟨go14, 0, none⟩) x276001_2.length co3, .bool a0_2] 24 (0, 0)) (by (with_reducible repeat (first | refine blk_drewN ?_ _ | refine blk_drew ?_ | refine blk_alloc ?_ _)); exact BK275.out) hg (Kd.R_ne HO_276001.out BK275.out (by decide))); have n3_ := Aside0.mk ((by rw [hw]; exact below_set (below_set (HB.out) GB14.out) GB14.out : Below w0.heap.size w0 w17)); have n4_ := Aside0.mk (Kept.of_grown (S := (fun k_ => P0_0_ k_ ∨ P0_1_ k_)) hg (by repeat (first | (with_reducible first | exact HK.out | apply Kept.alloc | apply Kept.drewN | apply Kept.drew | refine Kept.setCell ?_ (.inr GW275.out) _) | exact HK.out)) (fun k_ e_ => (HO_276001.out.1 k_ e_).1)); clear HO_276000; clear HO_276001; clear BK275; clear HB; clear HK; have HO_276000 := n0_; have HO_276001 := n1_; have BK275 := n2_; have HB := n3_; have HK := n4_; clear n0_ n1_ n2_ n3_ n4_; clear hg hw hp_))
           (try simp only [← hl276000_2, ← hl276001_2])
           go_roundg k2
           case measure => have := HK1.out; have := HK2.out; omega
           case rel => exact ⟨(wrap64 (x3_2 + 1)), (x276000_2), (y277), (by first | rfl | (simp; done) | (simp [*]; done)), H', ⟨by have := HK1.out; have := HK2.out; omega⟩, ⟨by (try simp only [hl276000_1]); (try simp only [hl276001_1]); (try simp only [hl276000_2]); (try simp only [hl276001_2]); (with_reducible repeat (first | apply Kd.R_alloc | apply Kd.R_drewN | apply Kd.R_drew)); exact HO_276000.out⟩, ⟨by (try simp only [hl276000_1]); (try simp only [hl276001_1]); (try simp only [hl276000_2]); (try simp only [hl276001_2]); (with_reducible repeat (first | apply Kd.R_alloc | apply Kd.R_drewN | apply Kd.R_drew)); exact HO_276001.out⟩, ⟨by (try simp only [hl276000_1]); (try simp only [hl276001_1]); (try simp only [hl276000_2]); (try simp only [hl276001_2]); (with_reducible repeat (first | refine blk_drewN ?_ _ | refine blk_drew ?_ | refine blk_alloc ?_ _)); exact BK275.out⟩, ⟨by repeat (first | (with_reducible first | exact HK.out | apply Kept.alloc | apply Kept.drewN | apply Kept.drew | refine Kept.setCell ?_ (.inr GW275.out) _) | exact HK.out)⟩, ⟨by repeat (first | (with_reducible first | exact HB.out | apply below_alloc | apply pw_below_drewN | apply below_drew1 | refine below_set ?_ GE275.out) | exact HB.out)⟩⟩
         · rw [if_neg c13] at H
           exact absurd H (by simp)
       · rw [if_neg c12] at H
         have c12b0 : decide (x3_2 < (x276001_2.length : Int)) = false := decide_eq_false c12
         clear c12
         simp only [Option.some.injEq, Prod.mk.injEq] at H
         obtain ⟨rfl, rfl⟩ := H
         have hcz18_0 : wr.cell? ⟨gb275, 0, none⟩ = some (.slice Ao2 x276000_2.length co2) := (blk_cell BK275.out 0).trans rfl
         have hcz18_1 : wr.cell? ⟨gb275, 1, none⟩ = some (.slice Ao3 x276001_2.length co3) := (blk_cell BK275.out 1).trans rfl
         have hcz18_2 : wr.cell? ⟨gb275, 2, none⟩ = some (.bool a0_2) := (blk_cell BK275.out 2).trans rfl
         have hfz18_0 := blk_frozen BK275.out 0
         have hfz18_1 := blk_frozen BK275.out 1
         have hfz18_2 := blk_frozen BK275.out 2
         go_wp2
         first | go_end0 | ((try simp only [Exit.inBlock, Exit.then]); refine bodyPost_ret (results_none rfl _ _ _) rfl ?_)
         exact ⟨by first | rfl | (simp [errW_none, errW_some] <;> rfl) | (simp [*, errW_none, errW_some] <;> rfl), (by first | exact (by (with_reducible repeat (first | apply Kd.R_alloc | apply Kd.R_drewN | apply Kd.R_drew)); exact Kd.R_mono HO_276000.out (fun _ hk => hk.1)) | (simp only [hl276000_1, hl276001_1, hl276000_2, hl276001_2]; exact (by (with_reducible repeat (first | apply Kd.R_alloc | apply Kd.R_drewN | apply Kd.R_drew)); exact Kd.R_mono HO_276000.out (fun _ hk => hk.1)))), (by first | exact (by (with_reducible repeat (first | apply Kd.R_alloc | apply Kd.R_drewN | apply Kd.R_drew)); exact Kd.R_mono HO_276001.out (fun _ hk => hk.1)) | (simp only [hl276000_1, hl276001_1, hl276000_2, hl276001_2]; exact (by (with_reducible repeat (first | apply Kd.R_alloc | apply Kd.R_drewN | apply Kd.R_drew)); exact Kd.R_mono HO_276001.out (fun _ hk => hk.1)))), by repeat (first | (with_reducible first | exact HB.out | apply below_alloc | apply pw_below_drewN | apply below_drew1 | refine below_set ?_ GE275.out) | exact HB.out), by repeat (first | (with_reducible first | exact HK.out | apply Kept.alloc | apply Kept.drewN | apply Kept.drew | refine Kept.setCell ?_ (.inr GW275.out) _) | exact HK.out)⟩

/-! ### eggboxlaw19_num: function 14 -/
def eggboxlaw19_num.f (a0 : Int) : Option (Int) := some a0
set_option maxHeartbeats 8000000 in
set_option maxRecDepth 100000 in
theorem eggboxlaw19_num.calls (a0 : Int) (r : Int) (w : World) (h : eggboxlaw19_num.f a0 = some r) :
 Calls Try.prog 14 #[.int .i64 a0] w fun e w' => e = .returned (.int .i64 r) ∧ Drawn0 w w' := by
 have H : (some a0) = some r := h
 clear h
 obtain rfl := Option.some.inj H
 go_enter Try.func14, Try.ntmps14
 go_wp2
 go_ret
 exact ⟨by first | rfl | (simp; done) | (simp [*]; done), by repeat (first | exact Drawn0.refl _ | apply Drawn0.step)⟩

end Go.Proofs.Ytcbkihhpnndpkaa.PA
