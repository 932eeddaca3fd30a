/- Several texts of this session in one: PBx0, PBx1, HTake, HRead, HAtom, HSide, HCatch, HParse. -/
import Derived.Test.YtcbkihhpnndpkaaProg
import Derived.Below
import Derived.Deep.Draws
import Derived.Deep.AppendLies
import Derived.Maps.AppendAt
import Derived.OwnWalk
import Derived.Laws.BytesArg
import Derived.Laws.MakeOwn
import Derived.Laws.OwnMore
import Derived.Deep.OwnRows
import Derived.Tactics
import Derived.Lib.ConvBytes
import Derived.Laws.Slices
import Derived.WalkKit
import Derived.KernelRfl
import Derived.RowKit3
import Derived.Deep.LoopGhost
import Derived.Deep.QuietTactic
import Derived.BigQuiet
import Derived.WideLaws
import Derived.Deep.DeepCutAuto
import Derived.Deep.CutBlock
import Derived.Deep.RegionHeld3
import Derived.Laws.Rows
import Derived.Lib.AppendStr
import Derived.ArgAppend
import Derived.Laws.IdiomCopy
import Derived.OrdersHeld
import Derived.Laws.BitsLemmas
import Derived.RowKit
import Derived.Test.YtcbkihhpnndpkaaPAx2
import Derived.Test.YtcbkihhpnndpkaaWWords
import Derived.Test.YtcbkihhpnndpkaaWLast
import Derived.Test.YtcbkihhpnndpkaaWTab
import Derived.Test.YtcbkihhpnndpkaaWApart
import Derived.Test.YtcbkihhpnndpkaaWFoot
import Derived.Test.YtcbkihhpnndpkaaWKept
import Derived.Test.YtcbkihhpnndpkaaWShare
import Derived.Test.YtcbkihhpnndpkaaWN
import Derived.Test.YtcbkihhpnndpkaaWAt
import Derived.Test.YtcbkihhpnndpkaaWEqStruct
import Derived.Test.YtcbkihhpnndpkaaWRepsOne
import Derived.Test.YtcbkihhpnndpkaaWInv
import Derived.Test.YtcbkihhpnndpkaaWInvWords
import Derived.Test.YtcbkihhpnndpkaaWGuard
import Derived.Test.YtcbkihhpnndpkaaWMore
import Derived.Outline
import Derived.Test.YtcbkihhpnndpkaaPAx3
import Derived.Recover
import Derived.Defers
import Derived.Laws.Pointers
namespace Go.Proofs.Ytcbkihhpnndpkaa.PB
open Go.RowKit Go.Proofs.YtcbkihhpnndpkaaW.PrintWords Go.Proofs.YtcbkihhpnndpkaaW.PrintLast Go.Proofs.YtcbkihhpnndpkaaW.PrintMore
attribute [local go_sem] max2_int min2_int max_two min_two max_three min_three max_four min_four   -- for this text's walks alone
open PA
set_option linter.unusedVariables false
set_option linter.unusedSimpArgs false

-- the values' own types

end Go.Proofs.Ytcbkihhpnndpkaa.PB
namespace Go.Proofs.Ytcbkihhpnndpkaa.PB
open Go.RowKit Go.Proofs.YtcbkihhpnndpkaaW.PrintWords Go.Proofs.YtcbkihhpnndpkaaW.PrintLast Go.Proofs.YtcbkihhpnndpkaaW.PrintMore
attribute [local go_sem] max2_int min2_int max_two min_two max_three min_three max_four min_four   -- for this text's walks alone
open PA
set_option linter.unusedVariables false
set_option linter.unusedSimpArgs false

/-- A state of type 88 at block g of W; what its slices lead to came in by w0. -/
def IsS88 (w0 W : World) (g : Nat) (f0 : ByteArray) (f1 : Int) : Prop := W.heap[g]? = some (.cells #[.string f0, .int .i64 f1] 88 (0, 0)) ∧ w0.heap.size ≤ g
theorem IsS88.grown {w0 W : World} {g : Nat} {f0 : ByteArray} {f1 : Int} {W1 : World} {row : Option Nat} (h : IsS88 w0 W g f0 f1) (hw : W.grownBy W1 row) (hne : some g ≠ row) : IsS88 w0 W1 g f0 f1 := by
 obtain ⟨hb, hg⟩ := h
 exact ⟨blk_grown hb hw hne, hg⟩
theorem IsS88.below {w0 W : World} {g : Nat} {f0 : ByteArray} {f1 : Int} {W1 : World} (h : IsS88 w0 W g f0 f1) (hw : Below W.heap.size W W1) : IsS88 w0 W1 g f0 f1 := h.grown (grown_of_below hw none) (by simp)
theorem IsS88.alloc {w0 W : World} {g : Nat} {f0 : ByteArray} {f1 : Int} (h : IsS88 w0 W g f0 f1) (o : Obj) : IsS88 w0 (W.alloc o) g f0 f1 := h.below (below_alloc (Below.refl _ _) o)
theorem IsS88.drewN {w0 W : World} {g : Nat} {f0 : ByteArray} {f1 : Int} (h : IsS88 w0 W g f0 f1) (m : Nat) : IsS88 w0 (W.drewN m) g f0 f1 := h
theorem IsS88.drew {w0 W : World} {g : Nat} {f0 : ByteArray} {f1 : Int} (h : IsS88 w0 W g f0 f1) : IsS88 w0 W.drew g f0 f1 := h
theorem IsS88.apart {w0 W : World} {g : Nat} {f0 : ByteArray} {f1 : Int} {α : Type} {d : Kd α} {e : Nat} {base : Nat} {ok : Nat → Prop} {v : Value} {xs : List α} (h : IsS88 w0 W g f0 f1) (ho : d.R e W base ok v xs) (ht : ∀ q, q ∈ e :: d.E → q ≠ 88) : d.R e W base (fun k => ok k ∧ k ≠ g) v xs := by
 obtain ⟨hb, hg⟩ := h
 exact Kd.R_types ho hb ht
theorem IsS88.own_ne {w0 W : World} {g : Nat} {f0 : ByteArray} {f1 : Int} {α : Type} {d : Kd α} {e : Nat} {base : Nat} {ok : Nat → Prop} {v : Value} {xs : List α} (h : IsS88 w0 W g f0 f1) (ho : d.R e W base ok v xs) (ht : e ≠ 88) : some g ≠ v.ownBlock := by
 obtain ⟨hb, hg⟩ := h
 exact Kd.R_ne ho hb ht
theorem IsS88.lt {w0 W : World} {g : Nat} {f0 : ByteArray} {f1 : Int} (h : IsS88 w0 W g f0 f1) : g < W.heap.size := by
 obtain ⟨hb, hg⟩ := h
 exact blk_lt hb
theorem IsS88.ge {w0 W : World} {g : Nat} {f0 : ByteArray} {f1 : Int} (h : IsS88 w0 W g f0 f1) : w0.heap.size ≤ g := by
 obtain ⟨hb, hg⟩ := h
 exact hg
theorem IsS88.ne_blk {w0 W : World} {g : Nat} {f0 : ByteArray} {f1 : Int} {a : Nat} {cs : Array Value} {t : TypeId} {fr : Nat × Nat} (h : IsS88 w0 W g f0 f1) (hb2 : W.heap[a]? = some (.cells cs t fr)) (ht : t ≠ 88) : g ≠ a := by
 obtain ⟨hb, hg⟩ := h
 rintro rfl
 rw [hb] at hb2
 injection hb2 with hb2
 injection hb2 with _ ht2
 exact ht ht2.symm
theorem IsS88.far {w0 W : World} {g : Nat} {f0 : ByteArray} {f1 : Int} {p : Addr} (h : IsS88 w0 W g f0 f1) (hne : g ≠ p.block) (u : Value) : IsS88 w0 (W.setCell p u) g f0 f1 := by
 obtain ⟨hb, hg⟩ := h
 exact ⟨blk_far hb hne u, hg⟩
theorem cellS88_0 {W : World} {g : Nat} {f0 : ByteArray} {f1 : Int} (h : W.heap[g]? = some (.cells #[.string f0, .int .i64 f1] 88 (0, 0))) : W.cell? ⟨g, 0, none⟩ = some (.string f0) := (blk_cell h 0).trans rfl
theorem cellS88_1 {W : World} {g : Nat} {f0 : ByteArray} {f1 : Int} (h : W.heap[g]? = some (.cells #[.string f0, .int .i64 f1] 88 (0, 0))) : W.cell? ⟨g, 1, none⟩ = some (.int .i64 f1) := (blk_cell h 1).trans rfl
theorem IsS88.set_1 {w0 W : World} {g : Nat} {f0 : ByteArray} {f1 : Int} (h : IsS88 w0 W g f0 f1) (x : Int) : IsS88 w0 (W.setCell ⟨g, 1, none⟩ (.int .i64 x)) g f0 x := by
 obtain ⟨hb, hg⟩ := h
 exact ⟨by simpa using blk_set hb 1 (.int .i64 x), hg⟩
theorem IsS88.new (w0 W : World) (f0 : ByteArray) (f1 : Int) (hB : Below w0.heap.size w0 W) : IsS88 w0 (W.alloc (.cells #[.string f0, .int .i64 f1] 88)) W.heap.size f0 f1 := ⟨by simpa using heap_alloc_new W _, hB.size⟩

/-! ### terms_reader_look: function 92 -/
def terms_reader_look.l0 : Nat → ByteArray → Int → Option (Int × ByteArray × Int)
 | 0, _, _ => none
 | k + 1, x1000, x1001 => if x1001 < (x1000.size : Int) then (if 0 ≤ x1001 then (if (bt x1000 x1001) = 32 then (terms_reader_look.l0 k x1000 (wrap64 (x1001 + 1))) else (if x1001 = (x1000.size : Int) then (some (0, x1000, x1001)) else (some (bt x1000 x1001, x1000, x1001)))) else (none)) else (if x1001 = (x1000.size : Int) then (some (0, x1000, x1001)) else (if 0 ≤ x1001 then (none) else (none)))
def terms_reader_look.f (k : Nat) (s0_0 : ByteArray) (s0_1 : Int) : Option (Int × ByteArray × Int) := terms_reader_look.l0 k s0_0 s0_1
theorem terms_reader_look.mono_l : ∀ k, (∀ y0 y1, LeO (terms_reader_look.l0 k y0 y1) (terms_reader_look.l0 (k + 1) y0 y1))
 | 0 => fun _ _ r h => by simp [terms_reader_look.l0] at h
 | k + 1 => by
  have ih0 := terms_reader_look.mono_l k
  · intro y0 y1
    unfold terms_reader_look.l0
    repeat' first
    | (with_reducible exact ih0 _ _)
    | (with_reducible exact LeO.refl _)
    | (with_reducible exact LeO.none _)
    | (with_reducible refine LeO.ite ?_ ?_)
    | (with_reducible refine LeO.bind ?_ (fun _ => ?_))
    | exact ih0 _ _
    | exact LeO.none _
    | refine LeO.ite ?_ ?_
    | refine LeO.bind ?_ (fun _ => ?_)
set_option maxHeartbeats 8000000 in
set_option maxRecDepth 100000 in
theorem terms_reader_look.calls (k : Nat) (g : Nat) (s0_0 : ByteArray) (s0_1 : Int) (r1 : Int) (r2 : ByteArray) (r3 : Int) (w0 w : World) (hI : IsS88 w0 w g s0_0 s0_1) (hB : Below w0.heap.size w0 w) (h : terms_reader_look.f k s0_0 s0_1 = some (r1, r2, r3)) :
 Calls Try.prog 92 #[.pointer (some ⟨g, 0, none⟩)] w fun e w' => e = .returned (.int .u8 r1) ∧ IsS88 w0 w' g r2 r3 ∧ Below w0.heap.size w0 w' ∧ KeepBut w w' g none := by
 have HI0 := Aside0.mk hI
 have HK := Aside0.mk (KeepBut.refl w g none)
 have HL := Aside0.mk hB.size
 clear hI
 have HW0 := Aside0.mk hB.size
 have HB := Aside0.mk hB
 clear hB
 have H : (terms_reader_look.l0 k s0_0 s0_1) = some (r1, r2, r3) := h
 clear h
 have H' := Aside0.mk H
 clear H
 go_enter Try.func92, Try.ntmps92
 go_wp2
 repeat (go_quiet (fail); try go_wp2)
 go_loopg [] k (fun kq w' => ∃ (x1001_1 : Int), Aside0 (terms_reader_look.l0 kq s0_0 x1001_1 = some (r1, r2, r3)) ∧ Aside0 (kq ≤ k) ∧ Aside0 (IsS88 w0 w' g s0_0 x1001_1) ∧ Aside0 (KeepBut w w' g none) ∧ Aside0 (Below w0.heap.size w0 w'))
 case atStart => exact ⟨(s0_1), H', ⟨Nat.le_refl _⟩, ⟨by repeat (first | (with_reducible first | exact HI0.out | apply IsS88.alloc | apply IsS88.drewN | apply IsS88.drew | apply IsS88.set_0 | apply IsS88.set_1) | exact HI0.out)⟩, ⟨by repeat (first | (with_reducible first | exact HK.out | apply KeepBut.set_ | apply keep_drewN | apply keep_drew | apply keep_alloc) | exact HK.out)⟩, ⟨by repeat (first | (with_reducible first | exact HB.out | apply below_alloc | apply pw_below_drewN | apply below_drew1 | refine below_set ?_ (IsS88.ge HI0.out)) | exact HB.out)⟩⟩
 case round =>
  clear H'
  obtain ⟨x1001_1, HA, HK1, HI0, HK, HB⟩ := hrel
  cases gk with
  | zero => exact absurd HA.out (by simp [terms_reader_look.l0])
  | succ k1 =>
   have H := HA.out
   clear HA
   simp only [terms_reader_look.l0] at H
   by_cases c2 : x1001_1 < (s0_0.size : Int)
   · rw [if_pos c2] at H
     have c2b0 : decide (x1001_1 < (s0_0.size : Int)) = true := decide_eq_true c2
     clear c2
     by_cases c3 : 0 ≤ x1001_1
     · rw [if_pos c3] at H
       have c3b0 : decide (0 ≤ x1001_1) = true := decide_eq_true c3
       clear c3
       by_cases c5 : (bt s0_0 x1001_1) = 32
       · rw [if_pos c5] at H
         have c5b0 : ((bt s0_0 x1001_1) == 32) = true := beq_iff_eq.mpr c5
         have c5b1 : ((bt s0_0 x1001_1) != 32) = false := bne_eq_false_iff_eq.mpr c5
         clear c5
         have H' := Aside0.mk H
         clear H
         obtain ⟨HGz6, hgz6⟩ := HI0.out
         have hcz6_0 := cellS88_0 HGz6
         have hcz6_1 := cellS88_1 HGz6
         have hfz6_0 := blk_frozen HGz6 0
         have hfz6_1 := blk_frozen HGz6 1
         clear HGz6 hgz6
         have p4 : 0 ≤ (x1001_1 : Int) := of_decide_eq_true (by first | (with_reducible assumption) | assumption)
         have q4 : x1001_1 < (s0_0.size : Int) := of_decide_eq_true (by first | (with_reducible assumption) | assumption)
         have hx4 := bt_at s0_0 x1001_1
         replace p4 := eq_true p4
         replace q4 := eq_true q4
         go_wp2
         repeat (go_quiet (fail); try go_wp2)
         go_roundg k1
         case measure => have := HK1.out; omega
         case rel => exact ⟨(wrap64 (x1001_1 + 1)), H', ⟨by have := HK1.out; omega⟩, ⟨by repeat (first | (with_reducible first | exact HI0.out | apply IsS88.alloc | apply IsS88.drewN | apply IsS88.drew | apply IsS88.set_0 | apply IsS88.set_1) | exact HI0.out)⟩, ⟨by repeat (first | (with_reducible first | exact HK.out | apply KeepBut.set_ | apply keep_drewN | apply keep_drew | apply keep_alloc) | exact HK.out)⟩, ⟨by repeat (first | (with_reducible first | exact HB.out | apply below_alloc | apply pw_below_drewN | apply below_drew1 | refine below_set ?_ (IsS88.ge HI0.out)) | exact HB.out)⟩⟩
       · rw [if_neg c5] at H
         have c5b0 : ((bt s0_0 x1001_1) == 32) = false := beq_eq_false_iff_ne.mpr c5
         have c5b1 : ((bt s0_0 x1001_1) != 32) = true := bne_iff_ne.mpr c5
         by_cases c7 : x1001_1 = (s0_0.size : Int)
         · rw [if_pos c7] at H
           have c7b0 : (x1001_1 == (s0_0.size : Int)) = true := beq_iff_eq.mpr c7
           have c7b1 : (x1001_1 != (s0_0.size : Int)) = false := bne_eq_false_iff_eq.mpr c7
           clear c7
           simp only [Option.some.injEq, Prod.mk.injEq] at H
           obtain ⟨rfl, rfl, rfl⟩ := H
           obtain ⟨HGz8, hgz8⟩ := HI0.out
           have hcz8_0 := cellS88_0 HGz8
           have hcz8_1 := cellS88_1 HGz8
           have hfz8_0 := blk_frozen HGz8 0
           have hfz8_1 := blk_frozen HGz8 1
           clear HGz8 hgz8
           have p4 : 0 ≤ (x1001_1 : Int) := of_decide_eq_true (by first | (with_reducible assumption) | assumption)
           have q4 : x1001_1 < (s0_0.size : Int) := of_decide_eq_true (by first | (with_reducible assumption) | assumption)
           have hx4 := bt_at s0_0 x1001_1
           replace p4 := eq_true p4
           replace q4 := eq_true q4
           go_wp2
           repeat (go_quiet (fail); try go_wp2)
           go_ret
           exact ⟨by first | rfl | (simp [errW_none, errW_some] <;> rfl) | (simp [*, errW_none, errW_some] <;> rfl), by repeat (first | (with_reducible first | exact HI0.out | apply IsS88.alloc | apply IsS88.drewN | apply IsS88.drew | apply IsS88.set_0 | apply IsS88.set_1) | exact HI0.out), by repeat (first | (with_reducible first | exact HB.out | apply below_alloc | apply pw_below_drewN | apply below_drew1 | refine below_set ?_ (IsS88.ge HI0.out)) | exact HB.out), by repeat (first | (with_reducible first | exact HK.out | apply KeepBut.set_ | apply keep_drewN | apply keep_drew | apply keep_alloc) | exact HK.out)⟩
         · rw [if_neg c7] at H
           have c7b0 : (x1001_1 == (s0_0.size : Int)) = false := beq_eq_false_iff_ne.mpr c7
           have c7b1 : (x1001_1 != (s0_0.size : Int)) = true := bne_iff_ne.mpr c7
           simp only [Option.some.injEq, Prod.mk.injEq] at H
           obtain ⟨rfl, rfl, rfl⟩ := H
           obtain ⟨HGz10, hgz10⟩ := HI0.out
           have hcz10_0 := cellS88_0 HGz10
           have hcz10_1 := cellS88_1 HGz10
           have hfz10_0 := blk_frozen HGz10 0
           have hfz10_1 := blk_frozen HGz10 1
           clear HGz10 hgz10
           have p4 : 0 ≤ (x1001_1 : Int) := of_decide_eq_true (by first | (with_reducible assumption) | assumption)
           have q4 : x1001_1 < (s0_0.size : Int) := of_decide_eq_true (by first | (with_reducible assumption) | assumption)
           have hx4 := bt_at s0_0 x1001_1
           replace p4 := eq_true p4
           replace q4 := eq_true q4
           have p9 : 0 ≤ (x1001_1 : Int) := of_decide_eq_true (by first | (with_reducible assumption) | assumption)
           have q9 : x1001_1 < (s0_0.size : Int) := of_decide_eq_true (by first | (with_reducible assumption) | assumption)
           have hx9 := bt_at s0_0 x1001_1
           replace p9 := eq_true p9
           replace q9 := eq_true q9
           go_wp2
           repeat (go_quiet (fail); try go_wp2)
           go_ret
           exact ⟨by first | rfl | (simp [errW_none, errW_some] <;> rfl) | (simp [*, errW_none, errW_some] <;> rfl), by repeat (first | (with_reducible first | exact HI0.out | apply IsS88.alloc | apply IsS88.drewN | apply IsS88.drew | apply IsS88.set_0 | apply IsS88.set_1) | exact HI0.out), by repeat (first | (with_reducible first | exact HB.out | apply below_alloc | apply pw_below_drewN | apply below_drew1 | refine below_set ?_ (IsS88.ge HI0.out)) | exact HB.out), by repeat (first | (with_reducible first | exact HK.out | apply KeepBut.set_ | apply keep_drewN | apply keep_drew | apply keep_alloc) | exact HK.out)⟩
     · rw [if_neg c3] at H
       exact absurd H (by simp)
   · rw [if_neg c2] at H
     have c2b0 : decide (x1001_1 < (s0_0.size : Int)) = false := decide_eq_false c2
     clear c2
     by_cases c11 : x1001_1 = (s0_0.size : Int)
     · rw [if_pos c11] at H
       have c11b0 : (x1001_1 == (s0_0.size : Int)) = true := beq_iff_eq.mpr c11
       have c11b1 : (x1001_1 != (s0_0.size : Int)) = false := bne_eq_false_iff_eq.mpr c11
       clear c11
       simp only [Option.some.injEq, Prod.mk.injEq] at H
       obtain ⟨rfl, rfl, rfl⟩ := H
       obtain ⟨HGz12, hgz12⟩ := HI0.out
       have hcz12_0 := cellS88_0 HGz12
       have hcz12_1 := cellS88_1 HGz12
       have hfz12_0 := blk_frozen HGz12 0
       have hfz12_1 := blk_frozen HGz12 1
       clear HGz12 hgz12
       go_wp2
       repeat (go_quiet (fail); try go_wp2)
       go_ret
       exact ⟨by first | rfl | (simp [errW_none, errW_some] <;> rfl) | (simp [*, errW_none, errW_some] <;> rfl), by repeat (first | (with_reducible first | exact HI0.out | apply IsS88.alloc | apply IsS88.drewN | apply IsS88.drew | apply IsS88.set_0 | apply IsS88.set_1) | exact HI0.out), by repeat (first | (with_reducible first | exact HB.out | apply below_alloc | apply pw_below_drewN | apply below_drew1 | refine below_set ?_ (IsS88.ge HI0.out)) | exact HB.out), by repeat (first | (with_reducible first | exact HK.out | apply KeepBut.set_ | apply keep_drewN | apply keep_drew | apply keep_alloc) | exact HK.out)⟩
     · rw [if_neg c11] at H
       have c11b0 : (x1001_1 == (s0_0.size : Int)) = false := beq_eq_false_iff_ne.mpr c11
       have c11b1 : (x1001_1 != (s0_0.size : Int)) = true := bne_iff_ne.mpr c11
       by_cases c13 : 0 ≤ x1001_1
       · rw [if_pos c13] at H
         exact absurd H (by simp)
       · rw [if_neg c13] at H
         exact absurd H (by simp)

end Go.Proofs.Ytcbkihhpnndpkaa.PB
set_option linter.unusedVariables false
set_option linter.unusedSimpArgs false
namespace Go.Proofs.Ytcbkihhpnndpkaa.HTake
open Go.RowKit Go.Proofs.YtcbkihhpnndpkaaW.PrintWords Go.Proofs.YtcbkihhpnndpkaaW.PrintLast Go.Proofs.YtcbkihhpnndpkaaW.PrintMore
open Go.Proofs.Ytcbkihhpnndpkaa Go.Proofs.Ytcbkihhpnndpkaa.PB

/-- How a text breaks. -/
abbrev brk (p : Int) : Ending := .panicked [{ v := .iface 84 (.int .i64 p), recovered := false }]

set_option maxHeartbeats 1000000 in
set_option maxRecDepth 100000 in
theorem breaks (g : Nat) (s : ByteArray) (at_ : Int) (w0 w : World) (hI : IsS88 w0 w g s at_) :
 Calls Try.prog 94 #[.pointer (some ⟨g, 0, none⟩)] w fun e w' => e = brk at_ ∧ w' = w := by
 obtain ⟨HG, hg⟩ := hI
 have hc0 := cellS88_0 HG
 have hc1 := cellS88_1 HG
 have hf0 := blk_frozen HG 0
 have hf1 := blk_frozen HG 1
 clear HG hg
 go_enter Try.func94, Try.ntmps94
 go_wp2
 exact ⟨rfl, rfl, rfl⟩

/-- A byte that must come. -/
def takeP (s : ByteArray) (a : Nat) (c : Int) : Bool := decide (a < s.size ∧ bt s a = c)

theorem bt_get (s : ByteArray) (i : Nat) (h : i < s.size) : bt s (i : Int) = ((s[i]'h).toNat : Int) := (bt_at s (i : Int) (by simpa using h)).symm.trans (by simp)

set_option maxHeartbeats 1000000 in
set_option maxRecDepth 100000 in
theorem take_ok (g : Nat) (s : ByteArray) (a : Nat) (c : Int) (w0 w : World) (hI : IsS88 w0 w g s a) (hB : Below w0.heap.size w0 w) (hs : s.size ≤ 1000) (h : takeP s a c = true) :
 Calls Try.prog 93 #[.pointer (some ⟨g, 0, none⟩), .int .u8 c] w fun e w' => e = .returned (.tuple #[]) ∧ IsS88 w0 w' g s ((a : Int) + 1) ∧ Below w0.heap.size w0 w' ∧ KeepBut w w' g none := by
 have HI0 := Aside0.mk hI
 have HB := Aside0.mk hB
 have HK := Aside0.mk (KeepBut.refl w g none)
 obtain ⟨HG, hg⟩ := hI
 have hc0 := cellS88_0 HG
 have hc1 := cellS88_1 HG
 have hf0 := blk_frozen HG 0
 have hf1 := blk_frozen HG 1
 clear HG hg hB
 simp only [takeP, decide_eq_true_eq] at h
 obtain ⟨h1, h2⟩ := h
 have e1 : ((a : Int) == (s.size : Int)) = false := beq_eq_false_iff_ne.mpr (by omega)
 have e2 : ((a : Int) != (s.size : Int)) = true := bne_iff_ne.mpr (by omega)
 have e3 : (((s[a]'h1).toNat : Int) != c) = false := bne_eq_false_iff_eq.mpr (by rw [← bt_get s a h1]; exact h2)
 have p9 : (0 ≤ (a : Int)) = True := eq_true (by omega)
 have q9 : ((a : Int) < (s.size : Int)) = True := eq_true (by omega)
 clear h2
 go_enter Try.func93, Try.ntmps93
 go_wp2
 repeat (go_quiet (fail); try go_wp2)
 first | go_end0 | ((try simp only [Exit.inBlock, Exit.then]); refine bodyPost_ret (results_none rfl _ _ _) rfl ?_)
 exact ⟨rfl, by repeat (first | (with_reducible first | exact HI0.out | apply IsS88.alloc | apply IsS88.drewN | apply IsS88.drew | apply IsS88.set_0 | apply IsS88.set_1) | exact HI0.out), by repeat (first | (with_reducible first | exact HB.out | apply below_alloc | apply pw_below_drewN | apply below_drew1 | refine below_set ?_ (IsS88.ge HI0.out)) | exact HB.out), by repeat (first | (with_reducible first | exact HK.out | apply KeepBut.set_ | apply keep_drewN | apply keep_drew | apply keep_alloc) | exact HK.out)⟩

set_option maxHeartbeats 1000000 in
set_option maxRecDepth 100000 in
theorem take_bad (g : Nat) (s : ByteArray) (a : Nat) (c : Int) (w0 w : World) (hI : IsS88 w0 w g s a) (ha : a ≤ s.size) (h : takeP s a c = false) :
 Calls Try.prog 93 #[.pointer (some ⟨g, 0, none⟩), .int .u8 c] w fun e w' => e = brk a ∧ Drawn0 w w' := by
 have HI := Aside0.mk hI
 obtain ⟨HG, hg⟩ := hI
 have hc0 := cellS88_0 HG
 have hc1 := cellS88_1 HG
 have hf0 := blk_frozen HG 0
 have hf1 := blk_frozen HG 1
 clear HG hg
 simp only [takeP, decide_eq_false_iff_not] at h
 by_cases h1 : a < s.size
 · have h2 : bt s (a : Int) ≠ c := fun e => h ⟨h1, e⟩
   have e1 : ((a : Int) == (s.size : Int)) = false := beq_eq_false_iff_ne.mpr (by omega)
   have e2 : ((a : Int) != (s.size : Int)) = true := bne_iff_ne.mpr (by omega)
   have e3 : (((s[a]'h1).toNat : Int) != c) = true := bne_iff_ne.mpr (by rw [← bt_get s a h1]; exact h2)
   have p9 : (0 ≤ (a : Int)) = True := eq_true (by omega)
   have q9 : ((a : Int) < (s.size : Int)) = True := eq_true (by omega)
   clear h2 h
   go_enter Try.func93, Try.ntmps93
   go_wp2_with fail
   repeat (go_quiet (fail); try go_wp2_with fail)
   refine (breaks g s a w0 _ (IsS88.drewN HI.out _)).mono ?_
   rintro e w1 ⟨rfl, rfl⟩

   go_wp2
   exact ⟨rfl, rfl, _, rfl⟩
 · have e1 : ((a : Int) == (s.size : Int)) = true := beq_iff_eq.mpr (by omega)
   clear h
   go_enter Try.func93, Try.ntmps93
   go_wp2_with fail
   repeat (go_quiet (fail); try go_wp2_with fail)
   refine (breaks g s a w0 _ (IsS88.drewN HI.out _)).mono ?_
   rintro e w1 ⟨rfl, rfl⟩
   go_wp2
   exact ⟨rfl, rfl, _, rfl⟩
end Go.Proofs.Ytcbkihhpnndpkaa.HTake
set_option linter.unusedVariables false
set_option linter.unusedSimpArgs false
namespace Go.Proofs.Ytcbkihhpnndpkaa.HRead
open Go.RowKit Go.Proofs.YtcbkihhpnndpkaaW.PrintWords Go.Proofs.YtcbkihhpnndpkaaW.PrintLast Go.Proofs.YtcbkihhpnndpkaaW.PrintMore
open Go.Proofs.Ytcbkihhpnndpkaa Go.Proofs.Ytcbkihhpnndpkaa.PA Go.Proofs.Ytcbkihhpnndpkaa.PB Go.Proofs.Ytcbkihhpnndpkaa.HTake

theorem w64 {x : Int} (h0 : -9223372036854775808 ≤ x) (h1 : x ≤ 9223372036854775807) : wrap64 x = x := by
 simp [wrap64]
 omega

/-- Behind the blanks. -/
def lkN (s : ByteArray) : Nat → Nat → Nat
 | 0, a => a
 | n + 1, a => if a < s.size ∧ bt s (a : Int) = 32 then lkN s n (a + 1) else a
def lk (s : ByteArray) (a : Nat) : Nat := lkN s (s.size - a) a
/-- The byte at a place; 0: the end. -/
def ch (s : ByteArray) (a : Nat) : Int := if a < s.size then bt s (a : Int) else 0
def pl (c : Int) : Int := Lib.indexByte [120, 121, 122, 116] c.toNat.toUInt8
def begins (c : Int) : Bool := decide (c = 49 ∨ c = 40 ∨ (c ≠ 0 ∧ 0 ≤ pl c))

theorem lkN_le (s : ByteArray) : ∀ n a, a ≤ s.size → a ≤ lkN s n a ∧ lkN s n a ≤ s.size
 | 0, a, h => ⟨Nat.le_refl _, h⟩
 | n + 1, a, h => by
  unfold lkN
  by_cases hc : a < s.size ∧ bt s (a : Int) = 32
  · rw [if_pos hc]
    have := lkN_le s n (a + 1) (by omega)
    omega
  · rw [if_neg hc]
    exact ⟨Nat.le_refl _, h⟩
theorem lk_le (s : ByteArray) (a : Nat) (h : a ≤ s.size) : a ≤ lk s a ∧ lk s a ≤ s.size := lkN_le s _ a h
theorem lk_step (s : ByteArray) (a : Nat) (h : a < s.size) (h2 : bt s (a : Int) = 32) : lk s a = lk s (a + 1) := by
 unfold lk
 obtain ⟨n, hn⟩ : ∃ n, s.size - a = n + 1 := ⟨s.size - a - 1, by omega⟩
 rw [hn, show s.size - (a + 1) = n by omega, lkN, if_pos ⟨h, h2⟩]
theorem lk_here (s : ByteArray) (a : Nat) (h : ¬ (a < s.size ∧ bt s (a : Int) = 32)) : lk s a = a := by
 unfold lk
 cases s.size - a with
 | zero => rfl
 | succ n => rw [lkN, if_neg h]
theorem look_loop (s : ByteArray) (hs : s.size ≤ 1000) : ∀ (n a : Nat), s.size - a ≤ n → a ≤ s.size → Ev (fun k => terms_reader_look.l0 k s (a : Int)) (ch s (lk s a), s, ((lk s a : Nat) : Int)) := by
 intro n
 induction n with
 | zero =>
  intro a h ha
  rw [lk_here s a (by omega)]
  refine Ev.step (f := fun _ => some (0, s, (a : Int))) (fun k => ?_) (by unfold ch; rw [if_neg (by omega)]; exact Ev.now _)
  simp only [terms_reader_look.l0]
  rw [if_neg (by omega), if_pos (by omega)]
 | succ n ih =>
  intro a h ha
  by_cases hl : a < s.size
  · by_cases hb : bt s (a : Int) = 32
    · rw [lk_step s a hl hb]
      refine Ev.step (f := fun k => terms_reader_look.l0 k s ((a + 1 : Nat) : Int)) (fun k => ?_) (ih (a + 1) (by omega) (by omega))
      simp only [terms_reader_look.l0]
      rw [if_pos (by omega), if_pos (by omega), if_pos hb, w64 (by omega) (by omega)]
      rfl
    · rw [lk_here s a (fun h => hb h.2)]
      refine Ev.step (f := fun _ => some (bt s (a : Int), s, (a : Int))) (fun k => ?_) (by unfold ch; rw [if_pos hl]; exact Ev.now _)
      simp only [terms_reader_look.l0]
      rw [if_pos (by omega), if_pos (by omega), if_neg hb, if_neg (by omega)]
  · exact ih a (by omega) ha
theorem look_ok (s : ByteArray) (hs : s.size ≤ 1000) (a : Nat) (ha : a ≤ s.size) : Ev (fun k => terms_reader_look.f k s (a : Int)) (ch s (lk s a), s, ((lk s a : Nat) : Int)) :=
 look_loop s hs s.size a (by omega) ha

/-- A break, at a place; or what was read, and how far. -/
inductive Rd where
 | broke (p : Nat)
 | read (l : List S97) (d : Nat)
def powL (s : ByteArray) : Nat → List S97 → Nat → Option Rd
 | 0, _, _ => none
 | f + 1, l, a => if ch s (lk s a) = 94 then (if takeP s (lk s a + 1) 119 then powL s f (l ++ [⟨4, 0⟩]) (lk s a + 2) else some (.broke (lk s a + 1))) else some (.read l (lk s a))
mutual
def atomP (s : ByteArray) : Nat → Nat → Option Rd
 | 0, _ => none
 | f + 1, a => if ch s (lk s a) = 49 then some (.read [⟨1, 0⟩] (lk s a + 1)) else if ch s (lk s a) = 40 then (match sideP s f (lk s a + 1) with
  | none => none
  | some (.broke p) => some (.broke p)
  | some (.read l d) => if takeP s (lk s d) 41 then some (.read l (lk s d + 1)) else some (.broke (lk s d)))
  else if ch s (lk s a) = 0 ∨ pl (ch s (lk s a)) < 0 then some (.broke (lk s a)) else some (.read [⟨2, ch s (lk s a)⟩] (lk s a + 1))
def powerP (s : ByteArray) : Nat → Nat → Option Rd
 | 0, _ => none
 | f + 1, a => match atomP s f a with
  | none => none
  | some (.broke p) => some (.broke p)
  | some (.read l d) => powL s f l d
def sideP (s : ByteArray) : Nat → Nat → Option Rd
 | 0, _ => none
 | f + 1, a => match powerP s f a with
  | none => none
  | some (.broke p) => some (.broke p)
  | some (.read l d) => sideL s f l d
def sideL (s : ByteArray) : Nat → List S97 → Nat → Option Rd
 | 0, _, _ => none
 | f + 1, l, a => if begins (ch s (lk s a)) then (match powerP s f (lk s a) with
  | none => none
  | some (.broke p) => some (.broke p)
  | some (.read m d) => sideL s f (l ++ m ++ [⟨3, 0⟩]) d)
  else some (.read l (lk s a))
end
end Go.Proofs.Ytcbkihhpnndpkaa.HRead
set_option linter.unusedVariables false
set_option linter.unusedSimpArgs false
namespace Go.Proofs.Ytcbkihhpnndpkaa.HAtom
open Go.RowKit Go.Proofs.YtcbkihhpnndpkaaW.PrintWords Go.Proofs.YtcbkihhpnndpkaaW.PrintLast Go.Proofs.YtcbkihhpnndpkaaW.PrintMore
open Go.Proofs.Ytcbkihhpnndpkaa Go.Proofs.Ytcbkihhpnndpkaa.PA Go.Proofs.Ytcbkihhpnndpkaa.PB Go.Proofs.Ytcbkihhpnndpkaa.HTake Go.Proofs.Ytcbkihhpnndpkaa.HRead

theorem ch_lt {s : ByteArray} {a : Nat} (h : ch s a ≠ 0) : a < s.size := by
 unfold ch at h
 by_cases hl : a < s.size
 · exact hl
 · rw [if_neg hl] at h; exact absurd rfl h
theorem takeP_lt {s : ByteArray} {a : Nat} {c : Int} (h : takeP s a c = true) : a < s.size := by
 simp only [takeP, decide_eq_true_eq] at h
 exact h.1
/-- What is read has its bounds. -/
def Fits (s : ByteArray) (a : Nat) : Rd → Prop
 | .broke p => True
 | .read l d => a < d ∧ d ≤ s.size ∧ l.length + 1 ≤ 2 * (d - a)
theorem powL_fits (s : ByteArray) : ∀ f l a l' d, a ≤ s.size → powL s f l a = some (.read l' d) → a ≤ d ∧ d ≤ s.size ∧ l'.length ≤ l.length + (d - a)
 | 0, _, _, _, _, _, h => by simp [powL] at h
 | f + 1, l, a, l', d, ha, h => by
  have hk := lk_le s a ha
  unfold powL at h
  by_cases hc : ch s (lk s a) = 94
  · rw [if_pos hc] at h
    cases ht : takeP s (lk s a + 1) 119 with
    | true =>
     rw [ht, if_pos rfl] at h
     have hlt := takeP_lt ht
     have := powL_fits s f _ _ l' d (by omega) h
     rw [List.length_append] at this
     simp only [List.length_cons, List.length_nil] at this
     omega
    | false =>
     rw [ht, if_neg (by simp)] at h
     cases h
  · rw [if_neg hc] at h
    cases h
    exact ⟨hk.1, hk.2, by omega⟩

theorem fits (s : ByteArray) : ∀ f, (∀ a r, a ≤ s.size → atomP s f a = some r → Fits s a r) ∧ (∀ a r, a ≤ s.size → powerP s f a = some r → Fits s a r) ∧
 (∀ a r, a ≤ s.size → sideP s f a = some r → Fits s a r) ∧ (∀ a l r, a ≤ s.size → sideL s f l a = some r → ∀ l' d, r = .read l' d → a ≤ d ∧ d ≤ s.size ∧ l'.length ≤ l.length + 2 * (d - a))
 | 0 => ⟨fun a r _ h => by simp [atomP] at h, fun a r _ h => by simp [powerP] at h, fun a r _ h => by simp [sideP] at h, fun a l r _ h => by simp [sideL] at h⟩
 | f + 1 => by
  obtain ⟨i1, i2, i3, i4⟩ := fits s f
  refine ⟨fun a r ha h => ?_, fun a r ha h => ?_, fun a r ha h => ?_, fun a l r ha h => ?_⟩
  · have hk := lk_le s a ha
    unfold atomP at h
    by_cases h1 : ch s (lk s a) = 49
    · rw [if_pos h1] at h
      have := ch_lt (s := s) (a := lk s a) (by omega)
      cases h
      exact ⟨by omega, by omega, by simp; omega⟩
    · rw [if_neg h1] at h
      by_cases h2 : ch s (lk s a) = 40
      · rw [if_pos h2] at h
        have hlt := ch_lt (s := s) (a := lk s a) (by omega)
        cases hs : sideP s f (lk s a + 1) with
        | none => rw [hs] at h; cases h
        | some r' =>
         rw [hs] at h
         have hf := i3 _ _ (by omega) hs
         cases r' with
         | broke p => cases h; exact trivial
         | read l d =>
          simp only at h
          obtain ⟨f1, f2, f3⟩ := hf
          have hk2 := lk_le s d f2
          cases ht : takeP s (lk s d) 41 with
          | true =>
           rw [ht, if_pos rfl] at h
           have := takeP_lt ht
           cases h
           exact ⟨by omega, by omega, by omega⟩
          | false =>
           rw [ht, if_neg (by simp)] at h
           cases h
           exact trivial
      · rw [if_neg h2] at h
        by_cases h3 : ch s (lk s a) = 0 ∨ pl (ch s (lk s a)) < 0
        · rw [if_pos h3] at h
          cases h
          exact trivial
        · rw [if_neg h3] at h
          have hlt := ch_lt (s := s) (a := lk s a) (fun e => h3 (.inl e))
          cases h
          exact ⟨by omega, by omega, by simp; omega⟩
  · unfold powerP at h
    cases hs : atomP s f a with
    | none => rw [hs] at h; cases h
    | some r' =>
     rw [hs] at h
     have hf := i1 _ _ ha hs
     cases r' with
     | broke p => cases h; exact trivial
     | read l d =>
      simp only at h
      obtain ⟨f1, f2, f3⟩ := hf
      cases r with
      | broke p => exact trivial
      | read l' d' =>
       have := powL_fits s f l d l' d' f2 h
       exact ⟨by omega, by omega, by omega⟩
  · unfold sideP at h
    cases hs : powerP s f a with
    | none => rw [hs] at h; cases h
    | some r' =>
     rw [hs] at h
     have hf := i2 _ _ ha hs
     cases r' with
     | broke p => cases h; exact trivial
     | read l d =>
      simp only at h
      obtain ⟨f1, f2, f3⟩ := hf
      cases r with
      | broke p => exact trivial
      | read l' d' =>
       have := i4 d l _ f2 h l' d' rfl
       exact ⟨by omega, by omega, by omega⟩
  · intro l' d' hr
    subst hr
    have hk := lk_le s a ha
    unfold sideL at h
    cases hb : begins (ch s (lk s a)) with
    | false =>
     rw [hb, if_neg (by simp)] at h
     cases h
     exact ⟨hk.1, hk.2, by omega⟩
    | true =>
     rw [hb, if_pos rfl] at h
     cases hs : powerP s f (lk s a) with
     | none => rw [hs] at h; cases h
     | some r' =>
      rw [hs] at h
      have hf := i2 _ _ hk.2 hs
      cases r' with
      | broke p => cases h
      | read m d =>
       simp only at h
       obtain ⟨f1, f2, f3⟩ := hf
       have := i4 d _ _ f2 h l' d' rfl
       simp only [List.length_append, List.length_cons, List.length_nil] at this
       exact ⟨by omega, by omega, by omega⟩

/-- How a rule ends. -/
def Post (g : Nat) (s : ByteArray) (w0 w : World) : Rd → Ending → World → Prop
 | .broke p, e, w' => e = brk p ∧ Below w0.heap.size w0 w'
 | .read l d, e, w' => ∃ v, e = .returned v ∧ Kd.R k97 97 w' w.heap.size (fun _ => True) v l ∧ IsS88 w0 w' g s d ∧ Below w0.heap.size w0 w' ∧ KeepBut w w' g none

theorem look (g : Nat) (s : ByteArray) (hs : s.size ≤ 1000) (a : Nat) (ha : a ≤ s.size) (w0 w : World) (hI : IsS88 w0 w g s a) (hB : Below w0.heap.size w0 w) :
 Calls Try.prog 92 #[.pointer (some ⟨g, 0, none⟩)] w fun e w' => e = .returned (.int .u8 (ch s (lk s a))) ∧ IsS88 w0 w' g s (lk s a : Nat) ∧ Below w0.heap.size w0 w' ∧ KeepBut w w' g none := by
 obtain ⟨K, hK⟩ := look_ok s hs a ha
 exact terms_reader_look.calls K g s a _ _ _ w0 w hI hB (hK K (Nat.le_refl _))

theorem ch_range (s : ByteArray) (a : Nat) : 0 ≤ ch s a ∧ ch s a < 256 := by
 unfold ch
 by_cases h : a < s.size
 · rw [if_pos h]; have := bt_range s (a : Int); omega
 · rw [if_neg h]; omega

/-- A list of one sign, new. -/
theorem one_sign (W : World) (base n : Nat) (hn : n = W.heap.size) (hb : base ≤ n) (x : S97) : Kd.R k97 97 (W.alloc (.cells #[.int .i64 x.f0, .int .u8 x.f1] 97)) base (fun _ => True) (.slice (some ⟨n, 0, none⟩) 1 1) [x] := by
 subst hn
 refine ⟨fun _ _ => trivial, [.int .i64 x.f0, .int .u8 x.f1], ?_, ?_⟩
 · have h2 := World.ownsRow_lit (base := base) (e := 97) (size := 2) W #[.int .i64 x.f0, .int .u8 x.f1] 1 hb (by simp [maxLen]) (by simp)
   exact h2
 · exact Reps.c2 (k97_mkM _ _ _ x) (Reps.none _ _)

set_option maxHeartbeats 2000000 in
set_option maxRecDepth 100000 in
theorem atom_one (g : Nat) (s : ByteArray) (hs : s.size ≤ 1000) (a : Nat) (ha : a ≤ s.size) (w0 w : World) (hI : IsS88 w0 w g s a) (hB : Below w0.heap.size w0 w) (h1 : ch s (lk s a) = 49) :
 Calls Try.prog 145 #[.pointer (some ⟨g, 0, none⟩)] w (Post g s w0 w (.read [⟨1, 0⟩] (lk s a + 1))) := by
 have hlt := ch_lt (s := s) (a := lk s a) (by omega)
 have HI0 := Aside0.mk hI
 have HB := Aside0.mk hB
 clear hI hB
 unfold Post
 go_enter Try.func145, Try.ntmps145
 go_wp2_with fail
 refine (look g s hs a ha w0 w HI0.out HB.out).mono ?_
 rintro e w1 ⟨rfl, hi1, hb1, hk1⟩
 have HI1 := Aside0.mk hi1
 have HB1 := Aside0.mk hb1
 have HK1 := Aside0.mk hk1
 rw [h1]
 obtain ⟨HG, hg⟩ := hi1
 have hc0 := cellS88_0 HG
 have hc1 := cellS88_1 HG
 have hf0 := blk_frozen HG 0
 have hf1 := blk_frozen HG 1
 clear HG hg hb1 hk1
 go_wp2_with fail
 repeat (go_quiet (fail); try go_wp2_with fail)
 go_ret
 exact ⟨_, rfl, one_sign _ _ _ (by first | rfl | simp) HK1.out.1 ⟨1, 0⟩, by rw [show ((lk s a + 1 : Nat) : Int) = ((lk s a : Nat) : Int) + 1 from rfl]; repeat (first | (with_reducible first | exact HI1.out | apply IsS88.alloc | apply IsS88.drewN | apply IsS88.set_1) | exact HI1.out), by repeat (first | (with_reducible first | exact HB1.out | apply below_alloc | apply pw_below_drewN | refine below_set ?_ (IsS88.ge HI1.out)) | exact HB1.out), by repeat (first | (with_reducible first | exact HK1.out | apply KeepBut.set_ | apply keep_drewN | apply keep_alloc) | exact HK1.out)⟩

set_option maxHeartbeats 2000000 in
set_option maxRecDepth 100000 in
theorem atom_var (g : Nat) (s : ByteArray) (hs : s.size ≤ 1000) (a : Nat) (ha : a ≤ s.size) (w0 w : World) (hI : IsS88 w0 w g s a) (hB : Below w0.heap.size w0 w) (h1 : ch s (lk s a) ≠ 49) (h2 : ch s (lk s a) ≠ 40) (h3 : ¬ (ch s (lk s a) = 0 ∨ pl (ch s (lk s a)) < 0)) :
 Calls Try.prog 145 #[.pointer (some ⟨g, 0, none⟩)] w (Post g s w0 w (.read [⟨2, ch s (lk s a)⟩] (lk s a + 1))) := by
 have hlt := ch_lt (s := s) (a := lk s a) (fun e => h3 (.inl e))
 have hr := ch_range s (lk s a)
 have HI0 := Aside0.mk hI
 have HB := Aside0.mk hB
 clear hI hB
 unfold Post
 go_enter Try.func145, Try.ntmps145
 go_wp2_with fail
 refine (look g s hs a ha w0 w HI0.out HB.out).mono ?_
 rintro e w1 ⟨rfl, hi1, hb1, hk1⟩
 have HI1 := Aside0.mk hi1
 have HB1 := Aside0.mk hb1
 have HK1 := Aside0.mk hk1
 generalize hc : ch s (lk s a) = c at *
 have b1 : (c == 49) = false := beq_eq_false_iff_ne.mpr h1
 have b2 : (c == 40) = false := beq_eq_false_iff_ne.mpr h2
 have b3 : (c == 0) = false := beq_eq_false_iff_ne.mpr (fun e => h3 (.inl e))
 have b4 : decide (pl c < 0) = false := decide_eq_false (fun e => h3 (.inr e))
 clear h1 h2 h3
 obtain ⟨HG, hg⟩ := hi1
 have hc0 := cellS88_0 HG
 have hc1 := cellS88_1 HG
 have hf0 := blk_frozen HG 0
 have hf1 := blk_frozen HG 1
 clear HG hg hb1 hk1
 go_wp2_with fail
 refine (strings_IndexByte.calls _ c (pl c) _ rfl).mono ?_
 rintro e w2 ⟨rfl, nd, rfl⟩
 go_wp2_with fail
 repeat (go_quiet (fail); try go_wp2_with fail)
 go_ret
 subst hc
 exact ⟨_, rfl, one_sign _ _ _ (by first | rfl | simp) HK1.out.1 ⟨2, _⟩, by rw [show ((lk s a + 1 : Nat) : Int) = ((lk s a : Nat) : Int) + 1 from rfl]; repeat (first | (with_reducible first | exact HI1.out | apply IsS88.alloc | apply IsS88.drewN | apply IsS88.set_1) | exact HI1.out), by repeat (first | (with_reducible first | exact HB1.out | apply below_alloc | apply pw_below_drewN | refine below_set ?_ (IsS88.ge HI1.out)) | exact HB1.out), by repeat (first | (with_reducible first | exact HK1.out | apply KeepBut.set_ | apply keep_drewN | apply keep_alloc) | exact HK1.out)⟩

set_option maxHeartbeats 2000000 in
set_option maxRecDepth 100000 in
theorem atom_brk (g : Nat) (s : ByteArray) (hs : s.size ≤ 1000) (a : Nat) (ha : a ≤ s.size) (w0 w : World) (hI : IsS88 w0 w g s a) (hB : Below w0.heap.size w0 w) (h1 : ch s (lk s a) ≠ 49) (h2 : ch s (lk s a) ≠ 40) (h3 : ch s (lk s a) = 0 ∨ pl (ch s (lk s a)) < 0) :
 Calls Try.prog 145 #[.pointer (some ⟨g, 0, none⟩)] w (Post g s w0 w (.broke (lk s a))) := by
 have HI0 := Aside0.mk hI
 have HB := Aside0.mk hB
 clear hI hB
 unfold Post
 go_enter Try.func145, Try.ntmps145
 go_wp2_with fail
 refine (look g s hs a ha w0 w HI0.out HB.out).mono ?_
 rintro e w1 ⟨rfl, hi1, hb1, hk1⟩
 have HI1 := Aside0.mk hi1
 have HB1 := Aside0.mk hb1
 have HK1 := Aside0.mk hk1
 generalize hc : ch s (lk s a) = c at *
 have b1 : (c == 49) = false := beq_eq_false_iff_ne.mpr h1
 have b2 : (c == 40) = false := beq_eq_false_iff_ne.mpr h2
 clear h1 h2
 obtain ⟨HG, hg⟩ := hi1
 have hc0 := cellS88_0 HG
 have hc1 := cellS88_1 HG
 have hf0 := blk_frozen HG 0
 have hf1 := blk_frozen HG 1
 clear HG hg hb1 hk1
 by_cases h0 : c = 0
 · have b3 : (c == 0) = true := beq_iff_eq.mpr h0
   clear h3
   go_wp2_with fail
   refine (breaks g s (lk s a : Nat) w0 _ HI1.out).mono ?_
   rintro e w2 ⟨rfl, rfl⟩
   go_wp2_with fail
   exact ⟨rfl, rfl, HB1.out⟩
 · have b3 : (c == 0) = false := beq_eq_false_iff_ne.mpr h0
   have b4 : decide (pl c < 0) = true := decide_eq_true (h3.resolve_left h0)
   clear h3
   go_wp2_with fail
   refine (strings_IndexByte.calls _ c (pl c) _ rfl).mono ?_
   rintro e w2 ⟨rfl, nd, rfl⟩
   go_wp2_with fail
   refine (breaks g s (lk s a : Nat) w0 _ (IsS88.drewN HI1.out _)).mono ?_
   rintro e w2 ⟨rfl, rfl⟩
   go_wp2_with fail
   exact ⟨rfl, rfl, pw_below_drewN HB1.out _⟩

set_option maxHeartbeats 2000000 in
set_option maxRecDepth 100000 in
theorem atom_side (g : Nat) (s : ByteArray) (hs : s.size ≤ 1000) (a : Nat) (ha : a ≤ s.size) (w0 w : World) (hI : IsS88 w0 w g s a) (hB : Below w0.heap.size w0 w) (h2 : ch s (lk s a) = 40) (r : Rd) (hr : Fits s (lk s a + 1) r)
 (hside : ∀ w0 w, IsS88 w0 w g s ((lk s a + 1 : Nat) : Int) → Below w0.heap.size w0 w → Calls Try.prog 91 #[.pointer (some ⟨g, 0, none⟩)] w (Post g s w0 w r)) :
 Calls Try.prog 145 #[.pointer (some ⟨g, 0, none⟩)] w (Post g s w0 w (match r with | .broke p => .broke p | .read l d => if takeP s (lk s d) 41 then .read l (lk s d + 1) else .broke (lk s d))) := by
 have hlt := ch_lt (s := s) (a := lk s a) (by omega)
 have HI0 := Aside0.mk hI
 have HB := Aside0.mk hB
 clear hI hB
 go_enter Try.func145, Try.ntmps145
 go_wp2_with fail
 refine (look g s hs a ha w0 w HI0.out HB.out).mono ?_
 rintro e w1 ⟨rfl, hi1, hb1, hk1⟩
 have HI1 := Aside0.mk hi1
 have HB1 := Aside0.mk hb1
 have HK1 := Aside0.mk hk1
 rw [h2]
 obtain ⟨HG, hg⟩ := hi1
 have hc0 := cellS88_0 HG
 have hc1 := cellS88_1 HG
 have hf0 := blk_frozen HG 0
 have hf1 := blk_frozen HG 1
 clear HG hg hb1 hk1
 go_wp2_with fail
 refine (hside w0 _ (by rw [show ((lk s a + 1 : Nat) : Int) = ((lk s a : Nat) : Int) + 1 from rfl]; repeat (first | (with_reducible first | exact HI1.out | apply IsS88.alloc | apply IsS88.drewN | apply IsS88.set_1) | exact HI1.out)) (by repeat (first | (with_reducible first | exact HB1.out | apply below_alloc | apply pw_below_drewN | refine below_set ?_ (IsS88.ge HI1.out)) | exact HB1.out))).mono ?_
 intro e w2 hp
 cases r with
 | broke p =>
  obtain ⟨rfl, hb2⟩ := hp
  go_wp2_with fail
  exact ⟨rfl, rfl, hb2⟩
 | read l d =>
  obtain ⟨v, rfl, ho2, hi2, hb2, hk2⟩ := hp
  obtain ⟨hr1, hr2, hr3⟩ := hr
  have HO2 := Aside0.mk (IsS88.apart hi2 ho2 (by decide))
  have HI2 := Aside0.mk hi2
  have HB2 := Aside0.mk hb2
  have HK2 := Aside0.mk (KeepBut.trans (KeepBut.set_ HK1.out 1 (.int .i64 ((lk s a : Nat) + 1))) hk2 (.inl rfl))
  have HL := Aside0.mk hk2.1
  clear ho2 hi2 hb2 hk2
  go_wp2_with fail
  refine (look g s hs d hr2 w0 w2 HI2.out HB2.out).mono ?_
  rintro e w3 ⟨rfl, hi3, hb3, hk3⟩
  have HI3 := Aside0.mk hi3
  have HB3 := Aside0.mk hb3
  have HK3 := Aside0.mk (KeepBut.trans HK2.out hk3 (.inl rfl))
  have HO3 := Aside0.mk (Kd.R_keep HO2.out hk3 (fun _ h => h.2))
  have hk := lk_le s d hr2
  clear hi3 hb3 hk3
  go_wp2_with fail
  cases ht : takeP s (lk s d) 41 with
  | true =>
   refine (take_ok g s (lk s d) 41 w0 w3 HI3.out HB3.out hs ht).mono ?_
   rintro e w4 ⟨rfl, hi4, hb4, hk4⟩
   have HO4 := Aside0.mk (Kd.R_keep HO3.out hk4 (fun _ h => h.2))
   have HI4 := Aside0.mk hi4
   have HB4 := Aside0.mk hb4
   have HK4 := Aside0.mk (KeepBut.trans HK3.out hk4 (.inl rfl))
   clear hi4 hb4 hk4
   go_wp2_with fail
   go_ret
   exact ⟨_, rfl, Kd.R_lower (Kd.R_mono HO4.out (fun _ _ => trivial)) (by have := HK1.out.1; simpa using this), HI4.out, HB4.out, HK4.out⟩
  | false =>
   refine (take_bad g s (lk s d) 41 w0 w3 HI3.out hk.2 ht).mono ?_
   rintro e w4 ⟨rfl, nd, rfl⟩
   go_wp2_with fail
   exact ⟨rfl, rfl, pw_below_drewN HB3.out _⟩
end Go.Proofs.Ytcbkihhpnndpkaa.HAtom
set_option linter.unusedVariables false
set_option linter.unusedSimpArgs false
namespace Go.Proofs.Ytcbkihhpnndpkaa.HSide
open Go.RowKit Go.Proofs.YtcbkihhpnndpkaaW.PrintWords Go.Proofs.YtcbkihhpnndpkaaW.PrintLast Go.Proofs.YtcbkihhpnndpkaaW.PrintMore
open Go.Proofs.Ytcbkihhpnndpkaa Go.Proofs.Ytcbkihhpnndpkaa.PA Go.Proofs.Ytcbkihhpnndpkaa.PB Go.Proofs.Ytcbkihhpnndpkaa.HTake Go.Proofs.Ytcbkihhpnndpkaa.HRead Go.Proofs.Ytcbkihhpnndpkaa.HAtom

def AtomC (s : ByteArray) (f : Nat) : Prop := ∀ (a : Nat) (r : Rd), a ≤ s.size → atomP s f a = some r → ∀ (g : Nat) (w0 w : World), IsS88 w0 w g s a → Below w0.heap.size w0 w →
 Calls Try.prog 145 #[.pointer (some ⟨g, 0, none⟩)] w (Post g s w0 w r)
def PowerC (s : ByteArray) (f : Nat) : Prop := ∀ (a : Nat) (r : Rd), a ≤ s.size → powerP s f a = some r → ∀ (g : Nat) (w0 w : World), IsS88 w0 w g s a → Below w0.heap.size w0 w →
 Calls Try.prog 132 #[.pointer (some ⟨g, 0, none⟩)] w (Post g s w0 w r)
def SideC (s : ByteArray) (f : Nat) : Prop := ∀ (a : Nat) (r : Rd), a ≤ s.size → sideP s f a = some r → ∀ (g : Nat) (w0 w : World), IsS88 w0 w g s a → Below w0.heap.size w0 w →
 Calls Try.prog 91 #[.pointer (some ⟨g, 0, none⟩)] w (Post g s w0 w r)

theorem atom_of (s : ByteArray) (hs : s.size ≤ 1000) (f : Nat) (hside : SideC s f) : AtomC s (f + 1) := by
 intro a r ha h g w0 w hI hB
 have hk := lk_le s a ha
 unfold atomP at h
 by_cases h1 : ch s (lk s a) = 49
 · rw [if_pos h1] at h
   obtain rfl := Option.some.inj h
   exact atom_one g s hs a ha w0 w hI hB h1
 · rw [if_neg h1] at h
   by_cases h2 : ch s (lk s a) = 40
   · rw [if_pos h2] at h
     have hlt := ch_lt (s := s) (a := lk s a) (by omega)
     cases hq : sideP s f (lk s a + 1) with
     | none => rw [hq] at h; cases h
     | some r' =>
      rw [hq] at h
      have := atom_side g s hs a ha w0 w hI hB h2 r' ((fits s f).2.2.1 _ _ (by omega) hq) (fun w0 w i b => hside _ _ (by omega) hq g w0 w i b)
      cases r' with
      | broke p =>
       obtain rfl := Option.some.inj h
       exact this
      | read l d =>
       cases ht : takeP s (lk s d) 41 with
       | true =>
        simp only [ht, if_pos] at h this
        obtain rfl := Option.some.inj h
        exact this
       | false =>
        simp only [ht] at h this
        rw [if_neg (by simp)] at h this
        obtain rfl := Option.some.inj h
        exact this
   · rw [if_neg h2] at h
     by_cases h3 : ch s (lk s a) = 0 ∨ pl (ch s (lk s a)) < 0
     · rw [if_pos h3] at h
       obtain rfl := Option.some.inj h
       exact atom_brk g s hs a ha w0 w hI hB h1 h2 h3
     · rw [if_neg h3] at h
       obtain rfl := Option.some.inj h
       exact atom_var g s hs a ha w0 w hI hB h1 h2 h3

set_option maxHeartbeats 2000000 in
set_option maxRecDepth 100000 in
theorem power_of (s : ByteArray) (hs : s.size ≤ 1000) (f : Nat) (hatom : AtomC s f) : PowerC s (f + 1) := by
 intro a r ha h g w0 w hI hB
 unfold powerP at h
 have HI0 := Aside0.mk hI
 have HB := Aside0.mk hB
 clear hI hB
 cases hq : atomP s f a with
 | none => rw [hq] at h; cases h
 | some r' =>
 rw [hq] at h
 have hf := (fits s f).1 a r' ha hq
 go_enter Try.func132, Try.ntmps132
 go_wp2_with fail
 refine (hatom a r' ha hq g w0 w HI0.out HB.out).mono ?_
 intro e w1 hp
 cases r' with
 | broke p =>
  obtain rfl := Option.some.inj h
  obtain ⟨rfl, hb1⟩ := hp
  go_wp2_with fail
  exact ⟨rfl, rfl, hb1⟩
 | read l d =>
 obtain ⟨v, rfl, ho1, hi1, hb1, hk1⟩ := hp
 obtain ⟨hf1, hf2, hf3⟩ := hf
 have HH := Aside0.mk (show powL s f l d = some r from h)
 have HO1 := Aside0.mk (IsS88.apart hi1 ho1 (by decide))
 have HI1 := Aside0.mk hi1
 have HB1 := Aside0.mk hb1
 have HK1 := Aside0.mk hk1
 have HLE := Aside0.mk (show l.length + 1 ≤ 2 * d by omega)
 clear ho1 hi1 hb1 hk1 h hq
 go_wp2_with fail
 go_loopg [3] f (fun kq v3 w' => ∃ (l' : List S97) (d' : Nat), Aside0 (powL s kq l' d' = some r) ∧ Aside0 (kq ≤ f) ∧ Aside0 (d' ≤ s.size ∧ l'.length + 1 ≤ 2 * d') ∧ Aside0 (Kd.R k97 97 w' w.heap.size (fun k => True ∧ k ≠ g) v3 l') ∧ Aside0 (IsS88 w0 w' g s d') ∧ Aside0 (Below w0.heap.size w0 w') ∧ Aside0 (KeepBut w w' g none))
 case atStart => exact ⟨l, d, HH, ⟨Nat.le_refl _⟩, ⟨hf2, HLE.out⟩, HO1, HI1, HB1, HK1⟩
 case round =>
  obtain ⟨l', d', HH', HKf, HL', HO', HI', HB', HK2⟩ := hrel
  have hk := lk_le s d' HL'.out.1
  cases gk with
  | zero => exact absurd HH'.out (by simp [powL])
  | succ k1 =>
   have h := HH'.out
   clear HH' HH
   simp only [powL] at h
   go_wp2_with fail
   refine (HAtom.look g s hs d' HL'.out.1 w0 wr HI'.out HB'.out).mono ?_
   rintro e w2 ⟨rfl, hi2, hb2, hk2⟩
   have HI2 := Aside0.mk hi2
   have HB2 := Aside0.mk hb2
   have HK3 := Aside0.mk (KeepBut.trans HK2.out hk2 (.inl rfl))
   have HO2 := Aside0.mk (Kd.R_keep HO'.out hk2 (fun _ h => h.2))
   by_cases hc : ch s (lk s d') = 94
   · rw [if_pos hc] at h
     have hlt := ch_lt (s := s) (a := lk s d') (by omega)
     rw [hc]
     obtain ⟨HG, hg⟩ := hi2
     have hc0 := cellS88_0 HG
     have hc1 := cellS88_1 HG
     have hf0 := blk_frozen HG 0
     have hf1 := blk_frozen HG 1
     clear HG hg hb2 hk2
     go_wp2_with fail
     have HI3 := Aside0.mk (show IsS88 w0 (w2.setCell ⟨g, 1, none⟩ (.int .i64 ((lk s d' : Nat) + 1))) g s ((lk s d' + 1 : Nat) : Int) from IsS88.set_1 HI2.out _)
     have HB3 := Aside0.mk (below_set HB2.out (IsS88.ge HI2.out) : Below w0.heap.size w0 (w2.setCell ⟨g, 1, none⟩ (.int .i64 ((lk s d' : Nat) + 1))))
     have HK4 := Aside0.mk (KeepBut.set_ HK3.out 1 (.int .i64 ((lk s d' : Nat) + 1)))
     have HKS := Aside0.mk (KeepBut.set_ (KeepBut.refl w2 g none) 1 (.int .i64 ((lk s d' : Nat) + 1)))
     have HO3 := Aside0.mk (Kd.R_keep HO2.out HKS.out (fun _ h => h.2))
     clear hc0 hc1 hf0 hf1
     generalize (w2.setCell ⟨g, 1, none⟩ (.int .i64 ((lk s d' : Nat) + 1))) = w3 at *
     cases ht : takeP s (lk s d' + 1) 119 with
     | true =>
      rw [ht, if_pos rfl] at h
      have hlt2 := takeP_lt ht
      have HN := Aside0.mk h
      clear h
      refine (take_ok g s (lk s d' + 1) 119 w0 w3 HI3.out HB3.out hs ht).mono ?_
      rintro e w4 ⟨rfl, hi4, hb4, hk4⟩
      have HO4 := Aside0.mk (Kd.R_keep HO3.out hk4 (fun _ h => h.2))
      have HI4 := Aside0.mk hi4
      have HB4 := Aside0.mk hb4
      have HK5 := Aside0.mk (KeepBut.trans HK4.out hk4 (.inl rfl))
      clear hi4 hb4 hk4
      go_wp2_with ((with_reducible refine gate_builtin (b := .append) (xs := #[.tmp 18, .tmp 20]) rfl ?_); at_builtin; refine Kd.R_append k97 (w0 := w4) w.heap.size rfl (.tmp 18) (.tmp 20) 22 97 (.agg #[(.int .i64 0), (.int .u8 0)]) 16 rfl Try.underlying22 info97 rfl (by decide) (by omega) u3 l' (⟨4, 0⟩ : S97) [.int .i64 4, .int .u8 0] (fun k => True ∧ k ≠ g) (fun _ => False) rfl rfl (k97_mkM _ _ _ _) (fun _ hk => hk.elim) (fun k hk => ⟨trivial, by have := IsS88.lt HI4.out; omega⟩) HO4.out (Below.refl _ _) HK5.out.1 (by have := HL'.out.2; omega) ?_; intro v5 w5 ho5 hb5 hg5 hat5)
      have HO5 := Aside0.mk ho5
      have HI5 := Aside0.mk (IsS88.grown HI4.out hg5 (IsS88.own_ne HI4.out HO4.out (by decide)))
      have HB5 := Aside0.mk (Below.grown HB4.out hg5 HB4.out.size (fun k hk => by have := Kd.R_base HO4.out k hk; have := HB.out.size; omega))
      have HK6 := Aside0.mk (KeepBut.trans HK5.out (KeepBut.of_grown hg5 g) (by rcases Kd.R_base2 HO4.out with q | q; exact .inl q; exact .inr q))
      clear ho5 hg5 hat5 hb5
      go_roundg k1
      case measure => have := HKf.out; omega
      case rel => exact ⟨l' ++ [⟨4, 0⟩], lk s d' + 2, HN, ⟨by have := HKf.out; omega⟩, ⟨by omega, by have := HL'.out.2; simp; omega⟩, HO5, HI5, HB5, HK6⟩
     | false =>
      rw [ht, if_neg (by simp)] at h
      obtain rfl := Option.some.inj h
      refine (take_bad g s (lk s d' + 1) 119 w0 w3 HI3.out (by omega) ht).mono ?_
      rintro e w4 ⟨rfl, nd, rfl⟩
      go_wp2_with fail
      exact ⟨rfl, rfl, pw_below_drewN HB3.out _⟩
   · rw [if_neg hc] at h
     have b1 : (ch s (lk s d') == 94) = false := beq_eq_false_iff_ne.mpr hc
     clear hi2 hb2 hk2 hc
     obtain rfl := Option.some.inj h
     go_wp2_with fail
     go_ret
     exact ⟨_, rfl, Kd.R_mono HO2.out (fun _ _ => trivial), HI2.out, HB2.out, HK3.out⟩
/-- Side, out of power. -/
theorem begins_t {c : Int} (h : begins c = true) : c = 49 ∨ (c ≠ 49 ∧ c = 40) ∨ (c ≠ 49 ∧ c ≠ 40 ∧ c ≠ 0 ∧ ¬ pl c < 0) := by
 simp only [begins, decide_eq_true_eq] at h
 omega
theorem begins_f {c : Int} (h : begins c = false) : c ≠ 49 ∧ c ≠ 40 ∧ (c = 0 ∨ (c ≠ 0 ∧ pl c < 0)) := by
 simp only [begins, decide_eq_false_iff_not] at h
 omega

set_option maxHeartbeats 4000000 in
set_option maxRecDepth 100000 in
theorem side_of (s : ByteArray) (hs : s.size ≤ 1000) (f : Nat) (hpow : ∀ j, j ≤ f → PowerC s j) : SideC s (f + 1) := by
 intro a r ha h g w0 w hI hB
 unfold sideP at h
 have HI0 := Aside0.mk hI
 have HB := Aside0.mk hB
 clear hI hB
 cases hq : powerP s f a with
 | none => rw [hq] at h; cases h
 | some r' =>
 rw [hq] at h
 have hf := (fits s f).2.1 a r' ha hq
 go_enter Try.func91, Try.ntmps91
 go_wp2_with fail
 refine (hpow f (Nat.le_refl _) a r' ha hq g w0 w HI0.out HB.out).mono ?_
 intro e w1 hp
 cases r' with
 | broke p =>
  obtain rfl := Option.some.inj h
  obtain ⟨rfl, hb1⟩ := hp
  go_wp2_with fail
  exact ⟨rfl, rfl, hb1⟩
 | read l d =>
 obtain ⟨v, rfl, ho1, hi1, hb1, hk1⟩ := hp
 obtain ⟨hf1, hf2, hf3⟩ := hf
 have HH := Aside0.mk (show sideL s f l d = some r from h)
 have HO1 := Aside0.mk (IsS88.apart hi1 ho1 (by decide))
 have HI1 := Aside0.mk hi1
 have HB1 := Aside0.mk hb1
 have HK1 := Aside0.mk hk1
 have HLE := Aside0.mk (show l.length + 1 ≤ 2 * d by omega)
 clear ho1 hi1 hb1 hk1 h hq
 go_wp2_with fail
 go_loopg [3] f (fun kq v3 w' => ∃ (l' : List S97) (d' : Nat), Aside0 (sideL s kq l' d' = some r) ∧ Aside0 (kq ≤ f) ∧ Aside0 (d' ≤ s.size ∧ l'.length + 1 ≤ 2 * d') ∧ Aside0 (Kd.R k97 97 w' w.heap.size (fun k => True ∧ k ≠ g) v3 l') ∧ Aside0 (IsS88 w0 w' g s d') ∧ Aside0 (Below w0.heap.size w0 w') ∧ Aside0 (KeepBut w w' g none))
 case atStart => exact ⟨l, d, HH, ⟨Nat.le_refl _⟩, ⟨hf2, HLE.out⟩, HO1, HI1, HB1, HK1⟩
 case round =>
  obtain ⟨l', d', HH', HKf, HL', HO', HI', HB', HK2⟩ := hrel
  clear hf1 hf2 hf3
  have hk := lk_le s d' HL'.out.1
  cases gk with
  | zero => exact absurd HH'.out (by simp [sideL])
  | succ k1 =>
   have h := HH'.out
   clear HH' HH
   simp only [sideL] at h
   go_wp2_with fail
   refine (HAtom.look g s hs d' HL'.out.1 w0 wr HI'.out HB'.out).mono ?_
   rintro e w2 ⟨rfl, hi2, hb2, hk2⟩
   have HI2 := Aside0.mk hi2
   have HB2 := Aside0.mk hb2
   have HK3 := Aside0.mk (KeepBut.trans HK2.out hk2 (.inl rfl))
   have HO2 := Aside0.mk (Kd.R_keep HO'.out hk2 (fun _ h => h.2))
   clear hi2 hb2 hk2
   cases hbg : begins (ch s (lk s d')) with
   | true =>
    rw [hbg, if_pos rfl] at h
    cases hq : powerP s k1 (lk s d') with
    | none => rw [hq] at h; cases h
    | some r' =>
    rw [hq] at h
    have hf := (fits s k1).2.1 _ r' hk.2 hq
    have hf5 : ∀ m d3, r' = .read m d3 → d3 ≤ s.size ∧ m.length + 1 ≤ 2 * (d3 - lk s d') ∧ lk s d' < d3 := by
     intro m d3 e
     subst e
     exact ⟨hf.2.1, hf.2.2, hf.1⟩
    clear hf
    rcases begins_t hbg with e1 | ⟨e1, e2⟩ | ⟨e1, e2, e3, e4⟩
    · have b1 : (ch s (lk s d') != 49) = false := bne_eq_false_iff_eq.mpr e1
      go_wp2_with fail
      refine (hpow k1 (by have := HKf.out; omega) (lk s d') r' hk.2 hq g w0 w2 HI2.out HB2.out).mono ?_
      intro e w3 hp
      cases r' with
      | broke p =>
       obtain rfl := Option.some.inj h
       obtain ⟨rfl, hb3⟩ := hp
       go_wp2_with fail
       exact ⟨rfl, rfl, hb3⟩
      | read m d3 =>
       obtain ⟨hf2, hf6, hf7⟩ := hf5 m d3 rfl
       have HN := Aside0.mk (show sideL s k1 (l' ++ m ++ [⟨3, 0⟩]) d3 = some r from h)
       clear h
       obtain ⟨v3, rfl, ho3, hi3, hb3, hk3⟩ := hp
       have HO3 := Aside0.mk (Kd.R_keep HO2.out hk3 (fun _ h => h.2))
       have HI3 := Aside0.mk hi3
       have HB3 := Aside0.mk hb3
       have HK4 := Aside0.mk (KeepBut.trans HK3.out hk3 (.inl rfl))
       obtain ⟨A3, c3, rfl⟩ := Kd.R_slice ho3
       have HM3 := Aside0.mk ho3
       clear ho3 hi3 hb3 hk3
       go_wp2_with (first | ((with_reducible refine gate_builtin (b := .append) (xs := #[.tmp 25, .tmp 27]) rfl ?_); at_builtin; refine Kd.R_append_rows k97 (w0 := w3) w.heap.size rfl (.tmp 25) (.tmp 27) 22 97 (.agg #[(.int .i64 0), (.int .u8 0)]) 16 rfl Try.underlying22 info97 rfl (by decide) (by omega) u3 l' m _ _ _ (fun k => True ∧ k ≠ g) (fun _ => False) rfl rfl HO3.out (Kd.R_reads' HM3.out).2.2 (fun _ _ h => h) (fun _ hk => hk.elim) (fun k hk => ⟨trivial, by have := IsS88.lt HI3.out; omega⟩) (Below.refl _ _) HK4.out.1 (by have := HL'.out.2; omega) ?_; intro v5 w5 ho5 hb5 hg5 hat5; have HO5 := Aside0.mk ho5; have HI5 := Aside0.mk (IsS88.grown HI3.out hg5 (IsS88.own_ne HI3.out HO3.out (by decide))); have HB5 := Aside0.mk (Below.grown HB3.out hg5 HB3.out.size (fun k hk => by have := Kd.R_base HO3.out k hk; have := HB.out.size; omega)); have HK6 := Aside0.mk (KeepBut.trans HK4.out (KeepBut.of_grown hg5 g) (by rcases Kd.R_base2 HO3.out with q | q; exact .inl q; exact .inr q)); clear ho5 hg5 hat5 hb5 HM3 HO3 HI3 HB3 HK4) | ((with_reducible refine gate_builtin (b := .append) (xs := #[.tmp 29, .tmp 31]) rfl ?_); at_builtin; refine Kd.R_append k97 (w0 := w5) w.heap.size rfl (.tmp 29) (.tmp 31) 22 97 (.agg #[(.int .i64 0), (.int .u8 0)]) 16 rfl Try.underlying22 info97 rfl (by decide) (by omega) v5 (l' ++ m) (⟨3, 0⟩ : S97) [.int .i64 3, .int .u8 0] (fun k => True ∧ k ≠ g) (fun _ => False) rfl rfl (k97_mkM _ _ _ _) (fun _ hk => hk.elim) (fun k hk => ⟨trivial, by have := IsS88.lt HI5.out; omega⟩) HO5.out (Below.refl _ _) HK6.out.1 (by have := HL'.out.2; rw [List.length_append]; omega) ?_; intro v6 w6 ho6 hb6 hg6 hat6; have HO6 := Aside0.mk ho6; have HI6 := Aside0.mk (IsS88.grown HI5.out hg6 (IsS88.own_ne HI5.out HO5.out (by decide))); have HB6 := Aside0.mk (Below.grown HB5.out hg6 HB5.out.size (fun k hk => by have := Kd.R_base HO5.out k hk; have := HB.out.size; omega)); have HK7 := Aside0.mk (KeepBut.trans HK6.out (KeepBut.of_grown hg6 g) (by rcases Kd.R_base2 HO5.out with q | q; exact .inl q; exact .inr q)); clear ho6 hg6 hat6 hb6))
       go_roundg k1
       case measure => have := HKf.out; omega
       case rel => exact ⟨l' ++ m ++ [⟨3, 0⟩], d3, HN, ⟨by have := HKf.out; omega⟩, ⟨hf2, by have := HL'.out.2; simp; omega⟩, HO6, HI6, HB6, HK7⟩
    · have b1 : (ch s (lk s d') != 49) = true := bne_iff_ne.mpr e1
      have b2 : (ch s (lk s d') != 40) = false := bne_eq_false_iff_eq.mpr e2
      go_wp2_with fail
      refine (hpow k1 (by have := HKf.out; omega) (lk s d') r' hk.2 hq g w0 w2 HI2.out HB2.out).mono ?_
      intro e w3 hp
      cases r' with
      | broke p =>
       obtain rfl := Option.some.inj h
       obtain ⟨rfl, hb3⟩ := hp
       go_wp2_with fail
       exact ⟨rfl, rfl, hb3⟩
      | read m d3 =>
       obtain ⟨hf2, hf6, hf7⟩ := hf5 m d3 rfl
       have HN := Aside0.mk (show sideL s k1 (l' ++ m ++ [⟨3, 0⟩]) d3 = some r from h)
       clear h
       obtain ⟨v3, rfl, ho3, hi3, hb3, hk3⟩ := hp
       have HO3 := Aside0.mk (Kd.R_keep HO2.out hk3 (fun _ h => h.2))
       have HI3 := Aside0.mk hi3
       have HB3 := Aside0.mk hb3
       have HK4 := Aside0.mk (KeepBut.trans HK3.out hk3 (.inl rfl))
       obtain ⟨A3, c3, rfl⟩ := Kd.R_slice ho3
       have HM3 := Aside0.mk ho3
       clear ho3 hi3 hb3 hk3
       go_wp2_with (first | ((with_reducible refine gate_builtin (b := .append) (xs := #[.tmp 25, .tmp 27]) rfl ?_); at_builtin; refine Kd.R_append_rows k97 (w0 := w3) w.heap.size rfl (.tmp 25) (.tmp 27) 22 97 (.agg #[(.int .i64 0), (.int .u8 0)]) 16 rfl Try.underlying22 info97 rfl (by decide) (by omega) u3 l' m _ _ _ (fun k => True ∧ k ≠ g) (fun _ => False) rfl rfl HO3.out (Kd.R_reads' HM3.out).2.2 (fun _ _ h => h) (fun _ hk => hk.elim) (fun k hk => ⟨trivial, by have := IsS88.lt HI3.out; omega⟩) (Below.refl _ _) HK4.out.1 (by have := HL'.out.2; omega) ?_; intro v5 w5 ho5 hb5 hg5 hat5; have HO5 := Aside0.mk ho5; have HI5 := Aside0.mk (IsS88.grown HI3.out hg5 (IsS88.own_ne HI3.out HO3.out (by decide))); have HB5 := Aside0.mk (Below.grown HB3.out hg5 HB3.out.size (fun k hk => by have := Kd.R_base HO3.out k hk; have := HB.out.size; omega)); have HK6 := Aside0.mk (KeepBut.trans HK4.out (KeepBut.of_grown hg5 g) (by rcases Kd.R_base2 HO3.out with q | q; exact .inl q; exact .inr q)); clear ho5 hg5 hat5 hb5 HM3 HO3 HI3 HB3 HK4) | ((with_reducible refine gate_builtin (b := .append) (xs := #[.tmp 29, .tmp 31]) rfl ?_); at_builtin; refine Kd.R_append k97 (w0 := w5) w.heap.size rfl (.tmp 29) (.tmp 31) 22 97 (.agg #[(.int .i64 0), (.int .u8 0)]) 16 rfl Try.underlying22 info97 rfl (by decide) (by omega) v5 (l' ++ m) (⟨3, 0⟩ : S97) [.int .i64 3, .int .u8 0] (fun k => True ∧ k ≠ g) (fun _ => False) rfl rfl (k97_mkM _ _ _ _) (fun _ hk => hk.elim) (fun k hk => ⟨trivial, by have := IsS88.lt HI5.out; omega⟩) HO5.out (Below.refl _ _) HK6.out.1 (by have := HL'.out.2; rw [List.length_append]; omega) ?_; intro v6 w6 ho6 hb6 hg6 hat6; have HO6 := Aside0.mk ho6; have HI6 := Aside0.mk (IsS88.grown HI5.out hg6 (IsS88.own_ne HI5.out HO5.out (by decide))); have HB6 := Aside0.mk (Below.grown HB5.out hg6 HB5.out.size (fun k hk => by have := Kd.R_base HO5.out k hk; have := HB.out.size; omega)); have HK7 := Aside0.mk (KeepBut.trans HK6.out (KeepBut.of_grown hg6 g) (by rcases Kd.R_base2 HO5.out with q | q; exact .inl q; exact .inr q)); clear ho6 hg6 hat6 hb6))
       go_roundg k1
       case measure => have := HKf.out; omega
       case rel => exact ⟨l' ++ m ++ [⟨3, 0⟩], d3, HN, ⟨by have := HKf.out; omega⟩, ⟨hf2, by have := HL'.out.2; simp; omega⟩, HO6, HI6, HB6, HK7⟩
    · have b1 : (ch s (lk s d') != 49) = true := bne_iff_ne.mpr e1
      have b2 : (ch s (lk s d') != 40) = true := bne_iff_ne.mpr e2
      have b3 : (ch s (lk s d') == 0) = false := beq_eq_false_iff_ne.mpr e3
      have b4 : decide (pl (ch s (lk s d')) < 0) = false := decide_eq_false e4
      go_wp2_with fail
      refine (strings_IndexByte.calls _ (ch s (lk s d')) (pl (ch s (lk s d'))) _ rfl).mono ?_
      rintro e wx ⟨rfl, nd, rfl⟩
      replace HI2 := Aside0.mk (IsS88.drewN HI2.out nd)
      replace HB2 := Aside0.mk (pw_below_drewN HB2.out nd)
      replace HK3 := Aside0.mk (keep_drewN HK3.out nd)
      replace HO2 := Aside0.mk (Kd.R_drewN HO2.out nd)
      generalize w2.drewN nd = w2 at *
      go_wp2_with fail
      refine (hpow k1 (by have := HKf.out; omega) (lk s d') r' hk.2 hq g w0 w2 HI2.out HB2.out).mono ?_
      intro e w3 hp
      cases r' with
      | broke p =>
       obtain rfl := Option.some.inj h
       obtain ⟨rfl, hb3⟩ := hp
       go_wp2_with fail
       exact ⟨rfl, rfl, hb3⟩
      | read m d3 =>
       obtain ⟨hf2, hf6, hf7⟩ := hf5 m d3 rfl
       have HN := Aside0.mk (show sideL s k1 (l' ++ m ++ [⟨3, 0⟩]) d3 = some r from h)
       clear h
       obtain ⟨v3, rfl, ho3, hi3, hb3, hk3⟩ := hp
       have HO3 := Aside0.mk (Kd.R_keep HO2.out hk3 (fun _ h => h.2))
       have HI3 := Aside0.mk hi3
       have HB3 := Aside0.mk hb3
       have HK4 := Aside0.mk (KeepBut.trans HK3.out hk3 (.inl rfl))
       obtain ⟨A3, c3, rfl⟩ := Kd.R_slice ho3
       have HM3 := Aside0.mk ho3
       clear ho3 hi3 hb3 hk3
       go_wp2_with (first | ((with_reducible refine gate_builtin (b := .append) (xs := #[.tmp 25, .tmp 27]) rfl ?_); at_builtin; refine Kd.R_append_rows k97 (w0 := w3) w.heap.size rfl (.tmp 25) (.tmp 27) 22 97 (.agg #[(.int .i64 0), (.int .u8 0)]) 16 rfl Try.underlying22 info97 rfl (by decide) (by omega) u3 l' m _ _ _ (fun k => True ∧ k ≠ g) (fun _ => False) rfl rfl HO3.out (Kd.R_reads' HM3.out).2.2 (fun _ _ h => h) (fun _ hk => hk.elim) (fun k hk => ⟨trivial, by have := IsS88.lt HI3.out; omega⟩) (Below.refl _ _) HK4.out.1 (by have := HL'.out.2; omega) ?_; intro v5 w5 ho5 hb5 hg5 hat5; have HO5 := Aside0.mk ho5; have HI5 := Aside0.mk (IsS88.grown HI3.out hg5 (IsS88.own_ne HI3.out HO3.out (by decide))); have HB5 := Aside0.mk (Below.grown HB3.out hg5 HB3.out.size (fun k hk => by have := Kd.R_base HO3.out k hk; have := HB.out.size; omega)); have HK6 := Aside0.mk (KeepBut.trans HK4.out (KeepBut.of_grown hg5 g) (by rcases Kd.R_base2 HO3.out with q | q; exact .inl q; exact .inr q)); clear ho5 hg5 hat5 hb5 HM3 HO3 HI3 HB3 HK4) | ((with_reducible refine gate_builtin (b := .append) (xs := #[.tmp 29, .tmp 31]) rfl ?_); at_builtin; refine Kd.R_append k97 (w0 := w5) w.heap.size rfl (.tmp 29) (.tmp 31) 22 97 (.agg #[(.int .i64 0), (.int .u8 0)]) 16 rfl Try.underlying22 info97 rfl (by decide) (by omega) v5 (l' ++ m) (⟨3, 0⟩ : S97) [.int .i64 3, .int .u8 0] (fun k => True ∧ k ≠ g) (fun _ => False) rfl rfl (k97_mkM _ _ _ _) (fun _ hk => hk.elim) (fun k hk => ⟨trivial, by have := IsS88.lt HI5.out; omega⟩) HO5.out (Below.refl _ _) HK6.out.1 (by have := HL'.out.2; rw [List.length_append]; omega) ?_; intro v6 w6 ho6 hb6 hg6 hat6; have HO6 := Aside0.mk ho6; have HI6 := Aside0.mk (IsS88.grown HI5.out hg6 (IsS88.own_ne HI5.out HO5.out (by decide))); have HB6 := Aside0.mk (Below.grown HB5.out hg6 HB5.out.size (fun k hk => by have := Kd.R_base HO5.out k hk; have := HB.out.size; omega)); have HK7 := Aside0.mk (KeepBut.trans HK6.out (KeepBut.of_grown hg6 g) (by rcases Kd.R_base2 HO5.out with q | q; exact .inl q; exact .inr q)); clear ho6 hg6 hat6 hb6))
       go_roundg k1
       case measure => have := HKf.out; omega
       case rel => exact ⟨l' ++ m ++ [⟨3, 0⟩], d3, HN, ⟨by have := HKf.out; omega⟩, ⟨hf2, by have := HL'.out.2; simp; omega⟩, HO6, HI6, HB6, HK7⟩
   | false =>
    rw [hbg, if_neg (by simp)] at h
    obtain rfl := Option.some.inj h
    obtain ⟨e1, e2, e3⟩ := begins_f hbg
    have b1 : (ch s (lk s d') != 49) = true := bne_iff_ne.mpr e1
    have b2 : (ch s (lk s d') != 40) = true := bne_iff_ne.mpr e2
    rcases e3 with e3 | ⟨e3, e4⟩
    · have b3 : (ch s (lk s d') == 0) = true := beq_iff_eq.mpr e3
      clear e1 e2 e3
      go_wp2_with fail
      go_ret
      exact ⟨_, rfl, Kd.R_mono HO2.out (fun _ _ => trivial), HI2.out, HB2.out, HK3.out⟩
    · have b3 : (ch s (lk s d') == 0) = false := beq_eq_false_iff_ne.mpr e3
      have b4 : decide (pl (ch s (lk s d')) < 0) = true := decide_eq_true e4
      clear e1 e2 e3
      go_wp2_with fail
      refine (strings_IndexByte.calls _ (ch s (lk s d')) (pl (ch s (lk s d'))) _ rfl).mono ?_
      rintro e wx ⟨rfl, nd, rfl⟩
      replace HI2 := Aside0.mk (IsS88.drewN HI2.out nd)
      replace HB2 := Aside0.mk (pw_below_drewN HB2.out nd)
      replace HK3 := Aside0.mk (keep_drewN HK3.out nd)
      replace HO2 := Aside0.mk (Kd.R_drewN HO2.out nd)
      generalize w2.drewN nd = w2 at *
      go_wp2_with fail
      go_ret
      exact ⟨_, rfl, Kd.R_mono HO2.out (fun _ _ => trivial), HI2.out, HB2.out, HK3.out⟩

theorem all (s : ByteArray) (hs : s.size ≤ 1000) : ∀ f, AtomC s f ∧ (∀ j, j ≤ f → PowerC s j) ∧ SideC s f
 | 0 => by
  refine ⟨fun a r _ h => by simp [atomP] at h, fun j hj a r _ h => ?_, fun a r _ h => by simp [sideP] at h⟩
  obtain rfl : j = 0 := by omega
  simp [powerP] at h
 | f + 1 => by
  obtain ⟨i1, i2, i3⟩ := all s hs f
  refine ⟨atom_of s hs f i3, fun j hj => ?_, side_of s hs f i2⟩
  by_cases h : j ≤ f
  · exact i2 j h
  · obtain rfl : j = f + 1 := by omega
    exact power_of s hs f i1
end Go.Proofs.Ytcbkihhpnndpkaa.HSide
set_option linter.unusedVariables false
set_option linter.unusedSimpArgs false
namespace Go.Proofs.Ytcbkihhpnndpkaa.HCatch
open Go.RowKit Go.Proofs.YtcbkihhpnndpkaaW.PrintWords Go.Proofs.YtcbkihhpnndpkaaW.PrintLast Go.Proofs.YtcbkihhpnndpkaaW.PrintMore
open Go.Proofs.Ytcbkihhpnndpkaa Go.Proofs.Ytcbkihhpnndpkaa.PA Go.Proofs.Ytcbkihhpnndpkaa.PB Go.Proofs.Ytcbkihhpnndpkaa.HTake Go.Proofs.Ytcbkihhpnndpkaa.HRead

/-- What the three results' cells are set to. -/
def setAll (w : World) (b1 b2 b3 : Nat) (p : Int) : World :=
 ((((w.setCell ⟨b1, 0, none⟩ (.slice none 0 0)).setCell ⟨b1, 1, none⟩ (.slice none 0 0)).setCell ⟨b1, 2, none⟩ (.bool false)).setCell ⟨b2, 0, none⟩ (.int .i64 p)).setCell ⟨b3, 0, none⟩ (.int .i64 41)

theorem assert_nil (w : World) : (Instr.typeAssert .nilIface 20 84 true).run Try.prog w = .ok (.tuple #[.int .i64 0, .bool false]) w := by kernel_rfl
theorem assert_brk (p : Int) (w : World) : (Instr.typeAssert (.iface 84 (.int .i64 p)) 20 84 true).run Try.prog w = .ok (.tuple #[.int .i64 p, .bool true]) w := by kernel_rfl
theorem rep10 : Array.replicate 10 undef = #[undef, undef, undef, undef, undef, undef, undef, undef, undef, undef] := rfl
set_option maxHeartbeats 2000000 in
set_option maxRecDepth 100000 in
theorem catch_idle (p1 p2 p3 : Value) (w : World) :
 CallsD Try.prog 42 #[p1, p2, p3] .returning w fun e u' w' => e = .returned (.tuple #[]) ∧ u' = .returning ∧ w' = w := by
 refine callsD_of_wpS Try.func42 rfl fun c₀ cs hu => ?_
 apply wpS_seq
 apply wpS_region
 simp [wpOpsS, go_sem, recoverD, hu, Try.ntmps42, Exit.thenS, assert_nil, rep10]
 apply wpS_seq
 apply wpS_region
 simp [wpOpsS, go_sem, Exit.thenS]
 refine wpS_cond (t := false) (by simp [Act.eval]) ?_
 simp only [Bool.false_eq_true, if_false]
 refine wpS_of_wp (wp_skip ?_)
 cases c₀
 simp_all [bodyPostS, results, Try.results42]
set_option maxHeartbeats 2000000 in
set_option maxRecDepth 100000 in
theorem catch_brk (b1 b2 b3 : Nat) (p x y : Int) (v1 v2 v3 : Value) (older : List PanicEntry) (w : World) (h1 : w.heap[b1]? = some (.cells #[v1, v2, v3] 24 (0, 0))) (h2 : w.heap[b2]? = some (.cells #[.int .i64 x] 3 (0, 0))) (h3 : w.heap[b3]? = some (.cells #[.int .i64 y] 25 (0, 0))) :
 CallsD Try.prog 42 #[.pointer (some ⟨b1, 0, none⟩), .pointer (some ⟨b2, 0, none⟩), .pointer (some ⟨b3, 0, none⟩)] (.panicking ({ v := .iface 84 (.int .i64 p), recovered := false } :: older)) w fun e u' w' =>
  e = .returned (.tuple #[]) ∧ u' = .panicking ({ v := .iface 84 (.int .i64 p), recovered := true } :: older) ∧ w' = setAll w b1 b2 b3 p := by
 refine callsD_of_wpS Try.func42 rfl fun c₀ cs hu => ?_
 apply wpS_seq
 apply wpS_region
 simp [wpOpsS, go_sem, recoverD, hu, Try.ntmps42, Exit.thenS, assert_brk, rep10]
 apply wpS_seq
 apply wpS_region
 simp [wpOpsS, go_sem, Exit.thenS]
 refine wpS_cond (t := true) (by simp [Act.eval]) ?_
 simp only [if_true]
 refine wpS_of_wp ?_
 have n12 : b1 ≠ b2 := blk_ne h1 h2 (by decide)
 have n13 : b1 ≠ b3 := blk_ne h1 h3 (by decide)
 have n23 : b2 ≠ b3 := blk_ne h2 h3 (by decide)
 have c10 : w.cell? ⟨b1, 0, none⟩ = some v1 := (blk_cell h1 0).trans rfl
 have c11 : w.cell? ⟨b1, 1, none⟩ = some v2 := (blk_cell h1 1).trans rfl
 have c12 : w.cell? ⟨b1, 2, none⟩ = some v3 := (blk_cell h1 2).trans rfl
 have c20 : w.cell? ⟨b2, 0, none⟩ = some (.int .i64 x) := (blk_cell h2 0).trans rfl
 have c30 : w.cell? ⟨b3, 0, none⟩ = some (.int .i64 y) := (blk_cell h3 0).trans rfl
 have f10 := blk_frozen h1 0
 have f11 := blk_frozen h1 1
 have f12 := blk_frozen h1 2
 have f20 := blk_frozen h2 0
 have f30 := blk_frozen h3 0
 go_wp2
 simp [bodyPostS, results, Try.results42, setAll]
end Go.Proofs.Ytcbkihhpnndpkaa.HCatch
set_option linter.unusedVariables false
set_option linter.unusedSimpArgs false
namespace Go.Proofs.Ytcbkihhpnndpkaa.HParse
open Go.RowKit Go.Proofs.YtcbkihhpnndpkaaW.PrintWords Go.Proofs.YtcbkihhpnndpkaaW.PrintLast Go.Proofs.YtcbkihhpnndpkaaW.PrintMore
open Go.Proofs.Ytcbkihhpnndpkaa Go.Proofs.Ytcbkihhpnndpkaa.PA Go.Proofs.Ytcbkihhpnndpkaa.PB Go.Proofs.Ytcbkihhpnndpkaa.HTake Go.Proofs.Ytcbkihhpnndpkaa.HRead Go.Proofs.Ytcbkihhpnndpkaa.HAtom Go.Proofs.Ytcbkihhpnndpkaa.HCatch

theorem hmf (fn : Fn) (first cap : Array Value) (w : World) : (Instr.makeFunc fn first cap).run Try.prog w = .ok (.func fn first cap) w := rfl

theorem res (tmps : Array Value) (w : World) (b1 b2 b3 : Nat) (v1 v2 v3 : Value) (x y : Int) (p1 : tmps.getD 2 undef = .pointer (some ⟨b1, 0, none⟩)) (p2 : tmps.getD 3 undef = .pointer (some ⟨b2, 0, none⟩)) (p3 : tmps.getD 4 undef = .pointer (some ⟨b3, 0, none⟩))
 (h1 : w.heap[b1]? = some (.cells #[v1, v2, v3] 24 (0, 0))) (h2 : w.heap[b2]? = some (.cells #[.int .i64 x] 3 (0, 0))) (h3 : w.heap[b3]? = some (.cells #[.int .i64 y] 25 (0, 0))) :
 (results Try.f11 tmps).run Try.prog w = .ok (.tuple #[.agg #[v1, v2, v3], .int .i64 x, .int .i64 y]) w := by
 have c2 : w.cell? ⟨b2, 0, none⟩ = some (.int .i64 x) := (blk_cell h2 0).trans rfl
 have c3 : w.cell? ⟨b3, 0, none⟩ = some (.int .i64 y) := (blk_cell h3 0).trans rfl
 have q1 : tmps[2]?.getD undef = .pointer (some ⟨b1, 0, none⟩) := by simpa using p1
 have q2 : tmps[3]?.getD undef = .pointer (some ⟨b2, 0, none⟩) := by simpa using p2
 have q3 : tmps[4]?.getD undef = .pointer (some ⟨b3, 0, none⟩) := by simpa using p3
 have r1 := run_loadVar_row (P := Try.prog) w b1 24 24 #[v1, v2, v3] (0, 0) _ h1 Try.underlying24 rfl (by kernel_rfl)
 have r2 : (loadVar 3 ⟨b2, 0, none⟩).run Try.prog w = .ok (.int .i64 x) w := by simp [go_sem, c2]
 have r3 : (loadVar 25 ⟨b3, 0, none⟩).run Try.prog w = .ok (.int .i64 y) w := by simp [go_sem, c3]
 simp [results, Try.results11, asAddr, q1, q2, q3, r1, r2, r3]

set_option maxHeartbeats 4000000 in
set_option maxRecDepth 100000 in
theorem long (s : ByteArray) (hs : 1000 < s.size) (w : World) :
 Calls Try.prog 11 #[.string s] w fun e w' => e = .returned (.tuple #[.agg #[.slice none 0 0, .slice none 0 0, .bool false], .int .i64 0, .int .i64 40]) ∧ Below w.heap.size w w' := by
 have hm := hmf
 have t1 : decide ((1000 : Int) < (s.size : Int)) = true := decide_eq_true (by omega)
 go_enter_defers Try.func11, Try.ntmps11
 go_wp2
 refine ⟨_, res _ _ w.heap.size (w.heap.size + 1) (w.heap.size + 1 + 1) (.slice none 0 0) (.slice none 0 0) (.bool false) 0 40 rfl rfl rfl ?_ ?_ ?_, rfl, ?_⟩
 · exact blk_alloc (blk_alloc (blk_new w _) _) _
 · have := blk_alloc (blk_new (w.alloc (.cells #[.slice none 0 0, .slice none 0 0, .bool false] 24)) (.cells #[.int .i64 0] 3)) (.cells #[.int .i64 40] 25)
   simpa using this
 · have := blk_new ((w.alloc (.cells #[.slice none 0 0, .slice none 0 0, .bool false] 24)).alloc (.cells #[.int .i64 0] 3)) (.cells #[.int .i64 40] 25)
   simpa using this
 · exact below_alloc (below_alloc (below_alloc (Below.refl _ _) _) _) _
abbrev O24 : Obj := .cells #[.slice none 0 0, .slice none 0 0, .bool false] 24
abbrev O3 (x : Int) : Obj := .cells #[.int .i64 x] 3
abbrev O25 (x : Int) : Obj := .cells #[.int .i64 x] 25
theorem b3a (w : World) : (((w.alloc O24).alloc (O3 0)).alloc (O25 0)).heap[w.heap.size]? = some O24 := blk_alloc (blk_alloc (blk_new w _) _) _
theorem b3b (w : World) : (((w.alloc O24).alloc (O3 0)).alloc (O25 0)).heap[w.heap.size + 1]? = some (O3 0) := by
 have := blk_alloc (blk_new (w.alloc O24) (O3 0)) (O25 0)
 simpa using this
theorem b3c (w : World) : (((w.alloc O24).alloc (O3 0)).alloc (O25 0)).heap[w.heap.size + 1 + 1]? = some (O25 0) := by
 have := blk_new ((w.alloc O24).alloc (O3 0)) (O25 0)
 simpa using this

set_option maxHeartbeats 4000000 in
set_option maxRecDepth 100000 in
theorem broke (s : ByteArray) (hs : s.size ≤ 1000) (p : Nat)
 (hid : ∀ (g : Nat) (w0 w : World), IsS88 w0 w g s ((0 : Nat) : Int) → Below w0.heap.size w0 w → Calls Try.prog 43 #[.pointer (some ⟨g, 0, none⟩)] w fun e w' => e = brk p ∧ Below w0.heap.size w0 w') (w : World) :
 Calls Try.prog 11 #[.string s] w fun e w' => e = .returned (.tuple #[.agg #[.slice none 0 0, .slice none 0 0, .bool false], .int .i64 p, .int .i64 41]) ∧ Below w.heap.size w w' := by
 have hm := hmf
 have t1 : decide ((1000 : Int) < (s.size : Int)) = false := decide_eq_false (by omega)
 go_enter_defers Try.func11, Try.ntmps11
 go_wp2_with fail
 refine (hid (w.heap.size + 1 + 1 + 1) (((w.alloc O24).alloc (O3 0)).alloc (O25 0)) _ (by have := IsS88.new (((w.alloc O24).alloc (O3 0)).alloc (O25 0)) (((w.alloc O24).alloc (O3 0)).alloc (O25 0)) s 0 (Below.refl _ _); simpa using this) (below_alloc (Below.refl _ _) _)).mono ?_
 rintro e w1 ⟨rfl, hb1⟩
 have h1 : w1.heap[w.heap.size]? = some O24 := (hb1.block _ (by simp; omega)).trans (b3a w)
 have h2 : w1.heap[w.heap.size + 1]? = some (O3 0) := (hb1.block _ (by simp)).trans (b3b w)
 have h3 : w1.heap[w.heap.size + 1 + 1]? = some (O25 0) := (hb1.block _ (by simp)).trans (b3c w)
 have HB1 := Aside0.mk hb1
 go_wp2_with fail
 refine leaves_cons (f := 42) (args := #[.pointer (some ⟨w.heap.size, 0, none⟩), .pointer (some ⟨w.heap.size + 1, 0, none⟩), .pointer (some ⟨w.heap.size + 1 + 1, 0, none⟩)]) (by simp) (by simp [go_sem]) ?_
 refine (catch_brk w.heap.size (w.heap.size + 1) (w.heap.size + 1 + 1) p 0 0 _ _ _ [] w1 h1 h2 h3).mono ?_
 rintro e u' w2 ⟨rfl, rfl, rfl⟩
 have n12 : w.heap.size ≠ w.heap.size + 1 := by omega
 have hbw : Below w.heap.size w w1 := below_then (below_alloc (below_alloc (below_alloc (Below.refl _ _) _) _) _) (by simp; omega) hb1
 refine (show ∃ v, (results Try.f11 _).run Try.prog _ = .ok v _ ∧ _ from ⟨_, res _ _ w.heap.size (w.heap.size + 1) (w.heap.size + 1 + 1) (.slice none 0 0) (.slice none 0 0) (.bool false) p 41 rfl rfl rfl ?_ ?_ ?_, rfl, ?_⟩)
 · unfold setAll
   refine blk_far (blk_far ?_ (by (try dsimp only); omega) _) (by (try dsimp only); omega) _
   refine blk_put (cs := #[.slice none 0 0, .slice none 0 0, .bool false]) ?_ 2 _ rfl
   refine blk_put (cs := #[.slice none 0 0, .slice none 0 0, .bool false]) ?_ 1 _ rfl
   refine blk_put (cs := #[.slice none 0 0, .slice none 0 0, .bool false]) ?_ 0 _ rfl
   exact h1
 · unfold setAll
   refine blk_far ?_ (by (try dsimp only); omega) _
   refine blk_put (cs := #[.int .i64 0]) ?_ 0 _ rfl
   exact blk_far (blk_far (blk_far h2 (by (try dsimp only); omega) _) (by (try dsimp only); omega) _) (by (try dsimp only); omega) _
 · unfold setAll
   refine blk_put (cs := #[.int .i64 0]) ?_ 0 _ rfl
   exact blk_far (blk_far (blk_far (blk_far h3 (by (try dsimp only); omega) _) (by (try dsimp only); omega) _) (by (try dsimp only); omega) _) (by (try dsimp only); omega) _
 · unfold setAll
   exact below_set (below_set (below_set (below_set (below_set hbw (by (try dsimp only); omega)) (by (try dsimp only); omega)) (by (try dsimp only); omega)) (by (try dsimp only); omega)) (by (try dsimp only); omega)

/-- What Parse hands back. -/
def Back (w : World) (l m : List S97) (b : Bool) (p err : Int) (e : Ending) (w' : World) : Prop :=
 ∃ v1 v2, e = .returned (.tuple #[.agg #[v1, v2, .bool b], .int .i64 p, .int .i64 err]) ∧ Kd.R k97 97 w' w.heap.size (fun k => some k ≠ v2.ownBlock) v1 l ∧ Kd.R k97 97 w' w.heap.size (fun k => some k ≠ v1.ownBlock) v2 m ∧ Below w.heap.size w w'

theorem set3 {w : World} {n : Nat} {t : TypeId} {a b c : Value} (h : w.heap[n]? = some (.cells #[a, b, c] t (0, 0))) (x y z : Value) : (((w.setCell ⟨n, 0, none⟩ x).setCell ⟨n, 1, none⟩ y).setCell ⟨n, 2, none⟩ z).heap[n]? = some (.cells #[x, y, z] t (0, 0)) :=
 blk_put (cs := #[x, y, c]) (blk_put (cs := #[x, b, c]) (blk_put h 0 x rfl) 1 y rfl) 2 z rfl
theorem set1 {w : World} {n : Nat} {t : TypeId} {a : Value} (h : w.heap[n]? = some (.cells #[a] t (0, 0))) (x : Value) : (w.setCell ⟨n, 0, none⟩ x).heap[n]? = some (.cells #[x] t (0, 0)) := blk_put h 0 x rfl
theorem far3 {w : World} {n k : Nat} {t : TypeId} {cs : Array Value} (h : w.heap[k]? = some (.cells cs t (0, 0))) (hk : k ≠ n) (x y z : Value) : (((w.setCell ⟨n, 0, none⟩ x).setCell ⟨n, 1, none⟩ y).setCell ⟨n, 2, none⟩ z).heap[k]? = some (.cells cs t (0, 0)) :=
 blk_far (blk_far (blk_far h hk x) hk y) hk z
theorem R_set {W : World} {n t base i : Nat} {cs : Array Value} {ok : Nat → Prop} {v : Value} {l : List S97} (h : Kd.R k97 97 W base ok v l) (hb : W.heap[n]? = some (.cells cs t (0, 0))) (ht : ∀ q, q ∈ 97 :: k97.E → q ≠ t) (u : Value) : Kd.R k97 97 (W.setCell ⟨n, i, none⟩ u) base ok v l :=
 Kd.R_mono (Kd.R_far (p := ⟨n, i, none⟩) (Kd.R_types h hb ht) (fun _ hk => hk.2) u) (fun _ hk => hk.1)
theorem R_set3 {W : World} {n base : Nat} {cs : Array Value} {ok : Nat → Prop} {v : Value} {l : List S97} (h : Kd.R k97 97 W base ok v l) (hb : W.heap[n]? = some (.cells cs 24 (0, 0))) (x y z : Value) : Kd.R k97 97 (((W.setCell ⟨n, 0, none⟩ x).setCell ⟨n, 1, none⟩ y).setCell ⟨n, 2, none⟩ z) base ok v l :=
 R_set (R_set (R_set h hb (by decide) x) (blk_set hb 0 x) (by decide) y) (blk_set (blk_set hb 0 x) 1 y) (by decide) z

set_option maxHeartbeats 4000000 in
set_option maxRecDepth 100000 in
theorem big (s : ByteArray) (hs : s.size ≤ 1000) (l m : List S97) (b : Bool) (hbig : 400 < l.length ∨ (l.length ≤ 400 ∧ 400 < m.length))
 (hid : ∀ (g : Nat) (w0 w : World), IsS88 w0 w g s ((0 : Nat) : Int) → Below w0.heap.size w0 w → Calls Try.prog 43 #[.pointer (some ⟨g, 0, none⟩)] w fun e w' => ∃ v1 v2, e = .returned (.agg #[v1, v2, .bool b]) ∧ Kd.R k97 97 w' w.heap.size (fun k => some k ≠ v2.ownBlock) v1 l ∧ Kd.R k97 97 w' w.heap.size (fun k => some k ≠ v1.ownBlock) v2 m ∧ Below w0.heap.size w0 w') (w : World) :
 Calls Try.prog 11 #[.string s] w (Back w [] [] false 0 6) := by
 have hm := hmf
 have t1 : decide ((1000 : Int) < (s.size : Int)) = false := decide_eq_false (by omega)
 unfold Back
 go_enter_defers Try.func11, Try.ntmps11
 go_wp2_with fail
 refine (hid (w.heap.size + 1 + 1 + 1) (((w.alloc O24).alloc (O3 0)).alloc (O25 0)) _ (by have := IsS88.new (((w.alloc O24).alloc (O3 0)).alloc (O25 0)) (((w.alloc O24).alloc (O3 0)).alloc (O25 0)) s 0 (Below.refl _ _); simpa using this) (below_alloc (Below.refl _ _) _)).mono ?_
 rintro e w1 ⟨v1, v2, rfl, ho1, ho2, hb1⟩
 obtain ⟨A1, c1, rfl⟩ := Kd.R_slice ho1
 obtain ⟨A2, c2, rfl⟩ := Kd.R_slice ho2
 have h1 : w1.heap[w.heap.size]? = some O24 := (hb1.block _ (by simp; omega)).trans (b3a w)
 have h2 : w1.heap[w.heap.size + 1]? = some (O3 0) := (hb1.block _ (by simp)).trans (b3b w)
 have h3 : w1.heap[w.heap.size + 1 + 1]? = some (O25 0) := (hb1.block _ (by simp)).trans (b3c w)
 have hbw : Below w.heap.size w w1 := below_then (below_alloc (below_alloc (below_alloc (Below.refl _ _) _) _) _) (by simp; omega) hb1
 have hge : w.heap.size ≤ ((((w.alloc O24).alloc (O3 0)).alloc (O25 0)).alloc (.cells #[.string s, .int .i64 0] 88)).heap.size := by simp; omega
 have HO1 := Aside0.mk (Kd.R_lower ho1 hge)
 have HO2 := Aside0.mk (Kd.R_lower ho2 hge)
 have HB1 := Aside0.mk hbw
 have H1 := Aside0.mk h1
 have H2 := Aside0.mk h2
 have H3 := Aside0.mk h3
 have c10 : w1.cell? ⟨w.heap.size, 0, none⟩ = some (.slice none 0 0) := (blk_cell h1 0).trans rfl
 have c11 : w1.cell? ⟨w.heap.size, 1, none⟩ = some (.slice none 0 0) := (blk_cell h1 1).trans rfl
 have c12 : w1.cell? ⟨w.heap.size, 2, none⟩ = some (.bool false) := (blk_cell h1 2).trans rfl
 have c20 : w1.cell? ⟨w.heap.size + 1, 0, none⟩ = some (.int .i64 0) := (blk_cell h2 0).trans rfl
 have c30 : w1.cell? ⟨w.heap.size + 1 + 1, 0, none⟩ = some (.int .i64 0) := (blk_cell h3 0).trans rfl
 have f10 := blk_frozen h1 0
 have f11 := blk_frozen h1 1
 have f12 := blk_frozen h1 2
 have f20 := blk_frozen h2 0
 have f30 := blk_frozen h3 0
 clear h1 h2 h3 hb1 ho1 ho2 hbw hge
 rcases hbig with hl | ⟨hl, hm2⟩
 · have t2 : decide ((400 : Int) < (l.length : Int)) = true := decide_eq_true (by omega)
   go_wp2_with fail
   refine leaves_cons (f := 42) (args := #[.pointer (some ⟨w.heap.size, 0, none⟩), .pointer (some ⟨w.heap.size + 1, 0, none⟩), .pointer (some ⟨w.heap.size + 1 + 1, 0, none⟩)]) (by simp) (by simp [go_sem]) ?_
   refine (catch_idle _ _ _ _).mono ?_
   rintro e u' w2 ⟨rfl, rfl, rfl⟩
   have k1 := set3 H1.out (.slice A1 l.length c1) (.slice A2 m.length c2) (.bool b)
   have k2 := far3 H2.out (n := w.heap.size) (by omega) (.slice A1 l.length c1) (.slice A2 m.length c2) (.bool b)
   have k3 := far3 H3.out (n := w.heap.size) (by omega) (.slice A1 l.length c1) (.slice A2 m.length c2) (.bool b)
   have j1 := set3 k1 (.slice none 0 0) (.slice none 0 0) (.bool false)
   have j2 := far3 k2 (n := w.heap.size) (by omega) (.slice none 0 0) (.slice none 0 0) (.bool false)
   have j3 := far3 k3 (n := w.heap.size) (by omega) (.slice none 0 0) (.slice none 0 0) (.bool false)
   have i1 := blk_far (p := ⟨w.heap.size + 1 + 1, 0, none⟩) (blk_far (p := ⟨w.heap.size + 1, 0, none⟩) j1 (by (try dsimp only); omega) (.int .i64 0)) (by (try dsimp only); omega) (.int .i64 6)
   have i2 := blk_far (p := ⟨w.heap.size + 1 + 1, 0, none⟩) (set1 j2 (.int .i64 0)) (by (try dsimp only); omega) (.int .i64 6)
   have i3 := set1 (blk_far (p := ⟨w.heap.size + 1, 0, none⟩) j3 (by (try dsimp only); omega) (.int .i64 0)) (.int .i64 6)
   refine (show ∃ v, (results Try.f11 _).run Try.prog _ = .ok v _ ∧ _ from ⟨_, res _ _ w.heap.size (w.heap.size + 1) (w.heap.size + 1 + 1) (.slice none 0 0) (.slice none 0 0) (.bool false) 0 6 rfl rfl rfl i1 i2 i3, _, _, rfl, Kd.R_nil _ _ _ _ _, Kd.R_nil _ _ _ _ _, by
    repeat (first | (with_reducible exact HB1.out) | (refine below_set ?_ (by (try dsimp only); omega)))⟩)
 · have t2 : decide ((400 : Int) < (l.length : Int)) = false := decide_eq_false (by omega)
   have t3 : decide ((400 : Int) < (m.length : Int)) = true := decide_eq_true (by omega)
   go_wp2_with fail
   refine leaves_cons (f := 42) (args := #[.pointer (some ⟨w.heap.size, 0, none⟩), .pointer (some ⟨w.heap.size + 1, 0, none⟩), .pointer (some ⟨w.heap.size + 1 + 1, 0, none⟩)]) (by simp) (by simp [go_sem]) ?_
   refine (catch_idle _ _ _ _).mono ?_
   rintro e u' w2 ⟨rfl, rfl, rfl⟩
   have k1 := set3 H1.out (.slice A1 l.length c1) (.slice A2 m.length c2) (.bool b)
   have k2 := far3 H2.out (n := w.heap.size) (by omega) (.slice A1 l.length c1) (.slice A2 m.length c2) (.bool b)
   have k3 := far3 H3.out (n := w.heap.size) (by omega) (.slice A1 l.length c1) (.slice A2 m.length c2) (.bool b)
   have j1 := set3 k1 (.slice none 0 0) (.slice none 0 0) (.bool false)
   have j2 := far3 k2 (n := w.heap.size) (by omega) (.slice none 0 0) (.slice none 0 0) (.bool false)
   have j3 := far3 k3 (n := w.heap.size) (by omega) (.slice none 0 0) (.slice none 0 0) (.bool false)
   have i1 := blk_far (p := ⟨w.heap.size + 1 + 1, 0, none⟩) (blk_far (p := ⟨w.heap.size + 1, 0, none⟩) j1 (by (try dsimp only); omega) (.int .i64 0)) (by (try dsimp only); omega) (.int .i64 6)
   have i2 := blk_far (p := ⟨w.heap.size + 1 + 1, 0, none⟩) (set1 j2 (.int .i64 0)) (by (try dsimp only); omega) (.int .i64 6)
   have i3 := set1 (blk_far (p := ⟨w.heap.size + 1, 0, none⟩) j3 (by (try dsimp only); omega) (.int .i64 0)) (.int .i64 6)
   refine (show ∃ v, (results Try.f11 _).run Try.prog _ = .ok v _ ∧ _ from ⟨_, res _ _ w.heap.size (w.heap.size + 1) (w.heap.size + 1 + 1) (.slice none 0 0) (.slice none 0 0) (.bool false) 0 6 rfl rfl rfl i1 i2 i3, _, _, rfl, Kd.R_nil _ _ _ _ _, Kd.R_nil _ _ _ _ _, by
    repeat (first | (with_reducible exact HB1.out) | (refine below_set ?_ (by (try dsimp only); omega)))⟩)

set_option maxHeartbeats 4000000 in
set_option maxRecDepth 100000 in
theorem fine (s : ByteArray) (hs : s.size ≤ 1000) (l m : List S97) (b : Bool) (hl : l.length ≤ 400) (hm2 : m.length ≤ 400)
 (hid : ∀ (g : Nat) (w0 w : World), IsS88 w0 w g s ((0 : Nat) : Int) → Below w0.heap.size w0 w → Calls Try.prog 43 #[.pointer (some ⟨g, 0, none⟩)] w fun e w' => ∃ v1 v2, e = .returned (.agg #[v1, v2, .bool b]) ∧ Kd.R k97 97 w' w.heap.size (fun k => some k ≠ v2.ownBlock) v1 l ∧ Kd.R k97 97 w' w.heap.size (fun k => some k ≠ v1.ownBlock) v2 m ∧ Below w0.heap.size w0 w') (w : World) :
 Calls Try.prog 11 #[.string s] w (Back w l m b 0 0) := by
 have hm := hmf
 have t1 : decide ((1000 : Int) < (s.size : Int)) = false := decide_eq_false (by omega)
 unfold Back
 go_enter_defers Try.func11, Try.ntmps11
 go_wp2_with fail
 refine (hid (w.heap.size + 1 + 1 + 1) (((w.alloc O24).alloc (O3 0)).alloc (O25 0)) _ (by have := IsS88.new (((w.alloc O24).alloc (O3 0)).alloc (O25 0)) (((w.alloc O24).alloc (O3 0)).alloc (O25 0)) s 0 (Below.refl _ _); simpa using this) (below_alloc (Below.refl _ _) _)).mono ?_
 rintro e w1 ⟨v1, v2, rfl, ho1, ho2, hb1⟩
 obtain ⟨A1, c1, rfl⟩ := Kd.R_slice ho1
 obtain ⟨A2, c2, rfl⟩ := Kd.R_slice ho2
 have h1 : w1.heap[w.heap.size]? = some O24 := (hb1.block _ (by simp; omega)).trans (b3a w)
 have h2 : w1.heap[w.heap.size + 1]? = some (O3 0) := (hb1.block _ (by simp)).trans (b3b w)
 have h3 : w1.heap[w.heap.size + 1 + 1]? = some (O25 0) := (hb1.block _ (by simp)).trans (b3c w)
 have hbw : Below w.heap.size w w1 := below_then (below_alloc (below_alloc (below_alloc (Below.refl _ _) _) _) _) (by simp; omega) hb1
 have hge : w.heap.size ≤ ((((w.alloc O24).alloc (O3 0)).alloc (O25 0)).alloc (.cells #[.string s, .int .i64 0] 88)).heap.size := by simp; omega
 have HO1 := Aside0.mk (Kd.R_lower ho1 hge)
 have HO2 := Aside0.mk (Kd.R_lower ho2 hge)
 have HB1 := Aside0.mk hbw
 have H1 := Aside0.mk h1
 have H2 := Aside0.mk h2
 have H3 := Aside0.mk h3
 have c10 : w1.cell? ⟨w.heap.size, 0, none⟩ = some (.slice none 0 0) := (blk_cell h1 0).trans rfl
 have c11 : w1.cell? ⟨w.heap.size, 1, none⟩ = some (.slice none 0 0) := (blk_cell h1 1).trans rfl
 have c12 : w1.cell? ⟨w.heap.size, 2, none⟩ = some (.bool false) := (blk_cell h1 2).trans rfl
 have c20 : w1.cell? ⟨w.heap.size + 1, 0, none⟩ = some (.int .i64 0) := (blk_cell h2 0).trans rfl
 have c30 : w1.cell? ⟨w.heap.size + 1 + 1, 0, none⟩ = some (.int .i64 0) := (blk_cell h3 0).trans rfl
 have f10 := blk_frozen h1 0
 have f11 := blk_frozen h1 1
 have f12 := blk_frozen h1 2
 have f20 := blk_frozen h2 0
 have f30 := blk_frozen h3 0
 clear h1 h2 h3 hb1 ho1 ho2 hbw hge
 have t2 : decide ((400 : Int) < (l.length : Int)) = false := decide_eq_false (by omega)
 have t3 : decide ((400 : Int) < (m.length : Int)) = false := decide_eq_false (by omega)
 go_wp2_with fail
 refine leaves_cons (f := 42) (args := #[.pointer (some ⟨w.heap.size, 0, none⟩), .pointer (some ⟨w.heap.size + 1, 0, none⟩), .pointer (some ⟨w.heap.size + 1 + 1, 0, none⟩)]) (by simp) (by simp [go_sem]) ?_
 refine (catch_idle _ _ _ _).mono ?_
 rintro e u' w2 ⟨rfl, rfl, rfl⟩
 have k1 := set3 H1.out (.slice A1 l.length c1) (.slice A2 m.length c2) (.bool b)
 have k2 := far3 H2.out (n := w.heap.size) (by omega) (.slice A1 l.length c1) (.slice A2 m.length c2) (.bool b)
 have k3 := far3 H3.out (n := w.heap.size) (by omega) (.slice A1 l.length c1) (.slice A2 m.length c2) (.bool b)
 have j1 := set3 k1 (.slice A1 l.length c1) (.slice A2 m.length c2) (.bool b)
 have j2 := far3 k2 (n := w.heap.size) (by omega) (.slice A1 l.length c1) (.slice A2 m.length c2) (.bool b)
 have j3 := far3 k3 (n := w.heap.size) (by omega) (.slice A1 l.length c1) (.slice A2 m.length c2) (.bool b)
 have i1 := blk_far (p := ⟨w.heap.size + 1 + 1, 0, none⟩) (blk_far (p := ⟨w.heap.size + 1, 0, none⟩) j1 (by (try dsimp only); omega) (.int .i64 0)) (by (try dsimp only); omega) (.int .i64 0)
 have i2 := blk_far (p := ⟨w.heap.size + 1 + 1, 0, none⟩) (set1 j2 (.int .i64 0)) (by (try dsimp only); omega) (.int .i64 0)
 have i3 := set1 (blk_far (p := ⟨w.heap.size + 1, 0, none⟩) j3 (by (try dsimp only); omega) (.int .i64 0)) (.int .i64 0)
 refine (show ∃ v, (results Try.f11 _).run Try.prog _ = .ok v _ ∧ _ from ⟨_, res _ _ w.heap.size (w.heap.size + 1) (w.heap.size + 1 + 1) (.slice A1 l.length c1) (.slice A2 m.length c2) (.bool b) 0 0 rfl rfl rfl i1 i2 i3, _, _, rfl, R_set (R_set (R_set3 (R_set3 HO1.out H1.out _ _ _) k1 _ _ _) j2 (by decide) _) (blk_far (p := ⟨w.heap.size + 1, 0, none⟩) j3 (by (try dsimp only); omega) _) (by decide) _, R_set (R_set (R_set3 (R_set3 HO2.out H1.out _ _ _) k1 _ _ _) j2 (by decide) _) (blk_far (p := ⟨w.heap.size + 1, 0, none⟩) j3 (by (try dsimp only); omega) _) (by decide) _, by
  repeat (first | (with_reducible exact HB1.out) | (refine below_set ?_ (by (try dsimp only); omega)))⟩)
end Go.Proofs.Ytcbkihhpnndpkaa.HParse
