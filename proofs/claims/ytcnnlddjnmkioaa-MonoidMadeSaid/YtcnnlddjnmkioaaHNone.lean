/- A nil monoid, and one that nobody made: its methods. -/
import Derived.Test.YtcnnlddjnmkioaaHTrans
import Derived.Outline
import Derived.WalkMore
set_option linter.unusedVariables false
set_option linter.unusedSimpArgs false
namespace Go.Proofs.Ytcnnlddjnmkioaa.HNone
open Go Go.RowKit Go.Proofs.Ytcnnlddjnmkioaa.HArr Go.Proofs.Ytcnnlddjnmkioaa.HPack Go.Proofs.Ytcnnlddjnmkioaa.HTrans Go.Proofs.YtcnnlddjnmkioaaW.PrintWords Go.Proofs.YtcnnlddjnmkioaaW.PrintLast Go.Proofs.YtcnnlddjnmkioaaW.PrintMore

abbrev cM : Array Value := #[.int .i64 0, .slice none 0 0, .slice none 0 0, .bool false, .slice none 0 0, .slice none 0 0, .slice none 0 0, .slice none 0 0]
/-- A monoid that is none. -/
def Nil (w : World) (v : Value) : Prop := v = .pointer none ∨ ∃ g, v = .pointer (some ⟨g, 0, none⟩) ∧ w.heap[g]? = some (.cells cM 84 (0, 0))
theorem Nil.below {w w' : World} {v : Value} (h : Nil w v) (hb : Below w.heap.size w w') : Nil w' v := by
  rcases h with h | ⟨g, h1, h2⟩
  · exact .inl h
  · exact .inr ⟨g, h1, blk_below h2 hb⟩
set_option maxHeartbeats 1000000 in
set_option maxRecDepth 100000 in
theorem none_ (v : Value) (w : World) (h : Nil w v) : Calls Try.prog 52 #[v] w fun e w' => e = .returned (.bool true) ∧ w' = w := by
  rcases h with rfl | ⟨g, rfl, hg⟩
  · go_enter Try.func52, Try.ntmps52
    go_wp2_with fail
    go_ret
    exact ⟨rfl, rfl⟩
  · have hc : w.cell? ⟨g, 3, none⟩ = some (.bool false) := (blk_cell hg 3).trans rfl
    clear hg
    go_enter Try.func52, Try.ntmps52
    go_wp2_with fail
    go_ret
    exact ⟨rfl, rfl⟩
set_option maxHeartbeats 1000000 in
set_option maxRecDepth 100000 in
theorem check_ (v : Value) (A : Option Addr) (n c : Nat) (w : World) (h : Nil w v) : Calls Try.prog 53 #[v, .slice A n c] w fun e w' => e = .returned (.int .i64 1) ∧ w' = w := by
  have H := Aside0.mk h
  clear h
  go_enter Try.func53, Try.ntmps53
  go_wp2_with (go_at_call 52; refine (none_ v w H.out).mono ?_; rintro e w1 ⟨rfl, hw1⟩; obtain rfl : w = w1 := hw1.symm)
  go_ret
  exact ⟨rfl, rfl⟩
theorem nil_at {w W : World} {v : Value} (h : Nil w v) (hb : Below w.heap.size w W) : Nil W v := h.below hb
theorem step_at {w W W2 : World} (hb : Below w.heap.size w W) (h : Below W.heap.size W W2) : Below w.heap.size w W2 := below_then hb hb.size h
theorem num_ (i : Int) (w : World) : Calls Try.prog 18 #[.int .i64 i] w fun e w' => e = .returned (.int .i64 i) ∧ w' = w := by
  go_enter Try.func18, Try.ntmps18
  go_wp2_with fail
  go_ret
  exact ⟨rfl, rfl⟩
set_option maxHeartbeats 1000000 in
set_option maxRecDepth 100000 in
theorem len0_ (v : Value) (w : World) (h : Nil w v) : Calls Try.prog 15 #[v] w fun e w' => e = .returned (.int .i64 0) ∧ w' = w := by
  have H := Aside0.mk h
  clear h
  go_enter Try.func15, Try.ntmps15
  go_wp2_with (go_at_call 52; refine (none_ v _ (H.out.below (by repeat (first | exact Below.refl _ _ | apply below_alloc)))).mono ?_; rintro e w1 ⟨rfl, hw1⟩; subst hw1)
  go_ret
  exact ⟨rfl, rfl⟩
set_option maxHeartbeats 1000000 in
set_option maxRecDepth 100000 in
theorem letters0_ (v : Value) (w : World) (h : Nil w v) : Calls Try.prog 39 #[v] w fun e w' => e = .returned (.int .i64 0) ∧ w' = w := by
  have H := Aside0.mk h
  clear h
  go_enter Try.func39, Try.ntmps39
  go_wp2_with (go_at_call 52; refine (none_ v _ (H.out.below (by repeat (first | exact Below.refl _ _ | apply below_alloc)))).mono ?_; rintro e w1 ⟨rfl, hw1⟩; subst hw1)
  go_ret
  exact ⟨rfl, rfl⟩
set_option maxHeartbeats 1000000 in
set_option maxRecDepth 100000 in
theorem word_ (v : Value) (i : Int) (w : World) (h : Nil w v) : Calls Try.prog 16 #[v, .int .i64 i] w fun e w' => e = .returned (.tuple #[.string ⟨#[]⟩, .int .i64 1]) ∧ Below w.heap.size w w' := by
  have H := Aside0.mk h
  clear h
  go_enter Try.func16, Try.ntmps16
  go_wp2_with (go_at_call 53; refine (check_ v _ _ _ _ (H.out.below (by repeat (first | exact Below.refl _ _ | apply below_alloc)))).mono ?_; rintro e w1 ⟨rfl, hw1⟩; subst hw1)
  go_ret2
  exact ⟨rfl, by repeat (first | exact Below.refl _ _ | apply below_alloc | apply below_drew | apply pw_below_drewN)⟩
set_option maxHeartbeats 1000000 in
set_option maxRecDepth 100000 in
theorem elem_ (v : Value) (s : ByteArray) (w : World) (h : Nil w v) : Calls Try.prog 17 #[v, .string s] w fun e w' => e = .returned (.tuple #[.int .i64 0, .int .i64 1]) ∧ Below w.heap.size w w' := by
  have H := Aside0.mk h
  clear h
  go_enter Try.func17, Try.ntmps17
  go_wp2_with (go_at_call 53; refine (check_ v _ _ _ _ (H.out.below (by repeat (first | exact Below.refl _ _ | apply below_alloc)))).mono ?_; rintro e w1 ⟨rfl, hw1⟩; subst hw1)
  go_ret2
  exact ⟨rfl, by repeat (first | exact Below.refl _ _ | apply below_alloc | apply below_drew | apply pw_below_drewN)⟩
set_option maxHeartbeats 1000000 in
set_option maxRecDepth 100000 in
theorem accept_ (v : Value) (i : Int) (w : World) (h : Nil w v) : Calls Try.prog 31 #[v, .int .i64 i] w fun e w' => e = .returned (.tuple #[.bool false, .int .i64 1]) ∧ Below w.heap.size w w' := by
  have H := Aside0.mk h
  clear h
  go_enter Try.func31, Try.ntmps31
  go_wp2_with (go_at_call 53; refine (check_ v _ _ _ _ (H.out.below (by repeat (first | exact Below.refl _ _ | apply below_alloc)))).mono ?_; rintro e w1 ⟨rfl, hw1⟩; subst hw1)
  go_ret2
  exact ⟨rfl, by repeat (first | exact Below.refl _ _ | apply below_alloc | apply below_drew | apply pw_below_drewN)⟩
set_option maxHeartbeats 1000000 in
set_option maxRecDepth 100000 in
theorem prod_ (v : Value) (i j : Int) (w : World) (h : Nil w v) : Calls Try.prog 20 #[v, .int .i64 i, .int .i64 j] w fun e w' => e = .returned (.tuple #[.int .i64 0, .int .i64 1]) ∧ Below w.heap.size w w' := by
  have H := Aside0.mk h
  clear h
  go_enter Try.func20, Try.ntmps20
  go_wp2_with (go_at_call 53; refine (check_ v _ _ _ _ (H.out.below (by repeat (first | exact Below.refl _ _ | apply below_alloc)))).mono ?_; rintro e w1 ⟨rfl, hw1⟩; subst hw1)
  go_ret2
  exact ⟨rfl, by repeat (first | exact Below.refl _ _ | apply below_alloc | apply below_drew | apply pw_below_drewN)⟩
set_option maxHeartbeats 1000000 in
set_option maxRecDepth 100000 in
theorem power_ (v : Value) (i n : Int) (w : World) (h : Nil w v) : Calls Try.prog 36 #[v, .int .i64 i, .int .u64 n] w fun e w' => e = .returned (.tuple #[.int .i64 0, .int .i64 1]) ∧ Below w.heap.size w w' := by
  have H := Aside0.mk h
  clear h
  go_enter Try.func36, Try.ntmps36
  go_wp2_with (go_at_call 53; refine (check_ v _ _ _ _ (H.out.below (by repeat (first | exact Below.refl _ _ | apply below_alloc)))).mono ?_; rintro e w1 ⟨rfl, hw1⟩; subst hw1)
  go_ret2
  exact ⟨rfl, by repeat (first | exact Below.refl _ _ | apply below_alloc | apply below_drew | apply pw_below_drewN)⟩
set_option maxHeartbeats 1000000 in
set_option maxRecDepth 100000 in
theorem zero_ (v : Value) (w : World) (h : Nil w v) : Calls Try.prog 34 #[v] w fun e w' => e = .returned (.tuple #[.int .i64 0, .bool false]) ∧ Below w.heap.size w w' := by
  have H := Aside0.mk h
  clear h
  go_enter Try.func34, Try.ntmps34
  go_wp2_with fail
  go_step3
  go_wp2_with (go_at_call 52; refine (none_ v _ (H.out.below (by repeat (first | exact Below.refl _ _ | apply below_alloc)))).mono ?_; rintro e w1 ⟨rfl, hw1⟩; subst hw1)
  rw [Exit.noGoto_ret]
  go_ret2
  exact ⟨rfl, by repeat (first | exact Below.refl _ _ | apply below_alloc | apply below_drew | apply pw_below_drewN)⟩
set_option maxHeartbeats 1000000 in
set_option maxRecDepth 100000 in
theorem beside_ (v : Value) (i l : Int) (f : Value) (w : World) (h : Nil w v) : Calls Try.prog 57 #[v, .int .i64 i, .int .u8 l, f] w fun e w' => e = .returned (.tuple #[.int .i64 0, .int .i64 1]) ∧ Below w.heap.size w w' := by
  have H := Aside0.mk h
  clear h
  go_enter Try.func57, Try.ntmps57
  go_wp2_with (go_at_call 53; refine (check_ v _ _ _ _ (H.out.below (by repeat (first | exact Below.refl _ _ | apply below_alloc)))).mono ?_; rintro e w1 ⟨rfl, hw1⟩; subst hw1)
  go_ret2
  exact ⟨rfl, by repeat (first | exact Below.refl _ _ | apply below_alloc | apply below_drew | apply pw_below_drewN)⟩
set_option maxHeartbeats 1000000 in
set_option maxRecDepth 100000 in
theorem right_ (v : Value) (i l : Int) (w : World) (h : Nil w v) : Calls Try.prog 21 #[v, .int .i64 i, .int .u8 l] w fun e w' => e = .returned (.tuple #[.int .i64 0, .int .i64 1]) ∧ Below w.heap.size w w' := by
  have H := Aside0.mk h
  clear h
  go_enter Try.func21, Try.ntmps21
  go_wp2_with (go_at_call 57; refine (beside_ v i l _ w H.out).mono ?_; rintro e w1 ⟨rfl, hb1⟩)
  go_ret2
  exact ⟨rfl, hb1⟩
set_option maxHeartbeats 1000000 in
set_option maxRecDepth 100000 in
theorem left_ (v : Value) (i l : Int) (w : World) (h : Nil w v) : Calls Try.prog 22 #[v, .int .i64 i, .int .u8 l] w fun e w' => e = .returned (.tuple #[.int .i64 0, .int .i64 1]) ∧ Below w.heap.size w w' := by
  have H := Aside0.mk h
  clear h
  go_enter Try.func22, Try.ntmps22
  go_wp2_with (go_at_call 57; refine (beside_ v i l _ w H.out).mono ?_; rintro e w1 ⟨rfl, hb1⟩)
  go_ret2
  exact ⟨rfl, hb1⟩
set_option maxHeartbeats 1000000 in
set_option maxRecDepth 100000 in
theorem rules_ (v : Value) (w : World) (h : Nil w v) : Calls Try.prog 24 #[v] w fun e w' => e = .returned (.tuple #[.slice none 0 0, .slice none 0 0]) ∧ Below w.heap.size w w' := by
  have H := Aside0.mk h
  rcases h with rfl | ⟨g, rfl, hg⟩
  all_goals
    try clear hg
    go_enter Try.func24, Try.ntmps24
    go_wp2_with (go_at_call 52; refine (none_ _ _ (H.out.below (by repeat (first | exact Below.refl _ _ | apply below_alloc)))).mono ?_; rintro e w1 ⟨rfl, hw1⟩; subst hw1)
    go_ret2
    exact ⟨rfl, by repeat (first | exact Below.refl _ _ | apply below_alloc | apply below_drew | apply pw_below_drewN)⟩
set_option maxHeartbeats 1000000 in
set_option maxRecDepth 100000 in
theorem trans_ (v : Value) (i : Int) (w : World) (h : Nil w v) : Calls Try.prog 29 #[v, .int .i64 i] w fun e w' => e = .returned (.tuple #[.agg z8, .int .i64 1]) ∧ Below w.heap.size w w' := by
  have H := Aside0.mk h
  clear h
  have X0 := Aside0.mk (blk_alloc (blk_new w (.cells z8 57)) (.cells #[.int .i64 i] 3))
  go_enter Try.func29, Try.ntmps29
  go_wp2_with (first
    | (go_at_call 53; refine (check_ v _ _ _ _ (H.out.below (by repeat (first | exact Below.refl _ _ | apply below_alloc)))).mono ?_; rintro e w1 ⟨rfl, hw1⟩; subst hw1)
    | (refine storeT_arm rfl _ _ rfl w.heap.size z8 rfl rfl z8 rfl rfl (by decide) X0.out ?_))
  refine bodyPost_ret (results_list (rs := [.cell 4 57, .tmp 5]) rfl (by simp) (.cell w.heap.size 57 z8 (0, 0) _ rfl X0.out Try.underlying57 rfl (by kernel_rfl) (.tmp .nil))) rfl ?_
  exact ⟨rfl, by repeat (first | exact Below.refl _ _ | apply below_alloc | apply below_drew | apply pw_below_drewN)⟩
set_option maxHeartbeats 1000000 in
set_option maxRecDepth 100000 in
theorem auto_ (v : Value) (w : World) (h : Nil w v) : Calls Try.prog 41 #[v] w fun e w' => e = .returned (.agg #[.int .i64 0, .slice none 0 0, .slice none 0 0]) ∧ Below w.heap.size w w' := by
  have H := Aside0.mk h
  clear h
  have X0 := Aside0.mk (blk_new w (.cells #[.int .i64 0, .slice none 0 0, .slice none 0 0] 25))
  go_enter Try.func41, Try.ntmps41
  go_wp2_with (go_at_call 52; refine (none_ _ _ (H.out.below (by repeat (first | exact Below.refl _ _ | apply below_alloc)))).mono ?_; rintro e w1 ⟨rfl, hw1⟩; subst hw1)
  refine bodyPost_ret (results_cell_row rfl _ _ w.heap.size 25 #[.int .i64 0, .slice none 0 0, .slice none 0 0] (0, 0) _ rfl X0.out Try.underlying25 rfl (by kernel_rfl)) rfl ?_
  exact ⟨rfl, by repeat (first | exact Below.refl _ _ | apply below_alloc | apply below_drew | apply pw_below_drewN)⟩

section
end
set_option maxHeartbeats 4000000 in
set_option maxRecDepth 100000 in
theorem noneL_ (v : Value) (w : World) (h : Nil w v) : Calls Try.prog 46 #[v] w fun e w' => e = .returned (.bool true) ∧ Below w.heap.size w w' := by
  have H := Aside0.mk h
  clear h
  have HB := Aside0.mk (Below.refl w.heap.size w)
  go_enter Try.func46, Try.ntmps46
  go_upto_region 13 with (first
    | (go_at_call 16; refine (word_ v 0 _ (nil_at H.out (by repeat (first | exact HB.out | apply below_alloc | (refine below_set ?_ HB.out.size))))).mono ?_; rintro e w1 ⟨rfl, hb⟩; have n_ := Aside0.mk (step_at (by repeat (first | exact HB.out | apply below_alloc | (refine below_set ?_ HB.out.size))) hb); clear hb HB; have HB := n_; clear n_)
    | (go_at_call 17; refine (elem_ v ⟨#[]⟩ _ (nil_at H.out (by repeat (first | exact HB.out | apply below_alloc | (refine below_set ?_ HB.out.size))))).mono ?_; rintro e w1 ⟨rfl, hb⟩; have n_ := Aside0.mk (step_at (by repeat (first | exact HB.out | apply below_alloc | (refine below_set ?_ HB.out.size))) hb); clear hb HB; have HB := n_; clear n_)
    | (go_at_call 31; refine (accept_ v 0 _ (nil_at H.out (by repeat (first | exact HB.out | apply below_alloc | (refine below_set ?_ HB.out.size))))).mono ?_; rintro e w1 ⟨rfl, hb⟩; have n_ := Aside0.mk (step_at (by repeat (first | exact HB.out | apply below_alloc | (refine below_set ?_ HB.out.size))) hb); clear hb HB; have HB := n_; clear n_)
    | (go_at_call 29; refine (trans_ v 0 _ (nil_at H.out (by repeat (first | exact HB.out | apply below_alloc | (refine below_set ?_ HB.out.size))))).mono ?_; rintro e w1 ⟨rfl, hb⟩; have n_ := Aside0.mk (step_at (by repeat (first | exact HB.out | apply below_alloc | (refine below_set ?_ HB.out.size))) hb); clear hb HB; have HB := n_; clear n_)
    | (go_at_call 20; refine (prod_ v 0 0 _ (nil_at H.out (by repeat (first | exact HB.out | apply below_alloc | (refine below_set ?_ HB.out.size))))).mono ?_; rintro e w1 ⟨rfl, hb⟩; have n_ := Aside0.mk (step_at (by repeat (first | exact HB.out | apply below_alloc | (refine below_set ?_ HB.out.size))) hb); clear hb HB; have HB := n_; clear n_)
    | (go_at_call 21; refine (right_ v 0 97 _ (nil_at H.out (by repeat (first | exact HB.out | apply below_alloc | (refine below_set ?_ HB.out.size))))).mono ?_; rintro e w1 ⟨rfl, hb⟩; have n_ := Aside0.mk (step_at (by repeat (first | exact HB.out | apply below_alloc | (refine below_set ?_ HB.out.size))) hb); clear hb HB; have HB := n_; clear n_)
    | (go_at_call 22; refine (left_ v 0 97 _ (nil_at H.out (by repeat (first | exact HB.out | apply below_alloc | (refine below_set ?_ HB.out.size))))).mono ?_; rintro e w1 ⟨rfl, hb⟩; have n_ := Aside0.mk (step_at (by repeat (first | exact HB.out | apply below_alloc | (refine below_set ?_ HB.out.size))) hb); clear hb HB; have HB := n_; clear n_)
    | (go_at_call 36; refine (power_ v 0 1 _ (nil_at H.out (by repeat (first | exact HB.out | apply below_alloc | (refine below_set ?_ HB.out.size))))).mono ?_; rintro e w1 ⟨rfl, hb⟩; have n_ := Aside0.mk (step_at (by repeat (first | exact HB.out | apply below_alloc | (refine below_set ?_ HB.out.size))) hb); clear hb HB; have HB := n_; clear n_)
    | (go_at_call 34; refine (zero_ v _ (nil_at H.out (by repeat (first | exact HB.out | apply below_alloc | (refine below_set ?_ HB.out.size))))).mono ?_; rintro e w1 ⟨rfl, hb⟩; have n_ := Aside0.mk (step_at (by repeat (first | exact HB.out | apply below_alloc | (refine below_set ?_ HB.out.size))) hb); clear hb HB; have HB := n_; clear n_)
    | (go_at_call 24; refine (rules_ v _ (nil_at H.out (by repeat (first | exact HB.out | apply below_alloc | (refine below_set ?_ HB.out.size))))).mono ?_; rintro e w1 ⟨rfl, hb⟩; have n_ := Aside0.mk (step_at (by repeat (first | exact HB.out | apply below_alloc | (refine below_set ?_ HB.out.size))) hb); clear hb HB; have HB := n_; clear n_)
    | (go_at_call 41; refine (auto_ v _ (nil_at H.out (by repeat (first | exact HB.out | apply below_alloc | (refine below_set ?_ HB.out.size))))).mono ?_; rintro e w1 ⟨rfl, hb⟩; have n_ := Aside0.mk (step_at (by repeat (first | exact HB.out | apply below_alloc | (refine below_set ?_ HB.out.size))) hb); clear hb HB; have HB := n_; clear n_))
  go_wp2_with fail
  have K1 := Aside0.mk (blk_alloc (blk_new w1 (.cells #[.int .i64 0, .slice none 0 0, .slice none 0 0] 25)) (.cells #[.int .i64 1, .int .i64 1, .int .i64 1, .int .i64 1, .int .i64 1, .int .i64 1, .int .i64 1, .int .i64 1] 32))
  have K2 := blk_new (w1.alloc (.cells #[.int .i64 0, .slice none 0 0, .slice none 0 0] 25)) (.cells #[.int .i64 1, .int .i64 1, .int .i64 1, .int .i64 1, .int .i64 1, .int .i64 1, .int .i64 1, .int .i64 1] 32)
  rw [show (w1.alloc (.cells #[.int .i64 0, .slice none 0 0, .slice none 0 0] 25)).heap.size = w1.heap.size + 1 by show (w1.heap.push _).size = _; simp] at K2
  have K2 := Aside0.mk K2
  have HB2 := Aside0.mk (below_alloc (below_alloc HB.out (.cells #[.int .i64 0, .slice none 0 0, .slice none 0 0] 25)) (.cells #[.int .i64 1, .int .i64 1, .int .i64 1, .int .i64 1, .int .i64 1, .int .i64 1, .int .i64 1, .int .i64 1] 32))
  generalize (w1.alloc (.cells #[.int .i64 0, .slice none 0 0, .slice none 0 0] 25)).alloc (.cells #[.int .i64 1, .int .i64 1, .int .i64 1, .int .i64 1, .int .i64 1, .int .i64 1, .int .i64 1, .int .i64 1] 32) = w2 at *
  generalize w1.heap.size = b at *
  go_loopw [25] (fun v25 wr => ∃ i : Nat, v25 = .int .i64 i ∧ i ≤ 8 ∧ wr = w2) (fun v25 _ => 8 - (intOf v25).toNat)
  case atStart => exact ⟨0, rfl, by omega, rfl⟩
  case round =>
    obtain ⟨i, rfl, hi, rfl⟩ := hrel
    by_cases hlt : i < 8
    · have c1 : wr.cell? ⟨b + 1, i, none⟩ = some (.int .i64 1) := by
        refine (blk_cell K2.out i).trans ?_
        rcases (show i = 0 ∨ i = 1 ∨ i = 2 ∨ i = 3 ∨ i = 4 ∨ i = 5 ∨ i = 6 ∨ i = 7 by omega) with rfl | rfl | rfl | rfl | rfl | rfl | rfl | rfl <;> rfl
      go_wp2_with (go_at_call 18; refine (num_ 1 _).mono ?_; rintro e w3 ⟨rfl, hw3⟩; subst hw3)
      go_roundw
      case measure => simp [intOf]; omega
      case rel => exact ⟨i + 1, by go_num, by omega, by first | rfl | trivial⟩
    · have hx : i = 8 := by omega
      subst hx
      have x0 : wr.cell? ⟨b, 0, none⟩ = some (.int .i64 0) := (blk_cell K1.out 0).trans rfl
      have x1 : wr.cell? ⟨b, 1, none⟩ = some (.slice none 0 0) := (blk_cell K1.out 1).trans rfl
      have x2 : wr.cell? ⟨b, 2, none⟩ = some (.slice none 0 0) := (blk_cell K1.out 2).trans rfl
      go_wp2_with (first
        | (go_at_call 15; refine (len0_ v wr (nil_at H.out HB2.out)).mono ?_; rintro e w3 ⟨rfl, hw3⟩; subst hw3)
        | (go_at_call 39; refine (letters0_ v _ (nil_at H.out HB2.out)).mono ?_; rintro e w4 ⟨rfl, hw4⟩; subst hw4))
      go_ret
      exact ⟨rfl, HB2.out⟩
end Go.Proofs.Ytcnnlddjnmkioaa.HNone
