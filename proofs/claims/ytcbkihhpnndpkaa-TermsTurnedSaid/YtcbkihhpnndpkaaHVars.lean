/- terms.Vars: contract. -/
import Derived.Test.YtcbkihhpnndpkaaHUsed
import Derived.Outline
set_option linter.unusedVariables false
set_option linter.unusedSimpArgs false
namespace Go.Proofs.Ytcbkihhpnndpkaa.HVars
open Go.RowKit Go.Proofs.YtcbkihhpnndpkaaW.PrintWords Go.Proofs.YtcbkihhpnndpkaaW.PrintLast Go.Proofs.YtcbkihhpnndpkaaW.PrintMore
open Go.Proofs.Ytcbkihhpnndpkaa Go.Proofs.Ytcbkihhpnndpkaa.PA Go.Proofs.Ytcbkihhpnndpkaa.HSpell Go.Proofs.Ytcbkihhpnndpkaa.HUsed

/-- The names that one of two sides holds, in order. -/
def namesOf (l m : List S97) (i : Int) : List Int := (([120, 121, 122, 116] : List Int).take i.toNat).filter (fun c => has l c || has m c)
def named (l : List S97) : Bool := l.all (fun s => !decide (s.f0 = 2) || isName s.f1)
theorem named_of {l : List S97} (h : named l = true) : Named l := by
 intro s hs h2
 have := List.all_eq_true.1 h s hs
 simpa [h2] using this
/-- Vars, as a plain function. -/
def varsP (k : Nat) (l m : List S97) (b : Bool) : Option (ByteArray × Int) := (terms_Check.f k l m b).bind fun e => if e = 0 then (if (named l && named m) = true then some (strOfNums (namesOf l m 4), 0) else none) else some (⟨#[]⟩, e)

theorem size4 : (Try.prog.info? 100).map (·.size) = some 4 := by kernel_rfl
theorem put4 {W : World} {b : Nat} (l : List S97) (h : W.heap[b]? = some (.cells #[.bool false, .bool false, .bool false, .bool false] 100 (0, 0))) : (W.setCells b 0 [.bool (has l 120), .bool (has l 121), .bool (has l 122), .bool (has l 116)]).heap[b]? = some (.cells (four l) 100 (0, 0)) :=
 blk_put (cs := #[.bool (has l 120), .bool (has l 121), .bool (has l 122), .bool false]) (blk_put (cs := #[.bool (has l 120), .bool (has l 121), .bool false, .bool false]) (blk_put (cs := #[.bool (has l 120), .bool false, .bool false, .bool false]) (blk_put h 0 _ rfl) 1 _ rfl) 2 _ rfl) 3 _ rfl
theorem below4 {w W : World} {b : Nat} (l : List S97) (h : Below w.heap.size w W) (hb : w.heap.size ≤ b) : Below w.heap.size w (W.setCells b 0 [.bool (has l 120), .bool (has l 121), .bool (has l 122), .bool (has l 116)]) :=
 below_set (below_set (below_set (below_set h hb) hb) hb) hb
theorem stay {w w' : World} (hb : Below w.heap.size w w') {a : Addr} {v : Value} (hc : w.cell? a = some v) : w'.cell? a = some v := (hb.cell (World.block_lt_of_cell? w a hc)).trans hc
theorem run4 {W : World} {b : Nat} (l : List S97) (h : W.heap[b]? = some (.cells #[.bool false, .bool false, .bool false, .bool false] 100 (0, 0))) : (Instr.storeAt 100 (.pointer (some ⟨b, 0, none⟩)) (.agg (four l))).run Try.prog W = .ok () (W.setCells b 0 [.bool (has l 120), .bool (has l 121), .bool (has l 122), .bool (has l 116)]) :=
 run_store_run (P := Try.prog) (o := 0) 100 (.agg (four l)) _ h rfl size4 (by simp) (by intro q hq; simp at hq; rcases hq with rfl | rfl | rfl | rfl <;> rfl)

set_option maxHeartbeats 4000000 in
set_option maxRecDepth 100000 in
theorem calls (k : Nat) (A0 : Option Addr) (c0 : Nat) (l : List S97) (A1 : Option Addr) (c1 : Nat) (m : List S97) (b : Bool) (r1 : ByteArray) (r2 : Int) (w : World) (hl : Kd.C k97 w A0 l.length l) (hc0 : l.length ≤ c0) (hm : Kd.C k97 w A1 m.length m) (hc1 : m.length ≤ c1) (h : varsP k l m b = some (r1, r2)) :
 Calls Try.prog 19 #[.agg #[.slice A0 l.length c0, .slice A1 m.length c1, .bool b]] w fun e w' => e = .returned (.tuple #[.string r1, .int .i64 r2]) ∧ Below w.heap.size w w' := by
 have HL := Aside0.mk hl
 have HM := Aside0.mk hm
 unfold varsP at h
 cases hk : terms_Check.f k l m b with
 | none => rw [hk] at h; cases h
 | some e =>
 rw [hk] at h
 have HK := Aside0.mk hk
 replace h : (if e = 0 then (if (named l && named m) = true then some (strOfNums (namesOf l m 4), 0) else none) else some (⟨#[]⟩, e)) = some (r1, r2) := h
 clear hk hl hm
 by_cases he : e = 0
 · rw [if_pos he] at h
   by_cases hn : (named l && named m) = true
   · rw [if_pos hn] at h
     have h2 := Option.some.inj h
     injection h2 with q1 q2
     subst q1; subst q2; subst he
     simp only [Bool.and_eq_true] at hn
     have HN0 := Aside0.mk (named_of hn.1)
     have HN1 := Aside0.mk (named_of hn.2)
     clear h hn
     go_enter Try.func19, Try.ntmps19
     go_wp2_with fail
     refine (terms_Check.calls k A0 c0 l A1 c1 m b 0 _ (Kd.C_alloc HL.out _) hc0 (Kd.C_alloc HM.out _) hc1 HK.out).mono ?_
     rintro e w1 ⟨rfl, hb1⟩
     have HB1 := Aside0.mk (below_then (below_alloc (Below.refl _ _) _) (by simp) hb1)
     have a0 : w1.cell? ⟨w.heap.size, 0, none⟩ = some (.slice A0 l.length c0) := stay hb1 ((blk_cell (blk_new w _) 0).trans rfl)
     have a1 : w1.cell? ⟨w.heap.size, 1, none⟩ = some (.slice A1 m.length c1) := stay hb1 ((blk_cell (blk_new w _) 1).trans rfl)
     clear hb1
     have HL1 := Aside0.mk (Kd.C_below HL.out HB1.out)
     have HM1 := Aside0.mk (Kd.C_below HM.out HB1.out)
     go_upto_region 5 with fail
     go_cut [6, 7] (fun v6 v7 wd => ∃ b6 b7 : Nat, v6 = .pointer (some ⟨b6, 0, none⟩) ∧ v7 = .pointer (some ⟨b7, 0, none⟩) ∧ Aside0 (wd.heap[b6]? = some (.cells (four l) 100 (0, 0))) ∧ Aside0 (wd.heap[b7]? = some (.cells (four m) 100 (0, 0))) ∧ Aside0 (w1.heap.size ≤ b6) ∧ Aside0 (w1.heap.size ≤ b7) ∧ Aside0 (Below w1.heap.size w1 wd))
     case first =>
      refine start_ (n := 10) (S := fun w' => w'.cell? ⟨w.heap.size, 0, none⟩ = some (.slice A0 l.length c0) ∧ w'.cell? ⟨w.heap.size, 1, none⟩ = some (.slice A1 m.length c1)) (ds := [9]) #[false, false, false, false, false, false, false, false, false, false] (by kernel_rfl) rfl rfl ⟨a0, a1⟩ (fun hHeld => ?_)
      have T0 := Aside0.mk (below_drew (Below.refl w1.heap.size w1))
      generalize w1.drew = y0 at *
      refine pure_ (i := 0) (N := (some 14)) (v := ?_) (a' := ?_) #[true, false, false, false, false, false, false, false, false, false] rfl rfl (by kernel_rfl) (fun _ _ _ h => h) (Or.inl ⟨by rfl, ?_⟩) ?_ ?_
      rotate_left
      · intro w'
        go_simp
        with_reducible rfl
      rotate_left
      · simp only [Act.put, sA_, sZ_, sS_, i64_w, i32_w]
        rfl
      refine pure_ (i := 3) (N := (some 17)) (v := ?_) (a' := ?_) #[true, false, false, true, false, false, false, false, false, false] rfl rfl (by kernel_rfl) (fun _ _ _ h => h) (Or.inl ⟨by rfl, ?_⟩) ?_ ?_
      rotate_left
      · intro w'
        go_simp
        with_reducible rfl
      rotate_left
      · simp only [Act.put, sA_, sZ_, sS_, i64_w, i32_w]
        rfl
      refine take_ (i := 1) (N := (some 15)) (v := ?_) (a' := ?_) #[true, true, false, true, false, false, false, false, false, false] rfl rfl (by kernel_rfl) (fun _ _ _ h => h) (Or.inl ⟨by rfl, ?_⟩) hHeld ?_ ?_
      rotate_left
      · rintro w' ⟨s0, s1⟩
        go_simp
        with_reducible rfl
      rotate_left
      · simp only [Act.put, sA_, sZ_, sS_, i64_w, i32_w]
        rfl
      refine take_ (i := 4) (N := (some 18)) (v := ?_) (a' := ?_) #[true, true, false, true, true, false, false, false, false, false] rfl rfl (by kernel_rfl) (fun _ _ _ h => h) (Or.inl ⟨by rfl, ?_⟩) hHeld ?_ ?_
      rotate_left
      · rintro w' ⟨s0, s1⟩
        go_simp
        with_reducible rfl
      rotate_left
      · simp only [Act.put, sA_, sZ_, sS_, i64_w, i32_w]
        rfl
      refine three_ (i := 2) (j := 6) (k := 7) (Ni := (some 16)) (Nj := (some 6)) (Nk := (some 7)) #[true, true, true, true, true, false, false, false, false, false] #[true, true, false, true, true, false, true, false, false, false] #[true, true, false, true, true, false, false, true, false, false] rfl rfl rfl rfl rfl rfl (by kernel_rfl) (by decide) (by decide) (by decide) (fun K hK => ?_) (fun K hK => ?_) (fun K hK => ?_)
      focus
       refine call_ 48 #[.slice A0 l.length c0] (by rfl) rfl (by go_simp) ?_
       refine (HUsed.used_calls _ A0 c0 l (Kd.C_below HL1.out T0.out) hc0 HN0.out).mono ?_
       rintro e y1 ⟨rfl, hb⟩
       refine ⟨_, rfl, ?_⟩
       have T1 := Aside0.mk (below_then T0.out T0.out.size hb)
       clear hb
       refine hK.out _ _ (⟨stay T1.out a0, stay T1.out a1⟩) (fun hHeld => ?_)
       clear hK K
       refine norm_ (a' := ?_) ?_ ?_
       rotate_left
       · show Act.put _ (some 16) _ = _
         simp only [Act.put, sA_, sZ_, sS_, i64_w, i32_w]
         rfl
       refine three_ (i := 5) (j := 6) (k := 7) (Ni := (some 19)) (Nj := (some 6)) (Nk := (some 7)) #[true, true, true, true, true, true, false, false, false, false] #[true, true, true, true, true, false, true, false, false, false] #[true, true, true, true, true, false, false, true, false, false] rfl rfl rfl rfl rfl rfl (by kernel_rfl) (by decide) (by decide) (by decide) (fun K hK => ?_) (fun K hK => ?_) (fun K hK => ?_)
       focus
        refine call_ 48 #[.slice A1 m.length c1] (by rfl) rfl (by go_simp) ?_
        refine (HUsed.used_calls _ A1 c1 m (Kd.C_below HM1.out T1.out) hc1 HN1.out).mono ?_
        rintro e y2 ⟨rfl, hb⟩
        refine ⟨_, rfl, ?_⟩
        have T2 := Aside0.mk (below_then T1.out T1.out.size hb)
        clear hb
        refine hK.out _ _ (⟨stay T2.out a0, stay T2.out a1⟩) (fun hHeld => ?_)
        clear hK K
        refine norm_ (a' := ?_) ?_ ?_
        rotate_left
        · show Act.put _ (some 19) _ = _
          simp only [Act.put, sA_, sZ_, sS_, i64_w, i32_w]
          rfl
        refine two_ (i := 6) (j := 7) (Ni := (some 6)) (Nj := (some 7)) #[true, true, true, true, true, true, true, false, false, false] #[true, true, true, true, true, true, false, true, false, false] rfl rfl rfl rfl (by kernel_rfl) (by decide) (by decide) (fun K hK => ?_) (fun K hK => ?_)
        focus
         refine value_ (v := .pointer (some ⟨y2.heap.size, 0, none⟩)) (w1 := y2.alloc (.cells #[.bool false, .bool false, .bool false, .bool false] 100)) (by rfl) rfl (by go_simp) ?_
         have T3 := Aside0.mk (below_alloc T2.out (.cells #[.bool false, .bool false, .bool false, .bool false] 100))
         have F6_3 := Aside0.mk (blk_new y2 (.cells #[.bool false, .bool false, .bool false, .bool false] 100))
         have G6 := Aside0.mk (show w1.heap.size ≤ y2.heap.size from T2.out.size)
         generalize y2.heap.size = b6 at *
         generalize y2.alloc (.cells #[.bool false, .bool false, .bool false, .bool false] 100) = y3 at *
         refine hK.out _ _ (⟨stay T3.out a0, stay T3.out a1⟩) (fun hHeld => ?_)
         clear hK K
         refine norm_ (a' := ?_) ?_ ?_
         rotate_left
         · show Act.put _ (some 6) _ = _
           simp only [Act.put, sA_, sZ_, sS_, i64_w, i32_w]
           rfl
         refine one_ (i := 7) (N := (some 7)) #[true, true, true, true, true, true, true, true, false, false] rfl rfl (by kernel_rfl) (by decide) (fun K hK => ?_)
         refine value_ (v := .pointer (some ⟨y3.heap.size, 0, none⟩)) (w1 := y3.alloc (.cells #[.bool false, .bool false, .bool false, .bool false] 100)) (by rfl) rfl (by go_simp) ?_
         have T4 := Aside0.mk (below_alloc T3.out (.cells #[.bool false, .bool false, .bool false, .bool false] 100))
         have F7_4 := Aside0.mk (blk_new y3 (.cells #[.bool false, .bool false, .bool false, .bool false] 100))
         have G7 := Aside0.mk (show w1.heap.size ≤ y3.heap.size from T3.out.size)
         have F6_4 := Aside0.mk (blk_alloc F6_3.out (.cells #[.bool false, .bool false, .bool false, .bool false] 100))
         have N67 := Aside0.mk (show b6 ≠ y3.heap.size from Nat.ne_of_lt (blk_lt F6_3.out))
         generalize y3.heap.size = b7 at *
         generalize y3.alloc (.cells #[.bool false, .bool false, .bool false, .bool false] 100) = y4 at *
         refine hK.out _ _ (⟨stay T4.out a0, stay T4.out a1⟩) (fun hHeld => ?_)
         clear hK K
         refine norm_ (a' := ?_) ?_ ?_
         rotate_left
         · show Act.put _ (some 7) _ = _
           simp only [Act.put, sA_, sZ_, sS_, i64_w, i32_w]
           rfl
        rotate_left 1
        focus
         refine value_ (v := .pointer (some ⟨y2.heap.size, 0, none⟩)) (w1 := y2.alloc (.cells #[.bool false, .bool false, .bool false, .bool false] 100)) (by rfl) rfl (by go_simp) ?_
         have T3 := Aside0.mk (below_alloc T2.out (.cells #[.bool false, .bool false, .bool false, .bool false] 100))
         have F7_3 := Aside0.mk (blk_new y2 (.cells #[.bool false, .bool false, .bool false, .bool false] 100))
         have G7 := Aside0.mk (show w1.heap.size ≤ y2.heap.size from T2.out.size)
         generalize y2.heap.size = b7 at *
         generalize y2.alloc (.cells #[.bool false, .bool false, .bool false, .bool false] 100) = y3 at *
         refine hK.out _ _ (⟨stay T3.out a0, stay T3.out a1⟩) (fun hHeld => ?_)
         clear hK K
         refine norm_ (a' := ?_) ?_ ?_
         rotate_left
         · show Act.put _ (some 7) _ = _
           simp only [Act.put, sA_, sZ_, sS_, i64_w, i32_w]
           rfl
         refine one_ (i := 6) (N := (some 6)) #[true, true, true, true, true, true, true, true, false, false] rfl rfl (by kernel_rfl) (by decide) (fun K hK => ?_)
         refine value_ (v := .pointer (some ⟨y3.heap.size, 0, none⟩)) (w1 := y3.alloc (.cells #[.bool false, .bool false, .bool false, .bool false] 100)) (by rfl) rfl (by go_simp) ?_
         have T4 := Aside0.mk (below_alloc T3.out (.cells #[.bool false, .bool false, .bool false, .bool false] 100))
         have F6_4 := Aside0.mk (blk_new y3 (.cells #[.bool false, .bool false, .bool false, .bool false] 100))
         have G6 := Aside0.mk (show w1.heap.size ≤ y3.heap.size from T3.out.size)
         have F7_4 := Aside0.mk (blk_alloc F7_3.out (.cells #[.bool false, .bool false, .bool false, .bool false] 100))
         have N67 := Aside0.mk (show b7 ≠ y3.heap.size from Nat.ne_of_lt (blk_lt F7_3.out))
         generalize y3.heap.size = b6 at *
         generalize y3.alloc (.cells #[.bool false, .bool false, .bool false, .bool false] 100) = y4 at *
         refine hK.out _ _ (⟨stay T4.out a0, stay T4.out a1⟩) (fun hHeld => ?_)
         clear hK K
         refine norm_ (a' := ?_) ?_ ?_
         rotate_left
         · show Act.put _ (some 6) _ = _
           simp only [Act.put, sA_, sZ_, sS_, i64_w, i32_w]
           rfl
        rotate_left 1
       rotate_left 2
       focus
        refine value_ (v := .pointer (some ⟨y1.heap.size, 0, none⟩)) (w1 := y1.alloc (.cells #[.bool false, .bool false, .bool false, .bool false] 100)) (by rfl) rfl (by go_simp) ?_
        have T2 := Aside0.mk (below_alloc T1.out (.cells #[.bool false, .bool false, .bool false, .bool false] 100))
        have F6_2 := Aside0.mk (blk_new y1 (.cells #[.bool false, .bool false, .bool false, .bool false] 100))
        have G6 := Aside0.mk (show w1.heap.size ≤ y1.heap.size from T1.out.size)
        generalize y1.heap.size = b6 at *
        generalize y1.alloc (.cells #[.bool false, .bool false, .bool false, .bool false] 100) = y2 at *
        refine hK.out _ _ (⟨stay T2.out a0, stay T2.out a1⟩) (fun hHeld => ?_)
        clear hK K
        refine norm_ (a' := ?_) ?_ ?_
        rotate_left
        · show Act.put _ (some 6) _ = _
          simp only [Act.put, sA_, sZ_, sS_, i64_w, i32_w]
          rfl
        refine two_ (i := 5) (j := 7) (Ni := (some 19)) (Nj := (some 7)) #[true, true, true, true, true, true, true, false, false, false] #[true, true, true, true, true, false, true, true, false, false] rfl rfl rfl rfl (by kernel_rfl) (by decide) (by decide) (fun K hK => ?_) (fun K hK => ?_)
        focus
         refine call_ 48 #[.slice A1 m.length c1] (by rfl) rfl (by go_simp) ?_
         refine (HUsed.used_calls _ A1 c1 m (Kd.C_below HM1.out T2.out) hc1 HN1.out).mono ?_
         rintro e y3 ⟨rfl, hb⟩
         refine ⟨_, rfl, ?_⟩
         have T3 := Aside0.mk (below_then T2.out T2.out.size hb)
         have F6_3 := Aside0.mk (blk_below F6_2.out hb)
         clear hb
         refine hK.out _ _ (⟨stay T3.out a0, stay T3.out a1⟩) (fun hHeld => ?_)
         clear hK K
         refine norm_ (a' := ?_) ?_ ?_
         rotate_left
         · show Act.put _ (some 19) _ = _
           simp only [Act.put, sA_, sZ_, sS_, i64_w, i32_w]
           rfl
         refine one_ (i := 7) (N := (some 7)) #[true, true, true, true, true, true, true, true, false, false] rfl rfl (by kernel_rfl) (by decide) (fun K hK => ?_)
         refine value_ (v := .pointer (some ⟨y3.heap.size, 0, none⟩)) (w1 := y3.alloc (.cells #[.bool false, .bool false, .bool false, .bool false] 100)) (by rfl) rfl (by go_simp) ?_
         have T4 := Aside0.mk (below_alloc T3.out (.cells #[.bool false, .bool false, .bool false, .bool false] 100))
         have F7_4 := Aside0.mk (blk_new y3 (.cells #[.bool false, .bool false, .bool false, .bool false] 100))
         have G7 := Aside0.mk (show w1.heap.size ≤ y3.heap.size from T3.out.size)
         have F6_4 := Aside0.mk (blk_alloc F6_3.out (.cells #[.bool false, .bool false, .bool false, .bool false] 100))
         have N67 := Aside0.mk (show b6 ≠ y3.heap.size from Nat.ne_of_lt (blk_lt F6_3.out))
         generalize y3.heap.size = b7 at *
         generalize y3.alloc (.cells #[.bool false, .bool false, .bool false, .bool false] 100) = y4 at *
         refine hK.out _ _ (⟨stay T4.out a0, stay T4.out a1⟩) (fun hHeld => ?_)
         clear hK K
         refine norm_ (a' := ?_) ?_ ?_
         rotate_left
         · show Act.put _ (some 7) _ = _
           simp only [Act.put, sA_, sZ_, sS_, i64_w, i32_w]
           rfl
        rotate_left 1
        focus
         refine value_ (v := .pointer (some ⟨y2.heap.size, 0, none⟩)) (w1 := y2.alloc (.cells #[.bool false, .bool false, .bool false, .bool false] 100)) (by rfl) rfl (by go_simp) ?_
         have T3 := Aside0.mk (below_alloc T2.out (.cells #[.bool false, .bool false, .bool false, .bool false] 100))
         have F7_3 := Aside0.mk (blk_new y2 (.cells #[.bool false, .bool false, .bool false, .bool false] 100))
         have G7 := Aside0.mk (show w1.heap.size ≤ y2.heap.size from T2.out.size)
         have F6_3 := Aside0.mk (blk_alloc F6_2.out (.cells #[.bool false, .bool false, .bool false, .bool false] 100))
         have N67 := Aside0.mk (show b6 ≠ y2.heap.size from Nat.ne_of_lt (blk_lt F6_2.out))
         generalize y2.heap.size = b7 at *
         generalize y2.alloc (.cells #[.bool false, .bool false, .bool false, .bool false] 100) = y3 at *
         refine hK.out _ _ (⟨stay T3.out a0, stay T3.out a1⟩) (fun hHeld => ?_)
         clear hK K
         refine norm_ (a' := ?_) ?_ ?_
         rotate_left
         · show Act.put _ (some 7) _ = _
           simp only [Act.put, sA_, sZ_, sS_, i64_w, i32_w]
           rfl
         refine one_ (i := 5) (N := (some 19)) #[true, true, true, true, true, true, true, true, false, false] rfl rfl (by kernel_rfl) (by decide) (fun K hK => ?_)
         refine call_ 48 #[.slice A1 m.length c1] (by rfl) rfl (by go_simp) ?_
         refine (HUsed.used_calls _ A1 c1 m (Kd.C_below HM1.out T3.out) hc1 HN1.out).mono ?_
         rintro e y4 ⟨rfl, hb⟩
         refine ⟨_, rfl, ?_⟩
         have T4 := Aside0.mk (below_then T3.out T3.out.size hb)
         have F6_4 := Aside0.mk (blk_below F6_3.out hb)
         have F7_4 := Aside0.mk (blk_below F7_3.out hb)
         clear hb
         refine hK.out _ _ (⟨stay T4.out a0, stay T4.out a1⟩) (fun hHeld => ?_)
         clear hK K
         refine norm_ (a' := ?_) ?_ ?_
         rotate_left
         · show Act.put _ (some 19) _ = _
           simp only [Act.put, sA_, sZ_, sS_, i64_w, i32_w]
           rfl
        rotate_left 1
       rotate_left 2
       focus
        refine value_ (v := .pointer (some ⟨y1.heap.size, 0, none⟩)) (w1 := y1.alloc (.cells #[.bool false, .bool false, .bool false, .bool false] 100)) (by rfl) rfl (by go_simp) ?_
        have T2 := Aside0.mk (below_alloc T1.out (.cells #[.bool false, .bool false, .bool false, .bool false] 100))
        have F7_2 := Aside0.mk (blk_new y1 (.cells #[.bool false, .bool false, .bool false, .bool false] 100))
        have G7 := Aside0.mk (show w1.heap.size ≤ y1.heap.size from T1.out.size)
        generalize y1.heap.size = b7 at *
        generalize y1.alloc (.cells #[.bool false, .bool false, .bool false, .bool false] 100) = y2 at *
        refine hK.out _ _ (⟨stay T2.out a0, stay T2.out a1⟩) (fun hHeld => ?_)
        clear hK K
        refine norm_ (a' := ?_) ?_ ?_
        rotate_left
        · show Act.put _ (some 7) _ = _
          simp only [Act.put, sA_, sZ_, sS_, i64_w, i32_w]
          rfl
        refine two_ (i := 5) (j := 6) (Ni := (some 19)) (Nj := (some 6)) #[true, true, true, true, true, true, false, true, false, false] #[true, true, true, true, true, false, true, true, false, false] rfl rfl rfl rfl (by kernel_rfl) (by decide) (by decide) (fun K hK => ?_) (fun K hK => ?_)
        focus
         refine call_ 48 #[.slice A1 m.length c1] (by rfl) rfl (by go_simp) ?_
         refine (HUsed.used_calls _ A1 c1 m (Kd.C_below HM1.out T2.out) hc1 HN1.out).mono ?_
         rintro e y3 ⟨rfl, hb⟩
         refine ⟨_, rfl, ?_⟩
         have T3 := Aside0.mk (below_then T2.out T2.out.size hb)
         have F7_3 := Aside0.mk (blk_below F7_2.out hb)
         clear hb
         refine hK.out _ _ (⟨stay T3.out a0, stay T3.out a1⟩) (fun hHeld => ?_)
         clear hK K
         refine norm_ (a' := ?_) ?_ ?_
         rotate_left
         · show Act.put _ (some 19) _ = _
           simp only [Act.put, sA_, sZ_, sS_, i64_w, i32_w]
           rfl
         refine one_ (i := 6) (N := (some 6)) #[true, true, true, true, true, true, true, true, false, false] rfl rfl (by kernel_rfl) (by decide) (fun K hK => ?_)
         refine value_ (v := .pointer (some ⟨y3.heap.size, 0, none⟩)) (w1 := y3.alloc (.cells #[.bool false, .bool false, .bool false, .bool false] 100)) (by rfl) rfl (by go_simp) ?_
         have T4 := Aside0.mk (below_alloc T3.out (.cells #[.bool false, .bool false, .bool false, .bool false] 100))
         have F6_4 := Aside0.mk (blk_new y3 (.cells #[.bool false, .bool false, .bool false, .bool false] 100))
         have G6 := Aside0.mk (show w1.heap.size ≤ y3.heap.size from T3.out.size)
         have F7_4 := Aside0.mk (blk_alloc F7_3.out (.cells #[.bool false, .bool false, .bool false, .bool false] 100))
         have N67 := Aside0.mk (show b7 ≠ y3.heap.size from Nat.ne_of_lt (blk_lt F7_3.out))
         generalize y3.heap.size = b6 at *
         generalize y3.alloc (.cells #[.bool false, .bool false, .bool false, .bool false] 100) = y4 at *
         refine hK.out _ _ (⟨stay T4.out a0, stay T4.out a1⟩) (fun hHeld => ?_)
         clear hK K
         refine norm_ (a' := ?_) ?_ ?_
         rotate_left
         · show Act.put _ (some 6) _ = _
           simp only [Act.put, sA_, sZ_, sS_, i64_w, i32_w]
           rfl
        rotate_left 1
        focus
         refine value_ (v := .pointer (some ⟨y2.heap.size, 0, none⟩)) (w1 := y2.alloc (.cells #[.bool false, .bool false, .bool false, .bool false] 100)) (by rfl) rfl (by go_simp) ?_
         have T3 := Aside0.mk (below_alloc T2.out (.cells #[.bool false, .bool false, .bool false, .bool false] 100))
         have F6_3 := Aside0.mk (blk_new y2 (.cells #[.bool false, .bool false, .bool false, .bool false] 100))
         have G6 := Aside0.mk (show w1.heap.size ≤ y2.heap.size from T2.out.size)
         have F7_3 := Aside0.mk (blk_alloc F7_2.out (.cells #[.bool false, .bool false, .bool false, .bool false] 100))
         have N67 := Aside0.mk (show b7 ≠ y2.heap.size from Nat.ne_of_lt (blk_lt F7_2.out))
         generalize y2.heap.size = b6 at *
         generalize y2.alloc (.cells #[.bool false, .bool false, .bool false, .bool false] 100) = y3 at *
         refine hK.out _ _ (⟨stay T3.out a0, stay T3.out a1⟩) (fun hHeld => ?_)
         clear hK K
         refine norm_ (a' := ?_) ?_ ?_
         rotate_left
         · show Act.put _ (some 6) _ = _
           simp only [Act.put, sA_, sZ_, sS_, i64_w, i32_w]
           rfl
         refine one_ (i := 5) (N := (some 19)) #[true, true, true, true, true, true, true, true, false, false] rfl rfl (by kernel_rfl) (by decide) (fun K hK => ?_)
         refine call_ 48 #[.slice A1 m.length c1] (by rfl) rfl (by go_simp) ?_
         refine (HUsed.used_calls _ A1 c1 m (Kd.C_below HM1.out T3.out) hc1 HN1.out).mono ?_
         rintro e y4 ⟨rfl, hb⟩
         refine ⟨_, rfl, ?_⟩
         have T4 := Aside0.mk (below_then T3.out T3.out.size hb)
         have F6_4 := Aside0.mk (blk_below F6_3.out hb)
         have F7_4 := Aside0.mk (blk_below F7_3.out hb)
         clear hb
         refine hK.out _ _ (⟨stay T4.out a0, stay T4.out a1⟩) (fun hHeld => ?_)
         clear hK K
         refine norm_ (a' := ?_) ?_ ?_
         rotate_left
         · show Act.put _ (some 19) _ = _
           simp only [Act.put, sA_, sZ_, sS_, i64_w, i32_w]
           rfl
        rotate_left 1
       rotate_left 2
      rotate_left 6
      focus
       refine value_ (v := .pointer (some ⟨y0.heap.size, 0, none⟩)) (w1 := y0.alloc (.cells #[.bool false, .bool false, .bool false, .bool false] 100)) (by rfl) rfl (by go_simp) ?_
       have T1 := Aside0.mk (below_alloc T0.out (.cells #[.bool false, .bool false, .bool false, .bool false] 100))
       have F6_1 := Aside0.mk (blk_new y0 (.cells #[.bool false, .bool false, .bool false, .bool false] 100))
       have G6 := Aside0.mk (show w1.heap.size ≤ y0.heap.size from T0.out.size)
       generalize y0.heap.size = b6 at *
       generalize y0.alloc (.cells #[.bool false, .bool false, .bool false, .bool false] 100) = y1 at *
       refine hK.out _ _ (⟨stay T1.out a0, stay T1.out a1⟩) (fun hHeld => ?_)
       clear hK K
       refine norm_ (a' := ?_) ?_ ?_
       rotate_left
       · show Act.put _ (some 6) _ = _
         simp only [Act.put, sA_, sZ_, sS_, i64_w, i32_w]
         rfl
       refine two_ (i := 2) (j := 7) (Ni := (some 16)) (Nj := (some 7)) #[true, true, true, true, true, false, true, false, false, false] #[true, true, false, true, true, false, true, true, false, false] rfl rfl rfl rfl (by kernel_rfl) (by decide) (by decide) (fun K hK => ?_) (fun K hK => ?_)
       focus
        refine call_ 48 #[.slice A0 l.length c0] (by rfl) rfl (by go_simp) ?_
        refine (HUsed.used_calls _ A0 c0 l (Kd.C_below HL1.out T1.out) hc0 HN0.out).mono ?_
        rintro e y2 ⟨rfl, hb⟩
        refine ⟨_, rfl, ?_⟩
        have T2 := Aside0.mk (below_then T1.out T1.out.size hb)
        have F6_2 := Aside0.mk (blk_below F6_1.out hb)
        clear hb
        refine hK.out _ _ (⟨stay T2.out a0, stay T2.out a1⟩) (fun hHeld => ?_)
        clear hK K
        refine norm_ (a' := ?_) ?_ ?_
        rotate_left
        · show Act.put _ (some 16) _ = _
          simp only [Act.put, sA_, sZ_, sS_, i64_w, i32_w]
          rfl
        refine two_ (i := 5) (j := 7) (Ni := (some 19)) (Nj := (some 7)) #[true, true, true, true, true, true, true, false, false, false] #[true, true, true, true, true, false, true, true, false, false] rfl rfl rfl rfl (by kernel_rfl) (by decide) (by decide) (fun K hK => ?_) (fun K hK => ?_)
        focus
         refine call_ 48 #[.slice A1 m.length c1] (by rfl) rfl (by go_simp) ?_
         refine (HUsed.used_calls _ A1 c1 m (Kd.C_below HM1.out T2.out) hc1 HN1.out).mono ?_
         rintro e y3 ⟨rfl, hb⟩
         refine ⟨_, rfl, ?_⟩
         have T3 := Aside0.mk (below_then T2.out T2.out.size hb)
         have F6_3 := Aside0.mk (blk_below F6_2.out hb)
         clear hb
         refine hK.out _ _ (⟨stay T3.out a0, stay T3.out a1⟩) (fun hHeld => ?_)
         clear hK K
         refine norm_ (a' := ?_) ?_ ?_
         rotate_left
         · show Act.put _ (some 19) _ = _
           simp only [Act.put, sA_, sZ_, sS_, i64_w, i32_w]
           rfl
         refine one_ (i := 7) (N := (some 7)) #[true, true, true, true, true, true, true, true, false, false] rfl rfl (by kernel_rfl) (by decide) (fun K hK => ?_)
         refine value_ (v := .pointer (some ⟨y3.heap.size, 0, none⟩)) (w1 := y3.alloc (.cells #[.bool false, .bool false, .bool false, .bool false] 100)) (by rfl) rfl (by go_simp) ?_
         have T4 := Aside0.mk (below_alloc T3.out (.cells #[.bool false, .bool false, .bool false, .bool false] 100))
         have F7_4 := Aside0.mk (blk_new y3 (.cells #[.bool false, .bool false, .bool false, .bool false] 100))
         have G7 := Aside0.mk (show w1.heap.size ≤ y3.heap.size from T3.out.size)
         have F6_4 := Aside0.mk (blk_alloc F6_3.out (.cells #[.bool false, .bool false, .bool false, .bool false] 100))
         have N67 := Aside0.mk (show b6 ≠ y3.heap.size from Nat.ne_of_lt (blk_lt F6_3.out))
         generalize y3.heap.size = b7 at *
         generalize y3.alloc (.cells #[.bool false, .bool false, .bool false, .bool false] 100) = y4 at *
         refine hK.out _ _ (⟨stay T4.out a0, stay T4.out a1⟩) (fun hHeld => ?_)
         clear hK K
         refine norm_ (a' := ?_) ?_ ?_
         rotate_left
         · show Act.put _ (some 7) _ = _
           simp only [Act.put, sA_, sZ_, sS_, i64_w, i32_w]
           rfl
        rotate_left 1
        focus
         refine value_ (v := .pointer (some ⟨y2.heap.size, 0, none⟩)) (w1 := y2.alloc (.cells #[.bool false, .bool false, .bool false, .bool false] 100)) (by rfl) rfl (by go_simp) ?_
         have T3 := Aside0.mk (below_alloc T2.out (.cells #[.bool false, .bool false, .bool false, .bool false] 100))
         have F7_3 := Aside0.mk (blk_new y2 (.cells #[.bool false, .bool false, .bool false, .bool false] 100))
         have G7 := Aside0.mk (show w1.heap.size ≤ y2.heap.size from T2.out.size)
         have F6_3 := Aside0.mk (blk_alloc F6_2.out (.cells #[.bool false, .bool false, .bool false, .bool false] 100))
         have N67 := Aside0.mk (show b6 ≠ y2.heap.size from Nat.ne_of_lt (blk_lt F6_2.out))
         generalize y2.heap.size = b7 at *
         generalize y2.alloc (.cells #[.bool false, .bool false, .bool false, .bool false] 100) = y3 at *
         refine hK.out _ _ (⟨stay T3.out a0, stay T3.out a1⟩) (fun hHeld => ?_)
         clear hK K
         refine norm_ (a' := ?_) ?_ ?_
         rotate_left
         · show Act.put _ (some 7) _ = _
           simp only [Act.put, sA_, sZ_, sS_, i64_w, i32_w]
           rfl
         refine one_ (i := 5) (N := (some 19)) #[true, true, true, true, true, true, true, true, false, false] rfl rfl (by kernel_rfl) (by decide) (fun K hK => ?_)
         refine call_ 48 #[.slice A1 m.length c1] (by rfl) rfl (by go_simp) ?_
         refine (HUsed.used_calls _ A1 c1 m (Kd.C_below HM1.out T3.out) hc1 HN1.out).mono ?_
         rintro e y4 ⟨rfl, hb⟩
         refine ⟨_, rfl, ?_⟩
         have T4 := Aside0.mk (below_then T3.out T3.out.size hb)
         have F6_4 := Aside0.mk (blk_below F6_3.out hb)
         have F7_4 := Aside0.mk (blk_below F7_3.out hb)
         clear hb
         refine hK.out _ _ (⟨stay T4.out a0, stay T4.out a1⟩) (fun hHeld => ?_)
         clear hK K
         refine norm_ (a' := ?_) ?_ ?_
         rotate_left
         · show Act.put _ (some 19) _ = _
           simp only [Act.put, sA_, sZ_, sS_, i64_w, i32_w]
           rfl
        rotate_left 1
       rotate_left 2
       focus
        refine value_ (v := .pointer (some ⟨y1.heap.size, 0, none⟩)) (w1 := y1.alloc (.cells #[.bool false, .bool false, .bool false, .bool false] 100)) (by rfl) rfl (by go_simp) ?_
        have T2 := Aside0.mk (below_alloc T1.out (.cells #[.bool false, .bool false, .bool false, .bool false] 100))
        have F7_2 := Aside0.mk (blk_new y1 (.cells #[.bool false, .bool false, .bool false, .bool false] 100))
        have G7 := Aside0.mk (show w1.heap.size ≤ y1.heap.size from T1.out.size)
        have F6_2 := Aside0.mk (blk_alloc F6_1.out (.cells #[.bool false, .bool false, .bool false, .bool false] 100))
        have N67 := Aside0.mk (show b6 ≠ y1.heap.size from Nat.ne_of_lt (blk_lt F6_1.out))
        generalize y1.heap.size = b7 at *
        generalize y1.alloc (.cells #[.bool false, .bool false, .bool false, .bool false] 100) = y2 at *
        refine hK.out _ _ (⟨stay T2.out a0, stay T2.out a1⟩) (fun hHeld => ?_)
        clear hK K
        refine norm_ (a' := ?_) ?_ ?_
        rotate_left
        · show Act.put _ (some 7) _ = _
          simp only [Act.put, sA_, sZ_, sS_, i64_w, i32_w]
          rfl
        refine one_ (i := 2) (N := (some 16)) #[true, true, true, true, true, false, true, true, false, false] rfl rfl (by kernel_rfl) (by decide) (fun K hK => ?_)
        refine call_ 48 #[.slice A0 l.length c0] (by rfl) rfl (by go_simp) ?_
        refine (HUsed.used_calls _ A0 c0 l (Kd.C_below HL1.out T2.out) hc0 HN0.out).mono ?_
        rintro e y3 ⟨rfl, hb⟩
        refine ⟨_, rfl, ?_⟩
        have T3 := Aside0.mk (below_then T2.out T2.out.size hb)
        have F6_3 := Aside0.mk (blk_below F6_2.out hb)
        have F7_3 := Aside0.mk (blk_below F7_2.out hb)
        clear hb
        refine hK.out _ _ (⟨stay T3.out a0, stay T3.out a1⟩) (fun hHeld => ?_)
        clear hK K
        refine norm_ (a' := ?_) ?_ ?_
        rotate_left
        · show Act.put _ (some 16) _ = _
          simp only [Act.put, sA_, sZ_, sS_, i64_w, i32_w]
          rfl
        refine one_ (i := 5) (N := (some 19)) #[true, true, true, true, true, true, true, true, false, false] rfl rfl (by kernel_rfl) (by decide) (fun K hK => ?_)
        refine call_ 48 #[.slice A1 m.length c1] (by rfl) rfl (by go_simp) ?_
        refine (HUsed.used_calls _ A1 c1 m (Kd.C_below HM1.out T3.out) hc1 HN1.out).mono ?_
        rintro e y4 ⟨rfl, hb⟩
        refine ⟨_, rfl, ?_⟩
        have T4 := Aside0.mk (below_then T3.out T3.out.size hb)
        have F6_4 := Aside0.mk (blk_below F6_3.out hb)
        have F7_4 := Aside0.mk (blk_below F7_3.out hb)
        clear hb
        refine hK.out _ _ (⟨stay T4.out a0, stay T4.out a1⟩) (fun hHeld => ?_)
        clear hK K
        refine norm_ (a' := ?_) ?_ ?_
        rotate_left
        · show Act.put _ (some 19) _ = _
          simp only [Act.put, sA_, sZ_, sS_, i64_w, i32_w]
          rfl
       rotate_left 1
      rotate_left 3
      focus
       refine value_ (v := .pointer (some ⟨y0.heap.size, 0, none⟩)) (w1 := y0.alloc (.cells #[.bool false, .bool false, .bool false, .bool false] 100)) (by rfl) rfl (by go_simp) ?_
       have T1 := Aside0.mk (below_alloc T0.out (.cells #[.bool false, .bool false, .bool false, .bool false] 100))
       have F7_1 := Aside0.mk (blk_new y0 (.cells #[.bool false, .bool false, .bool false, .bool false] 100))
       have G7 := Aside0.mk (show w1.heap.size ≤ y0.heap.size from T0.out.size)
       generalize y0.heap.size = b7 at *
       generalize y0.alloc (.cells #[.bool false, .bool false, .bool false, .bool false] 100) = y1 at *
       refine hK.out _ _ (⟨stay T1.out a0, stay T1.out a1⟩) (fun hHeld => ?_)
       clear hK K
       refine norm_ (a' := ?_) ?_ ?_
       rotate_left
       · show Act.put _ (some 7) _ = _
         simp only [Act.put, sA_, sZ_, sS_, i64_w, i32_w]
         rfl
       refine two_ (i := 2) (j := 6) (Ni := (some 16)) (Nj := (some 6)) #[true, true, true, true, true, false, false, true, false, false] #[true, true, false, true, true, false, true, true, false, false] rfl rfl rfl rfl (by kernel_rfl) (by decide) (by decide) (fun K hK => ?_) (fun K hK => ?_)
       focus
        refine call_ 48 #[.slice A0 l.length c0] (by rfl) rfl (by go_simp) ?_
        refine (HUsed.used_calls _ A0 c0 l (Kd.C_below HL1.out T1.out) hc0 HN0.out).mono ?_
        rintro e y2 ⟨rfl, hb⟩
        refine ⟨_, rfl, ?_⟩
        have T2 := Aside0.mk (below_then T1.out T1.out.size hb)
        have F7_2 := Aside0.mk (blk_below F7_1.out hb)
        clear hb
        refine hK.out _ _ (⟨stay T2.out a0, stay T2.out a1⟩) (fun hHeld => ?_)
        clear hK K
        refine norm_ (a' := ?_) ?_ ?_
        rotate_left
        · show Act.put _ (some 16) _ = _
          simp only [Act.put, sA_, sZ_, sS_, i64_w, i32_w]
          rfl
        refine two_ (i := 5) (j := 6) (Ni := (some 19)) (Nj := (some 6)) #[true, true, true, true, true, true, false, true, false, false] #[true, true, true, true, true, false, true, true, false, false] rfl rfl rfl rfl (by kernel_rfl) (by decide) (by decide) (fun K hK => ?_) (fun K hK => ?_)
        focus
         refine call_ 48 #[.slice A1 m.length c1] (by rfl) rfl (by go_simp) ?_
         refine (HUsed.used_calls _ A1 c1 m (Kd.C_below HM1.out T2.out) hc1 HN1.out).mono ?_
         rintro e y3 ⟨rfl, hb⟩
         refine ⟨_, rfl, ?_⟩
         have T3 := Aside0.mk (below_then T2.out T2.out.size hb)
         have F7_3 := Aside0.mk (blk_below F7_2.out hb)
         clear hb
         refine hK.out _ _ (⟨stay T3.out a0, stay T3.out a1⟩) (fun hHeld => ?_)
         clear hK K
         refine norm_ (a' := ?_) ?_ ?_
         rotate_left
         · show Act.put _ (some 19) _ = _
           simp only [Act.put, sA_, sZ_, sS_, i64_w, i32_w]
           rfl
         refine one_ (i := 6) (N := (some 6)) #[true, true, true, true, true, true, true, true, false, false] rfl rfl (by kernel_rfl) (by decide) (fun K hK => ?_)
         refine value_ (v := .pointer (some ⟨y3.heap.size, 0, none⟩)) (w1 := y3.alloc (.cells #[.bool false, .bool false, .bool false, .bool false] 100)) (by rfl) rfl (by go_simp) ?_
         have T4 := Aside0.mk (below_alloc T3.out (.cells #[.bool false, .bool false, .bool false, .bool false] 100))
         have F6_4 := Aside0.mk (blk_new y3 (.cells #[.bool false, .bool false, .bool false, .bool false] 100))
         have G6 := Aside0.mk (show w1.heap.size ≤ y3.heap.size from T3.out.size)
         have F7_4 := Aside0.mk (blk_alloc F7_3.out (.cells #[.bool false, .bool false, .bool false, .bool false] 100))
         have N67 := Aside0.mk (show b7 ≠ y3.heap.size from Nat.ne_of_lt (blk_lt F7_3.out))
         generalize y3.heap.size = b6 at *
         generalize y3.alloc (.cells #[.bool false, .bool false, .bool false, .bool false] 100) = y4 at *
         refine hK.out _ _ (⟨stay T4.out a0, stay T4.out a1⟩) (fun hHeld => ?_)
         clear hK K
         refine norm_ (a' := ?_) ?_ ?_
         rotate_left
         · show Act.put _ (some 6) _ = _
           simp only [Act.put, sA_, sZ_, sS_, i64_w, i32_w]
           rfl
        rotate_left 1
        focus
         refine value_ (v := .pointer (some ⟨y2.heap.size, 0, none⟩)) (w1 := y2.alloc (.cells #[.bool false, .bool false, .bool false, .bool false] 100)) (by rfl) rfl (by go_simp) ?_
         have T3 := Aside0.mk (below_alloc T2.out (.cells #[.bool false, .bool false, .bool false, .bool false] 100))
         have F6_3 := Aside0.mk (blk_new y2 (.cells #[.bool false, .bool false, .bool false, .bool false] 100))
         have G6 := Aside0.mk (show w1.heap.size ≤ y2.heap.size from T2.out.size)
         have F7_3 := Aside0.mk (blk_alloc F7_2.out (.cells #[.bool false, .bool false, .bool false, .bool false] 100))
         have N67 := Aside0.mk (show b7 ≠ y2.heap.size from Nat.ne_of_lt (blk_lt F7_2.out))
         generalize y2.heap.size = b6 at *
         generalize y2.alloc (.cells #[.bool false, .bool false, .bool false, .bool false] 100) = y3 at *
         refine hK.out _ _ (⟨stay T3.out a0, stay T3.out a1⟩) (fun hHeld => ?_)
         clear hK K
         refine norm_ (a' := ?_) ?_ ?_
         rotate_left
         · show Act.put _ (some 6) _ = _
           simp only [Act.put, sA_, sZ_, sS_, i64_w, i32_w]
           rfl
         refine one_ (i := 5) (N := (some 19)) #[true, true, true, true, true, true, true, true, false, false] rfl rfl (by kernel_rfl) (by decide) (fun K hK => ?_)
         refine call_ 48 #[.slice A1 m.length c1] (by rfl) rfl (by go_simp) ?_
         refine (HUsed.used_calls _ A1 c1 m (Kd.C_below HM1.out T3.out) hc1 HN1.out).mono ?_
         rintro e y4 ⟨rfl, hb⟩
         refine ⟨_, rfl, ?_⟩
         have T4 := Aside0.mk (below_then T3.out T3.out.size hb)
         have F6_4 := Aside0.mk (blk_below F6_3.out hb)
         have F7_4 := Aside0.mk (blk_below F7_3.out hb)
         clear hb
         refine hK.out _ _ (⟨stay T4.out a0, stay T4.out a1⟩) (fun hHeld => ?_)
         clear hK K
         refine norm_ (a' := ?_) ?_ ?_
         rotate_left
         · show Act.put _ (some 19) _ = _
           simp only [Act.put, sA_, sZ_, sS_, i64_w, i32_w]
           rfl
        rotate_left 1
       rotate_left 2
       focus
        refine value_ (v := .pointer (some ⟨y1.heap.size, 0, none⟩)) (w1 := y1.alloc (.cells #[.bool false, .bool false, .bool false, .bool false] 100)) (by rfl) rfl (by go_simp) ?_
        have T2 := Aside0.mk (below_alloc T1.out (.cells #[.bool false, .bool false, .bool false, .bool false] 100))
        have F6_2 := Aside0.mk (blk_new y1 (.cells #[.bool false, .bool false, .bool false, .bool false] 100))
        have G6 := Aside0.mk (show w1.heap.size ≤ y1.heap.size from T1.out.size)
        have F7_2 := Aside0.mk (blk_alloc F7_1.out (.cells #[.bool false, .bool false, .bool false, .bool false] 100))
        have N67 := Aside0.mk (show b7 ≠ y1.heap.size from Nat.ne_of_lt (blk_lt F7_1.out))
        generalize y1.heap.size = b6 at *
        generalize y1.alloc (.cells #[.bool false, .bool false, .bool false, .bool false] 100) = y2 at *
        refine hK.out _ _ (⟨stay T2.out a0, stay T2.out a1⟩) (fun hHeld => ?_)
        clear hK K
        refine norm_ (a' := ?_) ?_ ?_
        rotate_left
        · show Act.put _ (some 6) _ = _
          simp only [Act.put, sA_, sZ_, sS_, i64_w, i32_w]
          rfl
        refine one_ (i := 2) (N := (some 16)) #[true, true, true, true, true, false, true, true, false, false] rfl rfl (by kernel_rfl) (by decide) (fun K hK => ?_)
        refine call_ 48 #[.slice A0 l.length c0] (by rfl) rfl (by go_simp) ?_
        refine (HUsed.used_calls _ A0 c0 l (Kd.C_below HL1.out T2.out) hc0 HN0.out).mono ?_
        rintro e y3 ⟨rfl, hb⟩
        refine ⟨_, rfl, ?_⟩
        have T3 := Aside0.mk (below_then T2.out T2.out.size hb)
        have F6_3 := Aside0.mk (blk_below F6_2.out hb)
        have F7_3 := Aside0.mk (blk_below F7_2.out hb)
        clear hb
        refine hK.out _ _ (⟨stay T3.out a0, stay T3.out a1⟩) (fun hHeld => ?_)
        clear hK K
        refine norm_ (a' := ?_) ?_ ?_
        rotate_left
        · show Act.put _ (some 16) _ = _
          simp only [Act.put, sA_, sZ_, sS_, i64_w, i32_w]
          rfl
        refine one_ (i := 5) (N := (some 19)) #[true, true, true, true, true, true, true, true, false, false] rfl rfl (by kernel_rfl) (by decide) (fun K hK => ?_)
        refine call_ 48 #[.slice A1 m.length c1] (by rfl) rfl (by go_simp) ?_
        refine (HUsed.used_calls _ A1 c1 m (Kd.C_below HM1.out T3.out) hc1 HN1.out).mono ?_
        rintro e y4 ⟨rfl, hb⟩
        refine ⟨_, rfl, ?_⟩
        have T4 := Aside0.mk (below_then T3.out T3.out.size hb)
        have F6_4 := Aside0.mk (blk_below F6_3.out hb)
        have F7_4 := Aside0.mk (blk_below F7_3.out hb)
        clear hb
        refine hK.out _ _ (⟨stay T4.out a0, stay T4.out a1⟩) (fun hHeld => ?_)
        clear hK K
        refine norm_ (a' := ?_) ?_ ?_
        rotate_left
        · show Act.put _ (some 19) _ = _
          simp only [Act.put, sA_, sZ_, sS_, i64_w, i32_w]
          rfl
       rotate_left 1
      rotate_left 3
      all_goals (
       refine one_ (i := 8) (N := none) #[true, true, true, true, true, true, true, true, true, false] rfl rfl (by kernel_rfl) (by decide) (fun K hK => ?_)
       refine skip_ (w1 := y4.setCells b6 0 [.bool (has l 120), .bool (has l 121), .bool (has l 122), .bool (has l 116)]) (by rfl) rfl ?_ ?_
       · have hrun := run4 l F6_4.out
         simp [execOp, Act.eval, hrun]
       have T5 := Aside0.mk (below4 l T4.out G6.out)
       have F6_5 := Aside0.mk (put4 l F6_4.out)
       have F7_5 : Aside0 ((y4.setCells b6 0 [.bool (has l 120), .bool (has l 121), .bool (has l 122), .bool (has l 116)]).heap[b7]? = some (.cells #[.bool false, .bool false, .bool false, .bool false] 100 (0, 0))) := ⟨(setCells_far _ _ _ (by first | exact N67.out | exact N67.out.symm)).trans F7_4.out⟩
       generalize y4.setCells b6 0 [.bool (has l 120), .bool (has l 121), .bool (has l 122), .bool (has l 116)] = y5 at *
       refine hK.out _ _ (⟨stay T5.out a0, stay T5.out a1⟩) (fun hHeld => ?_)
       clear hK K
       refine last_ (i := 9) (N := none) #[true, true, true, true, true, true, true, true, true, true] rfl rfl (by kernel_rfl) (by decide) (fun K hK => ?_)
       refine skip_ (w1 := y5.setCells b7 0 [.bool (has m 120), .bool (has m 121), .bool (has m 122), .bool (has m 116)]) (by rfl) rfl ?_ ?_
       · have hrun := run4 m F7_5.out
         simp [execOp, Act.eval, hrun]
       have T6 := Aside0.mk (below4 m T5.out G7.out)
       have F7_6 := Aside0.mk (put4 m F7_5.out)
       have F6_6 : Aside0 ((y5.setCells b7 0 [.bool (has m 120), .bool (has m 121), .bool (has m 122), .bool (has m 116)]).heap[b6]? = some (.cells (four l) 100 (0, 0))) := ⟨(setCells_far _ _ _ (by first | exact N67.out | exact N67.out.symm)).trans F6_5.out⟩
       refine hK.out _ _ ?_
       clear hK K
       refine done_ (by kernel_rfl) ?_
       go_wp2_with fail
       go_meet
       exact ⟨b6, b7, rfl, rfl, F6_6, F7_6, G6, G7, T6⟩)
     case rest =>
      obtain ⟨b6, b7, rfl, rfl, F6, F7, G6, G7, HB2⟩ := hcut
      have HB3 := Aside0.mk (below_then HB1.out HB1.out.size HB2.out)
      have G6' := Aside0.mk (show w.heap.size ≤ b6 by have := G6.out; have := HB1.out.size; omega)
      have G7' := Aside0.mk (show w.heap.size ≤ b7 by have := G7.out; have := HB1.out.size; omega)
      clear a0 a1 HL1 HM1 HB2 G6 G7
      go_wp2_with fail
      go_loopw [5, 20] (fun v5 v20 wr => ∃ i : Int, v20 = .int .i64 i ∧ 0 ≤ i ∧ i ≤ 4 ∧ Aside0 (Kd.R (Kd.int .u8) 5 wr w.heap.size (fun k => k ≠ b6 ∧ k ≠ b7) v5 (namesOf l m i)) ∧ Aside0 (wr.heap[b6]? = some (.cells (four l) 100 (0, 0))) ∧ Aside0 (wr.heap[b7]? = some (.cells (four m) 100 (0, 0))) ∧ Aside0 (Below w.heap.size w wr)) (fun _ v20 _ => 4 - (intOf v20).toNat)
      case atStart => exact ⟨0, rfl, by omega, by omega, ⟨Kd.R_nil _ _ _ _ _⟩, F6, F7, HB3⟩
      case round =>
       obtain ⟨i, rfl, hi0, hi4, HR, E6, E7, HBr⟩ := hrel
       have r0 : wr.cell? ⟨b6, 0, none⟩ = some (.bool (has l 120)) := (blk_cell E6.out 0).trans rfl
       have r1 : wr.cell? ⟨b6, 1, none⟩ = some (.bool (has l 121)) := (blk_cell E6.out 1).trans rfl
       have r2 : wr.cell? ⟨b6, 2, none⟩ = some (.bool (has l 122)) := (blk_cell E6.out 2).trans rfl
       have r3 : wr.cell? ⟨b6, 3, none⟩ = some (.bool (has l 116)) := (blk_cell E6.out 3).trans rfl
       have s0 : wr.cell? ⟨b7, 0, none⟩ = some (.bool (has m 120)) := (blk_cell E7.out 0).trans rfl
       have s1 : wr.cell? ⟨b7, 1, none⟩ = some (.bool (has m 121)) := (blk_cell E7.out 1).trans rfl
       have s2 : wr.cell? ⟨b7, 2, none⟩ = some (.bool (has m 122)) := (blk_cell E7.out 2).trans rfl
       have s3 : wr.cell? ⟨b7, 3, none⟩ = some (.bool (has m 116)) := (blk_cell E7.out 3).trans rfl
       obtain ⟨A, c, rfl⟩ := Kd.R_slice HR.out
       have L6 := Aside0.mk (blk_lt E6.out)
       have L7 := Aside0.mk (blk_lt E7.out)
       have hcases : i = 0 ∨ i = 1 ∨ i = 2 ∨ i = 3 ∨ i = 4 := by omega
       rcases hcases with rfl | rfl | rfl | rfl | rfl
       · cases hx : has l 120 with
         | true =>
          rw [hx] at r0
          have HX := Aside0.mk hx
          clear hx
          go_wp2_with ((with_reducible refine gate_builtin (b := .append) (xs := #[.tmp 31, .tmp 34]) rfl ?_); at_builtin; refine Kd.R_append (Kd.int .u8) (w0 := w) w.heap.size rfl (.tmp 31) (.tmp 34) 99 5 (.int .u8 0) 1 rfl Try.underlying99 info5 rfl (by decide) (by omega) (.slice A (namesOf l m 0).length c) (namesOf l m 0) (((⟨#[120, 121, 122, 116]⟩ : ByteArray)[0]'(by decide)).toNat : Int) [.int .u8 (((⟨#[120, 121, 122, 116]⟩ : ByteArray)[0]'(by decide)).toNat : Int)] (fun k => k ≠ b6 ∧ k ≠ b7) (fun _ => False) rfl rfl rfl (fun _ hk => hk.elim) (fun k hk => ⟨by have := L6.out; omega, by have := L7.out; omega⟩) HR.out HBr.out HBr.out.size (by have hle : (namesOf l m 0).length ≤ 4 := Nat.le_trans (List.length_filter_le _ _) (by simp); omega) ?_; intro v5 w5 ho5 hb5 hg5 hat5)
          rw [show (((⟨#[120, 121, 122, 116]⟩ : ByteArray)[0]'(by decide)).toNat : Int) = 120 from rfl] at ho5
          have P5 := Aside0.mk ho5
          have P6 : Aside0 (w5.heap[b6]? = _) := ⟨(hg5.block _ L6.out (fun e => (HR.out.1 _ e.symm).1 rfl)).trans E6.out⟩
          have P7 : Aside0 (w5.heap[b7]? = _) := ⟨(hg5.block _ L7.out (fun e => (HR.out.1 _ e.symm).2 rfl)).trans E7.out⟩
          have P8 := Aside0.mk hb5
          have HF : Aside0 (namesOf l m 1 = namesOf l m 0 ++ [120]) := ⟨by unfold namesOf; simp only [show (1 : Int).toNat = 1 from rfl, show (0 : Int).toNat = 0 from rfl, List.take_succ_cons, List.take_zero]; simp [List.filter_cons, HX.out]; try (repeat' split) <;> simp⟩
          clear ho5 hb5 hg5 hat5
          go_roundw
          case rel => exact ⟨1, by go_num, by omega, by omega, ⟨by rw [HF.out]; exact P5.out⟩, P6, P7, P8⟩
          case measure => simp [intOf]
         | false =>
          rw [hx] at r0
          have HX := Aside0.mk hx
          clear hx
          cases hy : has m 120 with
          | true =>
           rw [hy] at s0
           have HY := Aside0.mk hy
           clear hy
           go_wp2_with ((with_reducible refine gate_builtin (b := .append) (xs := #[.tmp 31, .tmp 34]) rfl ?_); at_builtin; refine Kd.R_append (Kd.int .u8) (w0 := w) w.heap.size rfl (.tmp 31) (.tmp 34) 99 5 (.int .u8 0) 1 rfl Try.underlying99 info5 rfl (by decide) (by omega) (.slice A (namesOf l m 0).length c) (namesOf l m 0) (((⟨#[120, 121, 122, 116]⟩ : ByteArray)[0]'(by decide)).toNat : Int) [.int .u8 (((⟨#[120, 121, 122, 116]⟩ : ByteArray)[0]'(by decide)).toNat : Int)] (fun k => k ≠ b6 ∧ k ≠ b7) (fun _ => False) rfl rfl rfl (fun _ hk => hk.elim) (fun k hk => ⟨by have := L6.out; omega, by have := L7.out; omega⟩) HR.out HBr.out HBr.out.size (by have hle : (namesOf l m 0).length ≤ 4 := Nat.le_trans (List.length_filter_le _ _) (by simp); omega) ?_; intro v5 w5 ho5 hb5 hg5 hat5)
           rw [show (((⟨#[120, 121, 122, 116]⟩ : ByteArray)[0]'(by decide)).toNat : Int) = 120 from rfl] at ho5
           have P5 := Aside0.mk ho5
           have P6 : Aside0 (w5.heap[b6]? = _) := ⟨(hg5.block _ L6.out (fun e => (HR.out.1 _ e.symm).1 rfl)).trans E6.out⟩
           have P7 : Aside0 (w5.heap[b7]? = _) := ⟨(hg5.block _ L7.out (fun e => (HR.out.1 _ e.symm).2 rfl)).trans E7.out⟩
           have P8 := Aside0.mk hb5
           have HF : Aside0 (namesOf l m 1 = namesOf l m 0 ++ [120]) := ⟨by unfold namesOf; simp only [show (1 : Int).toNat = 1 from rfl, show (0 : Int).toNat = 0 from rfl, List.take_succ_cons, List.take_zero]; simp [List.filter_cons, HX.out, HY.out]; try (repeat' split) <;> simp⟩
           clear ho5 hb5 hg5 hat5
           go_roundw
           case rel => exact ⟨1, by go_num, by omega, by omega, ⟨by rw [HF.out]; exact P5.out⟩, P6, P7, P8⟩
           case measure => simp [intOf]
          | false =>
           rw [hy] at s0
           have HY := Aside0.mk hy
           clear hy
           have HF : Aside0 (namesOf l m 1 = namesOf l m 0) := ⟨by unfold namesOf; simp only [show (1 : Int).toNat = 1 from rfl, show (0 : Int).toNat = 0 from rfl, List.take_succ_cons, List.take_zero]; simp [List.filter_cons, HX.out, HY.out]; try (repeat' split) <;> simp⟩
           go_wp2_with fail
           go_roundw
           case rel => exact ⟨1, by go_num, by omega, by omega, ⟨by rw [HF.out]; exact HR.out⟩, E6, E7, HBr⟩
           case measure => simp [intOf]
       · cases hx : has l 121 with
         | true =>
          rw [hx] at r1
          have HX := Aside0.mk hx
          clear hx
          go_wp2_with ((with_reducible refine gate_builtin (b := .append) (xs := #[.tmp 31, .tmp 34]) rfl ?_); at_builtin; refine Kd.R_append (Kd.int .u8) (w0 := w) w.heap.size rfl (.tmp 31) (.tmp 34) 99 5 (.int .u8 0) 1 rfl Try.underlying99 info5 rfl (by decide) (by omega) (.slice A (namesOf l m 1).length c) (namesOf l m 1) (((⟨#[120, 121, 122, 116]⟩ : ByteArray)[1]'(by decide)).toNat : Int) [.int .u8 (((⟨#[120, 121, 122, 116]⟩ : ByteArray)[1]'(by decide)).toNat : Int)] (fun k => k ≠ b6 ∧ k ≠ b7) (fun _ => False) rfl rfl rfl (fun _ hk => hk.elim) (fun k hk => ⟨by have := L6.out; omega, by have := L7.out; omega⟩) HR.out HBr.out HBr.out.size (by have hle : (namesOf l m 1).length ≤ 4 := Nat.le_trans (List.length_filter_le _ _) (by simp); omega) ?_; intro v5 w5 ho5 hb5 hg5 hat5)
          rw [show (((⟨#[120, 121, 122, 116]⟩ : ByteArray)[1]'(by decide)).toNat : Int) = 121 from rfl] at ho5
          have P5 := Aside0.mk ho5
          have P6 : Aside0 (w5.heap[b6]? = _) := ⟨(hg5.block _ L6.out (fun e => (HR.out.1 _ e.symm).1 rfl)).trans E6.out⟩
          have P7 : Aside0 (w5.heap[b7]? = _) := ⟨(hg5.block _ L7.out (fun e => (HR.out.1 _ e.symm).2 rfl)).trans E7.out⟩
          have P8 := Aside0.mk hb5
          have HF : Aside0 (namesOf l m 2 = namesOf l m 1 ++ [121]) := ⟨by unfold namesOf; simp only [show (2 : Int).toNat = 2 from rfl, show (1 : Int).toNat = 1 from rfl, List.take_succ_cons, List.take_zero]; simp [List.filter_cons, HX.out]; try (repeat' split) <;> simp⟩
          clear ho5 hb5 hg5 hat5
          go_roundw
          case rel => exact ⟨2, by go_num, by omega, by omega, ⟨by rw [HF.out]; exact P5.out⟩, P6, P7, P8⟩
          case measure => simp [intOf]
         | false =>
          rw [hx] at r1
          have HX := Aside0.mk hx
          clear hx
          cases hy : has m 121 with
          | true =>
           rw [hy] at s1
           have HY := Aside0.mk hy
           clear hy
           go_wp2_with ((with_reducible refine gate_builtin (b := .append) (xs := #[.tmp 31, .tmp 34]) rfl ?_); at_builtin; refine Kd.R_append (Kd.int .u8) (w0 := w) w.heap.size rfl (.tmp 31) (.tmp 34) 99 5 (.int .u8 0) 1 rfl Try.underlying99 info5 rfl (by decide) (by omega) (.slice A (namesOf l m 1).length c) (namesOf l m 1) (((⟨#[120, 121, 122, 116]⟩ : ByteArray)[1]'(by decide)).toNat : Int) [.int .u8 (((⟨#[120, 121, 122, 116]⟩ : ByteArray)[1]'(by decide)).toNat : Int)] (fun k => k ≠ b6 ∧ k ≠ b7) (fun _ => False) rfl rfl rfl (fun _ hk => hk.elim) (fun k hk => ⟨by have := L6.out; omega, by have := L7.out; omega⟩) HR.out HBr.out HBr.out.size (by have hle : (namesOf l m 1).length ≤ 4 := Nat.le_trans (List.length_filter_le _ _) (by simp); omega) ?_; intro v5 w5 ho5 hb5 hg5 hat5)
           rw [show (((⟨#[120, 121, 122, 116]⟩ : ByteArray)[1]'(by decide)).toNat : Int) = 121 from rfl] at ho5
           have P5 := Aside0.mk ho5
           have P6 : Aside0 (w5.heap[b6]? = _) := ⟨(hg5.block _ L6.out (fun e => (HR.out.1 _ e.symm).1 rfl)).trans E6.out⟩
           have P7 : Aside0 (w5.heap[b7]? = _) := ⟨(hg5.block _ L7.out (fun e => (HR.out.1 _ e.symm).2 rfl)).trans E7.out⟩
           have P8 := Aside0.mk hb5
           have HF : Aside0 (namesOf l m 2 = namesOf l m 1 ++ [121]) := ⟨by unfold namesOf; simp only [show (2 : Int).toNat = 2 from rfl, show (1 : Int).toNat = 1 from rfl, List.take_succ_cons, List.take_zero]; simp [List.filter_cons, HX.out, HY.out]; try (repeat' split) <;> simp⟩
           clear ho5 hb5 hg5 hat5
           go_roundw
           case rel => exact ⟨2, by go_num, by omega, by omega, ⟨by rw [HF.out]; exact P5.out⟩, P6, P7, P8⟩
           case measure => simp [intOf]
          | false =>
           rw [hy] at s1
           have HY := Aside0.mk hy
           clear hy
           have HF : Aside0 (namesOf l m 2 = namesOf l m 1) := ⟨by unfold namesOf; simp only [show (2 : Int).toNat = 2 from rfl, show (1 : Int).toNat = 1 from rfl, List.take_succ_cons, List.take_zero]; simp [List.filter_cons, HX.out, HY.out]; try (repeat' split) <;> simp⟩
           go_wp2_with fail
           go_roundw
           case rel => exact ⟨2, by go_num, by omega, by omega, ⟨by rw [HF.out]; exact HR.out⟩, E6, E7, HBr⟩
           case measure => simp [intOf]
       · cases hx : has l 122 with
         | true =>
          rw [hx] at r2
          have HX := Aside0.mk hx
          clear hx
          go_wp2_with ((with_reducible refine gate_builtin (b := .append) (xs := #[.tmp 31, .tmp 34]) rfl ?_); at_builtin; refine Kd.R_append (Kd.int .u8) (w0 := w) w.heap.size rfl (.tmp 31) (.tmp 34) 99 5 (.int .u8 0) 1 rfl Try.underlying99 info5 rfl (by decide) (by omega) (.slice A (namesOf l m 2).length c) (namesOf l m 2) (((⟨#[120, 121, 122, 116]⟩ : ByteArray)[2]'(by decide)).toNat : Int) [.int .u8 (((⟨#[120, 121, 122, 116]⟩ : ByteArray)[2]'(by decide)).toNat : Int)] (fun k => k ≠ b6 ∧ k ≠ b7) (fun _ => False) rfl rfl rfl (fun _ hk => hk.elim) (fun k hk => ⟨by have := L6.out; omega, by have := L7.out; omega⟩) HR.out HBr.out HBr.out.size (by have hle : (namesOf l m 2).length ≤ 4 := Nat.le_trans (List.length_filter_le _ _) (by simp); omega) ?_; intro v5 w5 ho5 hb5 hg5 hat5)
          rw [show (((⟨#[120, 121, 122, 116]⟩ : ByteArray)[2]'(by decide)).toNat : Int) = 122 from rfl] at ho5
          have P5 := Aside0.mk ho5
          have P6 : Aside0 (w5.heap[b6]? = _) := ⟨(hg5.block _ L6.out (fun e => (HR.out.1 _ e.symm).1 rfl)).trans E6.out⟩
          have P7 : Aside0 (w5.heap[b7]? = _) := ⟨(hg5.block _ L7.out (fun e => (HR.out.1 _ e.symm).2 rfl)).trans E7.out⟩
          have P8 := Aside0.mk hb5
          have HF : Aside0 (namesOf l m 3 = namesOf l m 2 ++ [122]) := ⟨by unfold namesOf; simp only [show (3 : Int).toNat = 3 from rfl, show (2 : Int).toNat = 2 from rfl, List.take_succ_cons, List.take_zero]; simp [List.filter_cons, HX.out]; try (repeat' split) <;> simp⟩
          clear ho5 hb5 hg5 hat5
          go_roundw
          case rel => exact ⟨3, by go_num, by omega, by omega, ⟨by rw [HF.out]; exact P5.out⟩, P6, P7, P8⟩
          case measure => simp [intOf]
         | false =>
          rw [hx] at r2
          have HX := Aside0.mk hx
          clear hx
          cases hy : has m 122 with
          | true =>
           rw [hy] at s2
           have HY := Aside0.mk hy
           clear hy
           go_wp2_with ((with_reducible refine gate_builtin (b := .append) (xs := #[.tmp 31, .tmp 34]) rfl ?_); at_builtin; refine Kd.R_append (Kd.int .u8) (w0 := w) w.heap.size rfl (.tmp 31) (.tmp 34) 99 5 (.int .u8 0) 1 rfl Try.underlying99 info5 rfl (by decide) (by omega) (.slice A (namesOf l m 2).length c) (namesOf l m 2) (((⟨#[120, 121, 122, 116]⟩ : ByteArray)[2]'(by decide)).toNat : Int) [.int .u8 (((⟨#[120, 121, 122, 116]⟩ : ByteArray)[2]'(by decide)).toNat : Int)] (fun k => k ≠ b6 ∧ k ≠ b7) (fun _ => False) rfl rfl rfl (fun _ hk => hk.elim) (fun k hk => ⟨by have := L6.out; omega, by have := L7.out; omega⟩) HR.out HBr.out HBr.out.size (by have hle : (namesOf l m 2).length ≤ 4 := Nat.le_trans (List.length_filter_le _ _) (by simp); omega) ?_; intro v5 w5 ho5 hb5 hg5 hat5)
           rw [show (((⟨#[120, 121, 122, 116]⟩ : ByteArray)[2]'(by decide)).toNat : Int) = 122 from rfl] at ho5
           have P5 := Aside0.mk ho5
           have P6 : Aside0 (w5.heap[b6]? = _) := ⟨(hg5.block _ L6.out (fun e => (HR.out.1 _ e.symm).1 rfl)).trans E6.out⟩
           have P7 : Aside0 (w5.heap[b7]? = _) := ⟨(hg5.block _ L7.out (fun e => (HR.out.1 _ e.symm).2 rfl)).trans E7.out⟩
           have P8 := Aside0.mk hb5
           have HF : Aside0 (namesOf l m 3 = namesOf l m 2 ++ [122]) := ⟨by unfold namesOf; simp only [show (3 : Int).toNat = 3 from rfl, show (2 : Int).toNat = 2 from rfl, List.take_succ_cons, List.take_zero]; simp [List.filter_cons, HX.out, HY.out]; try (repeat' split) <;> simp⟩
           clear ho5 hb5 hg5 hat5
           go_roundw
           case rel => exact ⟨3, by go_num, by omega, by omega, ⟨by rw [HF.out]; exact P5.out⟩, P6, P7, P8⟩
           case measure => simp [intOf]
          | false =>
           rw [hy] at s2
           have HY := Aside0.mk hy
           clear hy
           have HF : Aside0 (namesOf l m 3 = namesOf l m 2) := ⟨by unfold namesOf; simp only [show (3 : Int).toNat = 3 from rfl, show (2 : Int).toNat = 2 from rfl, List.take_succ_cons, List.take_zero]; simp [List.filter_cons, HX.out, HY.out]; try (repeat' split) <;> simp⟩
           go_wp2_with fail
           go_roundw
           case rel => exact ⟨3, by go_num, by omega, by omega, ⟨by rw [HF.out]; exact HR.out⟩, E6, E7, HBr⟩
           case measure => simp [intOf]
       · cases hx : has l 116 with
         | true =>
          rw [hx] at r3
          have HX := Aside0.mk hx
          clear hx
          go_wp2_with ((with_reducible refine gate_builtin (b := .append) (xs := #[.tmp 31, .tmp 34]) rfl ?_); at_builtin; refine Kd.R_append (Kd.int .u8) (w0 := w) w.heap.size rfl (.tmp 31) (.tmp 34) 99 5 (.int .u8 0) 1 rfl Try.underlying99 info5 rfl (by decide) (by omega) (.slice A (namesOf l m 3).length c) (namesOf l m 3) (((⟨#[120, 121, 122, 116]⟩ : ByteArray)[3]'(by decide)).toNat : Int) [.int .u8 (((⟨#[120, 121, 122, 116]⟩ : ByteArray)[3]'(by decide)).toNat : Int)] (fun k => k ≠ b6 ∧ k ≠ b7) (fun _ => False) rfl rfl rfl (fun _ hk => hk.elim) (fun k hk => ⟨by have := L6.out; omega, by have := L7.out; omega⟩) HR.out HBr.out HBr.out.size (by have hle : (namesOf l m 3).length ≤ 4 := Nat.le_trans (List.length_filter_le _ _) (by simp); omega) ?_; intro v5 w5 ho5 hb5 hg5 hat5)
          rw [show (((⟨#[120, 121, 122, 116]⟩ : ByteArray)[3]'(by decide)).toNat : Int) = 116 from rfl] at ho5
          have P5 := Aside0.mk ho5
          have P6 : Aside0 (w5.heap[b6]? = _) := ⟨(hg5.block _ L6.out (fun e => (HR.out.1 _ e.symm).1 rfl)).trans E6.out⟩
          have P7 : Aside0 (w5.heap[b7]? = _) := ⟨(hg5.block _ L7.out (fun e => (HR.out.1 _ e.symm).2 rfl)).trans E7.out⟩
          have P8 := Aside0.mk hb5
          have HF : Aside0 (namesOf l m 4 = namesOf l m 3 ++ [116]) := ⟨by unfold namesOf; simp only [show (4 : Int).toNat = 4 from rfl, show (3 : Int).toNat = 3 from rfl, List.take_succ_cons, List.take_zero]; simp [List.filter_cons, HX.out]; try (repeat' split) <;> simp⟩
          clear ho5 hb5 hg5 hat5
          go_roundw
          case rel => exact ⟨4, by go_num, by omega, by omega, ⟨by rw [HF.out]; exact P5.out⟩, P6, P7, P8⟩
          case measure => simp [intOf]
         | false =>
          rw [hx] at r3
          have HX := Aside0.mk hx
          clear hx
          cases hy : has m 116 with
          | true =>
           rw [hy] at s3
           have HY := Aside0.mk hy
           clear hy
           go_wp2_with ((with_reducible refine gate_builtin (b := .append) (xs := #[.tmp 31, .tmp 34]) rfl ?_); at_builtin; refine Kd.R_append (Kd.int .u8) (w0 := w) w.heap.size rfl (.tmp 31) (.tmp 34) 99 5 (.int .u8 0) 1 rfl Try.underlying99 info5 rfl (by decide) (by omega) (.slice A (namesOf l m 3).length c) (namesOf l m 3) (((⟨#[120, 121, 122, 116]⟩ : ByteArray)[3]'(by decide)).toNat : Int) [.int .u8 (((⟨#[120, 121, 122, 116]⟩ : ByteArray)[3]'(by decide)).toNat : Int)] (fun k => k ≠ b6 ∧ k ≠ b7) (fun _ => False) rfl rfl rfl (fun _ hk => hk.elim) (fun k hk => ⟨by have := L6.out; omega, by have := L7.out; omega⟩) HR.out HBr.out HBr.out.size (by have hle : (namesOf l m 3).length ≤ 4 := Nat.le_trans (List.length_filter_le _ _) (by simp); omega) ?_; intro v5 w5 ho5 hb5 hg5 hat5)
           rw [show (((⟨#[120, 121, 122, 116]⟩ : ByteArray)[3]'(by decide)).toNat : Int) = 116 from rfl] at ho5
           have P5 := Aside0.mk ho5
           have P6 : Aside0 (w5.heap[b6]? = _) := ⟨(hg5.block _ L6.out (fun e => (HR.out.1 _ e.symm).1 rfl)).trans E6.out⟩
           have P7 : Aside0 (w5.heap[b7]? = _) := ⟨(hg5.block _ L7.out (fun e => (HR.out.1 _ e.symm).2 rfl)).trans E7.out⟩
           have P8 := Aside0.mk hb5
           have HF : Aside0 (namesOf l m 4 = namesOf l m 3 ++ [116]) := ⟨by unfold namesOf; simp only [show (4 : Int).toNat = 4 from rfl, show (3 : Int).toNat = 3 from rfl, List.take_succ_cons, List.take_zero]; simp [List.filter_cons, HX.out, HY.out]; try (repeat' split) <;> simp⟩
           clear ho5 hb5 hg5 hat5
           go_roundw
           case rel => exact ⟨4, by go_num, by omega, by omega, ⟨by rw [HF.out]; exact P5.out⟩, P6, P7, P8⟩
           case measure => simp [intOf]
          | false =>
           rw [hy] at s3
           have HY := Aside0.mk hy
           clear hy
           have HF : Aside0 (namesOf l m 4 = namesOf l m 3) := ⟨by unfold namesOf; simp only [show (4 : Int).toNat = 4 from rfl, show (3 : Int).toNat = 3 from rfl, List.take_succ_cons, List.take_zero]; simp [List.filter_cons, HX.out, HY.out]; try (repeat' split) <;> simp⟩
           go_wp2_with fail
           go_roundw
           case rel => exact ⟨4, by go_num, by omega, by omega, ⟨by rw [HF.out]; exact HR.out⟩, E6, E7, HBr⟩
           case measure => simp [intOf]
       · have hcv := Kd.C_string (P := Try.prog) (src := 99) (dst := 9) (e := 5) (c := c) Try.underlying99 Try.underlying5 Try.underlying9 (Kd.R_reads' HR.out).2.2
         go_wp2_with fail
         go_ret2
         exact ⟨rfl, HBr.out⟩
   · rw [if_neg hn] at h; cases h
 · rw [if_neg he] at h
   have h2 := Option.some.inj h
   injection h2 with q1 q2
   subst q1; subst q2
   have e0 : (e != 0) = true := bne_iff_ne.mpr he
   clear h
   go_enter Try.func19, Try.ntmps19
   go_wp2_with fail
   refine (terms_Check.calls k A0 c0 l A1 c1 m b e _ (Kd.C_alloc HL.out _) hc0 (Kd.C_alloc HM.out _) hc1 HK.out).mono ?_
   rintro e1 w1 ⟨rfl, hb1⟩
   have HB1 := Aside0.mk (below_then (below_alloc (Below.refl _ _) _) (by simp) hb1)
   clear hb1
   go_wp2_with fail
   go_ret2
   exact ⟨rfl, HB1.out⟩
end Go.Proofs.Ytcbkihhpnndpkaa.HVars
