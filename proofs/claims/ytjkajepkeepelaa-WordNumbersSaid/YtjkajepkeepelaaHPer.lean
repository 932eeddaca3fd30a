/- word.Periods: contract, by its closure's contract and a walk of its loop. -/
import Derived.Test.YtjkajepkeepelaaPAx1
import Derived.Test.YtjkajepkeepelaaHCheck
import Derived.Outline
set_option linter.unusedVariables false
set_option linter.unusedSimpArgs false
namespace Go.Proofs.Ytjkajepkeepelaa.HPer
open Go.RowKit Go.Proofs.YtjkajepkeepelaaW.PrintWords Go.Proofs.YtjkajepkeepelaaW.PrintLast Go.Proofs.YtjkajepkeepelaaW.PrintMore
open Go.Proofs.Ytjkajepkeepelaa

theorem info3 : (Try.prog.info? 3).map (fun i => (i.zero, i.size, i.bytes)) = some (some (.int .i64 0), 1, 8) := by kernel_rfl

/-- What the closure leaves: the slice in its box has one number more. -/
def Added (w0 W : World) (base bo bw : Nat) (s : ByteArray) (x : Int) (v : Value) (xs : List Int) (w' : World) : Prop :=
  Below base w0 w' ∧ W.heap.size ≤ w'.heap.size ∧ ∃ v' : Value, w'.cell? ⟨bo, 0, none⟩ = some v' ∧ w'.frozen? ⟨bo, 0, none⟩ = false ∧ w'.cell? ⟨bw, 0, none⟩ = some (.string s) ∧
    Kd.R (Kd.int .i64) 3 w' base (fun k => k ≠ bo ∧ k ≠ bw) v' (xs ++ [wrap64 ((s.size : Int) - x)]) ∧
    (v'.ownBlock = v.ownBlock ∨ ∃ b, v'.ownBlock = some b ∧ W.heap.size ≤ b) ∧ ∀ k, k < W.heap.size → some k ≠ v.ownBlock → k ≠ bo → w'.heap[k]? = W.heap[k]?

theorem lt_of_cell {W : World} {b o : Nat} {v : Value} (h : W.cell? ⟨b, o, none⟩ = some v) : b < W.heap.size := World.block_lt_of_cell? W ⟨b, o, none⟩ h

theorem added {w0 W w1 : World} {base bo bw : Nat} {s : ByteArray} {x : Int} {v v1 : Value} {xs : List Int}
    (hco : W.cell? ⟨bo, 0, none⟩ = some v) (hcw : W.cell? ⟨bw, 0, none⟩ = some (.string s)) (hfo : W.frozen? ⟨bo, 0, none⟩ = false) (hne : bo ≠ bw)
    (HO : Kd.R (Kd.int .i64) 3 W base (fun k => k ≠ bo ∧ k ≠ bw) v xs) (hbase : base ≤ bo)
    (ho : Kd.R (Kd.int .i64) 3 w1 base (fun k => k ≠ bo ∧ k ≠ bw) v1 (xs ++ [wrap64 ((s.size : Int) - x)])) (hb : Below base w0 w1)
    (hg : W.grownBy w1 v.ownBlock) (hat : v1.ownBlock = v.ownBlock ∨ ∃ b, v1.ownBlock = some b ∧ W.heap.size ≤ b) :
    w1.cell? ⟨bo, 0, none⟩ = some v ∧ w1.frozen? ⟨bo, 0, none⟩ = false ∧ Added w0 W base bo bw s x v xs (w1.setCell ⟨bo, 0, none⟩ v1) := by
  have lo := lt_of_cell hco
  have lw := lt_of_cell hcw
  have no : some bo ≠ v.ownBlock := fun e => (HO.1 bo e.symm).1 rfl
  have nw : some bw ≠ v.ownBlock := fun e => (HO.1 bw e.symm).2 rfl
  have keep : ∀ k, k < W.heap.size → some k ≠ v.ownBlock → w1.heap[k]? = W.heap[k]? := fun k hk hn => hg.block k hk hn
  have c1 : w1.cell? ⟨bo, 0, none⟩ = some v := (World.cell?_of_block (w := W) (keep bo lo no)).trans hco
  have f1 : w1.frozen? ⟨bo, 0, none⟩ = false := (World.frozen?_of_block (w := W) (keep bo lo no)).trans hfo
  have c2 : w1.cell? ⟨bw, 0, none⟩ = some (.string s) := (World.cell?_of_block (w := W) (keep bw lw nw)).trans hcw
  have hsz : W.heap.size ≤ w1.heap.size := by have := hg.size; omega
  refine ⟨c1, f1, hb.setCell hbase _, by simpa [World.setCell] using hsz, v1, ?_, ?_, ?_, ?_, hat, ?_⟩
  · exact World.cell?_setCell_same _ _ _ c1
  · rw [World.frozen?_setCell]; exact f1
  · rw [World.cell?_of_block (w := w1) (Below.heap_setCell _ _ _ _ (by show bw ≠ bo; omega))]; exact c2
  · exact Kd.R_far ho (fun k hk => hk.1) _
  · intro k hk hn hko
    rw [Below.heap_setCell _ _ _ _ (by exact hko)]
    exact keep k hk hn

set_option maxHeartbeats 1000000 in
theorem add_calls (w0 W : World) (base bo bw : Nat) (s : ByteArray) (x : Int) (v : Value) (xs : List Int)
    (hco : W.cell? ⟨bo, 0, none⟩ = some v) (hcw : W.cell? ⟨bw, 0, none⟩ = some (.string s)) (hfo : W.frozen? ⟨bo, 0, none⟩ = false) (hne : bo ≠ bw)
    (HO : Kd.R (Kd.int .i64) 3 W base (fun k => k ≠ bo ∧ k ≠ bw) v xs) (HB : Below base w0 W) (hbase : base ≤ bo) (hsz : base ≤ W.heap.size) (hl : xs.length < 17592186044416) :
    Calls Try.prog 39 #[.int .i64 x, .pointer (some ⟨bo, 0, none⟩), .pointer (some ⟨bw, 0, none⟩)] W fun e w' =>
      e = .returned (.tuple #[]) ∧ Added w0 W base bo bw s x v xs w' := by
  have lo := lt_of_cell hco
  have lw := lt_of_cell hcw
  have HH := Lib.hid (And.intro hco (And.intro hcw (And.intro hfo (And.intro hne (And.intro HO (And.intro HB (And.intro hbase lo)))))))
  clear HO HB
  go_enter Try.func39, Try.ntmps39
  go_wp2_with (first | ((with_reducible refine gate_builtin (b := .append) (xs := #[.tmp 4, .tmp 9]) rfl ?_); at_builtin; refine Kd.R_append (Kd.int .i64) (w0 := w0) base rfl (.tmp 4) (.tmp 9) 24 3 (.int .i64 0) 8 rfl Try.underlying24 info3 rfl (by decide) (by omega) v xs (wrap64 ((s.size : Int) - x)) [.int .i64 (wrap64 ((s.size : Int) - x))] (fun k => k ≠ bo ∧ k ≠ bw) (fun _ => False) rfl rfl ?aP (fun _ hk => hk.elim) ?aF ?aO ?aB ?aS ?aL ?_; (case aP => exact rfl); (case aF => exact (fun k hk => ⟨by omega, by omega⟩)); (case aO => exact HH.out.2.2.2.2.1); (case aB => exact HH.out.2.2.2.2.2.1); (case aS => exact hsz); (case aL => omega); intro v1 w1 ho hb hg hat; obtain ⟨A1, c1, rfl⟩ := Kd.R_slice ho; obtain ⟨q1, q2, q3⟩ := added HH.out.1 HH.out.2.1 HH.out.2.2.1 HH.out.2.2.2.1 HH.out.2.2.2.2.1 HH.out.2.2.2.2.2.2.1 ho hb hg hat; have H3 := Lib.hid q3; clear ho hb hg hat q3 hco hcw hfo))

  go_end0
  have h3 := H3.out
  rw [List.length_append] at h3
  exact ⟨rfl, h3⟩

def lp : Nat → ByteArray → List Int → List Int → Int → Option (List Int)
  | 0, _, _, _, _ => none
  | k + 1, s, l, out, n => if out.length < 17592186044000 then (if n > 0 then (if n < (l.length : Int) then lp k s l (out ++ [wrap64 ((s.size : Int) - n)]) (rd l n) else none) else some (out ++ [wrap64 ((s.size : Int) - 0)])) else none
def f (k : Nat) (a0 : Int) (a1 : ByteArray) : Option (List Int × Int) :=
  if HCheck.chk a0 a1 = 0 then (if (a1.size : Int) = 0 then some ([], 0) else (PA.word_borders.f k a1).bind fun l => if (a1.size : Int) < (l.length : Int) then (lp k a1 l [] (rd l a1.size)).bind fun out => some (out, 0) else none) else some ([], HCheck.chk a0 a1)

theorem lp_mono : ∀ k s l out n, LeO (lp k s l out n) (lp (k + 1) s l out n)
  | 0, _, _, _, _ => fun r h => by simp [lp] at h
  | k + 1, s, l, out, n => by
    unfold lp
    repeat' first
      | (with_reducible exact lp_mono k _ _ _ _)
      | (with_reducible exact LeO.refl _)
      | (with_reducible refine LeO.ite ?_ ?_)
theorem mono : ∀ a0 a1 k, LeO (f k a0 a1) (f (k + 1) a0 a1) := by
  intro a0 a1 k
  unfold f
  repeat' first
    | (with_reducible exact lp_mono _ _ _ _ _)
    | (with_reducible exact PA.word_borders.mono _ _)
    | (with_reducible exact LeO.refl _)
    | (with_reducible refine LeO.ite ?_ ?_)
    | (with_reducible refine LeO.bind ?_ (fun _ => ?_))

/-- What holds at the loop's head. -/
structure Inv (w w2 : World) (bo bw : Nat) (s : ByteArray) (wr : World) (v : Value) (out : List Int) : Prop where
  co : wr.cell? ⟨bo, 0, none⟩ = some v
  fo : wr.frozen? ⟨bo, 0, none⟩ = false
  cw : wr.cell? ⟨bw, 0, none⟩ = some (.string s)
  r : Kd.R (Kd.int .i64) 3 wr w.heap.size (fun k => k ≠ bo ∧ k ≠ bw) v out
  b : Below w.heap.size w wr
  own : ∀ b, v.ownBlock = some b → w2.heap.size ≤ b
  kp : ∀ k, k < w2.heap.size → k ≠ bo → wr.heap[k]? = w2.heap[k]?
  sz : w2.heap.size ≤ wr.heap.size

theorem Inv.step {w w2 : World} {bo bw : Nat} {s : ByteArray} {wr wr' : World} {v : Value} {out : List Int} {x : Int} (h : Inv w w2 bo bw s wr v out)
    (ha : Added w wr w.heap.size bo bw s x v out wr') : ∃ v', Inv w w2 bo bw s wr' v' (out ++ [wrap64 ((s.size : Int) - x)]) := by
  obtain ⟨hb, hs, v', h1, h2, h3, h4, h5, h6⟩ := ha
  refine ⟨v', h1, h2, h3, h4, hb, ?_, ?_, Nat.le_trans h.sz hs⟩
  · intro b e
    rcases h5 with h5 | ⟨b', h5, h7⟩
    · exact h.own b (h5 ▸ e)
    · rw [h5] at e
      cases e
      exact Nat.le_trans h.sz h7
  · intro k hk hne
    have lt := h.sz
    rw [h6 k (by omega) (fun e => by have := h.own k e.symm; omega) hne]
    exact h.kp k hk hne

theorem Inv.row {w w2 : World} {bo bw base : Nat} {s : ByteArray} {wr : World} {v vl : Value} {out l : List Int} (h : Inv w w2 bo bw s wr v out) (hl : Kd.R (Kd.int .i64) 3 w2 base (fun _ => True) vl l) (hb : bo < base) :
    Kd.R (Kd.int .i64) 3 wr base (fun _ => True) vl l :=
  Kd.R_mono (Kd.R_step (Kd.R_bound hl) (fun k hk hlt => h.kp k hlt (by have := hk.2.1; omega))) (fun _ _ => trivial)

set_option maxHeartbeats 1000000 in
theorem calls (k : Nat) (a0 : Int) (a1 : ByteArray) (r1 : List Int) (r2 : Int) (w : World) (h : f k a0 a1 = some (r1, r2)) :
    Calls Try.prog 14 #[.int .i64 a0, .string a1] w fun e w' => ∃ v0_ : Value, e = .returned (.tuple #[v0_, .int .i64 r2]) ∧ Kd.R (Kd.int .i64) 3 w' w.heap.size (fun _ => True) v0_ r1 ∧ Below w.heap.size w w' := by
  have hcw0 : (w.alloc (Obj.cells #[Value.string a1] 9)).cell? ⟨w.heap.size, 0, none⟩ = some (.string a1) := by rw [World.cell?_alloc_at _ _ _ _ rfl]; rfl
  have C0 := Lib.hid hcw0
  have hmf : ∀ (fn : Fn) (first cap : Array Value) (w : World), (Instr.makeFunc fn first cap).run Try.prog w = .ok (.func fn first cap) w := fun _ _ _ _ => rfl
  clear hcw0
  unfold f at h
  by_cases hc : HCheck.chk a0 a1 = 0
  · rw [if_pos hc] at h
    by_cases hz : (a1.size : Int) = 0
    · rw [if_pos hz] at h
      obtain ⟨rfl, rfl⟩ := Prod.mk.inj (Option.some.inj h)
      have hz1 : ((a1.size : Int) == 0) = true := beq_iff_eq.2 hz
      have HC := Lib.hid hc
      clear h hc hz
      go_enter Try.func14, Try.ntmps14
      go_wp2_with fail
      refine (HCheck.calls _ _ _).mono ?_
      rintro e w1 ⟨rfl, hb1⟩
      rw [HC.out]
      have hcw1 : w1.cell? ⟨w.heap.size, 0, none⟩ = some (.string a1) := (hb1.cell (by simp)).trans C0.out
      have HB1 := Lib.hid hb1
      clear hb1
      go_wp2_with fail
      go_ret2
      exact ⟨_, rfl, Kd.R_nil _ _ _ _ _, ((Below.refl _ _).alloc (Nat.le_refl _) _).trans (HB1.out.mono (by simp))⟩
    · rw [if_neg hz] at h
      have hz1 : ((a1.size : Int) == 0) = false := beq_eq_false_iff_ne.2 hz
      have HC := Lib.hid hc
      obtain ⟨l, hl, h2⟩ := Option.bind_eq_some_iff.1 h
      by_cases hlt : (a1.size : Int) < (l.length : Int)
      · rw [if_pos hlt] at h2
        obtain ⟨out, ho, h3⟩ := Option.bind_eq_some_iff.1 h2
        obtain ⟨rfl, rfl⟩ := Prod.mk.inj (Option.some.inj h3)
        have HL := Lib.hid hl
        have HO := Lib.hid ho
        clear h hc hz hl ho h2 h3
        go_enter Try.func14, Try.ntmps14
        go_wp2_with fail
        refine (HCheck.calls _ _ _).mono ?_
        rintro e w1 ⟨rfl, hb1⟩
        rw [HC.out]
        have hcw1 : w1.cell? ⟨w.heap.size, 0, none⟩ = some (.string a1) := (hb1.cell (by simp)).trans C0.out
        have hsz1 : w.heap.size < w1.heap.size := by have := hb1.size; simp at this; omega
        have HB1 := Lib.hid hb1
        clear hb1
        go_wp2_with fail
        refine (PA.word_borders.calls k a1 l _ HL.out).mono ?_
        rintro e w2 ⟨vl, rfl, hr2, hb2⟩
        have hsz2 : w1.heap.size < w2.heap.size := by have := hb2.size; simp at this; omega
        have hcw2 : w2.cell? ⟨w.heap.size, 0, none⟩ = some (.string a1) := by
          rw [hb2.cell (by simp; omega), World.cell?_alloc_past _ _ _ (by omega)]; exact hcw1
        have hco2 : w2.cell? ⟨w1.heap.size, 0, none⟩ = some (.slice none 0 0) := by
          rw [hb2.cell (by simp), World.cell?_alloc_at _ _ _ _ rfl]; rfl
        have hfo2 : w2.frozen? ⟨w1.heap.size, 0, none⟩ = false := by
          rw [hb2.frozen (by simp), World.frozen?_alloc_at _ _ _ _ rfl]
        have HB2 : Hid (Below w.heap.size w w2) := (((Below.refl _ _).alloc (Nat.le_refl _) _).trans (HB1.out.mono (by simp))).trans ((((Below.refl _ _).alloc (Nat.le_refl _) _).trans (hb2.mono (by simp))).mono (by omega))
        obtain ⟨Al, cl, rfl⟩ := Kd.R_slice hr2
        have HR2 := Lib.hid hr2
        clear hb2 hr2
        have p0 : (0 ≤ (a1.size : Int)) = True := eq_true (by omega)
        have q0 : ((a1.size : Int) < (l.length : Int)) = True := eq_true hlt
        obtain ⟨ad, e0, hx0⟩ := Kd.at_int (Kd.R_reads' HR2.out).2.2 (a1.size : Int) (by omega) hlt
        cases e0
        rw [Int.toNat_natCast] at hx0
        have I0 : Hid (Inv w w2 w1.heap.size w.heap.size a1 w2 (.slice none 0 0) []) := ⟨hco2, hfo2, hcw2, Kd.R_nil _ _ _ _ _, HB2.out, fun b e => by simp [Value.ownBlock] at e, fun _ _ _ => rfl, Nat.le_refl _⟩
        clear hco2 hcw1
        go_wp2_with fail
        clear hx0 hcw2 hfo2 q0 p0
        go_loopg [10] k (fun kq n wr => ∃ (x : Int) (ys : List Int) (v : Value), n = .int .i64 x ∧ Aside0 (lp kq a1 l ys x = some out) ∧ Aside0 (kq ≤ k) ∧ Aside0 (Inv w w2 w1.heap.size w.heap.size a1 wr v ys))
        case atStart => exact ⟨_, [], _, rfl, ⟨HO.out⟩, ⟨Nat.le_refl _⟩, ⟨I0.out⟩⟩
        case round =>
          obtain ⟨x, ys, v, rfl, HA, HK, HI⟩ := hrel
          cases gk with
          | zero => exact absurd HA.out (by simp [lp])
          | succ k1 =>
            have H := HA.out
            clear HA
            simp only [lp] at H
            have wlt : w.heap.size ≤ wr.heap.size := HI.out.b.size
            by_cases c0 : ys.length < 17592186044000
            · rw [if_pos c0] at H
              by_cases c1 : x > 0
              · rw [if_pos c1] at H
                by_cases c2 : x < (l.length : Int)
                · rw [if_pos c2] at H
                  have H' := Aside0.mk H
                  clear H
                  go_wp2_with fail
                  refine (add_calls w wr w.heap.size w1.heap.size w.heap.size a1 x v ys HI.out.co HI.out.cw HI.out.fo (by omega) HI.out.r HI.out.b (by omega) (by omega) (by omega)).mono ?_
                  rintro e wr' ⟨rfl, had⟩
                  obtain ⟨v', HI'⟩ := HI.out.step had
                  have HJ := Aside0.mk HI'
                  clear HI' had
                  have HR3 := HJ.out.row HR2.out (by simp)
                  obtain ⟨ad3, e3, hx3⟩ := Kd.at_int (Kd.R_reads' HR3).2.2 x (by omega) c2
                  cases e3
                  have HR3' := Lib.hid HR3
                  clear HR3
                  have p0 : (0 ≤ x) = True := eq_true (by omega)
                  have q0 : (x < (l.length : Int)) = True := eq_true c2
                  clear c2
                  go_wp2_with fail
                  go_roundg k1
                  case measure => have := HK.out; omega
                  case rel => exact ⟨_, _, v', rfl, H', ⟨by have := HK.out; omega⟩, ⟨HJ.out⟩⟩
                · rw [if_neg c2] at H
                  cases H
              · rw [if_neg c1] at H
                have H' := Aside0.mk (Option.some.inj H)
                clear H
                go_wp2_with fail
                refine (add_calls w wr w.heap.size w1.heap.size w.heap.size a1 0 v ys HI.out.co HI.out.cw HI.out.fo (by omega) HI.out.r HI.out.b (by omega) (by omega) (by omega)).mono ?_
                rintro e wr' ⟨rfl, had⟩
                obtain ⟨v', HI'⟩ := HI.out.step had
                have hco3 := HI'.co
                obtain ⟨A9, c9, rfl⟩ := Kd.R_slice HI'.r
                have HJ := Aside0.mk HI'
                clear HI' had
                go_wp2_with fail
                go_ret2
                refine ⟨_, rfl, ?_, HJ.out.b⟩
                have hz := Kd.R_mono (ok' := fun _ => True) HJ.out.r (fun _ _ => trivial)
                rw [H'.out] at hz
                rw [show out.length = ys.length + 1 by rw [← H'.out]; simp] at hz
                exact hz
            · rw [if_neg c0] at H
              cases H
      · rw [if_neg hlt] at h2
        cases h2
  · rw [if_neg hc] at h
    obtain ⟨rfl, rfl⟩ := Prod.mk.inj (Option.some.inj h)
    have hn : (HCheck.chk a0 a1 != 0) = true := bne_iff_ne.2 hc
    have hn2 : (HCheck.chk a0 a1 == 0) = false := beq_eq_false_iff_ne.2 hc
    clear h hc
    go_enter Try.func14, Try.ntmps14
    go_wp2_with fail
    refine (HCheck.calls _ _ _).mono ?_
    rintro e w1 ⟨rfl, hb1⟩
    have hcw1 : w1.cell? ⟨w.heap.size, 0, none⟩ = some (.string a1) := (hb1.cell (by simp)).trans C0.out
    have HB1 := Lib.hid hb1
    clear hb1
    go_wp2_with fail
    go_ret2
    exact ⟨_, rfl, Kd.R_nil _ _ _ _ _, ((Below.refl _ _).alloc (Nat.le_refl _) _).trans (HB1.out.mono (by simp))⟩
end Go.Proofs.Ytjkajepkeepelaa.HPer
