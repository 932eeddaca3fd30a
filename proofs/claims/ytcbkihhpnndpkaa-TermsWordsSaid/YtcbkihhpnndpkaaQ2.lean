/- Several texts of this session in one: HIdent, HParsed. -/
import Derived.Test.YtcbkihhpnndpkaaQ1
import Derived.Deep.RegionWith
import Derived.Outline
set_option linter.unusedVariables false
set_option linter.unusedSimpArgs false
namespace Go.Proofs.Ytcbkihhpnndpkaa.HIdent
open Go.RowKit Go.Proofs.YtcbkihhpnndpkaaW.PrintWords Go.Proofs.YtcbkihhpnndpkaaW.PrintLast Go.Proofs.YtcbkihhpnndpkaaW.PrintMore
open Go.Proofs.Ytcbkihhpnndpkaa Go.Proofs.Ytcbkihhpnndpkaa.PA Go.Proofs.Ytcbkihhpnndpkaa.PB Go.Proofs.Ytcbkihhpnndpkaa.HTake Go.Proofs.Ytcbkihhpnndpkaa.HRead Go.Proofs.Ytcbkihhpnndpkaa.HAtom Go.Proofs.Ytcbkihhpnndpkaa.HSide

inductive Pr where
 | broke (p : Nat)
 | read (l m : List S97) (less : Bool)
def endP (s : ByteArray) (f : Nat) (l : List S97) (less : Bool) (a : Nat) : Option Pr :=
 match sideP s f a with
 | none => none
 | some (.broke p) => some (.broke p)
 | some (.read m d) => if lk s d < s.size then some (.broke (lk s d)) else some (.read l m less)
def idP (s : ByteArray) (f : Nat) : Option Pr :=
 match sideP s f 0 with
 | none => none
 | some (.broke p) => some (.broke p)
 | some (.read l d) =>
  if ch s (lk s d) = 61 then endP s f l false (lk s d + 1)
  else if ch s (lk s d) = 60 then (if takeP s (lk s d + 1) 61 then endP s f l true (lk s d + 2) else some (.broke (lk s d + 1)))
  else some (.broke (lk s d))

def IdPost (w0 w : World) : Pr → Ending → World → Prop
 | .broke p, e, w' => e = brk p ∧ Below w0.heap.size w0 w'
 | .read l m b, e, w' => ∃ v1 v2, e = .returned (.agg #[v1, v2, .bool b]) ∧ Kd.R k97 97 w' w.heap.size (fun k => some k ≠ v2.ownBlock) v1 l ∧ Kd.R k97 97 w' w.heap.size (fun k => some k ≠ v1.ownBlock) v2 m ∧ Below w0.heap.size w0 w'

/-- The identity that is made, at block n; the result's cell, at block n2. -/
structure St (w0 w W : World) (g : Nat) (s : ByteArray) (n n2 d : Nat) (v1 v2 : Value) (b : Bool) (l m : List S97) : Prop where
 i : IsS88 w0 W g s d
 bl : Below w0.heap.size w0 W
 c : W.heap[n]? = some (.cells #[v1, v2, .bool b] 24 (0, 0))
 c2 : W.heap[n2]? = some (.cells #[.slice none 0 0, .slice none 0 0, .bool false] 24 (0, 0))
 r1 : Kd.R k97 97 W w.heap.size (fun k => some k ≠ v2.ownBlock) v1 l
 r2 : Kd.R k97 97 W w.heap.size (fun k => some k ≠ v1.ownBlock) v2 m
 z : w.heap.size ≤ n ∧ w.heap.size ≤ n2 ∧ n ≠ n2
 z0 : w0.heap.size ≤ w.heap.size
theorem St.gn {w0 w W : World} {g : Nat} {s : ByteArray} {n n2 d : Nat} {v1 v2 : Value} {b : Bool} {l m : List S97} (h : St w0 w W g s n n2 d v1 v2 b l m) : g ≠ n ∧ g ≠ n2 := ⟨IsS88.ne_blk h.i h.c (by decide), IsS88.ne_blk h.i h.c2 (by decide)⟩
theorem St.keep {w0 w W W' : World} {g : Nat} {s : ByteArray} {n n2 d d' : Nat} {v1 v2 : Value} {b : Bool} {l m : List S97} (h : St w0 w W g s n n2 d v1 v2 b l m) (hi : IsS88 w0 W' g s d') (hb : Below w0.heap.size w0 W') (hk : KeepBut W W' g none) :
 St w0 w W' g s n n2 d' v1 v2 b l m :=
 ⟨hi, hb, hk.blk h.c h.gn.1.symm (by simp), hk.blk h.c2 h.gn.2.symm (by simp),
  Kd.R_mono (Kd.R_keep (IsS88.apart h.i h.r1 (by decide)) hk (fun _ q => q.2)) (fun _ q => q.1),
  Kd.R_mono (Kd.R_keep (IsS88.apart h.i h.r2 (by decide)) hk (fun _ q => q.2)) (fun _ q => q.1), h.z, h.z0⟩
theorem St.pos {w0 w W : World} {g : Nat} {s : ByteArray} {n n2 d d' : Nat} {v1 v2 : Value} {b : Bool} {l m : List S97} (h : St w0 w W g s n n2 d v1 v2 b l m) {x : Int} (hx : x = (d' : Int)) :
 St w0 w (W.setCell ⟨g, 1, none⟩ (.int .i64 x)) g s n n2 d' v1 v2 b l m := by
 subst hx
 exact h.keep (IsS88.set_1 h.i _) (below_set h.bl (IsS88.ge h.i)) (KeepBut.set_ (KeepBut.refl W g none) 1 _)
/-- The side's list is stored. -/
theorem St.left {w0 w W W' : World} {g : Nat} {s : ByteArray} {n n2 d d' : Nat} {v1 v : Value} {b : Bool} {l l' : List S97} (h : St w0 w W g s n n2 d v1 (.slice none 0 0) b l [])
 (hi : IsS88 w0 W' g s d') (hb : Below w0.heap.size w0 W') (hk : KeepBut W W' g none) (hz : w.heap.size ≤ W.heap.size) (ho : Kd.R k97 97 W' W.heap.size (fun _ => True) v l') :
 St w0 w (W'.setCell ⟨n, 0, none⟩ v) g s n n2 d' v (.slice none 0 0) b l' [] := by
 have h1 := h.keep hi hb hk
 have hkn := KeepBut.set_ (KeepBut.refl W' n none) 0 v
 refine ⟨IsS88.far hi h1.gn.1 v, below_set hb (by have := h.z; have := h.z0; show _ ≤ n; omega), ?_, ?_, ?_, Kd.R_nil _ _ _ _ _, h.z, h.z0⟩
 · simpa using blk_set h1.c 0 v
 · exact blk_far h1.c2 (by have := h.z; show n2 ≠ n; omega) v
 · exact Kd.R_mono (Kd.R_keep (Kd.R_types (Kd.R_lower ho hz) h1.c (by decide)) hkn (fun _ q => q.2)) (fun _ q => by simp [Value.ownBlock])
theorem St.right {w0 w W W' : World} {g : Nat} {s : ByteArray} {n n2 d d' : Nat} {v1 v2 v : Value} {b : Bool} {l m m' : List S97} (h : St w0 w W g s n n2 d v1 v2 b l m)
 (hi : IsS88 w0 W' g s d') (hb : Below w0.heap.size w0 W') (hk : KeepBut W W' g none) (hz : w.heap.size ≤ W.heap.size) (ho : Kd.R k97 97 W' W.heap.size (fun _ => True) v m') :
 St w0 w (W'.setCell ⟨n, 1, none⟩ v) g s n n2 d' v1 v b l m' := by
 have h1 := h.keep hi hb hk
 have hkn := KeepBut.set_ (KeepBut.refl W' n none) 1 v
 have hlt := Kd.R_lt h.r1
 have hbs := Kd.R_base ho
 refine ⟨IsS88.far hi h1.gn.1 v, below_set hb (by have := h.z; have := h.z0; show _ ≤ n; omega), ?_, ?_, ?_, ?_, h.z, h.z0⟩
 · simpa using blk_set h1.c 1 v
 · exact blk_far h1.c2 (by have := h.z; show n2 ≠ n; omega) v
 · refine Kd.R_mono (Kd.R_keep (Kd.R_types (Kd.R_keep (IsS88.apart h.i (Kd.R_bound h.r1) (by decide)) hk (fun _ q => q.2)) h1.c (by decide)) hkn (fun _ q => q.2)) (fun k q e => ?_)
   have := hbs k e.symm
   have := q.1.1.2.2.1
   omega
 · refine Kd.R_mono (Kd.R_keep (Kd.R_types (Kd.R_lower (Kd.R_new' ho hlt) hz) h1.c (by decide)) hkn (fun _ q => q.2)) (fun k q => q.1.2)
theorem St.less {w0 w W : World} {g : Nat} {s : ByteArray} {n n2 d : Nat} {v1 v2 : Value} {b : Bool} {l m : List S97} (h : St w0 w W g s n n2 d v1 v2 b l m) :
 St w0 w (W.setCell ⟨n, 2, none⟩ (.bool true)) g s n n2 d v1 v2 true l m := by
 have hkn := KeepBut.set_ (KeepBut.refl W n none) 2 (.bool true)
 refine ⟨IsS88.far h.i h.gn.1 _, below_set h.bl (by have := h.z; have := h.z0; show _ ≤ n; omega), ?_, ?_, ?_, ?_, h.z, h.z0⟩
 · simpa using blk_set h.c 2 (.bool true)
 · exact blk_far h.c2 (by have := h.z; show n2 ≠ n; omega) _
 · exact Kd.R_mono (Kd.R_keep (Kd.R_types h.r1 h.c (by decide)) hkn (fun _ q => q.2)) (fun _ q => q.1)
 · exact Kd.R_mono (Kd.R_keep (Kd.R_types h.r2 h.c (by decide)) hkn (fun _ q => q.2)) (fun _ q => q.1)
theorem St.start (w0 w : World) (g : Nat) (s : ByteArray) (d : Nat) (hi : IsS88 w0 w g s d) (hb : Below w0.heap.size w0 w) :
 St w0 w ((w.alloc (.cells #[.slice none 0 0, .slice none 0 0, .bool false] 24)).alloc (.cells #[.slice none 0 0, .slice none 0 0, .bool false] 24)) g s (w.heap.size + 1) w.heap.size d (.slice none 0 0) (.slice none 0 0) false [] [] :=
 ⟨IsS88.alloc (IsS88.alloc hi _) _, below_alloc (below_alloc hb _) _, by simpa using heap_alloc_new (w.alloc (.cells #[.slice none 0 0, .slice none 0 0, .bool false] 24)) _, by
  have := blk_alloc (heap_alloc_new w (.cells #[.slice none 0 0, .slice none 0 0, .bool false] 24)) (.cells #[.slice none 0 0, .slice none 0 0, .bool false] 24)
  exact this, Kd.R_nil _ _ _ _ _, Kd.R_nil _ _ _ _ _, by omega, hb.size⟩

theorem bne_succ (n : Nat) : (((n : Int) + 1) != 0) = true := bne_iff_ne.2 (by omega)
attribute [local go_sem] bne_succ
set_option maxHeartbeats 40000000 in
set_option maxRecDepth 100000 in
theorem identA (g : Nat) (s : ByteArray) (hs : s.size ≤ 1000) (f : Nat) (r : Pr) (h : idP s f = some r) (hc : ∀ l d, sideP s f 0 = some (.read l d) → ch s (lk s d) = 61) (w0 w : World) (hI : IsS88 w0 w g s ((0 : Nat) : Int)) (hB : Below w0.heap.size w0 w) :
 Calls Try.prog 43 #[.pointer (some ⟨g, 0, none⟩)] w (IdPost w0 w r) := by
 have S0 := Aside0.mk (St.start w0 w g s 0 hI hB)
 clear hI hB
 have hside := (HSide.all s hs f).2.2
 unfold idP at h
 cases hq : sideP s f 0 with
 | none => rw [hq] at h; cases h
 | some r1 =>
 rw [hq] at h
 have hf := (fits s f).2.2.1 0 r1 (by omega) hq
 go_enter Try.func43, Try.ntmps43
 go_wp2_with fail
 refine (hside 0 r1 (by omega) hq g w0 _ S0.out.i S0.out.bl).mono ?_
 intro e w1 hp
 cases r1 with
 | broke p =>
  obtain rfl := Option.some.inj h
  obtain ⟨rfl, hb1⟩ := hp
  go_wp2_with fail
  exact ⟨rfl, rfl, hb1⟩
 | read l d =>
 have hq0 := hq
 obtain ⟨v, rfl, ho1, hi1, hb1, hk1⟩ := hp
 obtain ⟨A1, c1, rfl⟩ := Kd.R_slice ho1
 obtain ⟨hf1, hf2, hf3⟩ := hf
 have hk := lk_le s d hf2
 have S1 := Aside0.mk (St.left S0.out hi1 hb1 hk1 (by simp; omega) ho1)
 have C1 := (S0.out.keep hi1 hb1 hk1).c
 have c10 : w1.cell? ⟨w.heap.size + 1, 0, none⟩ = some (.slice none 0 0) := (blk_cell C1 0).trans rfl
 have f10 := blk_frozen C1 0
 clear ho1 hi1 hb1 hk1 C1 S0
 go_wp2_with fail
 clear c10 f10
 generalize w1.setCell ⟨w.heap.size + 1, 0, none⟩ (.slice A1 l.length c1) = w1 at *
 refine (HAtom.look g s hs d hf2 w0 w1 S1.out.i S1.out.bl).mono ?_
 rintro e w2 ⟨rfl, hi2, hb2, hk2⟩
 have S2 := Aside0.mk (S1.out.keep hi2 hb2 hk2)
 obtain ⟨HG, hg⟩ := hi2
 have hc0 := cellS88_0 HG
 have hc1 := cellS88_1 HG
 have hf0 := blk_frozen HG 0
 have hf1' := blk_frozen HG 1
 clear HG hg hb2 hk2 S1
 by_cases h1 : ch s (lk s d) = 61
 · rw [if_pos h1] at h
   have hlt := ch_lt (s := s) (a := lk s d) (by omega)
   rw [h1]
   have S3 := Aside0.mk (St.pos (d' := lk s d + 1) S2.out (x := ((lk s d : Nat) : Int) + 1) rfl)
   cases hq2 : sideP s f (lk s d + 1) with
   | none => unfold endP at h; rw [hq2] at h; cases h
   | some r2 =>
   unfold endP at h
   rw [hq2] at h
   have hff := (fits s f).2.2.1 _ r2 (by omega) hq2
   go_wp2_with fail
   refine (hside _ r2 (by omega) hq2 g w0 _ S3.out.i S3.out.bl).mono ?_
   intro e w5 hp
   cases r2 with
   | broke p =>
    obtain rfl := Option.some.inj h
    obtain ⟨rfl, hb5⟩ := hp
    go_wp2_with fail
    exact ⟨rfl, rfl, hb5⟩
   | read m d2 =>
   obtain ⟨v2, rfl, ho5, hi5, hb5, hk5⟩ := hp
   obtain ⟨A2, c2, rfl⟩ := Kd.R_slice ho5
   obtain ⟨hg1, hg2, hg3⟩ := hff
   have hkk := lk_le s d2 hg2
   have S5 := Aside0.mk (St.right S3.out hi5 hb5 hk5 (by have := S3.out.z; have := blk_lt S3.out.c; omega) ho5)
   have C5 := (S3.out.keep hi5 hb5 hk5).c
   have c51 : w5.cell? ⟨w.heap.size + 1, 1, none⟩ = some (.slice none 0 0) := (blk_cell C5 1).trans rfl
   have f51 := blk_frozen C5 1
   clear ho5 hi5 hb5 hk5 C5
   go_wp2_with fail
   clear c51 f51
   generalize w5.setCell ⟨w.heap.size + 1, 1, none⟩ (.slice A2 m.length c2) = w5 at *
   by_cases hend : lk s d2 < s.size
   · rw [if_pos hend] at h
     obtain rfl := Option.some.inj h
     have t1 : decide (((lk s d2 : Nat) : Int) < (s.size : Int)) = true := decide_eq_true (by omega)
     by_cases hz : ch s (lk s d2) = 0
     · have t0 : (ch s (lk s d2) != 0) = false := bne_eq_false_iff_eq.mpr hz
       go_region_with (go_at_call 92; refine (HAtom.look g s hs d2 hg2 w0 _ (IsS88.drew S5.out.i) (below_drew1 S5.out.bl)).mono ?_; rintro e w6 ⟨rfl, hi6, hb6, hk6⟩; have S6 := Aside0.mk (S5.out.keep hi6 hb6 (KeepBut.trans (keep_drew (KeepBut.refl w5 g none)) hk6 (.inl rfl))); obtain ⟨HG6, hg6⟩ := hi6; have c60 := cellS88_0 HG6; have c61 := cellS88_1 HG6; have f60 := blk_frozen HG6 0; have f61 := blk_frozen HG6 1; clear HG6 hg6 hb6 hk6; rw [hz])
       all_goals (
        go_wp2_with fail
        refine (breaks g s (lk s d2 : Nat) w0 _ S6.out.i).mono ?_
        rintro e w7 ⟨rfl, rfl⟩
        go_wp2_with fail
        exact ⟨rfl, rfl, S6.out.bl⟩)
     · have t0 : (ch s (lk s d2) != 0) = true := bne_iff_ne.mpr hz
       refine start_ (n := 15) (S := fun _ => True) (ds := []) #[false, false, false, false, false, false, false, false, false, false, false, false, false, false, false] (by kernel_rfl) rfl rfl trivial (fun hHeld => ?_)
       refine pure_ (i := 0) (N := some 35) (v := ?_) (a' := ?_) #[true, false, false, false, false, false, false, false, false, false, false, false, false, false, false] rfl rfl (by kernel_rfl) (fun _ _ _ h => h) (Or.inl ⟨by rfl, ?_⟩) ?_ ?_
       rotate_left
       · intro w'
         go_simp
         first | done | (with_reducible rfl) | simp [t0]
       rotate_left
       · simp only [Act.put, sA_, sZ_, sS_, i64_w, i32_w]
         rfl
       refine one_ (i := 1) (N := some 36) #[true, true, false, false, false, false, false, false, false, false, false, false, false, false, false] rfl rfl (by kernel_rfl) (by decide) (fun K hK => ?_)
       refine goes_ Try.func92 (by kernel_rfl) rfl #[.pointer (some ⟨g, 0, none⟩)] (by rfl) rfl rfl (by (try simp only [List.map_toArray, List.map_cons, List.map_nil]); first | done | rfl) ?_
       refine (HAtom.look g s hs d2 hg2 w0 _ (IsS88.drew S5.out.i) (below_drew1 S5.out.bl)).mono ?_
       rintro e w6 ⟨rfl, hi6, hb6, hk6⟩
       refine ⟨_, rfl, ?_⟩
       have S6 := Aside0.mk (S5.out.keep hi6 hb6 (KeepBut.trans (keep_drew (KeepBut.refl w5 g none)) hk6 (.inl rfl)))
       clear hi6 hb6 hk6
       refine hK.out _ _ trivial (fun hHeld => ?_)
       clear hK K
       refine norm_ (a' := ?_) ?_ ?_
       rotate_left
       · show Act.put _ (some 36) _ = _
         simp only [Act.put, sA_, sZ_, sS_, i64_w, i32_w]
         rfl
       refine pure_ (i := 2) (N := some 37) (v := .bool true) (a' := ?_) #[true, true, true, false, false, false, false, false, false, false, false, false, false, false, false] rfl rfl (by kernel_rfl) (fun _ _ _ h => h) (Or.inl ⟨by rfl, ?_⟩) ?_ ?_
       · intro w'
         go_simp
         first | done | (with_reducible rfl) | simp [t0]
       rotate_left
       · simp only [Act.put, sA_, sZ_, sS_, i64_w, i32_w]
         rfl
       refine pure_ (i := 3) (N := some 38) (v := .bool true) (a' := ?_) #[true, true, true, true, false, false, false, false, false, false, false, false, false, false, false] rfl rfl (by kernel_rfl) (fun _ _ _ h => h) (Or.inl ⟨by rfl, ?_⟩) ?_ ?_
       · intro w'
         go_simp
         first | done | (with_reducible rfl) | simp [t0]
       rotate_left
       · simp only [Act.put, sA_, sZ_, sS_, i64_w, i32_w]
         rfl
       refine pure_ (i := 4) (N := some 39) (v := undef) (a' := ?_) #[true, true, true, true, true, false, false, false, false, false, false, false, false, false, false] rfl rfl (by kernel_rfl) (fun _ _ _ h => h) (Or.inr ⟨by rfl, rfl⟩) ?_ ?_
       rotate_left
       · simp only [Act.put, sA_, sZ_, sS_, i64_w, i32_w]
         rfl
       refine pure_ (i := 5) (N := some 40) (v := undef) (a' := ?_) #[true, true, true, true, true, true, false, false, false, false, false, false, false, false, false] rfl rfl (by kernel_rfl) (fun _ _ _ h => h) (Or.inr ⟨by rfl, rfl⟩) ?_ ?_
       rotate_left
       · simp only [Act.put, sA_, sZ_, sS_, i64_w, i32_w]
         rfl
       refine pure_ (i := 6) (N := some 41) (v := undef) (a' := ?_) #[true, true, true, true, true, true, true, false, false, false, false, false, false, false, false] rfl rfl (by kernel_rfl) (fun _ _ _ h => h) (Or.inr ⟨by rfl, rfl⟩) ?_ ?_
       rotate_left
       · simp only [Act.put, sA_, sZ_, sS_, i64_w, i32_w]
         rfl
       refine pure_ (i := 7) (N := some 42) (v := undef) (a' := ?_) #[true, true, true, true, true, true, true, true, false, false, false, false, false, false, false] rfl rfl (by kernel_rfl) (fun _ _ _ h => h) (Or.inr ⟨by rfl, rfl⟩) ?_ ?_
       rotate_left
       · simp only [Act.put, sA_, sZ_, sS_, i64_w, i32_w]
         rfl
       refine pure_ (i := 8) (N := some 43) (v := undef) (a' := ?_) #[true, true, true, true, true, true, true, true, true, false, false, false, false, false, false] rfl rfl (by kernel_rfl) (fun _ _ _ h => h) (Or.inr ⟨by rfl, rfl⟩) ?_ ?_
       rotate_left
       · simp only [Act.put, sA_, sZ_, sS_, i64_w, i32_w]
         rfl
       refine pure_ (i := 9) (N := some 44) (v := undef) (a' := ?_) #[true, true, true, true, true, true, true, true, true, true, false, false, false, false, false] rfl rfl (by kernel_rfl) (fun _ _ _ h => h) (Or.inr ⟨by rfl, rfl⟩) ?_ ?_
       rotate_left
       · simp only [Act.put, sA_, sZ_, sS_, i64_w, i32_w]
         rfl
       refine pure_ (i := 10) (N := some 45) (v := undef) (a' := ?_) #[true, true, true, true, true, true, true, true, true, true, true, false, false, false, false] rfl rfl (by kernel_rfl) (fun _ _ _ h => h) (Or.inr ⟨by rfl, rfl⟩) ?_ ?_
       rotate_left
       · simp only [Act.put, sA_, sZ_, sS_, i64_w, i32_w]
         rfl
       refine pure_ (i := 11) (N := some 46) (v := undef) (a' := ?_) #[true, true, true, true, true, true, true, true, true, true, true, true, false, false, false] rfl rfl (by kernel_rfl) (fun _ _ _ h => h) (Or.inr ⟨by rfl, rfl⟩) ?_ ?_
       rotate_left
       · simp only [Act.put, sA_, sZ_, sS_, i64_w, i32_w]
         rfl
       refine pure_ (i := 12) (N := some 47) (v := undef) (a' := ?_) #[true, true, true, true, true, true, true, true, true, true, true, true, true, false, false] rfl rfl (by kernel_rfl) (fun _ _ _ h => h) (Or.inr ⟨by rfl, rfl⟩) ?_ ?_
       rotate_left
       · simp only [Act.put, sA_, sZ_, sS_, i64_w, i32_w]
         rfl
       refine pure_ (i := 13) (N := some 48) (v := undef) (a' := ?_) #[true, true, true, true, true, true, true, true, true, true, true, true, true, true, false] rfl rfl (by kernel_rfl) (fun _ _ _ h => h) (Or.inr ⟨by rfl, rfl⟩) ?_ ?_
       rotate_left
       · simp only [Act.put, sA_, sZ_, sS_, i64_w, i32_w]
         rfl
       refine pure_ (i := 14) (N := some 49) (v := .bool true) (a' := ?_) #[true, true, true, true, true, true, true, true, true, true, true, true, true, true, true] rfl rfl (by kernel_rfl) (fun _ _ _ h => h) (Or.inl ⟨by rfl, ?_⟩) ?_ ?_
       · intro w'
         go_simp
         first | done | (with_reducible rfl) | simp [t0]
       rotate_left
       · simp only [Act.put, sA_, sZ_, sS_, i64_w, i32_w]
         rfl
       refine done_ (by kernel_rfl) ?_
       go_wp2_with fail
       refine (breaks g s (lk s d2 : Nat) w0 _ S6.out.i).mono ?_
       rintro e w7 ⟨rfl, rfl⟩
       go_wp2_with fail
       exact ⟨rfl, rfl, S6.out.bl⟩
   · rw [if_neg hend] at h
     obtain rfl := Option.some.inj h
     have t1 : decide (((lk s d2 : Nat) : Int) < (s.size : Int)) = false := decide_eq_false (by omega)
     have hz : ch s (lk s d2) = 0 := by unfold ch; rw [if_neg hend]
     have t0 : (ch s (lk s d2) != 0) = false := bne_eq_false_iff_eq.mpr hz
     go_region_with (go_at_call 92; refine (HAtom.look g s hs d2 hg2 w0 _ (IsS88.drew S5.out.i) (below_drew1 S5.out.bl)).mono ?_; rintro e w6 ⟨rfl, hi6, hb6, hk6⟩; have S6 := Aside0.mk (S5.out.keep hi6 hb6 (KeepBut.trans (keep_drew (KeepBut.refl w5 g none)) hk6 (.inl rfl))); obtain ⟨HG6, hg6⟩ := hi6; have c60 := cellS88_0 HG6; have c61 := cellS88_1 HG6; have f60 := blk_frozen HG6 0; have f61 := blk_frozen HG6 1; clear HG6 hg6 hb6 hk6; rw [hz])
     all_goals (
      have n0 : w6.cell? ⟨w.heap.size + 1, 0, none⟩ = some (.slice A1 l.length c1) := (blk_cell S6.out.c 0).trans rfl
      have n1 : w6.cell? ⟨w.heap.size + 1, 1, none⟩ = some (.slice A2 m.length c2) := (blk_cell S6.out.c 1).trans rfl
      have n2 : w6.cell? ⟨w.heap.size + 1, 2, none⟩ = some (.bool false) := (blk_cell S6.out.c 2).trans rfl
      have m0 : w6.cell? ⟨w.heap.size, 0, none⟩ = some (.slice none 0 0) := (blk_cell S6.out.c2 0).trans rfl
      have m1 : w6.cell? ⟨w.heap.size, 1, none⟩ = some (.slice none 0 0) := (blk_cell S6.out.c2 1).trans rfl
      have m2 : w6.cell? ⟨w.heap.size, 2, none⟩ = some (.bool false) := (blk_cell S6.out.c2 2).trans rfl
      have q0 := blk_frozen S6.out.c 0
      have q1 := blk_frozen S6.out.c 1
      have q2 := blk_frozen S6.out.c 2
      have p0 := blk_frozen S6.out.c2 0
      have p1 := blk_frozen S6.out.c2 1
      have p2 := blk_frozen S6.out.c2 2
      go_wp2_with fail
      refine bodyPost_ret (results_single rfl (.cell w.heap.size 24 #[.slice A1 l.length c1, .slice A2 m.length c2, .bool false] (0, 0) _ rfl (by refine blk_put (cs := #[.slice A1 l.length c1, .slice A2 m.length c2, .bool false]) ?_ 2 _ rfl; refine blk_put (cs := #[.slice A1 l.length c1, .slice none 0 0, .bool false]) ?_ 1 _ rfl; refine blk_put (cs := #[.slice none 0 0, .slice none 0 0, .bool false]) ?_ 0 _ rfl; exact S6.out.c2) Try.underlying24 rfl (by kernel_rfl) .nil)) rfl ?_
      exact ⟨_, _, rfl, Kd.R_mono (Kd.R_far (p := ⟨w.heap.size, 2, none⟩) (Kd.R_far (p := ⟨w.heap.size, 1, none⟩) (Kd.R_far (p := ⟨w.heap.size, 0, none⟩) (Kd.R_types S6.out.r1 S6.out.c2 (by decide)) (fun _ hk => hk.2) _) (fun _ hk => hk.2) _) (fun _ hk => hk.2) _) (fun _ hk => hk.1), Kd.R_mono (Kd.R_far (p := ⟨w.heap.size, 2, none⟩) (Kd.R_far (p := ⟨w.heap.size, 1, none⟩) (Kd.R_far (p := ⟨w.heap.size, 0, none⟩) (Kd.R_types S6.out.r2 S6.out.c2 (by decide)) (fun _ hk => hk.2) _) (fun _ hk => hk.2) _) (fun _ hk => hk.2) _) (fun _ hk => hk.1), below_set (below_set (below_set S6.out.bl S6.out.z0) S6.out.z0) S6.out.z0⟩)
 · exact absurd (hc l d hq0) h1

set_option maxHeartbeats 40000000 in
set_option maxRecDepth 100000 in
theorem identB (g : Nat) (s : ByteArray) (hs : s.size ≤ 1000) (f : Nat) (r : Pr) (h : idP s f = some r) (hc : ∀ l d, sideP s f 0 = some (.read l d) → ch s (lk s d) ≠ 61) (w0 w : World) (hI : IsS88 w0 w g s ((0 : Nat) : Int)) (hB : Below w0.heap.size w0 w) :
 Calls Try.prog 43 #[.pointer (some ⟨g, 0, none⟩)] w (IdPost w0 w r) := by
 have S0 := Aside0.mk (St.start w0 w g s 0 hI hB)
 clear hI hB
 have hside := (HSide.all s hs f).2.2
 unfold idP at h
 cases hq : sideP s f 0 with
 | none => rw [hq] at h; cases h
 | some r1 =>
 rw [hq] at h
 have hf := (fits s f).2.2.1 0 r1 (by omega) hq
 go_enter Try.func43, Try.ntmps43
 go_wp2_with fail
 refine (hside 0 r1 (by omega) hq g w0 _ S0.out.i S0.out.bl).mono ?_
 intro e w1 hp
 cases r1 with
 | broke p =>
  obtain rfl := Option.some.inj h
  obtain ⟨rfl, hb1⟩ := hp
  go_wp2_with fail
  exact ⟨rfl, rfl, hb1⟩
 | read l d =>
 have hq0 := hq
 obtain ⟨v, rfl, ho1, hi1, hb1, hk1⟩ := hp
 obtain ⟨A1, c1, rfl⟩ := Kd.R_slice ho1
 obtain ⟨hf1, hf2, hf3⟩ := hf
 have hk := lk_le s d hf2
 have S1 := Aside0.mk (St.left S0.out hi1 hb1 hk1 (by simp; omega) ho1)
 have C1 := (S0.out.keep hi1 hb1 hk1).c
 have c10 : w1.cell? ⟨w.heap.size + 1, 0, none⟩ = some (.slice none 0 0) := (blk_cell C1 0).trans rfl
 have f10 := blk_frozen C1 0
 clear ho1 hi1 hb1 hk1 C1 S0
 go_wp2_with fail
 clear c10 f10
 generalize w1.setCell ⟨w.heap.size + 1, 0, none⟩ (.slice A1 l.length c1) = w1 at *
 refine (HAtom.look g s hs d hf2 w0 w1 S1.out.i S1.out.bl).mono ?_
 rintro e w2 ⟨rfl, hi2, hb2, hk2⟩
 have S2 := Aside0.mk (S1.out.keep hi2 hb2 hk2)
 obtain ⟨HG, hg⟩ := hi2
 have hc0 := cellS88_0 HG
 have hc1 := cellS88_1 HG
 have hf0 := blk_frozen HG 0
 have hf1' := blk_frozen HG 1
 clear HG hg hb2 hk2 S1
 by_cases h1 : ch s (lk s d) = 61
 · exact absurd h1 (hc l d hq0)
 · rw [if_neg h1] at h
   by_cases h2 : ch s (lk s d) = 60
   · rw [if_pos h2] at h
     have hlt := ch_lt (s := s) (a := lk s d) (by omega)
     rw [h2]
     have S3 := Aside0.mk (St.pos (d' := lk s d + 1) S2.out (x := ((lk s d : Nat) : Int) + 1) rfl)
     go_wp2_with fail
     generalize w2.setCell ⟨g, 1, none⟩ (.int .i64 (((lk s d : Nat) : Int) + 1)) = w3 at *
     cases ht : takeP s (lk s d + 1) 61 with
     | false =>
      rw [ht, if_neg (by simp)] at h
      obtain rfl := Option.some.inj h
      refine (take_bad g s (lk s d + 1) 61 w0 w3 S3.out.i (by omega) ht).mono ?_
      rintro e w4 ⟨rfl, nd, rfl⟩
      go_wp2_with fail
      exact ⟨rfl, rfl, pw_below_drewN S3.out.bl _⟩
     | true =>
      rw [ht, if_pos rfl] at h
      have hlt2 := takeP_lt ht
      refine (take_ok g s (lk s d + 1) 61 w0 w3 S3.out.i S3.out.bl hs ht).mono ?_
      rintro e w4 ⟨rfl, hi4, hb4, hk4⟩
      have S4 := Aside0.mk (S3.out.keep (d' := lk s d + 2) hi4 hb4 hk4)
      have S4L := Aside0.mk S4.out.less
      have c42 : w4.cell? ⟨w.heap.size + 1, 2, none⟩ = some (.bool false) := (blk_cell S4.out.c 2).trans rfl
      have f42 := blk_frozen S4.out.c 2
      clear hi4 hb4 hk4 hc0 hc1 hf0 hf1'
      cases hq2 : sideP s f (lk s d + 2) with
      | none => unfold endP at h; rw [hq2] at h; cases h
      | some r2 =>
      unfold endP at h
      rw [hq2] at h
      have hff := (fits s f).2.2.1 _ r2 (by omega) hq2
      go_wp2_with fail
      refine (hside _ r2 (by omega) hq2 g w0 _ S4L.out.i S4L.out.bl).mono ?_
      intro e w5 hp
      cases r2 with
      | broke p =>
       obtain rfl := Option.some.inj h
       obtain ⟨rfl, hb5⟩ := hp
       go_wp2_with fail
       exact ⟨rfl, rfl, hb5⟩
      | read m d2 =>
      obtain ⟨v2, rfl, ho5, hi5, hb5, hk5⟩ := hp
      obtain ⟨A2, c2, rfl⟩ := Kd.R_slice ho5
      obtain ⟨hg1, hg2, hg3⟩ := hff
      have hkk := lk_le s d2 hg2
      have S5 := Aside0.mk (St.right S4L.out hi5 hb5 hk5 (by have := S4L.out.z; have := blk_lt S4L.out.c; omega) ho5)
      have C5 := (S4L.out.keep hi5 hb5 hk5).c
      have c51 : w5.cell? ⟨w.heap.size + 1, 1, none⟩ = some (.slice none 0 0) := (blk_cell C5 1).trans rfl
      have f51 := blk_frozen C5 1
      clear ho5 hi5 hb5 hk5 C5
      go_wp2_with fail
      clear c51 f51
      generalize w5.setCell ⟨w.heap.size + 1, 1, none⟩ (.slice A2 m.length c2) = w5 at *
      by_cases hend : lk s d2 < s.size
      · rw [if_pos hend] at h
        obtain rfl := Option.some.inj h
        have t1 : decide (((lk s d2 : Nat) : Int) < (s.size : Int)) = true := decide_eq_true (by omega)
        by_cases hz : ch s (lk s d2) = 0
        · have t0 : (ch s (lk s d2) != 0) = false := bne_eq_false_iff_eq.mpr hz
          go_region_with (go_at_call 92; refine (HAtom.look g s hs d2 hg2 w0 _ (IsS88.drew S5.out.i) (below_drew1 S5.out.bl)).mono ?_; rintro e w6 ⟨rfl, hi6, hb6, hk6⟩; have S6 := Aside0.mk (S5.out.keep hi6 hb6 (KeepBut.trans (keep_drew (KeepBut.refl w5 g none)) hk6 (.inl rfl))); obtain ⟨HG6, hg6⟩ := hi6; have c60 := cellS88_0 HG6; have c61 := cellS88_1 HG6; have f60 := blk_frozen HG6 0; have f61 := blk_frozen HG6 1; clear HG6 hg6 hb6 hk6; rw [hz])
          all_goals (
           go_wp2_with fail
           refine (breaks g s (lk s d2 : Nat) w0 _ S6.out.i).mono ?_
           rintro e w7 ⟨rfl, rfl⟩
           go_wp2_with fail
           exact ⟨rfl, rfl, S6.out.bl⟩)
        · have t0 : (ch s (lk s d2) != 0) = true := bne_iff_ne.mpr hz
          refine start_ (n := 15) (S := fun _ => True) (ds := []) #[false, false, false, false, false, false, false, false, false, false, false, false, false, false, false] (by kernel_rfl) rfl rfl trivial (fun hHeld => ?_)
          refine pure_ (i := 0) (N := some 35) (v := ?_) (a' := ?_) #[true, false, false, false, false, false, false, false, false, false, false, false, false, false, false] rfl rfl (by kernel_rfl) (fun _ _ _ h => h) (Or.inl ⟨by rfl, ?_⟩) ?_ ?_
          rotate_left
          · intro w'
            go_simp
            first | done | (with_reducible rfl) | simp [t0]
          rotate_left
          · simp only [Act.put, sA_, sZ_, sS_, i64_w, i32_w]
            rfl
          refine one_ (i := 1) (N := some 36) #[true, true, false, false, false, false, false, false, false, false, false, false, false, false, false] rfl rfl (by kernel_rfl) (by decide) (fun K hK => ?_)
          refine goes_ Try.func92 (by kernel_rfl) rfl #[.pointer (some ⟨g, 0, none⟩)] (by rfl) rfl rfl (by (try simp only [List.map_toArray, List.map_cons, List.map_nil]); first | done | rfl) ?_
          refine (HAtom.look g s hs d2 hg2 w0 _ (IsS88.drew S5.out.i) (below_drew1 S5.out.bl)).mono ?_
          rintro e w6 ⟨rfl, hi6, hb6, hk6⟩
          refine ⟨_, rfl, ?_⟩
          have S6 := Aside0.mk (S5.out.keep hi6 hb6 (KeepBut.trans (keep_drew (KeepBut.refl w5 g none)) hk6 (.inl rfl)))
          clear hi6 hb6 hk6
          refine hK.out _ _ trivial (fun hHeld => ?_)
          clear hK K
          refine norm_ (a' := ?_) ?_ ?_
          rotate_left
          · show Act.put _ (some 36) _ = _
            simp only [Act.put, sA_, sZ_, sS_, i64_w, i32_w]
            rfl
          refine pure_ (i := 2) (N := some 37) (v := .bool true) (a' := ?_) #[true, true, true, false, false, false, false, false, false, false, false, false, false, false, false] rfl rfl (by kernel_rfl) (fun _ _ _ h => h) (Or.inl ⟨by rfl, ?_⟩) ?_ ?_
          · intro w'
            go_simp
            first | done | (with_reducible rfl) | simp [t0]
          rotate_left
          · simp only [Act.put, sA_, sZ_, sS_, i64_w, i32_w]
            rfl
          refine pure_ (i := 3) (N := some 38) (v := .bool true) (a' := ?_) #[true, true, true, true, false, false, false, false, false, false, false, false, false, false, false] rfl rfl (by kernel_rfl) (fun _ _ _ h => h) (Or.inl ⟨by rfl, ?_⟩) ?_ ?_
          · intro w'
            go_simp
            first | done | (with_reducible rfl) | simp [t0]
          rotate_left
          · simp only [Act.put, sA_, sZ_, sS_, i64_w, i32_w]
            rfl
          refine pure_ (i := 4) (N := some 39) (v := undef) (a' := ?_) #[true, true, true, true, true, false, false, false, false, false, false, false, false, false, false] rfl rfl (by kernel_rfl) (fun _ _ _ h => h) (Or.inr ⟨by rfl, rfl⟩) ?_ ?_
          rotate_left
          · simp only [Act.put, sA_, sZ_, sS_, i64_w, i32_w]
            rfl
          refine pure_ (i := 5) (N := some 40) (v := undef) (a' := ?_) #[true, true, true, true, true, true, false, false, false, false, false, false, false, false, false] rfl rfl (by kernel_rfl) (fun _ _ _ h => h) (Or.inr ⟨by rfl, rfl⟩) ?_ ?_
          rotate_left
          · simp only [Act.put, sA_, sZ_, sS_, i64_w, i32_w]
            rfl
          refine pure_ (i := 6) (N := some 41) (v := undef) (a' := ?_) #[true, true, true, true, true, true, true, false, false, false, false, false, false, false, false] rfl rfl (by kernel_rfl) (fun _ _ _ h => h) (Or.inr ⟨by rfl, rfl⟩) ?_ ?_
          rotate_left
          · simp only [Act.put, sA_, sZ_, sS_, i64_w, i32_w]
            rfl
          refine pure_ (i := 7) (N := some 42) (v := undef) (a' := ?_) #[true, true, true, true, true, true, true, true, false, false, false, false, false, false, false] rfl rfl (by kernel_rfl) (fun _ _ _ h => h) (Or.inr ⟨by rfl, rfl⟩) ?_ ?_
          rotate_left
          · simp only [Act.put, sA_, sZ_, sS_, i64_w, i32_w]
            rfl
          refine pure_ (i := 8) (N := some 43) (v := undef) (a' := ?_) #[true, true, true, true, true, true, true, true, true, false, false, false, false, false, false] rfl rfl (by kernel_rfl) (fun _ _ _ h => h) (Or.inr ⟨by rfl, rfl⟩) ?_ ?_
          rotate_left
          · simp only [Act.put, sA_, sZ_, sS_, i64_w, i32_w]
            rfl
          refine pure_ (i := 9) (N := some 44) (v := undef) (a' := ?_) #[true, true, true, true, true, true, true, true, true, true, false, false, false, false, false] rfl rfl (by kernel_rfl) (fun _ _ _ h => h) (Or.inr ⟨by rfl, rfl⟩) ?_ ?_
          rotate_left
          · simp only [Act.put, sA_, sZ_, sS_, i64_w, i32_w]
            rfl
          refine pure_ (i := 10) (N := some 45) (v := undef) (a' := ?_) #[true, true, true, true, true, true, true, true, true, true, true, false, false, false, false] rfl rfl (by kernel_rfl) (fun _ _ _ h => h) (Or.inr ⟨by rfl, rfl⟩) ?_ ?_
          rotate_left
          · simp only [Act.put, sA_, sZ_, sS_, i64_w, i32_w]
            rfl
          refine pure_ (i := 11) (N := some 46) (v := undef) (a' := ?_) #[true, true, true, true, true, true, true, true, true, true, true, true, false, false, false] rfl rfl (by kernel_rfl) (fun _ _ _ h => h) (Or.inr ⟨by rfl, rfl⟩) ?_ ?_
          rotate_left
          · simp only [Act.put, sA_, sZ_, sS_, i64_w, i32_w]
            rfl
          refine pure_ (i := 12) (N := some 47) (v := undef) (a' := ?_) #[true, true, true, true, true, true, true, true, true, true, true, true, true, false, false] rfl rfl (by kernel_rfl) (fun _ _ _ h => h) (Or.inr ⟨by rfl, rfl⟩) ?_ ?_
          rotate_left
          · simp only [Act.put, sA_, sZ_, sS_, i64_w, i32_w]
            rfl
          refine pure_ (i := 13) (N := some 48) (v := undef) (a' := ?_) #[true, true, true, true, true, true, true, true, true, true, true, true, true, true, false] rfl rfl (by kernel_rfl) (fun _ _ _ h => h) (Or.inr ⟨by rfl, rfl⟩) ?_ ?_
          rotate_left
          · simp only [Act.put, sA_, sZ_, sS_, i64_w, i32_w]
            rfl
          refine pure_ (i := 14) (N := some 49) (v := .bool true) (a' := ?_) #[true, true, true, true, true, true, true, true, true, true, true, true, true, true, true] rfl rfl (by kernel_rfl) (fun _ _ _ h => h) (Or.inl ⟨by rfl, ?_⟩) ?_ ?_
          · intro w'
            go_simp
            first | done | (with_reducible rfl) | simp [t0]
          rotate_left
          · simp only [Act.put, sA_, sZ_, sS_, i64_w, i32_w]
            rfl
          refine done_ (by kernel_rfl) ?_
          go_wp2_with fail
          refine (breaks g s (lk s d2 : Nat) w0 _ S6.out.i).mono ?_
          rintro e w7 ⟨rfl, rfl⟩
          go_wp2_with fail
          exact ⟨rfl, rfl, S6.out.bl⟩
      · rw [if_neg hend] at h
        obtain rfl := Option.some.inj h
        have t1 : decide (((lk s d2 : Nat) : Int) < (s.size : Int)) = false := decide_eq_false (by omega)
        have hz : ch s (lk s d2) = 0 := by unfold ch; rw [if_neg hend]
        have t0 : (ch s (lk s d2) != 0) = false := bne_eq_false_iff_eq.mpr hz
        go_region_with (go_at_call 92; refine (HAtom.look g s hs d2 hg2 w0 _ (IsS88.drew S5.out.i) (below_drew1 S5.out.bl)).mono ?_; rintro e w6 ⟨rfl, hi6, hb6, hk6⟩; have S6 := Aside0.mk (S5.out.keep hi6 hb6 (KeepBut.trans (keep_drew (KeepBut.refl w5 g none)) hk6 (.inl rfl))); obtain ⟨HG6, hg6⟩ := hi6; have c60 := cellS88_0 HG6; have c61 := cellS88_1 HG6; have f60 := blk_frozen HG6 0; have f61 := blk_frozen HG6 1; clear HG6 hg6 hb6 hk6; rw [hz])
        all_goals (
         have n0 : w6.cell? ⟨w.heap.size + 1, 0, none⟩ = some (.slice A1 l.length c1) := (blk_cell S6.out.c 0).trans rfl
         have n1 : w6.cell? ⟨w.heap.size + 1, 1, none⟩ = some (.slice A2 m.length c2) := (blk_cell S6.out.c 1).trans rfl
         have n2 : w6.cell? ⟨w.heap.size + 1, 2, none⟩ = some (.bool true) := (blk_cell S6.out.c 2).trans rfl
         have m0 : w6.cell? ⟨w.heap.size, 0, none⟩ = some (.slice none 0 0) := (blk_cell S6.out.c2 0).trans rfl
         have m1 : w6.cell? ⟨w.heap.size, 1, none⟩ = some (.slice none 0 0) := (blk_cell S6.out.c2 1).trans rfl
         have m2 : w6.cell? ⟨w.heap.size, 2, none⟩ = some (.bool false) := (blk_cell S6.out.c2 2).trans rfl
         have q0 := blk_frozen S6.out.c 0
         have q1 := blk_frozen S6.out.c 1
         have q2 := blk_frozen S6.out.c 2
         have p0 := blk_frozen S6.out.c2 0
         have p1 := blk_frozen S6.out.c2 1
         have p2 := blk_frozen S6.out.c2 2
         go_wp2_with fail
         refine bodyPost_ret (results_single rfl (.cell w.heap.size 24 #[.slice A1 l.length c1, .slice A2 m.length c2, .bool true] (0, 0) _ rfl (by refine blk_put (cs := #[.slice A1 l.length c1, .slice A2 m.length c2, .bool false]) ?_ 2 _ rfl; refine blk_put (cs := #[.slice A1 l.length c1, .slice none 0 0, .bool false]) ?_ 1 _ rfl; refine blk_put (cs := #[.slice none 0 0, .slice none 0 0, .bool false]) ?_ 0 _ rfl; exact S6.out.c2) Try.underlying24 rfl (by kernel_rfl) .nil)) rfl ?_
         exact ⟨_, _, rfl, Kd.R_mono (Kd.R_far (p := ⟨w.heap.size, 2, none⟩) (Kd.R_far (p := ⟨w.heap.size, 1, none⟩) (Kd.R_far (p := ⟨w.heap.size, 0, none⟩) (Kd.R_types S6.out.r1 S6.out.c2 (by decide)) (fun _ hk => hk.2) _) (fun _ hk => hk.2) _) (fun _ hk => hk.2) _) (fun _ hk => hk.1), Kd.R_mono (Kd.R_far (p := ⟨w.heap.size, 2, none⟩) (Kd.R_far (p := ⟨w.heap.size, 1, none⟩) (Kd.R_far (p := ⟨w.heap.size, 0, none⟩) (Kd.R_types S6.out.r2 S6.out.c2 (by decide)) (fun _ hk => hk.2) _) (fun _ hk => hk.2) _) (fun _ hk => hk.2) _) (fun _ hk => hk.1), below_set (below_set (below_set S6.out.bl S6.out.z0) S6.out.z0) S6.out.z0⟩)
   · rw [if_neg h2] at h
     obtain rfl := Option.some.inj h
     have b1 : (ch s (lk s d) == 61) = false := beq_eq_false_iff_ne.mpr h1
     have b2 : (ch s (lk s d) == 60) = false := beq_eq_false_iff_ne.mpr h2
     go_wp2_with fail
     refine (breaks g s (lk s d : Nat) w0 _ S2.out.i).mono ?_
     rintro e w7 ⟨rfl, rfl⟩
     go_wp2_with fail
     exact ⟨rfl, rfl, S2.out.bl⟩

theorem ident (g : Nat) (s : ByteArray) (hs : s.size ≤ 1000) (f : Nat) (r : Pr) (h : idP s f = some r) (w0 w : World) (hI : IsS88 w0 w g s ((0 : Nat) : Int)) (hB : Below w0.heap.size w0 w) :
 Calls Try.prog 43 #[.pointer (some ⟨g, 0, none⟩)] w (IdPost w0 w r) := by
 by_cases hc : ∀ l d, sideP s f 0 = some (.read l d) → ch s (lk s d) = 61
 · exact identA g s hs f r h hc w0 w hI hB
 · refine identB g s hs f r h (fun l d e q => hc (fun l' d' e' => ?_)) w0 w hI hB
   rw [e] at e'
   cases e'
   exact q
end Go.Proofs.Ytcbkihhpnndpkaa.HIdent
set_option linter.unusedVariables false
set_option linter.unusedSimpArgs false
namespace Go.Proofs.Ytcbkihhpnndpkaa.HParsed
open Go.RowKit Go.Proofs.YtcbkihhpnndpkaaW.PrintWords Go.Proofs.YtcbkihhpnndpkaaW.PrintLast Go.Proofs.YtcbkihhpnndpkaaW.PrintMore
open Go.Proofs.Ytcbkihhpnndpkaa Go.Proofs.Ytcbkihhpnndpkaa.PA Go.Proofs.Ytcbkihhpnndpkaa.PB Go.Proofs.Ytcbkihhpnndpkaa.HTake Go.Proofs.Ytcbkihhpnndpkaa.HRead Go.Proofs.Ytcbkihhpnndpkaa.HAtom Go.Proofs.Ytcbkihhpnndpkaa.HIdent Go.Proofs.Ytcbkihhpnndpkaa.HParse

/-- Both sides, is it at most, where it breaks, the error. -/
structure Pd where
 l : List S97
 m : List S97
 b : Bool
 p : Int
 e : Int
def parseP (s : ByteArray) (f : Nat) : Option Pd :=
 if 1000 < s.size then some ⟨[], [], false, 0, 40⟩ else
 match idP s f with
 | none => none
 | some (.broke p) => some ⟨[], [], false, p, 41⟩
 | some (.read l m b) => if 400 < l.length ∨ 400 < m.length then some ⟨[], [], false, 0, 6⟩ else some ⟨l, m, b, 0, 0⟩

theorem calls (s : ByteArray) (f : Nat) (r : Pd) (h : parseP s f = some r) (w : World) :
 Calls Try.prog 11 #[.string s] w (Back w r.l r.m r.b r.p r.e) := by
 unfold parseP at h
 by_cases hs : 1000 < s.size
 · rw [if_pos hs] at h
   obtain rfl := Option.some.inj h
   refine (long s hs w).mono ?_
   rintro e w' ⟨rfl, hb⟩
   exact ⟨_, _, rfl, Kd.R_nil _ _ _ _ _, Kd.R_nil _ _ _ _ _, hb⟩
 · rw [if_neg hs] at h
   cases hi : idP s f with
   | none => rw [hi] at h; cases h
   | some q =>
    rw [hi] at h
    cases q with
    | broke p =>
     obtain rfl := Option.some.inj h
     refine (HParse.broke s (by omega) p (fun g w0 w i b => ident g s (by omega) f _ hi w0 w i b) w).mono ?_
     rintro e w' ⟨rfl, hb⟩
     exact ⟨_, _, rfl, Kd.R_nil _ _ _ _ _, Kd.R_nil _ _ _ _ _, hb⟩
    | read l m b =>
     have hid := fun (g : Nat) (w0 w : World) (i : IsS88 w0 w g s ((0 : Nat) : Int)) (b : Below w0.heap.size w0 w) => ident g s (by omega) f _ hi w0 w i b
     simp only at h
     by_cases hl : 400 < l.length ∨ 400 < m.length
     · rw [if_pos hl] at h
       obtain rfl := Option.some.inj h
       exact big s (by omega) l m b (by omega) hid w
     · rw [if_neg hl] at h
       obtain rfl := Option.some.inj h
       exact fine s (by omega) l m b (by omega) (by omega) hid w
end Go.Proofs.Ytcbkihhpnndpkaa.HParsed
