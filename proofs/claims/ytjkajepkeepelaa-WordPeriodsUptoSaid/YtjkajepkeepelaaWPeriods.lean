/- WordPeriods: the walk through the statement's own code. -/
import Derived.Test.YtjkajepkeepelaaPPx1
import Derived.Test.YtjkajepkeepelaaLPeriods
import Derived.Outline
set_option linter.unusedVariables false
set_option linter.unusedSimpArgs false
namespace Go.Proofs.Ytjkajepkeepelaa.WPeriods
open Go.RowKit Go.Proofs.YtjkajepkeepelaaW.PrintWords Go.Proofs.YtjkajepkeepelaaW.PrintLast Go.Proofs.YtjkajepkeepelaaW.PrintMore
open Go.Proofs.Ytjkajepkeepelaa

/-- Two lists, and where they lie. -/
def two (A1 A2 : Option Addr) (n c1 c2 bl base : Nat) : HApart.Ls := { n := 2, A := fun j => if j = 0 then A1 else A2, len := fun _ => n, c := fun j => if j = 0 then c1 else c2, bl := bl, base := base }

theorem two_st1 {w w1 w7 : World} {A1 A2 : Option Addr} {c1 c2 : Nat} {r : List Int} (h0 : Below w.heap.size w w7) (h1 : w.heap.size ≤ w1.heap.size) (h2 : w1.heap.size ≤ w7.heap.size)
    (ha : ∀ b, (Value.slice A1 r.length c1).ownBlock = some b → b < w1.heap.size)
    (hr1 : Kd.R (Kd.int .i64) 3 w7 w.heap.size (fun _ => True) (.slice A1 r.length c1) r) (hr2 : Kd.R (Kd.int .i64) 3 w7 w1.heap.size (fun _ => True) (.slice A2 r.length c2) r) :
    HApart.St1 (two A1 A2 r.length c1 c2 w7.heap.size w.heap.size) w (w7.alloc (.cells #[.slice A1 r.length c1, .slice A2 r.length c2] 24)) (fun k => if k = w7.heap.size then 2 else if k < w1.heap.size then 0 else 1) (fun _ => r) := by
  have o1 := Kd.own_of_R hr1
  have o2 := own_weaken (Kd.own_of_R hr2) h1
  have l2 := Kd.own_of_R hr2
  refine ⟨h0.alloc h0.size _, fun j hj => ?_, if_pos rfl, fun j hj => ?_, fun j hj => ?_⟩
  · have hj2 : j < 2 := hj
    show World.cell? _ ⟨w7.heap.size, j, none⟩ = _
    rw [World.cell?_alloc_at _ _ _ _ rfl]
    rcases (show j = 0 ∨ j = 1 by omega) with rfl | rfl <;> rfl
  · have hj2 : j < 2 := hj
    rcases (show j = 0 ∨ j = 1 by omega) with rfl | rfl
    · exact o1.alloc _
    · exact o2.alloc _
  · have hj2 : j < 2 := hj
    rcases (show j = 0 ∨ j = 1 by omega) with rfl | rfl
    · intro b hb
      have := ha b hb
      show (if b = w7.heap.size then 2 else if b < w1.heap.size then 0 else 1) = 0
      rw [if_neg (by omega), if_pos this]
    · intro b hb
      have := World.ownsRow.lt l2 b hb
      show (if b = w7.heap.size then 2 else if b < w1.heap.size then 0 else 1) = 1
      rw [if_neg (by omega), if_neg (by omega)]

structure Fx (w w1 : World) (A1 A2 A4 : Option Addr) (c1 c2 c4 : Nat) (r : List Int) (W : World) : Prop where
  r1 : Kd.R (Kd.int .i64) 3 W w.heap.size (fun _ => True) (.slice A1 r.length c1) r
  r2 : Kd.R (Kd.int .i64) 3 W w1.heap.size (fun _ => True) (.slice A2 r.length c2) r
  r4 : ∃ b, Kd.R (Kd.int .i64) 3 W b (fun _ => True) (.slice A4 r.length c4) r
  b : Below w.heap.size w W
  s : w1.heap.size ≤ W.heap.size
theorem Fx.step {w w1 : World} {A1 A2 A4 : Option Addr} {c1 c2 c4 : Nat} {r : List Int} {W W' : World} (h : Fx w w1 A1 A2 A4 c1 c2 c4 r W) (hb : Below W.heap.size W W') : Fx w w1 A1 A2 A4 c1 c2 c4 r W' :=
  ⟨Kd.R_below h.r1 hb, Kd.R_below h.r2 hb, h.r4.imp fun _ q => Kd.R_below q hb, below_then h.b h.b.size hb, Nat.le_trans h.s hb.size⟩
theorem rd_of {W : World} {b : Nat} {A : Option Addr} {c : Nat} {r : List Int} (h : Kd.R (Kd.int .i64) 3 W b (fun _ => True) (.slice A r.length c) r) : r.length ≤ c ∧ Kd.C (Kd.int .i64) W A r.length r := by
  obtain ⟨A', c', e, hc, hC⟩ := Kd.R_reads h
  injection e with a b d
  subst a
  subst d
  exact ⟨hc, hC⟩

set_option maxHeartbeats 2000000 in
set_option maxRecDepth 100000 in
theorem walk (K : Nat) (k : Int) (s : ByteArray) (r : List Int) (e1 : Int) (t : ByteArray) (t2 t3 : Int) (hp : HPer.f K k s = some (r, e1)) (hq : PP.eggboxref01_Periods.f K k s = some (r, e1)) (hr : HRoot.f K k s = some (t, t2, t3))
    (hs : PP.eggboxref01_Root.f K k s = some (t, t2, t3)) (hsame : PW.eggboxlaw01_SameInts.f K r r = some true) (hkn : PW.eggboxlaw01_knows.f K = some true) (hl : r.length ≤ 1048577) (w : World) :
    Calls Try.prog 4 #[.int .i64 k, .string s] w fun e w' => e = .returned (.bool true) ∧ Below w.heap.size w w' := by
  have HP := Lib.hid hp
  have HQ := Lib.hid hq
  have HR := Lib.hid hr
  have HS := Lib.hid hs
  have HSA := Lib.hid hsame
  have HK := Lib.hid hkn
  have HL := Lib.hid hl
  clear hp hq hr hs hsame hkn hl
  go_enter Try.func4, Try.ntmps4
  go_wp2_with fail
  refine (HPer.calls K k s r e1 _ HP.out).mono ?_
  rintro e w1 ⟨v1, rfl, hr1, hb1⟩
  obtain ⟨A1, c1, rfl⟩ := Kd.R_slice hr1
  have HA : Hid (∀ b, (Value.slice A1 r.length c1).ownBlock = some b → b < w1.heap.size) := fun b hb => (World.ownsRow.lt (Kd.own_of_R hr1) b hb).2
  have HR1 := Lib.hid hr1
  have HB1 := Lib.hid hb1
  clear hr1 hb1
  go_wp2_with fail
  refine (HPer.calls K k s r e1 _ HP.out).mono ?_
  rintro e w2 ⟨v2, rfl, hr2, hb2⟩
  obtain ⟨A2, c2, rfl⟩ := Kd.R_slice hr2
  have HR2 := Lib.hid hr2
  have HB2 := Lib.hid hb2
  clear hr2 hb2
  go_wp2_with fail
  refine (HRoot.calls K k s t t2 t3 _ HR.out).mono ?_
  rintro e w3 ⟨rfl, hb3⟩
  have HB3 : Hid (Below w2.heap.size w2 w3) := hb3
  clear hb3
  go_wp2_with fail
  refine (PP.eggboxref01_Periods.calls K k s r e1 _ HQ.out).mono ?_
  rintro e w4 ⟨v4, rfl, hr4, hb4⟩
  obtain ⟨A4, c4, rfl⟩ := Kd.R_slice hr4
  have HR4 := Lib.hid hr4
  have HB4 : Hid (Below w2.heap.size w2 w4) := below_then HB3.out HB3.out.size hb4
  clear hr4 hb4
  go_wp2_with fail
  refine (PP.eggboxref01_Root.calls K k s t t2 t3 _ HS.out).mono ?_
  rintro e w5 ⟨rfl, hd5⟩
  have HB5 : Hid (Below w2.heap.size w2 w5) := below_then HB4.out HB4.out.size hd5.below
  have HR45 := Lib.hid (Kd.R_below HR4.out hd5.below)
  have HR25 := Lib.hid (Kd.R_below HR2.out HB5.out)
  have HB15 : Hid (Below w1.heap.size w1 w5) := below_then HB2.out HB2.out.size HB5.out
  have HR15 := Lib.hid (Kd.R_below HR1.out HB15.out)
  clear hd5
  go_wp2_with fail
  have F5 : Hid (Fx w w1 A1 A2 A4 c1 c2 c4 r w5) := ⟨HR15.out, HR25.out, ⟨_, HR45.out⟩, below_then HB1.out HB1.out.size HB15.out, HB15.out.size⟩
  refine (PW.eggboxlaw01_SameInts.calls K A1 c1 r A4 c4 r true w5 (rd_of F5.out.r1).2 (rd_of F5.out.r1).1 (rd_of F5.out.r4.choose_spec).2 (rd_of F5.out.r4.choose_spec).1 HSA.out).mono ?_
  rintro e w6 ⟨rfl, hd6⟩
  have F6 := Lib.hid (F5.out.step hd6.below)
  clear hd6
  go_wp2_with fail
  refine (PW.eggboxlaw01_SameInts.calls K A2 c2 r A4 c4 r true w6 (rd_of F6.out.r2).2 (rd_of F6.out.r2).1 (rd_of F6.out.r4.choose_spec).2 (rd_of F6.out.r4.choose_spec).1 HSA.out).mono ?_
  rintro e w7 ⟨rfl, hd7⟩
  have F7 := Lib.hid (F6.out.step hd7.below)
  clear hd7
  go_wp2_with fail
  refine (PW.eggboxlaw01_num.calls e1 e1 w7 rfl).mono ?_
  rintro e w8 ⟨rfl, hd8⟩
  have F8 := Lib.hid (F7.out.step hd8.below)
  clear hd8
  go_wp2_with fail
  refine (PW.eggboxlaw01_num.calls t3 t3 w8 rfl).mono ?_
  rintro e w9 ⟨rfl, hd9⟩
  have F9 := Lib.hid (F8.out.step hd9.below)
  clear hd9
  go_wp2_with fail
  refine (HApart.calls (two A1 A2 r.length c1 c2 w9.heap.size w.heap.size) w _ _ _ 2 (two_st1 F9.out.b HB1.out.size F9.out.s HA.out F9.out.r1 F9.out.r2) (by show 0 < 2; omega) (by show 2 ≤ 1000000; omega) (fun j hj => by show r.length ≤ _; have := HL.out; omega) (by show w.heap.size ≤ _; have := F9.out.b.size; simp; omega)).mono ?_
  rintro e w10 ⟨rfl, hb10⟩
  have HB10 : Hid (Below w.heap.size w w10) := hb10
  clear hb10
  go_wp2_with fail
  refine (PW.eggboxlaw01_knows.calls K true w10 HK.out).mono ?_
  rintro e w11 ⟨rfl, hb11⟩
  have HB11 : Hid (Below w.heap.size w w11) := below_then HB10.out HB10.out.size hb11
  clear hb11
  go_wp2_with fail
  go_ret
  exact ⟨rfl, HB11.out⟩

theorem total (k : Int) (s : ByteArray) (hs : s.size ≤ 1048576) (w : World) :
    Calls Try.prog 4 #[.int .i64 k, .string s] w fun e w' => e = .returned (.bool true) ∧ Below w.heap.size w w' := by
  obtain ⟨⟨r, e1⟩, ⟨K1, h1⟩, ⟨K2, h2⟩, hl⟩ := LPeriods.periods_both k s hs
  obtain ⟨⟨t, t2, t3⟩, ⟨K3, h3⟩, ⟨K4, h4⟩⟩ := LPeriods.roots_both k s hs
  obtain ⟨K5, h5⟩ := LPeriods.same_ok r (Nat.le_trans hl (by omega))
  obtain ⟨K6, h6⟩ := HComp.knows_ok
  exact walk (K1 + K2 + K3 + K4 + K5 + K6) k s r e1 t t2 t3 (h1 _ (by omega)) (h2 _ (by omega)) (h3 _ (by omega)) (h4 _ (by omega)) (h5 _ (by omega)) (h6 _ (by omega)) hl w
end Go.Proofs.Ytjkajepkeepelaa.WPeriods
