/- The law's Plain and Live: the automaton of (ab)*. -/
import Derived.Test.YtcnnlddjnmkioaaHMeth
import Derived.Test.YtcnnlddjnmkioaaHNone
set_option linter.unusedVariables false
set_option linter.unusedSimpArgs false
namespace Go.Proofs.Ytcnnlddjnmkioaa.HLive
open Go Go.RowKit Go.Proofs.Ytcnnlddjnmkioaa.HArr Go.Proofs.Ytcnnlddjnmkioaa.HPack Go.Proofs.Ytcnnlddjnmkioaa.HTable Go.Proofs.Ytcnnlddjnmkioaa.HPut Go.Proofs.Ytcnnlddjnmkioaa.HRows Go.Proofs.Ytcnnlddjnmkioaa.HSt Go.Proofs.Ytcnnlddjnmkioaa.HMon Go.Proofs.Ytcnnlddjnmkioaa.HAuto Go.Proofs.Ytcnnlddjnmkioaa.PureMon Go.Proofs.Ytcnnlddjnmkioaa.HMeth Go.Proofs.YtcnnlddjnmkioaaW.PrintWords Go.Proofs.YtcnnlddjnmkioaaW.PrintLast Go.Proofs.YtcnnlddjnmkioaaW.PrintMore

abbrev nxL : List Int := [1, 2, 2, 0, 2, 2]
abbrev acL : List Bool := [true, false, false]
abbrev TL : List (List Nat) := [[0, 1, 2], [1, 2, 2], [2, 0, 2], [2, 2, 2], [0, 2, 2], [2, 1, 2]]
abbrev WL : List ByteArray := [⟨#[]⟩, ⟨#[97]⟩, ⟨#[98]⟩, ⟨#[97, 97]⟩, ⟨#[97, 98]⟩, ⟨#[98, 97]⟩]
abbrev RL : List Int := [1, 2, 3, 4, 5, 3, 3, 3, 1, 3, 3, 2]
theorem live_built : built 3 2 (letters nxL 2 3) = some (TL, WL, RL) := by kernel_rfl
theorem lit_B (W : World) (b : Nat) (xs : List Bool) (hb : W.heap[b]? = some (.cells (xs.map Value.bool).toArray 4 (0, 0))) (hl : xs.length < 1000) : Kd.C Kd.bool W (some ⟨b, 0, none⟩) xs.length xs := by
  refine ⟨rfl, by omega, fun _ => ⟨_, rfl, fun j p hj => ⟨[.bool p], rfl, rfl, fun i u hi => ?_⟩⟩⟩
  match i with
  | 0 =>
    simp at hi
    subst hi
    rw [Addr.add_mid, show Kd.bool.sz = 1 from rfl, Nat.mul_one, Nat.zero_add, Nat.add_zero]
    refine (blk_cell hb j).trans ?_
    simp [hj]
  | i + 1 => simp at hi
theorem ok_live : Ok 2 nxL acL := ⟨by decide, by decide, by decide, by decide, by decide, by decide⟩
set_option maxHeartbeats 1000000 in
set_option maxRecDepth 100000 in
theorem plain_calls (w : World) : Calls Try.prog 51 #[] w fun e w' => ∃ b1 b2, e = .returned (.agg #[.int .i64 2, .slice (some ⟨b1, 0, none⟩) 6 6, .slice (some ⟨b2, 0, none⟩) 3 3]) ∧ Below w.heap.size w w' ∧ Kd.C (Kd.int .i64) w' (some ⟨b1, 0, none⟩) 6 nxL ∧ Kd.C Kd.bool w' (some ⟨b2, 0, none⟩) 3 acL := by
  have B0 := Aside0.mk (below_alloc (below_alloc (below_alloc (Below.refl w.heap.size w) (.cells #[.int .i64 2, .slice (some ⟨w.heap.size + 1, 0, none⟩) 6 6, .slice (some ⟨w.heap.size + 1 + 1, 0, none⟩) 3 3] 25)) (.cells #[.int .i64 1, .int .i64 2, .int .i64 2, .int .i64 0, .int .i64 2, .int .i64 2] 3)) (.cells #[.bool true, .bool false, .bool false] 4))
  have X0 := Aside0.mk (blk_alloc (blk_alloc (blk_new w (.cells #[.int .i64 2, .slice (some ⟨w.heap.size + 1, 0, none⟩) 6 6, .slice (some ⟨w.heap.size + 1 + 1, 0, none⟩) 3 3] 25)) (.cells #[.int .i64 1, .int .i64 2, .int .i64 2, .int .i64 0, .int .i64 2, .int .i64 2] 3)) (.cells #[.bool true, .bool false, .bool false] 4))
  have X1 := blk_alloc (blk_new (w.alloc (.cells #[.int .i64 2, .slice (some ⟨w.heap.size + 1, 0, none⟩) 6 6, .slice (some ⟨w.heap.size + 1 + 1, 0, none⟩) 3 3] 25)) (.cells #[.int .i64 1, .int .i64 2, .int .i64 2, .int .i64 0, .int .i64 2, .int .i64 2] 3)) (.cells #[.bool true, .bool false, .bool false] 4)
  have X2 := blk_new ((w.alloc (.cells #[.int .i64 2, .slice (some ⟨w.heap.size + 1, 0, none⟩) 6 6, .slice (some ⟨w.heap.size + 1 + 1, 0, none⟩) 3 3] 25)).alloc (.cells #[.int .i64 1, .int .i64 2, .int .i64 2, .int .i64 0, .int .i64 2, .int .i64 2] 3)) (.cells #[.bool true, .bool false, .bool false] 4)
  rw [show ((w.alloc (.cells #[.int .i64 2, .slice (some ⟨w.heap.size + 1, 0, none⟩) 6 6, .slice (some ⟨w.heap.size + 1 + 1, 0, none⟩) 3 3] 25)).alloc (.cells #[.int .i64 1, .int .i64 2, .int .i64 2, .int .i64 0, .int .i64 2, .int .i64 2] 3)).heap.size = w.heap.size + 1 + 1 by show ((w.heap.push _).push _).size = _; simp] at X2
  rw [show (w.alloc (.cells #[.int .i64 2, .slice (some ⟨w.heap.size + 1, 0, none⟩) 6 6, .slice (some ⟨w.heap.size + 1 + 1, 0, none⟩) 3 3] 25)).heap.size = w.heap.size + 1 by show (w.heap.push _).size = _; simp] at X1
  have X1 := Aside0.mk X1
  have X2 := Aside0.mk X2
  go_enter Try.func51, Try.ntmps51
  go_wp2_with fail
  refine bodyPost_ret (results_cell_row rfl _ _ w.heap.size 25 #[.int .i64 2, .slice (some ⟨w.heap.size + 1, 0, none⟩) 6 6, .slice (some ⟨w.heap.size + 1 + 1, 0, none⟩) 3 3] (0, 0) _ rfl X0.out Try.underlying25 rfl (by kernel_rfl)) rfl ?_
  exact ⟨_, _, rfl, B0.out, lit_C _ _ nxL X1.out (by decide), lit_B _ _ acL X2.out (by decide)⟩
/-- What Live builds. -/
structure LiveD (d : MD) : Prop where
  k : d.k = 2
  len : d.T.length = 6
  bb : fol d.k d.Rs 0 [1, 1] = 3
  w3 : d.Ws.getD 3 ⟨#[]⟩ = ⟨#[97, 97]⟩
  p41 : fol d.k d.Rs 4 (d.us.getD 1 []) = 1
theorem build_calls (w : World) (A1 : Option Addr) (c1 : Nat) (A2 : Option Addr) (c2 : Nat) (hn : Kd.C (Kd.int .i64) w A1 6 nxL) (hc1 : 6 ≤ c1) (ha : Kd.C Kd.bool w A2 3 acL) (hc2 : 3 ≤ c2) :
    Calls Try.prog 49 #[.agg #[.int .i64 2, .slice A1 6 c1, .slice A2 3 c2]] w fun e w' => Below w.heap.size w w' ∧ ∃ g d, e = .returned (.tuple #[.pointer (some ⟨g, 0, none⟩), .int .i64 0]) ∧ d.Ok ∧ Hd w' g d ∧ LiveD d := by
  refine (HBuilt.calls w 2 A1 c1 nxL A2 c2 acL hn hc1 ha hc2).mono ?_
  rintro e w' ⟨hb, h⟩
  refine ⟨hb, ?_⟩
  rcases h with ⟨h, _⟩ | ⟨_, h, _⟩ | ⟨kn, hk, hF, h⟩
  · exact absurd ok_live h
  · exact absurd h (by decide)
  · obtain rfl : kn = 2 := by omega
    rcases h with ⟨h, _⟩ | ⟨T, Ws, Rs, g, h, he, hY⟩
    · rw [show acL.length = 3 from rfl, live_built] at h
      cases h
    · obtain ⟨us, hO, hH⟩ := hd_of hF h hY
      rw [show acL.length = 3 from rfl, live_built] at h
      injection h with h
      injection h with h1 h
      injection h with h2 h3
      subst h1 h2 h3
      refine ⟨g, _, he, hO, hH, rfl, rfl, rfl, rfl, ?_⟩
      obtain ⟨p1, p2⟩ := hO.full.prod (i := 4) (j := 1) (show 4 < TL.length by decide) (show 1 < TL.length by decide)
      exact hO.full.eq p1 (show 1 < TL.length by decide) (p2.trans rfl)
set_option maxHeartbeats 4000000 in
set_option maxRecDepth 100000 in
theorem live_calls (w : World) : Calls Try.prog 14 #[] w fun e w' => e = .returned (.bool true) ∧ Below w.heap.size w w' := by
  go_enter Try.func14, Try.ntmps14
  go_upto_region 2 with (first
    | (go_at_call 51; refine (plain_calls w).mono ?_; rintro e w1 ⟨b1, b2, rfl, hb1, hn, ha⟩; have HN := Aside0.mk hn; have HA := Aside0.mk ha; clear hn ha)
    | (go_at_call 49; refine (build_calls w1 _ _ _ _ HN.out (by decide) HA.out (by decide)).mono ?_; rintro e w2 ⟨hb2, g, d, rfl, hO, hH, hL⟩; have HO := Aside0.mk hO; have HH := Aside0.mk hH; have HL := Aside0.mk hL; clear hO hH hL))
  have B2 := Aside0.mk (below_then hb1 hb1.size hb2)
  clear hb1 hb2 HN HA
  have hlen := HL.out.len
  have hp1 : (0 : Nat) < d.T.length := by omega
  go_upto_region 4 with (first
    | (go_at_call 18; refine (HNone.num_ 0 _).mono ?_; rintro e w3 ⟨rfl, hw3⟩; subst hw3)
    | (go_at_call 15; refine (len_calls _ g d HH.out).mono ?_; rintro e w3 ⟨rfl, hw3⟩; subst hw3; rw [hlen]))
  have e1 := HL.out.bb
  have e2 := HL.out.w3
  have e3 := HL.out.p41
  go_upto_region 7 with (first
    | (go_at_call 17; refine (elem_calls _ g d HO.out HH.out [1, 1] (by rw [HL.out.k]; decide)).mono ?_; rintro e w4 ⟨rfl, hb4⟩; rw [e1]; have H4 := Aside0.mk (HH.out.below hb4))
    | (go_at_call 16; refine (word_calls w4 g d H4.out 3 (by omega)).mono ?_; rintro e w5 ⟨rfl, hb5⟩; rw [e2]; have H5 := Aside0.mk (H4.out.below hb5))
    | (go_at_call 20; refine (prod_calls w5 g d HO.out H5.out 4 1 (by omega) (by omega)).mono ?_; rintro e w6 ⟨rfl, hb6⟩; rw [e3]))
  have B6 := Aside0.mk (below_then (below_then (below_then B2.out B2.out.size hb4) (below_then B2.out B2.out.size hb4).size hb5) (below_then (below_then B2.out B2.out.size hb4) (below_then B2.out B2.out.size hb4).size hb5).size hb6)
  clear hb4 hb5 hb6 B2 H4 H5
  go_wp2_with (go_at_call 18; refine (HNone.num_ 0 _).mono ?_; rintro e w3 ⟨rfl, hw3⟩; subst hw3)
  go_ret
  exact ⟨rfl, B6.out⟩
set_option maxHeartbeats 1000000 in
set_option maxRecDepth 100000 in
/-- The statement MonoidNil's walk. -/
theorem calls (w : World) : Calls Try.prog 10 #[] w fun e w' => e = .returned (.bool true) ∧ Below w.heap.size w w' := by
  have X0 := Aside0.mk (blk_new w (.cells #[.int .i64 0, .slice none 0 0, .slice none 0 0, .bool false, .slice none 0 0, .slice none 0 0, .slice none 0 0, .slice none 0 0] 84))
  have B0 := Aside0.mk (below_alloc (Below.refl w.heap.size w) (.cells #[.int .i64 0, .slice none 0 0, .slice none 0 0, .bool false, .slice none 0 0, .slice none 0 0, .slice none 0 0, .slice none 0 0] 84))
  go_enter Try.func10, Try.ntmps10
  go_upto_region 2 with fail
  generalize w.alloc (.cells #[.int .i64 0, .slice none 0 0, .slice none 0 0, .bool false, .slice none 0 0, .slice none 0 0, .slice none 0 0, .slice none 0 0] 84) = w0 at *
  have HN : Aside0 (HNone.Nil w0 (.pointer (some ⟨w.heap.size, 0, none⟩))) := ⟨.inr ⟨_, rfl, X0.out⟩⟩
  have BZ := Aside0.mk B0.out.size
  generalize hbb : w.heap.size = b at *
  clear X0
  go_wp2_with (first
    | (go_at_call 46; refine (HNone.noneL_ (.pointer (some ⟨b, 0, none⟩)) w1 (HN.out.below hb1)).mono ?_; rintro e w2 ⟨rfl, hb2⟩)
    | (go_at_call 46; refine (HNone.noneL_ (.pointer none) w0 (.inl rfl)).mono ?_; rintro e w1 ⟨rfl, hb1⟩)
    | (go_at_call 14; refine (live_calls w2).mono ?_; rintro e w3 ⟨rfl, hb3⟩))
  go_ret
  subst hbb
  have B1 := below_then B0.out BZ.out hb1
  have B2 := below_then B1 (Nat.le_trans BZ.out hb1.size) hb2
  exact ⟨rfl, below_then B2 (Nat.le_trans (Nat.le_trans BZ.out hb1.size) hb2.size) hb3⟩
end Go.Proofs.Ytcnnlddjnmkioaa.HLive
