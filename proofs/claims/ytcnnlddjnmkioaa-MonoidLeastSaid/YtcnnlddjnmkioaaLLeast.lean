/- MonoidLeast: the law's walk. -/
import Derived.Test.YtcnnlddjnmkioaaHOrd
set_option linter.unusedVariables false
set_option linter.unusedSimpArgs false
namespace Go.Proofs.Ytcnnlddjnmkioaa.LLeast
open Go Go.RowKit Go.Proofs.Ytcnnlddjnmkioaa.HTable Go.Proofs.Ytcnnlddjnmkioaa.HMon Go.Proofs.Ytcnnlddjnmkioaa.HAuto Go.Proofs.Ytcnnlddjnmkioaa.PureMon Go.Proofs.Ytcnnlddjnmkioaa.HMeth Go.Proofs.Ytcnnlddjnmkioaa.HSide2 Go.Proofs.Ytcnnlddjnmkioaa.HLaws Go.Proofs.Ytcnnlddjnmkioaa.HOrd Go.Proofs.YtcnnlddjnmkioaaW.PrintWords Go.Proofs.YtcnnlddjnmkioaaW.PrintLast Go.Proofs.YtcnnlddjnmkioaaW.PrintMore

theorem word_s (w : World) (g : Nat) (d : MD) (hd : d.Ok) (h : Hd w g d) (i : Nat) (hi : i < d.T.length) (s : ByteArray) (hs : s = enc (d.us.getD i [])) : Calls Try.prog 16 #[.pointer (some ⟨g, 0, none⟩), .int .i64 i] w fun e w' => e = .returned (.tuple #[.string s, .int .i64 0]) ∧ Below w.heap.size w w' := by
  subst hs
  rw [← hd.full.wrd hi]
  exact word_calls w g d h i hi
set_option maxHeartbeats 4000000 in
set_option maxRecDepth 100000 in
theorem calls (k : Int) (A1 : Option Addr) (c1 : Nat) (nx : List Int) (A2 : Option Addr) (c2 : Nat) (ac : List Bool) (s1 : ByteArray) (fr tt : Int) (w : World)
    (hn : Kd.C (Kd.int .i64) w A1 nx.length nx) (hc1 : nx.length ≤ c1) (ha : Kd.C Kd.bool w A2 ac.length ac) (hc2 : ac.length ≤ c2) (z1 : s1.size ≤ 140737488351232) :
    Calls Try.prog 3 #[.agg #[.int .i64 k, .slice A1 nx.length c1, .slice A2 ac.length c2], .string s1, .int .i64 fr, .int .i64 tt] w fun e w' => e = .returned (.bool true) ∧ Below w.heap.size w w' := by
  have B0 := below_alloc (Below.refl w.heap.size w) (.cells #[.int .i64 k, .slice A1 nx.length c1, .slice A2 ac.length c2] 25)
  have X0 := blk_new w (.cells #[.int .i64 k, .slice A1 nx.length c1, .slice A2 ac.length c2] 25)
  have x0 : (w.alloc (.cells #[.int .i64 k, .slice A1 nx.length c1, .slice A2 ac.length c2] 25)).cell? ⟨w.heap.size, 0, none⟩ = some (.int .i64 k) := (blk_cell X0 0).trans rfl
  have x1 : (w.alloc (.cells #[.int .i64 k, .slice A1 nx.length c1, .slice A2 ac.length c2] 25)).cell? ⟨w.heap.size, 1, none⟩ = some (.slice A1 nx.length c1) := (blk_cell X0 1).trans rfl
  have x2 : (w.alloc (.cells #[.int .i64 k, .slice A1 nx.length c1, .slice A2 ac.length c2] 25)).cell? ⟨w.heap.size, 2, none⟩ = some (.slice A2 ac.length c2) := (blk_cell X0 2).trans rfl
  have h := built_two _ k A1 c1 nx A2 c2 ac (Kd.C_below hn B0) hc1 (Kd.C_below ha B0) hc2
  have BX := Aside0.mk X0
  clear X0 hn ha
  have B0 := Aside0.mk B0
  have y3 : s1.size < 4611686018427387904 := by omega
  rcases h with h | h
  · have H := Aside0.mk h
    clear h
    go_enter Try.func3, Try.ntmps3
    go_wp2_with (first
      | (go_at_call 12; refine H.out.mono ?_; rintro e w1 ⟨hb1, rfl⟩)
      | (go_at_call 14; refine (HLive.live_calls _).mono ?_; rintro e w2 ⟨rfl, hb2⟩))
    go_ret
    have B1 := below_then B0.out B0.out.size hb1
    exact ⟨rfl, below_then B1 B1.size hb2⟩
  · have H := Aside0.mk h
    clear h
    go_enter Try.func3, Try.ntmps3
    go_upto_region 2 with (go_at_call 12; refine H.out.mono ?_; rintro e w1 ⟨hb1, g, d, rfl, hd, hH, hk, hnx, hac⟩)
    subst hk hnx hac
    clear H x0 x1 x2
    have HD := Aside0.mk hd
    have HH := Aside0.mk hH
    have HB := Aside0.mk (below_then B0.out B0.out.size hb1)
    have BX1 := Aside0.mk (blk_below BX.out hb1)
    have x0 : w1.cell? ⟨w.heap.size, 0, none⟩ = some (.int .i64 d.k) := (blk_cell BX1.out 0).trans rfl
    clear hd hH hb1 B0 BX
    by_cases hc : HCheck.chk (d.k : Int) s1 = 0
    · obtain ⟨U, hU, hUk⟩ := enc_of d.k _ hc
      have hF := HD.out.full
      have k8 := HD.out.fit.k8
      have hN := hF.inv.le
      simp only at hN
      obtain ⟨X, hX⟩ : ∃ X, X = fol d.k d.Rs 0 U := ⟨_, rfl⟩
      have bX : X < d.T.length := by rw [hX]; exact (hF.elem U hUk).1
      obtain ⟨sx, hsx⟩ : ∃ s, s = enc (d.us.getD X []) := ⟨_, rfl⟩
      obtain ⟨oo, hoo⟩ : ∃ o, o = ord sx s1 := ⟨_, rfl⟩
      have ho1 : oo ≤ 0 := by
        rw [hoo, hsx, hU]
        refine ord_le _ _ (fun l hl => ?_) (fun l hl => ?_) (hX ▸ hF.least U hUk)
        · have := hF.lets bX l hl
          omega
        · have := hUk l hl
          omega
      have t1 := Aside0.mk hU
      have r1 := Aside0.mk hUk
      have q1 := Aside0.mk hX
      have q2 := Aside0.mk hsx
      have q3 := Aside0.mk hoo
      clear hU hUk hX hsx hoo hF
      go_upto_region 6 with (go_at_call 13; refine (refcheck_calls (d.k : Int) _ _ y3).mono ?_; rintro e w2 ⟨rfl, hb⟩; rw [hc]; have n_ := Aside0.mk (HNone.step_at HB.out hb); have m_ := Aside0.mk (HH.out.below hb); have b_ := Aside0.mk (blk_below BX1.out hb); clear hb HB HH BX1; have HB := n_; have HH := m_; have BX1 := b_; clear n_ m_ b_)
      clear x0 hc
      go_loopw [11, 12] (fun v11 v12 wr => ∃ (i : Nat) (last : ByteArray), v11 = .string last ∧ v12 = .int .i64 i ∧ i ≤ d.T.length ∧ Aside0 (0 < i → last = enc (d.us.getD (i - 1) [])) ∧ Aside0 (Below w.heap.size w wr) ∧ Aside0 (Hd wr g d)) (fun _ v12 _ => d.T.length - (intOf v12).toNat)
      case atStart => exact ⟨0, _, rfl, rfl, Nat.zero_le _, ⟨fun h => absurd h (Nat.lt_irrefl 0)⟩, HB, HH⟩
      case round =>
        clear HB HH BX1
        obtain ⟨i, last, rfl, rfl, hi, HL, HB, HH⟩ := hrel
        by_cases hlt : i < d.T.length
        · have g1 : decide ((i : Int) < (d.T.length : Int)) = true := decide_eq_true (by omega)
          obtain ⟨si, hsi⟩ : ∃ s, s = enc (d.us.getD i []) := ⟨_, rfl⟩
          have q4 := Aside0.mk hsi
          clear hsi
          by_cases h0 : i = 0
          · subst h0
            have g2 : decide (((0 : Nat) : Int) > 0) = false := by decide
            go_wp2_with (first
              | (go_at_call 15; refine (len_calls _ g d HH.out).mono ?_; rintro e w3 ⟨rfl, hw3⟩; subst hw3)
              | (go_at_call 16; refine (word_s _ g d HD.out HH.out 0 hlt si q4.out).mono ?_; rintro e w1 ⟨rfl, hb⟩; have n_ := Aside0.mk (HNone.step_at HB.out hb); have m_ := Aside0.mk (HH.out.below hb); clear hb HB HH; have HB := n_; have HH := m_; clear n_ m_)
              | (go_at_call 17; refine (elem_s _ g d HD.out HH.out si _ q4.out (HD.out.full.lets hlt)).mono ?_; rintro e w1 ⟨rfl, hb⟩; rw [HD.out.full.back hlt]; have n_ := Aside0.mk (HNone.step_at HB.out hb); have m_ := Aside0.mk (HH.out.below hb); clear hb HB HH; have HB := n_; have HH := m_; clear n_ m_)
              | (go_at_call 18; refine (HNone.num_ 0 _).mono ?_; rintro e w3 ⟨rfl, hw3⟩; subst hw3))
            go_roundw
            case measure => simp [intOf]; omega
            case rel => exact ⟨1, si, rfl, by go_num, by omega, ⟨fun _ => q4.out⟩, HB, HH⟩
          · have g2 : decide ((i : Int) > 0) = true := decide_eq_true (by omega)
            have g3 : decide ((0 : Int) < (i : Int)) = true := decide_eq_true (by omega)
            have g4 : ((i : Int) != (i : Int)) = false := by simp
            have HO := Aside0.mk (show ord last si = -1 by
              rw [HL.out (by omega), q4.out]
              refine ord_lt _ _ (fun l hl => ?_) (fun l hl => ?_) (HD.out.full.inv.ord (i - 1) i (by omega) hlt)
              · have := HD.out.full.lets (show i - 1 < d.T.length by omega) l hl
                omega
              · have := HD.out.full.lets hlt l hl
                omega)
            go_wp2_with (first
              | (go_at_call 15; refine (len_calls _ g d HH.out).mono ?_; rintro e w3 ⟨rfl, hw3⟩; subst hw3)
              | (go_at_call 16; refine (word_s _ g d HD.out HH.out i hlt si q4.out).mono ?_; rintro e w1 ⟨rfl, hb⟩; have n_ := Aside0.mk (HNone.step_at HB.out hb); have m_ := Aside0.mk (HH.out.below hb); clear hb HB HH; have HB := n_; have HH := m_; clear n_ m_)
              | (go_at_call 17; refine (elem_s _ g d HD.out HH.out si _ q4.out (HD.out.full.lets hlt)).mono ?_; rintro e w1 ⟨rfl, hb⟩; rw [HD.out.full.back hlt]; have n_ := Aside0.mk (HNone.step_at HB.out hb); have m_ := Aside0.mk (HH.out.below hb); clear hb HB HH; have HB := n_; have HH := m_; clear n_ m_)
              | (go_at_call 19; refine (order_calls _ _ _).mono ?_; rintro e w1 ⟨rfl, hb⟩; rw [HO.out]; have n_ := Aside0.mk (HNone.step_at HB.out hb); have m_ := Aside0.mk (HH.out.below hb); clear hb HB HH; have HB := n_; have HH := m_; clear n_ m_)
              | (go_at_call 18; refine (HNone.num_ 0 _).mono ?_; rintro e w3 ⟨rfl, hw3⟩; subst hw3))
            go_roundw
            case measure => simp [intOf]; omega
            case rel => exact ⟨i + 1, si, rfl, by go_num, by omega, ⟨fun _ => q4.out⟩, HB, HH⟩
        · have hx : i = d.T.length := by omega
          subst hx
          have g1 : decide ((d.T.length : Int) < (d.T.length : Int)) = false := by simp
          have g5 : decide (oo > 0) = false := decide_eq_false (by omega)
          have g6 : decide (0 < oo) = false := decide_eq_false (by omega)
          go_upto_region 17 with (first
            | (go_at_call 15; refine (len_calls _ g d HH.out).mono ?_; rintro e w3 ⟨rfl, hw3⟩; subst hw3)
            | (go_at_call 16; refine (word_s _ g d HD.out HH.out X bX sx q2.out).mono ?_; rintro e w1 ⟨rfl, hb⟩; have n_ := Aside0.mk (HNone.step_at HB.out hb); have m_ := Aside0.mk (HH.out.below hb); clear hb HB HH; have HB := n_; have HH := m_; clear n_ m_)
            | (go_at_call 17; refine (elem_s _ g d HD.out HH.out s1 U t1.out r1.out).mono ?_; rintro e w1 ⟨rfl, hb⟩; rw [← q1.out]; have n_ := Aside0.mk (HNone.step_at HB.out hb); have m_ := Aside0.mk (HH.out.below hb); clear hb HB HH; have HB := n_; have HH := m_; clear n_ m_)
            | (go_at_call 19; refine (order_calls _ _ _).mono ?_; rintro e w1 ⟨rfl, hb⟩; rw [← q3.out]; have n_ := Aside0.mk (HNone.step_at HB.out hb); have m_ := Aside0.mk (HH.out.below hb); clear hb HB HH; have HB := n_; have HH := m_; clear n_ m_)
            | (go_at_call 18; refine (HNone.num_ 0 _).mono ?_; rintro e w3 ⟨rfl, hw3⟩; subst hw3))
          by_cases f1 : fr < 0
          · have g7 : decide (fr < 0) = true := decide_eq_true f1
            go_wp2_with (go_at_call 14; refine (HLive.live_calls _).mono ?_; rintro e w2 ⟨rfl, hb2⟩)
            go_ret
            exact ⟨rfl, below_then HB.out HB.out.size hb2⟩
          · have g7 : decide (fr < 0) = false := decide_eq_false f1
            by_cases f2 : tt < fr
            · have g8 : decide (tt < fr) = true := decide_eq_true f2
              go_wp2_with (go_at_call 14; refine (HLive.live_calls _).mono ?_; rintro e w2 ⟨rfl, hb2⟩)
              go_ret
              exact ⟨rfl, below_then HB.out HB.out.size hb2⟩
            · have g8 : decide (tt < fr) = false := decide_eq_false f2
              by_cases f3 : tt > (sx.size : Int)
              · have g9 : decide (tt > (sx.size : Int)) = true := decide_eq_true f3
                have g10 : decide ((sx.size : Int) < tt) = true := decide_eq_true f3
                go_wp2_with (go_at_call 14; refine (HLive.live_calls _).mono ?_; rintro e w2 ⟨rfl, hb2⟩)
                go_ret
                exact ⟨rfl, below_then HB.out HB.out.size hb2⟩
              · have g9 : decide (tt > (sx.size : Int)) = false := decide_eq_false f3
                have g10 : decide ((sx.size : Int) < tt) = false := decide_eq_false f3
                obtain ⟨a, rfl⟩ : ∃ a : Nat, fr = a := ⟨fr.toNat, by omega⟩
                obtain ⟨b, rfl⟩ : ∃ b : Nat, tt = b := ⟨tt.toNat, by omega⟩
                have l1 : a ≤ b := by omega
                have l2 : b ≤ sx.size := by omega
                have hUX : d.us.getD X [] = (d.us.getD X []).take a ++ ((d.us.getD X []).take b).drop a ++ (d.us.getD X []).drop b := by
                  rw [List.append_assoc]
                  have e1 : ((d.us.getD X []).take b).drop a ++ (d.us.getD X []).drop b = (d.us.getD X []).drop a := by
                    have := congrArg (List.drop a) (List.take_append_drop b (d.us.getD X []))
                    rw [List.drop_append_of_le_length] at this
                    · exact this
                    · have hs : sx.size = (d.us.getD X []).length := by rw [q2.out, enc_size]
                      rw [List.length_take]
                      omega
                  rw [e1, List.take_append_drop]
                obtain ⟨P, hP⟩ : ∃ P, P = ((d.us.getD X []).take b).drop a := ⟨_, rfl⟩
                rw [← hP] at hUX
                have hPk : ∀ l ∈ P, l < d.k := fun l hl => HD.out.full.lets bX l (by rw [hP] at hl; exact List.mem_of_mem_take (List.mem_of_mem_drop hl))
                obtain ⟨Y, hY⟩ : ∃ Y, Y = fol d.k d.Rs 0 P := ⟨_, rfl⟩
                have bY : Y < d.T.length := by rw [hY]; exact (HD.out.full.elem P hPk).1
                have hYP : d.us.getD Y [] = P := by rw [hY]; exact HD.out.full.piece bX _ P _ hUX
                obtain ⟨se, hse⟩ : ∃ s, sx.extract a b = s := ⟨_, rfl⟩
                have v1 := Aside0.mk (show se = enc P by rw [← hse, q2.out, enc_extract, hP])
                have v2 := Aside0.mk hPk
                have v3 := Aside0.mk hY
                have v4 := Aside0.mk (show se = enc (d.us.getD Y []) by rw [hYP]; exact v1.out)
                clear hUX hP hPk hY hYP
                go_wp2_with (first
                  | (go_at_call 17; refine (elem_s _ g d HD.out HH.out se P v1.out v2.out).mono ?_; rintro e w1 ⟨rfl, hb⟩; rw [← v3.out]; have n_ := Aside0.mk (HNone.step_at HB.out hb); have m_ := Aside0.mk (HH.out.below hb); clear hb HB HH; have HB := n_; have HH := m_; clear n_ m_)
                  | (go_at_call 16; refine (word_s _ g d HD.out HH.out Y bY se v4.out).mono ?_; rintro e w1 ⟨rfl, hb⟩; have n_ := Aside0.mk (HNone.step_at HB.out hb); have m_ := Aside0.mk (HH.out.below hb); clear hb HB HH; have HB := n_; have HH := m_; clear n_ m_)
                  | (go_at_call 18; refine (HNone.num_ 0 _).mono ?_; rintro e w3 ⟨rfl, hw3⟩; subst hw3)
                  | (go_at_call 14; refine (HLive.live_calls _).mono ?_; rintro e w2 ⟨rfl, hb2⟩))
                go_ret
                exact ⟨rfl, below_then HB.out HB.out.size hb2⟩
    · have g0 : (HCheck.chk (d.k : Int) s1 != 0) = true := by simpa using hc
      go_wp2_with (first
        | (go_at_call 13; refine (refcheck_calls (d.k : Int) _ _ y3).mono ?_; rintro e w2 ⟨rfl, hb⟩)
        | (go_at_call 14; refine (HLive.live_calls _).mono ?_; rintro e w3 ⟨rfl, hb3⟩))
      go_ret
      have B2 := below_then HB.out HB.out.size hb
      exact ⟨rfl, below_then B2 B2.size hb3⟩
end Go.Proofs.Ytcnnlddjnmkioaa.LLeast
