/- MonoidProducts: the law's walk. -/
import Derived.Test.YtcnnlddjnmkioaaHLaws
set_option linter.unusedVariables false
set_option linter.unusedSimpArgs false
namespace Go.Proofs.Ytcnnlddjnmkioaa.LProducts
open Go Go.RowKit Go.Proofs.Ytcnnlddjnmkioaa.HTable Go.Proofs.Ytcnnlddjnmkioaa.HMon Go.Proofs.Ytcnnlddjnmkioaa.HAuto Go.Proofs.Ytcnnlddjnmkioaa.PureMon Go.Proofs.Ytcnnlddjnmkioaa.HMeth Go.Proofs.Ytcnnlddjnmkioaa.HSide2 Go.Proofs.Ytcnnlddjnmkioaa.HLaws Go.Proofs.YtcnnlddjnmkioaaW.PrintWords Go.Proofs.YtcnnlddjnmkioaaW.PrintLast Go.Proofs.YtcnnlddjnmkioaaW.PrintMore

set_option maxHeartbeats 4000000 in
set_option maxRecDepth 100000 in
theorem calls (k : Int) (A1 : Option Addr) (c1 : Nat) (nx : List Int) (A2 : Option Addr) (c2 : Nat) (ac : List Bool) (s1 s2 s3 : ByteArray) (w : World)
    (hn : Kd.C (Kd.int .i64) w A1 nx.length nx) (hc1 : nx.length ≤ c1) (ha : Kd.C Kd.bool w A2 ac.length ac) (hc2 : ac.length ≤ c2) (z1 : s1.size ≤ 140737488351232) (z2 : s2.size ≤ 140737488351232) (z3 : s3.size ≤ 140737488351232) :
    Calls Try.prog 4 #[.agg #[.int .i64 k, .slice A1 nx.length c1, .slice A2 ac.length c2], .string s1, .string s2, .string s3] w fun e w' => e = .returned (.bool true) ∧ Below w.heap.size w w' := by
  have B0 := below_alloc (Below.refl w.heap.size w) (.cells #[.int .i64 k, .slice A1 nx.length c1, .slice A2 ac.length c2] 25)
  have X0 := blk_new w (.cells #[.int .i64 k, .slice A1 nx.length c1, .slice A2 ac.length c2] 25)
  have x0 : (w.alloc (.cells #[.int .i64 k, .slice A1 nx.length c1, .slice A2 ac.length c2] 25)).cell? ⟨w.heap.size, 0, none⟩ = some (.int .i64 k) := (blk_cell X0 0).trans rfl
  have x1 : (w.alloc (.cells #[.int .i64 k, .slice A1 nx.length c1, .slice A2 ac.length c2] 25)).cell? ⟨w.heap.size, 1, none⟩ = some (.slice A1 nx.length c1) := (blk_cell X0 1).trans rfl
  have x2 : (w.alloc (.cells #[.int .i64 k, .slice A1 nx.length c1, .slice A2 ac.length c2] 25)).cell? ⟨w.heap.size, 2, none⟩ = some (.slice A2 ac.length c2) := (blk_cell X0 2).trans rfl
  have h := built_two _ k A1 c1 nx A2 c2 ac (Kd.C_below hn B0) hc1 (Kd.C_below ha B0) hc2
  have BX := Aside0.mk X0
  clear X0 hn ha
  have B0 := Aside0.mk B0
  have y1 : ¬ 9223372036854775807 < s1.size + s2.size := by omega
  obtain ⟨s12, e12⟩ : ∃ x, s1 ++ s2 = x := ⟨_, rfl⟩
  obtain ⟨s123, e123⟩ : ∃ x, s12 ++ s3 = x := ⟨_, rfl⟩
  have y2 : ¬ 9223372036854775807 < s12.size + s3.size := by rw [← e12, ByteArray.size_append]; omega
  have y3 : s123.size < 4611686018427387904 := by rw [← e123, ← e12, ByteArray.size_append, ByteArray.size_append]; omega
  rcases h with h | h
  · have H := Aside0.mk h
    clear h
    go_enter Try.func4, Try.ntmps4
    go_wp2_with (first
      | (go_at_call 12; refine H.out.mono ?_; rintro e w1 ⟨hb1, rfl⟩)
      | (go_at_call 14; refine (HLive.live_calls _).mono ?_; rintro e w2 ⟨rfl, hb2⟩))
    go_ret
    have B1 := below_then B0.out B0.out.size hb1
    exact ⟨rfl, below_then B1 B1.size hb2⟩
  · have H := Aside0.mk h
    clear h
    go_enter Try.func4, Try.ntmps4
    go_upto_region 2 with (go_at_call 12; refine H.out.mono ?_; rintro e w1 ⟨hb1, g, d, rfl, hd, hH, hk, hnx, hac⟩)
    subst hk hnx hac
    clear H x0 x1 x2
    have HD := Aside0.mk hd
    have HH := Aside0.mk hH
    have HB := Aside0.mk (below_then B0.out B0.out.size hb1)
    have BX1 := Aside0.mk (blk_below BX.out hb1)
    have x0 : w1.cell? ⟨w.heap.size, 0, none⟩ = some (.int .i64 d.k) := (blk_cell BX1.out 0).trans rfl
    clear hd hH hb1 B0 BX
    by_cases hc : HCheck.chk (d.k : Int) s123 = 0
    · obtain ⟨S, hS, hSk⟩ := enc_of d.k _ hc
      obtain ⟨UV, W, hUV, hW, rfl, hUVk, hWk⟩ := enc_split d.k _ _ S (e123.trans hS) hSk
      obtain ⟨U, V, hU, hV, rfl, hUk, hVk⟩ := enc_split d.k _ _ UV (e12.trans hUV) hUVk
      have hF := HD.out.full
      have h12 : s12 = enc (U ++ V) := hUV
      clear hS hSk hUVk
      have HVW : ∀ l ∈ V ++ W, l < d.k := fun l hl => by rcases List.mem_append.1 hl with h | h; exact hVk l h; exact hWk l h
      have HUVm : ∀ l ∈ U ++ V, l < d.k := fun l hl => by rcases List.mem_append.1 hl with h | h; exact hUk l h; exact hVk l h
      obtain ⟨X, hX⟩ : ∃ X, X = fol d.k d.Rs 0 U := ⟨_, rfl⟩
      obtain ⟨Y, hY⟩ : ∃ Y, Y = fol d.k d.Rs 0 V := ⟨_, rfl⟩
      obtain ⟨Z, hZ⟩ : ∃ Z, Z = fol d.k d.Rs 0 W := ⟨_, rfl⟩
      obtain ⟨XY, hXY⟩ : ∃ XY, XY = fol d.k d.Rs 0 (U ++ V) := ⟨_, rfl⟩
      obtain ⟨YZ, hYZ⟩ : ∃ YZ, YZ = fol d.k d.Rs 0 (V ++ W) := ⟨_, rfl⟩
      obtain ⟨XYZ, hXYZ⟩ : ∃ XYZ, XYZ = fol d.k d.Rs 0 (U ++ V ++ W) := ⟨_, rfl⟩
      have p1 := Aside0.mk (show fol d.k d.Rs X (d.us.getD Y []) = XY by rw [hX, hY, hXY]; exact prodE hF U V hUk hVk)
      have p2 := Aside0.mk (show fol d.k d.Rs Y (d.us.getD Z []) = YZ by rw [hY, hZ, hYZ]; exact prodE hF V W hVk hWk)
      have p3 := Aside0.mk (show fol d.k d.Rs XY (d.us.getD Z []) = XYZ by rw [hXY, hZ, hXYZ]; exact prodE hF (U ++ V) W HUVm hWk)
      have p4 := Aside0.mk (show fol d.k d.Rs X (d.us.getD YZ []) = XYZ by rw [hX, hYZ, hXYZ, List.append_assoc]; exact prodE hF U (V ++ W) hUk HVW)
      have p5 := Aside0.mk (show fol d.k d.Rs 0 (d.us.getD X []) = X by rw [hX]; exact prodE hF [] U (by simp) hUk)
      have p6 := Aside0.mk (show fol d.k d.Rs X (d.us.getD 0 []) = X by rw [hX]; have := prodE hF U [] hUk (by simp); rwa [List.append_nil] at this)
      have b0 : 0 < d.T.length := hF.inv.pos
      have bX : X < d.T.length := by rw [hX]; exact (hF.elem U hUk).1
      have bY : Y < d.T.length := by rw [hY]; exact (hF.elem V hVk).1
      have bZ : Z < d.T.length := by rw [hZ]; exact (hF.elem W hWk).1
      have bXY : XY < d.T.length := by rw [hXY]; exact (hF.elem _ HUVm).1
      have bYZ : YZ < d.T.length := by rw [hYZ]; exact (hF.elem _ HVW).1
      have q1 := Aside0.mk hX
      have q2 := Aside0.mk hY
      have q3 := Aside0.mk hZ
      have q4 := Aside0.mk hXY
      have r1 := Aside0.mk hUk
      have r2 := Aside0.mk hVk
      have r3 := Aside0.mk hWk
      have r4 := Aside0.mk HUVm
      have t1 := Aside0.mk hU
      have t2 := Aside0.mk hV
      have t3 := Aside0.mk hW
      have t4 := Aside0.mk h12
      clear hX hY hZ hXY hYZ hXYZ hUk hVk hWk HUVm HVW hU hV hW h12 hUV hF
      go_upto_region 4 with (go_at_call 13; refine (refcheck_calls (d.k : Int) _ _ y3).mono ?_; rintro e w2 ⟨rfl, hb⟩; rw [hc]; have n_ := Aside0.mk (HNone.step_at HB.out hb); have m_ := Aside0.mk (HH.out.below hb); have b_ := Aside0.mk (blk_below BX1.out hb); clear hb HB HH BX1; have HB := n_; have HH := m_; have BX1 := b_; clear n_ m_ b_)
      clear y2 y3 x0 hc
      go_upto_region 19 with (first
        | (go_at_call 17; with_reducible refine (elem_s _ g d HD.out HH.out s1 U t1.out r1.out).mono ?_; rintro e w1 ⟨rfl, hb⟩; rw [← q1.out]; have n_ := Aside0.mk (HNone.step_at HB.out hb); have m_ := Aside0.mk (HH.out.below hb); have b_ := Aside0.mk (blk_below BX1.out hb); clear hb HB HH BX1; have HB := n_; have HH := m_; have BX1 := b_; clear n_ m_ b_)
        | (go_at_call 17; with_reducible refine (elem_s _ g d HD.out HH.out s2 V t2.out r2.out).mono ?_; rintro e w1 ⟨rfl, hb⟩; rw [← q2.out]; have n_ := Aside0.mk (HNone.step_at HB.out hb); have m_ := Aside0.mk (HH.out.below hb); have b_ := Aside0.mk (blk_below BX1.out hb); clear hb HB HH BX1; have HB := n_; have HH := m_; have BX1 := b_; clear n_ m_ b_)
        | (go_at_call 17; with_reducible refine (elem_s _ g d HD.out HH.out s3 W t3.out r3.out).mono ?_; rintro e w1 ⟨rfl, hb⟩; rw [← q3.out]; have n_ := Aside0.mk (HNone.step_at HB.out hb); have m_ := Aside0.mk (HH.out.below hb); have b_ := Aside0.mk (blk_below BX1.out hb); clear hb HB HH BX1; have HB := n_; have HH := m_; have BX1 := b_; clear n_ m_ b_)
        | (go_at_call 17; with_reducible refine (elem_s _ g d HD.out HH.out s12 (U ++ V) t4.out r4.out).mono ?_; rintro e w1 ⟨rfl, hb⟩; rw [← q4.out]; have n_ := Aside0.mk (HNone.step_at HB.out hb); have m_ := Aside0.mk (HH.out.below hb); have b_ := Aside0.mk (blk_below BX1.out hb); clear hb HB HH BX1; have HB := n_; have HH := m_; have BX1 := b_; clear n_ m_ b_)
        | (go_at_call 20; with_reducible refine (prod_calls _ g d HD.out HH.out X Y bX bY).mono ?_; rintro e w1 ⟨rfl, hb⟩; rw [p1.out]; have n_ := Aside0.mk (HNone.step_at HB.out hb); have m_ := Aside0.mk (HH.out.below hb); have b_ := Aside0.mk (blk_below BX1.out hb); clear hb HB HH BX1; have HB := n_; have HH := m_; have BX1 := b_; clear n_ m_ b_)
        | (go_at_call 20; with_reducible refine (prod_calls _ g d HD.out HH.out Y Z bY bZ).mono ?_; rintro e w1 ⟨rfl, hb⟩; rw [p2.out]; have n_ := Aside0.mk (HNone.step_at HB.out hb); have m_ := Aside0.mk (HH.out.below hb); have b_ := Aside0.mk (blk_below BX1.out hb); clear hb HB HH BX1; have HB := n_; have HH := m_; have BX1 := b_; clear n_ m_ b_)
        | (go_at_call 20; with_reducible refine (prod_calls _ g d HD.out HH.out XY Z bXY bZ).mono ?_; rintro e w1 ⟨rfl, hb⟩; rw [p3.out]; have n_ := Aside0.mk (HNone.step_at HB.out hb); have m_ := Aside0.mk (HH.out.below hb); have b_ := Aside0.mk (blk_below BX1.out hb); clear hb HB HH BX1; have HB := n_; have HH := m_; have BX1 := b_; clear n_ m_ b_)
        | (go_at_call 20; with_reducible refine (prod_calls _ g d HD.out HH.out X YZ bX bYZ).mono ?_; rintro e w1 ⟨rfl, hb⟩; rw [p4.out]; have n_ := Aside0.mk (HNone.step_at HB.out hb); have m_ := Aside0.mk (HH.out.below hb); have b_ := Aside0.mk (blk_below BX1.out hb); clear hb HB HH BX1; have HB := n_; have HH := m_; have BX1 := b_; clear n_ m_ b_)
        | (go_at_call 20; with_reducible refine (prod_0l _ g d HD.out HH.out X bX).mono ?_; rintro e w1 ⟨rfl, hb⟩; rw [p5.out]; have n_ := Aside0.mk (HNone.step_at HB.out hb); have m_ := Aside0.mk (HH.out.below hb); have b_ := Aside0.mk (blk_below BX1.out hb); clear hb HB HH BX1; have HB := n_; have HH := m_; have BX1 := b_; clear n_ m_ b_)
        | (go_at_call 20; with_reducible refine (prod_0r _ g d HD.out HH.out X bX).mono ?_; rintro e w1 ⟨rfl, hb⟩; rw [p6.out]; have n_ := Aside0.mk (HNone.step_at HB.out hb); have m_ := Aside0.mk (HH.out.below hb); have b_ := Aside0.mk (blk_below BX1.out hb); clear hb HB HH BX1; have HB := n_; have HH := m_; have BX1 := b_; clear n_ m_ b_)
        | (go_at_call 18; refine (HNone.num_ 0 _).mono ?_; rintro e w3 ⟨rfl, hw3⟩; subst hw3))
      go_loopw [26] (fun v26 wr => ∃ c : Nat, v26 = .int .i64 c ∧ c ≤ d.k ∧ Aside0 (Below w.heap.size w wr) ∧ Aside0 (Hd wr g d) ∧ Aside0 (wr.heap[w.heap.size]? = some (.cells #[.int .i64 d.k, .slice A1 d.nx.length c1, .slice A2 d.ac.length c2] 25 (0, 0)))) (fun v26 _ => d.k - (intOf v26).toNat)
      case atStart => exact ⟨0, rfl, Nat.zero_le _, HB, HH, BX1⟩
      case round =>
        clear HB HH BX1
        obtain ⟨c, rfl, hcl, HB, HH, BX1⟩ := hrel
        have k8 := HD.out.fit.k8
        have x0 : wr.cell? ⟨w.heap.size, 0, none⟩ = some (.int .i64 d.k) := (blk_cell BX1.out 0).trans rfl
        by_cases hlt : c < d.k
        · have g1 : decide ((c : Int) < (d.k : Int)) = true := decide_eq_true (by omega)
          have k8 := HD.out.fit.k8
          have hcv := chr_conv wr c (by omega)
          obtain ⟨sc, hsc⟩ : ∃ x, x = enc [c] := ⟨_, rfl⟩
          rw [← hsc] at hcv
          have t5 := Aside0.mk hsc
          have r5 := Aside0.mk (show ∀ l ∈ [c], l < d.k by intro l hl; simp at hl; omega)
          obtain ⟨L, hL⟩ : ∃ L, L = fol d.k d.Rs 0 [c] := ⟨_, rfl⟩
          obtain ⟨XR, hXR⟩ : ∃ XR, XR = fol d.k d.Rs X [c] := ⟨_, rfl⟩
          obtain ⟨XL, hXL⟩ : ∃ XL, XL = fol d.k d.Rs 0 (c :: d.us.getD X []) := ⟨_, rfl⟩
          have p7 := Aside0.mk (show fol d.k d.Rs X (d.us.getD L []) = XR by rw [hL, hXR]; exact HD.out.full.prod_elem bX [c] r5.out)
          have p8 := Aside0.mk (show fol d.k d.Rs L (d.us.getD X []) = XL by rw [hL, hXL, ← fol_append]; rfl)
          have bL : L < d.T.length := by rw [hL]; exact (HD.out.full.elem [c] r5.out).1
          have q5 := Aside0.mk hL
          have q6 := Aside0.mk hXR
          have q7 := Aside0.mk hXL
          clear hsc hL hXR hXL k8
          go_upto_region 20 with (first
            | (go_at_call 17; with_reducible refine (elem_s _ g d HD.out (HH.out.below (below_alloc (Below.refl _ _) _)) sc [c] t5.out r5.out).mono ?_; rintro e w1 ⟨rfl, hb⟩; rw [← q5.out]; have n_ := Aside0.mk (HNone.step_at (below_alloc HB.out _) hb); have m_ := Aside0.mk ((HH.out.below (below_alloc (Below.refl _ _) _)).below hb); have b_ := Aside0.mk (blk_below (blk_alloc BX1.out _) hb); clear hb HB HH BX1; have HB := n_; have HH := m_; have BX1 := b_; clear n_ m_ b_)
            | (go_at_call 21; with_reducible refine (right_calls _ g d HD.out HH.out X c bX hlt).mono ?_; rintro e w1 ⟨rfl, hb⟩; rw [← q6.out]; have n_ := Aside0.mk (HNone.step_at HB.out hb); have m_ := Aside0.mk (HH.out.below hb); have b_ := Aside0.mk (blk_below BX1.out hb); clear hb HB HH BX1; have HB := n_; have HH := m_; have BX1 := b_; clear n_ m_ b_)
            | (go_at_call 22; with_reducible refine (left_calls _ g d HD.out HH.out X c bX hlt).mono ?_; rintro e w1 ⟨rfl, hb⟩; rw [← q7.out]; have n_ := Aside0.mk (HNone.step_at HB.out hb); have m_ := Aside0.mk (HH.out.below hb); have b_ := Aside0.mk (blk_below BX1.out hb); clear hb HB HH BX1; have HB := n_; have HH := m_; have BX1 := b_; clear n_ m_ b_)
            | (go_at_call 20; with_reducible refine (prod_calls _ g d HD.out HH.out X L bX bL).mono ?_; rintro e w1 ⟨rfl, hb⟩; rw [p7.out]; have n_ := Aside0.mk (HNone.step_at HB.out hb); have m_ := Aside0.mk (HH.out.below hb); have b_ := Aside0.mk (blk_below BX1.out hb); clear hb HB HH BX1; have HB := n_; have HH := m_; have BX1 := b_; clear n_ m_ b_)
            | (go_at_call 20; with_reducible refine (prod_calls _ g d HD.out HH.out L X bL bX).mono ?_; rintro e w1 ⟨rfl, hb⟩; rw [p8.out]; have n_ := Aside0.mk (HNone.step_at HB.out hb); have m_ := Aside0.mk (HH.out.below hb); have b_ := Aside0.mk (blk_below BX1.out hb); clear hb HB HH BX1; have HB := n_; have HH := m_; have BX1 := b_; clear n_ m_ b_)
            | (go_at_call 18; refine (HNone.num_ 0 _).mono ?_; rintro e w3 ⟨rfl, hw3⟩; subst hw3))
          go_wp2_with fail
          go_roundw
          case measure => simp [intOf]; omega
          case rel => exact ⟨c + 1, by go_num, by omega, HB, HH, BX1⟩
        · have hx : c = d.k := by omega
          subst hx
          have g1 : decide ((d.k : Int) < (d.k : Int)) = false := by simp
          go_wp2_with (go_at_call 14; refine (HLive.live_calls _).mono ?_; rintro e w2 ⟨rfl, hb2⟩)
          go_ret
          exact ⟨rfl, below_then HB.out HB.out.size hb2⟩
    · have g0 : (HCheck.chk (d.k : Int) s123 != 0) = true := by simpa using hc
      have B1 := HB
      go_wp2_with (first
        | (go_at_call 13; refine (refcheck_calls (d.k : Int) _ _ y3).mono ?_; rintro e w2 ⟨rfl, hb⟩)
        | (go_at_call 14; refine (HLive.live_calls _).mono ?_; rintro e w3 ⟨rfl, hb3⟩))
      go_ret
      have B2 := below_then HB.out HB.out.size hb
      exact ⟨rfl, below_then B2 B2.size hb3⟩
end Go.Proofs.Ytcnnlddjnmkioaa.LProducts
