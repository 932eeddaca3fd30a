/- MonoidMade: the law's walk. -/
import Derived.Test.YtcnnlddjnmkioaaHGo
set_option linter.unusedVariables false
set_option linter.unusedSimpArgs false
namespace Go.Proofs.Ytcnnlddjnmkioaa.LMade
open Go Go.RowKit Go.Proofs.Ytcnnlddjnmkioaa.HReads Go.Proofs.Ytcnnlddjnmkioaa.HArr Go.Proofs.Ytcnnlddjnmkioaa.HPack Go.Proofs.Ytcnnlddjnmkioaa.HTkey Go.Proofs.Ytcnnlddjnmkioaa.HTrans Go.Proofs.Ytcnnlddjnmkioaa.HTable Go.Proofs.Ytcnnlddjnmkioaa.HMon Go.Proofs.Ytcnnlddjnmkioaa.HAuto Go.Proofs.Ytcnnlddjnmkioaa.PureMon Go.Proofs.Ytcnnlddjnmkioaa.HMeth Go.Proofs.Ytcnnlddjnmkioaa.HSide2 Go.Proofs.Ytcnnlddjnmkioaa.HLaws Go.Proofs.Ytcnnlddjnmkioaa.HAcc Go.Proofs.Ytcnnlddjnmkioaa.HGo Go.Proofs.YtcnnlddjnmkioaaW.PrintWords Go.Proofs.YtcnnlddjnmkioaaW.PrintLast Go.Proofs.YtcnnlddjnmkioaaW.PrintMore

theorem same_iff {n : Nat} {p q : List Nat} (hp : HTable.Good n p) (hq : HTable.Good n q) : ((List.range n).all (fun j => im p j == im q j)) = decide (p = q) := by
  by_cases h : p = q
  · subst h
    simp
  · rw [decide_eq_false h, Bool.eq_false_iff]
    intro ha
    rw [List.all_eq_true] at ha
    apply h
    apply List.ext_getElem
    · rw [hp.1, hq.1]
    · intro i h1 h2
      have hi : i < n := by rw [hp.1] at h1; exact h1
      have := ha i (List.mem_range.2 hi)
      simp only [HTable.im, List.getD_eq_getElem?_getD, List.getElem?_eq_getElem h1, List.getElem?_eq_getElem h2, Option.getD_some, beq_iff_eq] at this
      exact this
set_option maxHeartbeats 8000000 in
set_option maxRecDepth 100000 in
theorem calls (k : Int) (A1 : Option Addr) (c1 : Nat) (nx : List Int) (A2 : Option Addr) (c2 : Nat) (ac : List Bool) (s1 s2 : ByteArray) (w : World)
    (hn : Kd.C (Kd.int .i64) w A1 nx.length nx) (hc1 : nx.length ≤ c1) (ha : Kd.C Kd.bool w A2 ac.length ac) (hc2 : ac.length ≤ c2) (z1 : s1.size ≤ 140737488351232) (z2 : s2.size ≤ 140737488351232) :
    Calls Try.prog 7 #[.agg #[.int .i64 k, .slice A1 nx.length c1, .slice A2 ac.length c2], .string s1, .string s2] w fun e w' => e = .returned (.bool true) ∧ Below w.heap.size w w' := by
  have B0 := below_alloc (Below.refl w.heap.size w) (.cells #[.int .i64 k, .slice A1 nx.length c1, .slice A2 ac.length c2] 25)
  have X0 := blk_new w (.cells #[.int .i64 k, .slice A1 nx.length c1, .slice A2 ac.length c2] 25)
  have x0 : (w.alloc (.cells #[.int .i64 k, .slice A1 nx.length c1, .slice A2 ac.length c2] 25)).cell? ⟨w.heap.size, 0, none⟩ = some (.int .i64 k) := (blk_cell X0 0).trans rfl
  have x1 : (w.alloc (.cells #[.int .i64 k, .slice A1 nx.length c1, .slice A2 ac.length c2] 25)).cell? ⟨w.heap.size, 1, none⟩ = some (.slice A1 nx.length c1) := (blk_cell X0 1).trans rfl
  have x2 : (w.alloc (.cells #[.int .i64 k, .slice A1 nx.length c1, .slice A2 ac.length c2] 25)).cell? ⟨w.heap.size, 2, none⟩ = some (.slice A2 ac.length c2) := (blk_cell X0 2).trans rfl
  have h := built_two _ k A1 c1 nx A2 c2 ac (Kd.C_below hn B0) hc1 (Kd.C_below ha B0) hc2
  have BX := Aside0.mk X0
  have HN := Aside0.mk hn
  have HA := Aside0.mk ha
  clear X0 hn ha
  have B0 := Aside0.mk B0
  have y1 : ¬ 9223372036854775807 < s1.size + s2.size := by omega
  have z1' : s1.size < 4611686018427387904 := by omega
  have z2' : s2.size < 4611686018427387904 := by omega
  obtain ⟨s12, e12⟩ : ∃ x, s1 ++ s2 = x := ⟨_, rfl⟩
  have y3 : s12.size < 4611686018427387904 := by rw [← e12, ByteArray.size_append]; omega
  rcases h with h | h
  · have H := Aside0.mk h
    clear h
    go_enter Try.func7, Try.ntmps7
    go_wp2_with (first
      | (go_at_call 12; refine H.out.mono ?_; rintro e w1 ⟨hb1, rfl⟩)
      | (go_at_call 14; refine (HLive.live_calls _).mono ?_; rintro e w2 ⟨rfl, hb2⟩))
    go_ret
    have B1 := below_then B0.out B0.out.size hb1
    exact ⟨rfl, below_then B1 B1.size hb2⟩
  · have H := Aside0.mk h
    clear h
    go_enter Try.func7, Try.ntmps7
    go_upto_region 2 with (go_at_call 12; refine H.out.mono ?_; rintro e w1 ⟨hb1, g, d, rfl, hd, hH, hk, hnx, hac⟩)
    subst hk hnx hac
    clear H x0 x1 x2
    have HD := Aside0.mk hd
    have HH := Aside0.mk hH
    have HB := Aside0.mk (below_then B0.out B0.out.size hb1)
    have BX1 := Aside0.mk (blk_below BX.out hb1)
    have x0 : w1.cell? ⟨w.heap.size, 0, none⟩ = some (.int .i64 d.k) := (blk_cell BX1.out 0).trans rfl
    clear hd hH hb1 B0 BX
    by_cases hc : HCheck.chk (d.k : Int) s12 = 0
    · obtain ⟨UV, hUV, hUVk⟩ := enc_of d.k _ hc
      obtain ⟨U, V, hU, hV, rfl, hUk, hVk⟩ := enc_split d.k _ _ UV (e12.trans hUV) hUVk
      have hF := HD.out.full
      obtain ⟨X, hX⟩ : ∃ X, X = fol d.k d.Rs 0 U := ⟨_, rfl⟩
      obtain ⟨Y, hY⟩ : ∃ Y, Y = fol d.k d.Rs 0 V := ⟨_, rfl⟩
      obtain ⟨XY, hXY⟩ : ∃ XY, XY = fol d.k d.Rs 0 (U ++ V) := ⟨_, rfl⟩
      obtain ⟨tu, htu⟩ : ∃ t, t = (act d.n (letters d.nx d.k d.n) (List.range d.n) U) := ⟨_, rfl⟩
      obtain ⟨tv, htv⟩ : ∃ t, t = (act d.n (letters d.nx d.k d.n) (List.range d.n) V) := ⟨_, rfl⟩
      have p1 := Aside0.mk (show fol d.k d.Rs X (d.us.getD Y []) = XY by rw [hX, hY, hXY]; exact prodE hF U V hUk hVk)
      have bX : X < d.T.length := by rw [hX]; exact (hF.elem U hUk).1
      have bY : Y < d.T.length := by rw [hY]; exact (hF.elem V hVk).1
      have bXY : XY < d.T.length := by rw [hXY]; exact (hF.elem _ hUVk).1
      have tX := Aside0.mk (show d.T.getD X [] = tu by rw [hX, htu]; exact (hF.elem U hUk).2)
      have tY := Aside0.mk (show d.T.getD Y [] = tv by rw [hY, htv]; exact (hF.elem V hVk).2)
      have tXY := Aside0.mk (show d.T.getD XY [] = comp d.n tu tv by
        have := (hF.prod bX bY).2
        rw [p1.out, tX.out, tY.out] at this
        exact this)
      have GU := Aside0.mk (show HTable.Good d.n tu by rw [← tX.out]; exact hF.good bX)
      have GV := Aside0.mk (show HTable.Good d.n tv by rw [← tY.out]; exact hF.good bY)
      have HXY := Aside0.mk (show decide (tu = tv) = decide (X = Y) by
        by_cases h : X = Y
        · rw [decide_eq_true h, decide_eq_true (by rw [← tX.out, ← tY.out, h])]
        · rw [decide_eq_false h, decide_eq_false (fun q => h (hF.eq bX bY (by rw [tX.out, tY.out, q])))])
      have q1 := Aside0.mk hX
      have q2 := Aside0.mk hY
      have q5 := Aside0.mk htu
      have q6 := Aside0.mk htv
      have r1 := Aside0.mk hUk
      have r2 := Aside0.mk hVk
      have t1 := Aside0.mk hU
      have t2 := Aside0.mk hV
      have HNN := Aside0.mk HD.out.n
      clear hX hY hXY htu htv hUk hVk hU hV hUV hUVk hF
      go_upto_region 4 with (go_at_call 13; refine (refcheck_calls (d.k : Int) _ _ y3).mono ?_; rintro e w2 ⟨rfl, hb⟩; rw [hc]; have n_ := Aside0.mk (HNone.step_at HB.out hb); have m_ := Aside0.mk (HH.out.below hb); have b_ := Aside0.mk (blk_below BX1.out hb); clear hb HB HH BX1; have HB := n_; have HH := m_; have BX1 := b_; clear n_ m_ b_)
      clear y3 x0 hc y1
      go_upto_region 9 with (first
        | (go_at_call 17; with_reducible refine (elem_s _ g d HD.out HH.out s1 U t1.out r1.out).mono ?_; rintro e w1 ⟨rfl, hb⟩; rw [← q1.out]; have n_ := Aside0.mk (HNone.step_at HB.out hb); have m_ := Aside0.mk (HH.out.below hb); have b_ := Aside0.mk (blk_below BX1.out hb); clear hb HB HH BX1; have HB := n_; have HH := m_; have BX1 := b_; clear n_ m_ b_)
        | (go_at_call 17; with_reducible refine (elem_s _ g d HD.out HH.out s2 V t2.out r2.out).mono ?_; rintro e w1 ⟨rfl, hb⟩; rw [← q2.out]; have n_ := Aside0.mk (HNone.step_at HB.out hb); have m_ := Aside0.mk (HH.out.below hb); have b_ := Aside0.mk (blk_below BX1.out hb); clear hb HB HH BX1; have HB := n_; have HH := m_; have BX1 := b_; clear n_ m_ b_)
        | (go_at_call 20; with_reducible refine (prod_calls _ g d HD.out HH.out X Y bX bY).mono ?_; rintro e w1 ⟨rfl, hb⟩; rw [p1.out]; have n_ := Aside0.mk (HNone.step_at HB.out hb); have m_ := Aside0.mk (HH.out.below hb); have b_ := Aside0.mk (blk_below BX1.out hb); clear hb HB HH BX1; have HB := n_; have HH := m_; have BX1 := b_; clear n_ m_ b_)
        | (go_at_call 18; refine (HNone.num_ 0 _).mono ?_; rintro e w3 ⟨rfl, hw3⟩; subst hw3))
      go_wp2_with fail
      go_loopw [15, 16] (fun v15 v16 wr => ∃ (s : Nat) (b : Bool), v15 = .bool b ∧ v16 = .int .i64 s ∧ s ≤ d.n ∧ Aside0 (b = (List.range s).all (fun j => im tu j == im tv j)) ∧ Aside0 (Below w.heap.size w wr) ∧ Aside0 (Hd wr g d) ∧ Aside0 (wr.heap[w.heap.size]? = some (.cells #[.int .i64 d.k, .slice A1 d.nx.length c1, .slice A2 d.ac.length c2] 25 (0, 0)))) (fun _ v16 _ => d.n - (intOf v16).toNat)
      case atStart => exact ⟨0, true, rfl, rfl, Nat.zero_le _, ⟨rfl⟩, HB, HH, BX1⟩
      case round =>
        clear HB HH BX1
        obtain ⟨s, b, rfl, rfl, hs, HS, HB, HH, BX1⟩ := hrel
        have x2 : wr.cell? ⟨w.heap.size, 2, none⟩ = some (.slice A2 d.ac.length c2) := (blk_cell BX1.out 2).trans rfl
        by_cases hlt : s < d.n
        · have hlt2 : s < d.ac.length := by have := HNN.out; omega
          have n64 : d.n ≤ 64 := by have := HNN.out; have := HD.out.fit.n64; omega
          have g1 : decide ((s : Int) < (d.ac.length : Int)) = true := decide_eq_true (by omega)
          obtain ⟨ru, hru'⟩ : ∃ r, r = im tu s := ⟨_, rfl⟩
          obtain ⟨rv, hrv'⟩ : ∃ r, r = im tv s := ⟨_, rfl⟩
          have hru := Aside0.mk (show ru = im (act d.n (letters d.nx d.k d.n) (List.range d.n) U) s by rw [hru', q5.out])
          have hrv := Aside0.mk (show rv = im (act d.n (letters d.nx d.k d.n) (List.range d.n) V) s by rw [hrv', q6.out])
          have HSN := Aside0.mk (show (List.range (s + 1)).all (fun j => im tu j == im tv j) = (b && (ru == rv)) by rw [List.range_succ, List.all_append, ← HS.out, hru', hrv']; simp)
          clear hru' hrv'
          cases b with
          | true =>
            go_upto_region 13 with fail
            --DONEA
            --P13
            refine start_ (n := 13) (S := fun w' => w'.heap[w.heap.size]? = some (.cells #[.int .i64 d.k, .slice A1 d.nx.length c1, .slice A2 d.ac.length c2] 25 (0, 0)) ∧ Below w.heap.size w w' ∧ Hd w' g d) (ds := []) #[false, false, false, false, false, false, false, false, false, false, false, false, false] (by kernel_rfl) rfl rfl ⟨BX1.out, below_drew1 HB.out, HH.out.below (below_drew1 (Below.refl _ _))⟩ (fun hHeld => ?_)
            have HBy0 : Aside0 (Below w.heap.size w wr.drew) := ⟨below_drew1 HB.out⟩
            have HHy0 : Aside0 (Hd wr.drew g d) := ⟨HH.out.below (below_drew1 (Below.refl _ _))⟩
            have BXy0 : Aside0 (wr.drew.heap[w.heap.size]? = some (.cells #[.int .i64 d.k, .slice A1 d.nx.length c1, .slice A2 d.ac.length c2] 25 (0, 0))) := ⟨BX1.out⟩
            clear HB HH BX1
            generalize wr.drew = y0 at *
            refine pure_ (i := 0) (N := (some 76)) (v := ?_) (a' := ?_) #[true, false, false, false, false, false, false, false, false, false, false, false, false] rfl rfl (by kernel_rfl) (fun _ _ _ h => h) (Or.inl ⟨by rfl, ?_⟩) ?_ ?_
            rotate_left
            · intro w'
              go_simp
              with_reducible rfl
            rotate_left
            · simp only [Act.put, List.setIfInBounds_toArray, List.set_cons_zero, List.set_cons_succ, i64_w, i32_w]
              rfl
            refine pure_ (i := 1) (N := (some 77)) (v := ?_) (a' := ?_) #[true, true, false, false, false, false, false, false, false, false, false, false, false] rfl rfl (by kernel_rfl) (fun _ _ _ h => h) (Or.inl ⟨by rfl, ?_⟩) ?_ ?_
            rotate_left
            · intro w'
              go_simp
              with_reducible rfl
            rotate_left
            · simp only [Act.put, List.setIfInBounds_toArray, List.set_cons_zero, List.set_cons_succ, i64_w, i32_w]
              rfl
            refine pure_ (i := 3) (N := (some 79)) (v := ?_) (a' := ?_) #[true, true, false, true, false, false, false, false, false, false, false, false, false] rfl rfl (by kernel_rfl) (fun _ _ _ h => h) (Or.inl ⟨by rfl, ?_⟩) ?_ ?_
            rotate_left
            · intro w'
              go_simp
              with_reducible rfl
            rotate_left
            · simp only [Act.put, List.setIfInBounds_toArray, List.set_cons_zero, List.set_cons_succ, i64_w, i32_w]
              rfl
            refine pure_ (i := 4) (N := (some 80)) (v := ?_) (a' := ?_) #[true, true, false, true, true, false, false, false, false, false, false, false, false] rfl rfl (by kernel_rfl) (fun _ _ _ h => h) (Or.inl ⟨by rfl, ?_⟩) ?_ ?_
            rotate_left
            · intro w'
              go_simp
              with_reducible rfl
            rotate_left
            · simp only [Act.put, List.setIfInBounds_toArray, List.set_cons_zero, List.set_cons_succ, i64_w, i32_w]
              rfl
            refine pure_ (i := 7) (N := (some 83)) (v := ?_) (a' := ?_) #[true, true, false, true, true, false, false, true, false, false, false, false, false] rfl rfl (by kernel_rfl) (fun _ _ _ h => h) (Or.inl ⟨by rfl, ?_⟩) ?_ ?_
            rotate_left
            · intro w'
              go_simp
              with_reducible rfl
            rotate_left
            · simp only [Act.put, List.setIfInBounds_toArray, List.set_cons_zero, List.set_cons_succ, i64_w, i32_w]
              rfl
            refine pure_ (i := 8) (N := (some 84)) (v := ?_) (a' := ?_) #[true, true, false, true, true, false, false, true, true, false, false, false, false] rfl rfl (by kernel_rfl) (fun _ _ _ h => h) (Or.inl ⟨by rfl, ?_⟩) ?_ ?_
            rotate_left
            · intro w'
              go_simp
              with_reducible rfl
            rotate_left
            · simp only [Act.put, List.setIfInBounds_toArray, List.set_cons_zero, List.set_cons_succ, i64_w, i32_w]
              rfl
            refine take_ (i := 2) (N := (some 78)) (v := .agg #[.int .i64 d.k, .slice A1 d.nx.length c1, .slice A2 d.ac.length c2]) (a' := ?_) #[true, true, true, true, true, false, false, true, true, false, false, false, false] rfl rfl (by kernel_rfl) (fun _ _ _ h => h) (Or.inl ⟨by rfl, ?_⟩) hHeld ?_ ?_
            · rintro w' ⟨s0, s1, s2⟩
              have s30 := (blk_cell s0 0).trans rfl
              have s31 := (blk_cell s0 1).trans rfl
              have s32 := (blk_cell s0 2).trans rfl
              go_simp
            rotate_left
            · simp only [Act.put, List.setIfInBounds_toArray, List.set_cons_zero, List.set_cons_succ, i64_w, i32_w]
              rfl
            refine take_ (i := 6) (N := (some 82)) (v := .agg #[.int .i64 d.k, .slice A1 d.nx.length c1, .slice A2 d.ac.length c2]) (a' := ?_) #[true, true, true, true, true, false, true, true, true, false, false, false, false] rfl rfl (by kernel_rfl) (fun _ _ _ h => h) (Or.inl ⟨by rfl, ?_⟩) hHeld ?_ ?_
            · rintro w' ⟨s0, s1, s2⟩
              have s30 := (blk_cell s0 0).trans rfl
              have s31 := (blk_cell s0 1).trans rfl
              have s32 := (blk_cell s0 2).trans rfl
              go_simp
            rotate_left
            · simp only [Act.put, List.setIfInBounds_toArray, List.set_cons_zero, List.set_cons_succ, i64_w, i32_w]
              rfl
            refine one_ (i := 5) (N := (some 81)) #[true, true, true, true, true, true, true, true, true, false, false, false, false] rfl rfl (by kernel_rfl) (by decide) (fun K hK => ?_)
            refine call_ 28 #[.agg #[.int .i64 d.k, .slice A1 d.nx.length c1, .slice A2 d.ac.length c2], .int .i64 s, .string s1] (by rfl) rfl (by go_simp) ?_
            refine (go_calls y0 d HD.out A1 c1 A2 c2 (Kd.C_below HN.out HBy0.out) hc1 (Kd.C_below HA.out HBy0.out) hc2 s (by omega) s1 U t1.out r1.out z1' ru hru.out).mono ?_
            rintro e y1 ⟨rfl, hb⟩
            refine ⟨_, rfl, ?_⟩
            have HBy1 := Aside0.mk (HNone.step_at HBy0.out hb)
            have HHy1 := Aside0.mk (HHy0.out.below hb)
            have BXy1 := Aside0.mk (blk_below BXy0.out hb)
            clear hb
            refine hK.out _ _ (⟨BXy1.out, HBy1.out, HHy1.out⟩) (fun hHeld => ?_)
            clear hK K
            refine norm_ (a' := ?_) ?_ ?_
            rotate_left
            · show Act.put _ (some 81) _ = _
              simp only [Act.put, List.setIfInBounds_toArray, List.set_cons_zero, List.set_cons_succ, i64_w, i32_w]
              rfl
            refine one_ (i := 9) (N := (some 85)) #[true, true, true, true, true, true, true, true, true, true, false, false, false] rfl rfl (by kernel_rfl) (by decide) (fun K hK => ?_)
            refine call_ 28 #[.agg #[.int .i64 d.k, .slice A1 d.nx.length c1, .slice A2 d.ac.length c2], .int .i64 s, .string s2] (by rfl) rfl (by go_simp) ?_
            refine (go_calls y1 d HD.out A1 c1 A2 c2 (Kd.C_below HN.out HBy1.out) hc1 (Kd.C_below HA.out HBy1.out) hc2 s (by omega) s2 V t2.out r2.out z2' rv hrv.out).mono ?_
            rintro e y2 ⟨rfl, hb⟩
            refine ⟨_, rfl, ?_⟩
            have HBy2 := Aside0.mk (HNone.step_at HBy1.out hb)
            have HHy2 := Aside0.mk (HHy1.out.below hb)
            have BXy2 := Aside0.mk (blk_below BXy1.out hb)
            clear hb
            refine hK.out _ _ (⟨BXy2.out, HBy2.out, HHy2.out⟩) (fun hHeld => ?_)
            clear hK K
            refine norm_ (a' := ?_) ?_ ?_
            rotate_left
            · show Act.put _ (some 85) _ = _
              simp only [Act.put, List.setIfInBounds_toArray, List.set_cons_zero, List.set_cons_succ, i64_w, i32_w]
              rfl
            refine pure_ (i := 10) (N := (some 86)) (v := ?_) (a' := ?_) #[true, true, true, true, true, true, true, true, true, true, true, false, false] rfl rfl (by kernel_rfl) (fun _ _ _ h => h) (Or.inl ⟨by rfl, ?_⟩) ?_ ?_
            rotate_left
            · intro w'
              go_simp
              with_reducible rfl
            rotate_left
            · simp only [Act.put, List.setIfInBounds_toArray, List.set_cons_zero, List.set_cons_succ, i64_w, i32_w]
              rfl
            refine pure_ (i := 11) (N := (some 87)) (v := ?_) (a' := ?_) #[true, true, true, true, true, true, true, true, true, true, true, true, false] rfl rfl (by kernel_rfl) (fun _ _ _ h => h) (Or.inl ⟨by rfl, ?_⟩) ?_ ?_
            rotate_left
            · intro w'
              go_simp
              with_reducible rfl
            rotate_left
            · simp only [Act.put, List.setIfInBounds_toArray, List.set_cons_zero, List.set_cons_succ, i64_w, i32_w]
              rfl
            refine pure_ (i := 12) (N := (some 15)) (v := ?_) (a' := ?_) #[true, true, true, true, true, true, true, true, true, true, true, true, true] rfl rfl (by kernel_rfl) (fun _ _ _ h => h) (Or.inl ⟨by rfl, ?_⟩) ?_ ?_
            rotate_left
            · intro w'
              go_simp
              with_reducible rfl
            rotate_left
            · simp only [Act.put, List.setIfInBounds_toArray, List.set_cons_zero, List.set_cons_succ, i64_w, i32_w]
              rfl
            refine done_ (by kernel_rfl) ?_
            go_wp2_with fail
            go_roundw
            case measure => simp [intOf]; omega
            case rel => exact ⟨s + 1, _, rfl, by go_num, by omega, ⟨by rw [HSN.out, show ((ru : Int) == (rv : Int)) = (ru == rv) by rw [Bool.eq_iff_iff, beq_iff_eq, beq_iff_eq]; omega]; simp⟩, HBy2, HHy2, BXy2⟩
            --ENDP13
            --ENDDONEA
          | false =>
            go_upto_region 13 with fail
            --DONEB
            --P13F
            refine start_ (n := 13) (S := fun w' => w'.heap[w.heap.size]? = some (.cells #[.int .i64 d.k, .slice A1 d.nx.length c1, .slice A2 d.ac.length c2] 25 (0, 0)) ∧ Below w.heap.size w w' ∧ Hd w' g d) (ds := []) #[false, false, false, false, false, false, false, false, false, false, false, false, false] (by kernel_rfl) rfl rfl ⟨BX1.out, below_drew1 HB.out, HH.out.below (below_drew1 (Below.refl _ _))⟩ (fun hHeld => ?_)
            have HBy0 : Aside0 (Below w.heap.size w wr.drew) := ⟨below_drew1 HB.out⟩
            have HHy0 : Aside0 (Hd wr.drew g d) := ⟨HH.out.below (below_drew1 (Below.refl _ _))⟩
            have BXy0 : Aside0 (wr.drew.heap[w.heap.size]? = some (.cells #[.int .i64 d.k, .slice A1 d.nx.length c1, .slice A2 d.ac.length c2] 25 (0, 0))) := ⟨BX1.out⟩
            clear HB HH BX1
            generalize wr.drew = y0 at *
            refine pure_ (i := 0) (N := (some 76)) (v := ?_) (a' := ?_) #[true, false, false, false, false, false, false, false, false, false, false, false, false] rfl rfl (by kernel_rfl) (fun _ _ _ h => h) (Or.inl ⟨by rfl, ?_⟩) ?_ ?_
            rotate_left
            · intro w'
              go_simp
              with_reducible rfl
            rotate_left
            · simp only [Act.put, List.setIfInBounds_toArray, List.set_cons_zero, List.set_cons_succ, i64_w, i32_w]
              rfl
            refine pure_ (i := 1) (N := (some 77)) (v := ?_) (a' := ?_) #[true, true, false, false, false, false, false, false, false, false, false, false, false] rfl rfl (by kernel_rfl) (fun _ _ _ h => h) (Or.inl ⟨by rfl, ?_⟩) ?_ ?_
            rotate_left
            · intro w'
              go_simp
              with_reducible rfl
            rotate_left
            · simp only [Act.put, List.setIfInBounds_toArray, List.set_cons_zero, List.set_cons_succ, i64_w, i32_w]
              rfl
            refine pure_ (i := 2) (N := (some 78)) (v := undef) (a' := ?_) #[true, true, true, false, false, false, false, false, false, false, false, false, false] rfl rfl (by kernel_rfl) (fun _ _ _ h => h) (Or.inr ⟨by rfl, rfl⟩) ?_ ?_
            rotate_left
            · simp only [Act.put, List.setIfInBounds_toArray, List.set_cons_zero, List.set_cons_succ, i64_w, i32_w]
              rfl
            refine pure_ (i := 3) (N := (some 79)) (v := undef) (a' := ?_) #[true, true, true, true, false, false, false, false, false, false, false, false, false] rfl rfl (by kernel_rfl) (fun _ _ _ h => h) (Or.inr ⟨by rfl, rfl⟩) ?_ ?_
            rotate_left
            · simp only [Act.put, List.setIfInBounds_toArray, List.set_cons_zero, List.set_cons_succ, i64_w, i32_w]
              rfl
            refine pure_ (i := 4) (N := (some 80)) (v := undef) (a' := ?_) #[true, true, true, true, true, false, false, false, false, false, false, false, false] rfl rfl (by kernel_rfl) (fun _ _ _ h => h) (Or.inr ⟨by rfl, rfl⟩) ?_ ?_
            rotate_left
            · simp only [Act.put, List.setIfInBounds_toArray, List.set_cons_zero, List.set_cons_succ, i64_w, i32_w]
              rfl
            refine pure_ (i := 5) (N := (some 81)) (v := undef) (a' := ?_) #[true, true, true, true, true, true, false, false, false, false, false, false, false] rfl rfl (by kernel_rfl) (fun _ _ _ h => h) (Or.inr ⟨by rfl, rfl⟩) ?_ ?_
            rotate_left
            · simp only [Act.put, List.setIfInBounds_toArray, List.set_cons_zero, List.set_cons_succ, i64_w, i32_w]
              rfl
            refine pure_ (i := 6) (N := (some 82)) (v := undef) (a' := ?_) #[true, true, true, true, true, true, true, false, false, false, false, false, false] rfl rfl (by kernel_rfl) (fun _ _ _ h => h) (Or.inr ⟨by rfl, rfl⟩) ?_ ?_
            rotate_left
            · simp only [Act.put, List.setIfInBounds_toArray, List.set_cons_zero, List.set_cons_succ, i64_w, i32_w]
              rfl
            refine pure_ (i := 7) (N := (some 83)) (v := undef) (a' := ?_) #[true, true, true, true, true, true, true, true, false, false, false, false, false] rfl rfl (by kernel_rfl) (fun _ _ _ h => h) (Or.inr ⟨by rfl, rfl⟩) ?_ ?_
            rotate_left
            · simp only [Act.put, List.setIfInBounds_toArray, List.set_cons_zero, List.set_cons_succ, i64_w, i32_w]
              rfl
            refine pure_ (i := 8) (N := (some 84)) (v := undef) (a' := ?_) #[true, true, true, true, true, true, true, true, true, false, false, false, false] rfl rfl (by kernel_rfl) (fun _ _ _ h => h) (Or.inr ⟨by rfl, rfl⟩) ?_ ?_
            rotate_left
            · simp only [Act.put, List.setIfInBounds_toArray, List.set_cons_zero, List.set_cons_succ, i64_w, i32_w]
              rfl
            refine pure_ (i := 9) (N := (some 85)) (v := undef) (a' := ?_) #[true, true, true, true, true, true, true, true, true, true, false, false, false] rfl rfl (by kernel_rfl) (fun _ _ _ h => h) (Or.inr ⟨by rfl, rfl⟩) ?_ ?_
            rotate_left
            · simp only [Act.put, List.setIfInBounds_toArray, List.set_cons_zero, List.set_cons_succ, i64_w, i32_w]
              rfl
            refine pure_ (i := 10) (N := (some 86)) (v := undef) (a' := ?_) #[true, true, true, true, true, true, true, true, true, true, true, false, false] rfl rfl (by kernel_rfl) (fun _ _ _ h => h) (Or.inr ⟨by rfl, rfl⟩) ?_ ?_
            rotate_left
            · simp only [Act.put, List.setIfInBounds_toArray, List.set_cons_zero, List.set_cons_succ, i64_w, i32_w]
              rfl
            refine pure_ (i := 11) (N := (some 87)) (v := ?_) (a' := ?_) #[true, true, true, true, true, true, true, true, true, true, true, true, false] rfl rfl (by kernel_rfl) (fun _ _ _ h => h) (Or.inl ⟨by rfl, ?_⟩) ?_ ?_
            rotate_left
            · intro w'
              go_simp
              with_reducible rfl
            rotate_left
            · simp only [Act.put, List.setIfInBounds_toArray, List.set_cons_zero, List.set_cons_succ, i64_w, i32_w]
              rfl
            refine pure_ (i := 12) (N := (some 15)) (v := ?_) (a' := ?_) #[true, true, true, true, true, true, true, true, true, true, true, true, true] rfl rfl (by kernel_rfl) (fun _ _ _ h => h) (Or.inl ⟨by rfl, ?_⟩) ?_ ?_
            rotate_left
            · intro w'
              go_simp
              with_reducible rfl
            rotate_left
            · simp only [Act.put, List.setIfInBounds_toArray, List.set_cons_zero, List.set_cons_succ, i64_w, i32_w]
              rfl
            refine done_ (by kernel_rfl) ?_
            go_wp2_with fail
            go_roundw
            case measure => simp [intOf]; omega
            case rel => exact ⟨s + 1, _, rfl, by go_num, by omega, ⟨by rw [HSN.out]; simp⟩, HBy0, HHy0, BXy0⟩
            --ENDP13F
            --ENDDONEB
        · have hx : s = d.n := by omega
          subst hx
          have hge : ¬ d.n < d.ac.length := by have := HNN.out; omega
          have g1 : decide ((d.n : Int) < (d.ac.length : Int)) = false := decide_eq_false (by omega)
          --DONEC
          have n1 : 1 ≤ d.n := by have := HNN.out; have := HD.out.fit.n1; omega
          have n64 : d.n ≤ 64 := by have := HNN.out; have := HD.out.fit.n64; omega
          go_upto_region 15 with (first
            | (go_at_call 29; with_reducible refine (trans_calls _ g d HH.out X bX tu tX.out).mono ?_; rintro e v1 ⟨rfl, hb⟩; have n_ := Aside0.mk (HNone.step_at HB.out hb); have m_ := Aside0.mk (HH.out.below hb); have b_ := Aside0.mk (blk_below BX1.out hb); clear hb HB HH BX1 ; have HB := n_; have HH := m_; have BX1 := b_; clear n_ m_ b_ ; have Z1 := Aside0.mk (blk_new v1 (.cells z8 57)))
            | (refine storeT_arm rfl _ _ rfl v1.heap.size (pk (im tu) d.n d.n) rfl rfl z8 rfl rfl (pk_one _ _ _) Z1.out ?_))
          have hbo := below_setRow (below_alloc (Below.refl v1.heap.size v1) (.cells z8 57)) (Nat.le_refl _) (pk (im tu) d.n d.n)
          have K17 := Aside0.mk (setRow_heap (v1.alloc (.cells z8 57)) v1.heap.size _ (pk (im tu) d.n d.n) _ _ Z1.out)
          have n_ := Aside0.mk (HNone.step_at HB.out hbo)
          have m_ := Aside0.mk (HH.out.below hbo)
          have b_ := Aside0.mk (blk_below BX1.out hbo)
          clear hbo HB HH BX1 Z1 
          have HB := n_
          have HH := m_
          have BX1 := b_
          clear n_ m_ b_ 
          generalize (v1.alloc (.cells z8 57)).setRow v1.heap.size (pk (im tu) d.n d.n) = v2 at *
          generalize v1.heap.size = b17 at *
          clear v1
          go_upto_region 16 with (first
            | (go_at_call 29; with_reducible refine (trans_calls _ g d HH.out Y bY tv tY.out).mono ?_; rintro e v1 ⟨rfl, hb⟩; have n_ := Aside0.mk (HNone.step_at HB.out hb); have m_ := Aside0.mk (HH.out.below hb); have b_ := Aside0.mk (blk_below BX1.out hb); have kK17_ := Aside0.mk (blk_below K17.out hb); clear hb HB HH BX1 K17; have HB := n_; have HH := m_; have BX1 := b_; have K17 := kK17_; clear n_ m_ b_ kK17_; have Z1 := Aside0.mk (blk_new v1 (.cells z8 57)))
            | (refine storeT_arm rfl _ _ rfl v1.heap.size (pk (im tv) d.n d.n) rfl rfl z8 rfl rfl (pk_one _ _ _) Z1.out ?_))
          have hbo := below_setRow (below_alloc (Below.refl v1.heap.size v1) (.cells z8 57)) (Nat.le_refl _) (pk (im tv) d.n d.n)
          have K18 := Aside0.mk (setRow_heap (v1.alloc (.cells z8 57)) v1.heap.size _ (pk (im tv) d.n d.n) _ _ Z1.out)
          have n_ := Aside0.mk (HNone.step_at HB.out hbo)
          have m_ := Aside0.mk (HH.out.below hbo)
          have b_ := Aside0.mk (blk_below BX1.out hbo)
          have kK17_ := Aside0.mk (blk_below K17.out hbo)
          clear hbo HB HH BX1 Z1 K17
          have HB := n_
          have HH := m_
          have BX1 := b_
          have K17 := kK17_
          clear n_ m_ b_ kK17_
          generalize (v1.alloc (.cells z8 57)).setRow v1.heap.size (pk (im tv) d.n d.n) = v2 at *
          generalize v1.heap.size = b18 at *
          clear v1
          obtain ⟨tc, htc⟩ : ∃ t, t = comp d.n tu tv := ⟨_, rfl⟩
          have HTC := Aside0.mk htc
          clear htc
          have tXY2 := Aside0.mk (tXY.out.trans HTC.out.symm)
          go_upto_region 17 with (first
            | (go_at_call 29; with_reducible refine (trans_calls _ g d HH.out XY bXY tc tXY2.out).mono ?_; rintro e v1 ⟨rfl, hb⟩; have n_ := Aside0.mk (HNone.step_at HB.out hb); have m_ := Aside0.mk (HH.out.below hb); have b_ := Aside0.mk (blk_below BX1.out hb); have kK17_ := Aside0.mk (blk_below K17.out hb); have kK18_ := Aside0.mk (blk_below K18.out hb); clear hb HB HH BX1 K17 K18; have HB := n_; have HH := m_; have BX1 := b_; have K17 := kK17_; have K18 := kK18_; clear n_ m_ b_ kK17_ kK18_; have Z1 := Aside0.mk (blk_new v1 (.cells z8 57)))
            | (refine storeT_arm rfl _ _ rfl v1.heap.size (pk (im tc) d.n d.n) rfl rfl z8 rfl rfl (pk_one _ _ _) Z1.out ?_))
          have hbo := below_setRow (below_alloc (Below.refl v1.heap.size v1) (.cells z8 57)) (Nat.le_refl _) (pk (im tc) d.n d.n)
          have K19 := Aside0.mk (setRow_heap (v1.alloc (.cells z8 57)) v1.heap.size _ (pk (im tc) d.n d.n) _ _ Z1.out)
          have n_ := Aside0.mk (HNone.step_at HB.out hbo)
          have m_ := Aside0.mk (HH.out.below hbo)
          have b_ := Aside0.mk (blk_below BX1.out hbo)
          have kK17_ := Aside0.mk (blk_below K17.out hbo)
          have kK18_ := Aside0.mk (blk_below K18.out hbo)
          clear hbo HB HH BX1 Z1 K17 K18
          have HB := n_
          have HH := m_
          have BX1 := b_
          have K17 := kK17_
          have K18 := kK18_
          clear n_ m_ b_ kK17_ kK18_
          generalize (v1.alloc (.cells z8 57)).setRow v1.heap.size (pk (im tc) d.n d.n) = v2 at *
          generalize v1.heap.size = b19 at *
          clear v1
          go_upto_region 18 with (first
            | (refine loadT_arm rfl _ rfl b17 rfl (pk (im tu) d.n d.n) rfl K17.out ?_)
            | (refine loadT_arm rfl _ rfl b18 rfl (pk (im tv) d.n d.n) rfl K18.out ?_)
            | (go_at_call 30; refine (HTrans.compose_calls _ (im tu) (im tv) d.n n1 n64 (fun i hi => GU.out.im i hi) (fun i hi => GV.out.im i hi)).mono ?_; rintro e v1 ⟨rfl, hb⟩; rw [pk_comp, ← HTC.out]; have n_ := Aside0.mk (HNone.step_at HB.out hb); have m_ := Aside0.mk (HH.out.below hb); have b_ := Aside0.mk (blk_below BX1.out hb); have kK17_ := Aside0.mk (blk_below K17.out hb); have kK18_ := Aside0.mk (blk_below K18.out hb); have kK19_ := Aside0.mk (blk_below K19.out hb); clear hb HB HH BX1 K17 K18 K19; have HB := n_; have HH := m_; have BX1 := b_; have K17 := kK17_; have K18 := kK18_; have K19 := kK19_; clear n_ m_ b_ kK17_ kK18_ kK19_; have Z1 := Aside0.mk (blk_new v1 (.cells z8 57)))
            | (refine storeT_arm rfl _ _ rfl v1.heap.size (pk (im tc) d.n d.n) rfl rfl z8 rfl rfl (pk_one _ _ _) Z1.out ?_))
          have hbo := below_setRow (below_alloc (Below.refl v1.heap.size v1) (.cells z8 57)) (Nat.le_refl _) (pk (im tc) d.n d.n)
          have K20 := Aside0.mk (setRow_heap (v1.alloc (.cells z8 57)) v1.heap.size _ (pk (im tc) d.n d.n) _ _ Z1.out)
          have n_ := Aside0.mk (HNone.step_at HB.out hbo)
          have m_ := Aside0.mk (HH.out.below hbo)
          have b_ := Aside0.mk (blk_below BX1.out hbo)
          have kK17_ := Aside0.mk (blk_below K17.out hbo)
          have kK18_ := Aside0.mk (blk_below K18.out hbo)
          have kK19_ := Aside0.mk (blk_below K19.out hbo)
          clear hbo HB HH BX1 Z1 K17 K18 K19
          have HB := n_
          have HH := m_
          have BX1 := b_
          have K17 := kK17_
          have K18 := kK18_
          have K19 := kK19_
          clear n_ m_ b_ kK17_ kK18_ kK19_
          generalize (v1.alloc (.cells z8 57)).setRow v1.heap.size (pk (im tc) d.n d.n) = v2 at *
          generalize v1.heap.size = b20 at *
          clear v1
          obtain ⟨s0, hs0⟩ : ∃ s, s = im tu 0 := ⟨_, rfl⟩
          have HS0 := Aside0.mk hs0
          clear hs0 K17 K18
          go_upto_region 19 with (go_at_call 31; with_reducible refine (accept_calls _ g d HD.out HH.out X bX tu tX.out s0 HS0.out.symm).mono ?_; rintro e w5 ⟨rfl, hb⟩; have n_ := Aside0.mk (HNone.step_at HB.out hb); have m_ := Aside0.mk (HH.out.below hb); have b_ := Aside0.mk (blk_below BX1.out hb); have kK19_ := Aside0.mk (blk_below K19.out hb); have kK20_ := Aside0.mk (blk_below K20.out hb); clear hb HB HH BX1 K19 K20; have HB := n_; have HH := m_; have BX1 := b_; have K19 := kK19_; have K20 := kK20_; clear n_ m_ b_ kK19_ kK20_)
          have hsn : s0 < d.ac.length := by have := HNN.out; have := GU.out.im 0 (by omega); have := HS0.out; omega
          have GC := Aside0.mk (show HTable.Good d.n tc by rw [HTC.out]; exact good_comp GU.out GV.out)
          have HS1 := Aside0.mk (show s0 = im (act d.n (letters d.nx d.k d.n) (List.range d.n) U) 0 by rw [HS0.out, q5.out])
          obtain ⟨ad, e1, x3'⟩ := Kd.at_bool HA.out (s0 : Int) (by omega) (by omega)
          subst e1
          rw [Int.toNat_natCast, show rdOf false d.ac (s0 : Int) = d.ac.getD s0 false from rfl] at x3'
          have x3 := Aside0.mk x3'
          have hXYb : ((X : Int) == (Y : Int)) = b := by
            rw [HS.out, same_iff GU.out GV.out, HXY.out, Bool.eq_iff_iff, beq_iff_eq, decide_eq_true_iff]
            omega
          clear x3' x2
          --P19
          refine start_ (n := 42) (S := fun w' => w'.heap[w.heap.size]? = some (.cells #[.int .i64 d.k, .slice A1 d.nx.length c1, .slice (some ad) d.ac.length c2] 25 (0, 0)) ∧ Below w.heap.size w w' ∧ w'.heap[b19]? = some (.cells (pk (im tc) d.n d.n) 57 (0, 0)) ∧ w'.heap[b20]? = some (.cells (pk (im tc) d.n d.n) 57 (0, 0))) (ds := []) #[false, false, false, false, false, false, false, false, false, false, false, false, false, false, false, false, false, false, false, false, false, false, false, false, false, false, false, false, false, false, false, false, false, false, false, false, false, false, false, false, false, false] (by kernel_rfl) rfl rfl ⟨BX1.out, below_drew1 HB.out, K19.out, K20.out⟩ (fun hHeld => ?_)
          have HBy0 : Aside0 (Below w.heap.size w w5.drew) := ⟨below_drew1 HB.out⟩
          have BXy0 : Aside0 (w5.drew.heap[w.heap.size]? = some (.cells #[.int .i64 d.k, .slice A1 d.nx.length c1, .slice (some ad) d.ac.length c2] 25 (0, 0))) := ⟨BX1.out⟩
          have n_ : Aside0 (w5.drew.heap[b19]? = some (.cells (pk (im tc) d.n d.n) 57 (0, 0))) := ⟨K19.out⟩
          have m_ : Aside0 (w5.drew.heap[b20]? = some (.cells (pk (im tc) d.n d.n) 57 (0, 0))) := ⟨K20.out⟩
          clear HB HH BX1 K19 K20
          have K19 := n_
          have K20 := m_
          clear n_ m_
          generalize w5.drew = y0 at *
          refine pure_ (i := 0) (N := (some 118)) (v := ?_) (a' := ?_) #[true, false, false, false, false, false, false, false, false, false, false, false, false, false, false, false, false, false, false, false, false, false, false, false, false, false, false, false, false, false, false, false, false, false, false, false, false, false, false, false, false, false] rfl rfl (by kernel_rfl) (fun _ _ _ h => h) (Or.inl ⟨by rfl, ?_⟩) ?_ ?_
          rotate_left
          · intro w'
            go_simp
            with_reducible rfl
          rotate_left
          · simp only [Act.put, List.setIfInBounds_toArray, List.set_cons_zero, List.set_cons_succ, i64_w, i32_w]
            rfl
          refine pure_ (i := 2) (N := (some 120)) (v := ?_) (a' := ?_) #[true, false, true, false, false, false, false, false, false, false, false, false, false, false, false, false, false, false, false, false, false, false, false, false, false, false, false, false, false, false, false, false, false, false, false, false, false, false, false, false, false, false] rfl rfl (by kernel_rfl) (fun _ _ _ h => h) (Or.inl ⟨by rfl, ?_⟩) ?_ ?_
          rotate_left
          · intro w'
            go_simp
            with_reducible rfl
          rotate_left
          · simp only [Act.put, List.setIfInBounds_toArray, List.set_cons_zero, List.set_cons_succ, i64_w, i32_w]
            rfl
          refine pure_ (i := 5) (N := (some 123)) (v := ?_) (a' := ?_) #[true, false, true, false, false, true, false, false, false, false, false, false, false, false, false, false, false, false, false, false, false, false, false, false, false, false, false, false, false, false, false, false, false, false, false, false, false, false, false, false, false, false] rfl rfl (by kernel_rfl) (fun _ _ _ h => h) (Or.inl ⟨by rfl, ?_⟩) ?_ ?_
          rotate_left
          · intro w'
            go_simp
            with_reducible rfl
          rotate_left
          · simp only [Act.put, List.setIfInBounds_toArray, List.set_cons_zero, List.set_cons_succ, i64_w, i32_w]
            rfl
          refine pure_ (i := 8) (N := (some 126)) (v := ?_) (a' := ?_) #[true, false, true, false, false, true, false, false, true, false, false, false, false, false, false, false, false, false, false, false, false, false, false, false, false, false, false, false, false, false, false, false, false, false, false, false, false, false, false, false, false, false] rfl rfl (by kernel_rfl) (fun _ _ _ h => h) (Or.inl ⟨by rfl, ?_⟩) ?_ ?_
          rotate_left
          · intro w'
            go_simp
            with_reducible rfl
          rotate_left
          · simp only [Act.put, List.setIfInBounds_toArray, List.set_cons_zero, List.set_cons_succ, i64_w, i32_w]
            rfl
          refine pure_ (i := 11) (N := (some 129)) (v := ?_) (a' := ?_) #[true, false, true, false, false, true, false, false, true, false, false, true, false, false, false, false, false, false, false, false, false, false, false, false, false, false, false, false, false, false, false, false, false, false, false, false, false, false, false, false, false, false] rfl rfl (by kernel_rfl) (fun _ _ _ h => h) (Or.inl ⟨by rfl, ?_⟩) ?_ ?_
          rotate_left
          · intro w'
            go_simp
            with_reducible rfl
          rotate_left
          · simp only [Act.put, List.setIfInBounds_toArray, List.set_cons_zero, List.set_cons_succ, i64_w, i32_w]
            rfl
          refine one_ (i := 1) (N := (some 119)) #[true, true, true, false, false, true, false, false, true, false, false, true, false, false, false, false, false, false, false, false, false, false, false, false, false, false, false, false, false, false, false, false, false, false, false, false, false, false, false, false, false, false] rfl rfl (by kernel_rfl) (by decide) (fun K hK => ?_)
          refine call_ 18 #[.int .i64 0] (by rfl) rfl (by go_simp) ?_
          refine (HNone.num_ 0 y0).mono ?_
          rintro e z ⟨rfl, hz⟩
          obtain rfl : y0 = z := hz.symm
          refine ⟨_, rfl, ?_⟩
          refine hK.out _ _ (⟨BXy0.out, HBy0.out, K19.out, K20.out⟩) (fun hHeld => ?_)
          clear hK K
          refine norm_ (a' := ?_) ?_ ?_
          rotate_left
          · show Act.put _ (some 119) _ = _
            simp only [Act.put, List.setIfInBounds_toArray, List.set_cons_zero, List.set_cons_succ, i64_w, i32_w]
            rfl
          refine one_ (i := 3) (N := (some 121)) #[true, true, true, true, false, true, false, false, true, false, false, true, false, false, false, false, false, false, false, false, false, false, false, false, false, false, false, false, false, false, false, false, false, false, false, false, false, false, false, false, false, false] rfl rfl (by kernel_rfl) (by decide) (fun K hK => ?_)
          refine call_ 18 #[.int .i64 0] (by rfl) rfl (by go_simp) ?_
          refine (HNone.num_ 0 y0).mono ?_
          rintro e z ⟨rfl, hz⟩
          obtain rfl : y0 = z := hz.symm
          refine ⟨_, rfl, ?_⟩
          refine hK.out _ _ (⟨BXy0.out, HBy0.out, K19.out, K20.out⟩) (fun hHeld => ?_)
          clear hK K
          refine norm_ (a' := ?_) ?_ ?_
          rotate_left
          · show Act.put _ (some 121) _ = _
            simp only [Act.put, List.setIfInBounds_toArray, List.set_cons_zero, List.set_cons_succ, i64_w, i32_w]
            rfl
          refine pure_ (i := 4) (N := (some 122)) (v := .int .i64 0) (a' := ?_) #[true, true, true, true, true, true, false, false, true, false, false, true, false, false, false, false, false, false, false, false, false, false, false, false, false, false, false, false, false, false, false, false, false, false, false, false, false, false, false, false, false, false] rfl rfl (by kernel_rfl) (fun _ _ _ h => h) (Or.inl ⟨by rfl, ?_⟩) ?_ ?_
          · intro w'
            go_simp
            all_goals rfl
          rotate_left
          · simp only [Act.put, List.setIfInBounds_toArray, List.set_cons_zero, List.set_cons_succ, i64_w, i32_w]
            rfl
          refine one_ (i := 6) (N := (some 124)) #[true, true, true, true, true, true, true, false, true, false, false, true, false, false, false, false, false, false, false, false, false, false, false, false, false, false, false, false, false, false, false, false, false, false, false, false, false, false, false, false, false, false] rfl rfl (by kernel_rfl) (by decide) (fun K hK => ?_)
          refine call_ 18 #[.int .i64 0] (by rfl) rfl (by go_simp) ?_
          refine (HNone.num_ 0 y0).mono ?_
          rintro e z ⟨rfl, hz⟩
          obtain rfl : y0 = z := hz.symm
          refine ⟨_, rfl, ?_⟩
          refine hK.out _ _ (⟨BXy0.out, HBy0.out, K19.out, K20.out⟩) (fun hHeld => ?_)
          clear hK K
          refine norm_ (a' := ?_) ?_ ?_
          rotate_left
          · show Act.put _ (some 124) _ = _
            simp only [Act.put, List.setIfInBounds_toArray, List.set_cons_zero, List.set_cons_succ, i64_w, i32_w]
            rfl
          refine pure_ (i := 7) (N := (some 125)) (v := .int .i64 0) (a' := ?_) #[true, true, true, true, true, true, true, true, true, false, false, true, false, false, false, false, false, false, false, false, false, false, false, false, false, false, false, false, false, false, false, false, false, false, false, false, false, false, false, false, false, false] rfl rfl (by kernel_rfl) (fun _ _ _ h => h) (Or.inl ⟨by rfl, ?_⟩) ?_ ?_
          · intro w'
            go_simp
            all_goals rfl
          rotate_left
          · simp only [Act.put, List.setIfInBounds_toArray, List.set_cons_zero, List.set_cons_succ, i64_w, i32_w]
            rfl
          refine one_ (i := 9) (N := (some 127)) #[true, true, true, true, true, true, true, true, true, true, false, true, false, false, false, false, false, false, false, false, false, false, false, false, false, false, false, false, false, false, false, false, false, false, false, false, false, false, false, false, false, false] rfl rfl (by kernel_rfl) (by decide) (fun K hK => ?_)
          refine call_ 18 #[.int .i64 0] (by rfl) rfl (by go_simp) ?_
          refine (HNone.num_ 0 y0).mono ?_
          rintro e z ⟨rfl, hz⟩
          obtain rfl : y0 = z := hz.symm
          refine ⟨_, rfl, ?_⟩
          refine hK.out _ _ (⟨BXy0.out, HBy0.out, K19.out, K20.out⟩) (fun hHeld => ?_)
          clear hK K
          refine norm_ (a' := ?_) ?_ ?_
          rotate_left
          · show Act.put _ (some 127) _ = _
            simp only [Act.put, List.setIfInBounds_toArray, List.set_cons_zero, List.set_cons_succ, i64_w, i32_w]
            rfl
          refine pure_ (i := 10) (N := (some 128)) (v := .int .i64 0) (a' := ?_) #[true, true, true, true, true, true, true, true, true, true, true, true, false, false, false, false, false, false, false, false, false, false, false, false, false, false, false, false, false, false, false, false, false, false, false, false, false, false, false, false, false, false] rfl rfl (by kernel_rfl) (fun _ _ _ h => h) (Or.inl ⟨by rfl, ?_⟩) ?_ ?_
          · intro w'
            go_simp
            all_goals rfl
          rotate_left
          · simp only [Act.put, List.setIfInBounds_toArray, List.set_cons_zero, List.set_cons_succ, i64_w, i32_w]
            rfl
          refine one_ (i := 12) (N := (some 130)) #[true, true, true, true, true, true, true, true, true, true, true, true, true, false, false, false, false, false, false, false, false, false, false, false, false, false, false, false, false, false, false, false, false, false, false, false, false, false, false, false, false, false] rfl rfl (by kernel_rfl) (by decide) (fun K hK => ?_)
          refine call_ 18 #[.int .i64 0] (by rfl) rfl (by go_simp) ?_
          refine (HNone.num_ 0 y0).mono ?_
          rintro e z ⟨rfl, hz⟩
          obtain rfl : y0 = z := hz.symm
          refine ⟨_, rfl, ?_⟩
          refine hK.out _ _ (⟨BXy0.out, HBy0.out, K19.out, K20.out⟩) (fun hHeld => ?_)
          clear hK K
          refine norm_ (a' := ?_) ?_ ?_
          rotate_left
          · show Act.put _ (some 130) _ = _
            simp only [Act.put, List.setIfInBounds_toArray, List.set_cons_zero, List.set_cons_succ, i64_w, i32_w]
            rfl
          refine pure_ (i := 13) (N := (some 131)) (v := .int .i64 0) (a' := ?_) #[true, true, true, true, true, true, true, true, true, true, true, true, true, true, false, false, false, false, false, false, false, false, false, false, false, false, false, false, false, false, false, false, false, false, false, false, false, false, false, false, false, false] rfl rfl (by kernel_rfl) (fun _ _ _ h => h) (Or.inl ⟨by rfl, ?_⟩) ?_ ?_
          · intro w'
            go_simp
            all_goals rfl
          rotate_left
          · simp only [Act.put, List.setIfInBounds_toArray, List.set_cons_zero, List.set_cons_succ, i64_w, i32_w]
            rfl
          refine pure_ (i := 14) (N := (some 132)) (v := .bool true) (a' := ?_) #[true, true, true, true, true, true, true, true, true, true, true, true, true, true, true, false, false, false, false, false, false, false, false, false, false, false, false, false, false, false, false, false, false, false, false, false, false, false, false, false, false, false] rfl rfl (by kernel_rfl) (fun _ _ _ h => h) (Or.inl ⟨by rfl, ?_⟩) ?_ ?_
          · intro w'
            go_simp
          rotate_left
          · simp only [Act.put, List.setIfInBounds_toArray, List.set_cons_zero, List.set_cons_succ, i64_w, i32_w]
            rfl
          refine pure_ (i := 15) (N := (some 133)) (v := .bool true) (a' := ?_) #[true, true, true, true, true, true, true, true, true, true, true, true, true, true, true, true, false, false, false, false, false, false, false, false, false, false, false, false, false, false, false, false, false, false, false, false, false, false, false, false, false, false] rfl rfl (by kernel_rfl) (fun _ _ _ h => h) (Or.inl ⟨by rfl, ?_⟩) ?_ ?_
          · intro w'
            go_simp
          rotate_left
          · simp only [Act.put, List.setIfInBounds_toArray, List.set_cons_zero, List.set_cons_succ, i64_w, i32_w]
            rfl
          refine pure_ (i := 16) (N := (some 134)) (v := ?_) (a' := ?_) #[true, true, true, true, true, true, true, true, true, true, true, true, true, true, true, true, true, false, false, false, false, false, false, false, false, false, false, false, false, false, false, false, false, false, false, false, false, false, false, false, false, false] rfl rfl (by kernel_rfl) (fun _ _ _ h => h) (Or.inl ⟨by rfl, ?_⟩) ?_ ?_
          rotate_left
          · intro w'
            go_simp
            with_reducible rfl
          rotate_left
          · simp only [Act.put, List.setIfInBounds_toArray, List.set_cons_zero, List.set_cons_succ, i64_w, i32_w]
            rfl
          refine pure_ (i := 17) (N := (some 135)) (v := ?_) (a' := ?_) #[true, true, true, true, true, true, true, true, true, true, true, true, true, true, true, true, true, true, false, false, false, false, false, false, false, false, false, false, false, false, false, false, false, false, false, false, false, false, false, false, false, false] rfl rfl (by kernel_rfl) (fun _ _ _ h => h) (Or.inl ⟨by rfl, ?_⟩) ?_ ?_
          rotate_left
          · intro w'
            go_simp
            with_reducible rfl
          rotate_left
          · simp only [Act.put, List.setIfInBounds_toArray, List.set_cons_zero, List.set_cons_succ, i64_w, i32_w]
            rfl
          refine pure_ (i := 18) (N := (some 136)) (v := ?_) (a' := ?_) #[true, true, true, true, true, true, true, true, true, true, true, true, true, true, true, true, true, true, true, false, false, false, false, false, false, false, false, false, false, false, false, false, false, false, false, false, false, false, false, false, false, false] rfl rfl (by kernel_rfl) (fun _ _ _ h => h) (Or.inl ⟨by rfl, ?_⟩) ?_ ?_
          rotate_left
          · intro w'
            go_simp
            with_reducible rfl
          rotate_left
          · simp only [Act.put, List.setIfInBounds_toArray, List.set_cons_zero, List.set_cons_succ, i64_w, i32_w]
            rfl
          refine pure_ (i := 19) (N := (some 137)) (v := .bool b) (a' := ?_) #[true, true, true, true, true, true, true, true, true, true, true, true, true, true, true, true, true, true, true, true, false, false, false, false, false, false, false, false, false, false, false, false, false, false, false, false, false, false, false, false, false, false] rfl rfl (by kernel_rfl) (fun _ _ _ h => h) (Or.inl ⟨by rfl, ?_⟩) ?_ ?_
          · intro w'
            go_simp
          rotate_left
          · simp only [Act.put, List.setIfInBounds_toArray, List.set_cons_zero, List.set_cons_succ, i64_w, i32_w]
            rfl
          refine pure_ (i := 20) (N := (some 138)) (v := .bool true) (a' := ?_) #[true, true, true, true, true, true, true, true, true, true, true, true, true, true, true, true, true, true, true, true, true, false, false, false, false, false, false, false, false, false, false, false, false, false, false, false, false, false, false, false, false, false] rfl rfl (by kernel_rfl) (fun _ _ _ h => h) (Or.inl ⟨by rfl, ?_⟩) ?_ ?_
          · intro w'
            go_simp
            all_goals simp
          rotate_left
          · simp only [Act.put, List.setIfInBounds_toArray, List.set_cons_zero, List.set_cons_succ, i64_w, i32_w]
            rfl
          refine pure_ (i := 21) (N := (some 139)) (v := .bool true) (a' := ?_) #[true, true, true, true, true, true, true, true, true, true, true, true, true, true, true, true, true, true, true, true, true, true, false, false, false, false, false, false, false, false, false, false, false, false, false, false, false, false, false, false, false, false] rfl rfl (by kernel_rfl) (fun _ _ _ h => h) (Or.inl ⟨by rfl, ?_⟩) ?_ ?_
          · intro w'
            go_simp
          rotate_left
          · simp only [Act.put, List.setIfInBounds_toArray, List.set_cons_zero, List.set_cons_succ, i64_w, i32_w]
            rfl
          refine pure_ (i := 22) (N := (some 140)) (v := .bool true) (a' := ?_) #[true, true, true, true, true, true, true, true, true, true, true, true, true, true, true, true, true, true, true, true, true, true, true, false, false, false, false, false, false, false, false, false, false, false, false, false, false, false, false, false, false, false] rfl rfl (by kernel_rfl) (fun _ _ _ h => h) (Or.inl ⟨by rfl, ?_⟩) ?_ ?_
          · intro w'
            go_simp
          rotate_left
          · simp only [Act.put, List.setIfInBounds_toArray, List.set_cons_zero, List.set_cons_succ, i64_w, i32_w]
            rfl
          refine take_ (i := 23) (N := (some 141)) (v := .agg (pk (im tc) d.n d.n)) (a' := ?_) #[true, true, true, true, true, true, true, true, true, true, true, true, true, true, true, true, true, true, true, true, true, true, true, true, false, false, false, false, false, false, false, false, false, false, false, false, false, false, false, false, false, false] rfl rfl (by kernel_rfl) (fun _ _ _ h => h) (Or.inl ⟨by rfl, ?_⟩) hHeld ?_ ?_
          · rintro w' ⟨s0, s1, s2, s3⟩
            exact exec_loadT (op := _) (a := _) (x := .tmp 20) rfl rfl rfl s3
          rotate_left
          · simp only [Act.put, List.setIfInBounds_toArray, List.set_cons_zero, List.set_cons_succ, i64_w, i32_w]
            rfl
          refine take_ (i := 24) (N := (some 142)) (v := .agg (pk (im tc) d.n d.n)) (a' := ?_) #[true, true, true, true, true, true, true, true, true, true, true, true, true, true, true, true, true, true, true, true, true, true, true, true, true, false, false, false, false, false, false, false, false, false, false, false, false, false, false, false, false, false] rfl rfl (by kernel_rfl) (fun _ _ _ h => h) (Or.inl ⟨by rfl, ?_⟩) hHeld ?_ ?_
          · rintro w' ⟨s0, s1, s2, s3⟩
            exact exec_loadT (op := _) (a := _) (x := .tmp 19) rfl rfl rfl s2
          rotate_left
          · simp only [Act.put, List.setIfInBounds_toArray, List.set_cons_zero, List.set_cons_succ, i64_w, i32_w]
            rfl
          refine pure_ (i := 25) (N := (some 143)) (v := .bool true) (a' := ?_) #[true, true, true, true, true, true, true, true, true, true, true, true, true, true, true, true, true, true, true, true, true, true, true, true, true, true, false, false, false, false, false, false, false, false, false, false, false, false, false, false, false, false] rfl rfl (by kernel_rfl) (fun _ _ _ h => h) (Or.inl ⟨by rfl, ?_⟩) ?_ ?_
          · intro w'
            exact exec_eqT (p := im tc) (n := d.n) n64 (fun k hk => by have := GC.out.im k hk; omega) (op := _) (a := _) (x := .tmp 141) (y := .tmp 142) rfl rfl rfl
          rotate_left
          · simp only [Act.put, List.setIfInBounds_toArray, List.set_cons_zero, List.set_cons_succ, i64_w, i32_w]
            rfl
          refine pure_ (i := 26) (N := (some 144)) (v := .bool true) (a' := ?_) #[true, true, true, true, true, true, true, true, true, true, true, true, true, true, true, true, true, true, true, true, true, true, true, true, true, true, true, false, false, false, false, false, false, false, false, false, false, false, false, false, false, false] rfl rfl (by kernel_rfl) (fun _ _ _ h => h) (Or.inl ⟨by rfl, ?_⟩) ?_ ?_
          · intro w'
            go_simp
          rotate_left
          · simp only [Act.put, List.setIfInBounds_toArray, List.set_cons_zero, List.set_cons_succ, i64_w, i32_w]
            rfl
          refine pure_ (i := 27) (N := (some 145)) (v := .bool true) (a' := ?_) #[true, true, true, true, true, true, true, true, true, true, true, true, true, true, true, true, true, true, true, true, true, true, true, true, true, true, true, true, false, false, false, false, false, false, false, false, false, false, false, false, false, false] rfl rfl (by kernel_rfl) (fun _ _ _ h => h) (Or.inl ⟨by rfl, ?_⟩) ?_ ?_
          · intro w'
            go_simp
          rotate_left
          · simp only [Act.put, List.setIfInBounds_toArray, List.set_cons_zero, List.set_cons_succ, i64_w, i32_w]
            rfl
          refine pure_ (i := 28) (N := (some 146)) (v := ?_) (a' := ?_) #[true, true, true, true, true, true, true, true, true, true, true, true, true, true, true, true, true, true, true, true, true, true, true, true, true, true, true, true, true, false, false, false, false, false, false, false, false, false, false, false, false, false] rfl rfl (by kernel_rfl) (fun _ _ _ h => h) (Or.inl ⟨by rfl, ?_⟩) ?_ ?_
          rotate_left
          · intro w'
            go_simp
            with_reducible rfl
          rotate_left
          · simp only [Act.put, List.setIfInBounds_toArray, List.set_cons_zero, List.set_cons_succ, i64_w, i32_w]
            rfl
          refine pure_ (i := 29) (N := (some 147)) (v := ?_) (a' := ?_) #[true, true, true, true, true, true, true, true, true, true, true, true, true, true, true, true, true, true, true, true, true, true, true, true, true, true, true, true, true, true, false, false, false, false, false, false, false, false, false, false, false, false] rfl rfl (by kernel_rfl) (fun _ _ _ h => h) (Or.inl ⟨by rfl, ?_⟩) ?_ ?_
          rotate_left
          · intro w'
            go_simp
            with_reducible rfl
          rotate_left
          · simp only [Act.put, List.setIfInBounds_toArray, List.set_cons_zero, List.set_cons_succ, i64_w, i32_w]
            rfl
          refine pure_ (i := 32) (N := (some 150)) (v := ?_) (a' := ?_) #[true, true, true, true, true, true, true, true, true, true, true, true, true, true, true, true, true, true, true, true, true, true, true, true, true, true, true, true, true, true, false, false, true, false, false, false, false, false, false, false, false, false] rfl rfl (by kernel_rfl) (fun _ _ _ h => h) (Or.inl ⟨by rfl, ?_⟩) ?_ ?_
          rotate_left
          · intro w'
            go_simp
            with_reducible rfl
          rotate_left
          · simp only [Act.put, List.setIfInBounds_toArray, List.set_cons_zero, List.set_cons_succ, i64_w, i32_w]
            rfl
          refine take_ (i := 30) (N := (some 148)) (v := ?_) (a' := ?_) #[true, true, true, true, true, true, true, true, true, true, true, true, true, true, true, true, true, true, true, true, true, true, true, true, true, true, true, true, true, true, true, false, true, false, false, false, false, false, false, false, false, false] rfl rfl (by kernel_rfl) (fun _ _ _ h => h) (Or.inl ⟨by rfl, ?_⟩) hHeld ?_ ?_
          rotate_left
          · rintro w' ⟨s0, s1, s2, s3⟩
            have s4 := (blk_cell s0 2).trans rfl
            go_simp
            with_reducible rfl
          rotate_left
          · simp only [Act.put, List.setIfInBounds_toArray, List.set_cons_zero, List.set_cons_succ, i64_w, i32_w]
            rfl
          refine take_ (i := 31) (N := (some 149)) (v := .agg #[.int .i64 d.k, .slice A1 d.nx.length c1, .slice (some ad) d.ac.length c2]) (a' := ?_) #[true, true, true, true, true, true, true, true, true, true, true, true, true, true, true, true, true, true, true, true, true, true, true, true, true, true, true, true, true, true, true, true, true, false, false, false, false, false, false, false, false, false] rfl rfl (by kernel_rfl) (fun _ _ _ h => h) (Or.inl ⟨by rfl, ?_⟩) hHeld ?_ ?_
          · rintro w' ⟨s0, s1, s2, s3⟩
            have s30 := (blk_cell s0 0).trans rfl
            have s31 := (blk_cell s0 1).trans rfl
            have s32 := (blk_cell s0 2).trans rfl
            go_simp
          rotate_left
          · simp only [Act.put, List.setIfInBounds_toArray, List.set_cons_zero, List.set_cons_succ, i64_w, i32_w]
            rfl
          refine one_ (i := 33) (N := (some 151)) #[true, true, true, true, true, true, true, true, true, true, true, true, true, true, true, true, true, true, true, true, true, true, true, true, true, true, true, true, true, true, true, true, true, true, false, false, false, false, false, false, false, false] rfl rfl (by kernel_rfl) (by decide) (fun K hK => ?_)
          refine call_ 28 #[.agg #[.int .i64 d.k, .slice A1 d.nx.length c1, .slice (some ad) d.ac.length c2], .int .i64 ((0 : Nat) : Int), .string s1] (by rfl) rfl (by go_simp) ?_
          refine (go_calls y0 d HD.out A1 c1 (some ad) c2 (Kd.C_below HN.out HBy0.out) hc1 (Kd.C_below HA.out HBy0.out) hc2 0 (by omega) s1 U t1.out r1.out z1' s0 HS1.out).mono ?_
          rintro e y1 ⟨rfl, hb⟩
          refine ⟨_, rfl, ?_⟩
          have HBy1 := Aside0.mk (HNone.step_at HBy0.out hb)
          have BXy1 := Aside0.mk (blk_below BXy0.out hb)
          have K19' := Aside0.mk (blk_below K19.out hb)
          have K20' := Aside0.mk (blk_below K20.out hb)
          clear hb
          refine hK.out _ _ (⟨BXy1.out, HBy1.out, K19'.out, K20'.out⟩) (fun hHeld => ?_)
          clear hK K
          refine norm_ (a' := ?_) ?_ ?_
          rotate_left
          · show Act.put _ (some 151) _ = _
            simp only [Act.put, List.setIfInBounds_toArray, List.set_cons_zero, List.set_cons_succ, i64_w, i32_w]
            rfl
          refine pure_ (i := 34) (N := (some 152)) (v := ?_) (a' := ?_) #[true, true, true, true, true, true, true, true, true, true, true, true, true, true, true, true, true, true, true, true, true, true, true, true, true, true, true, true, true, true, true, true, true, true, true, false, false, false, false, false, false, false] rfl rfl (by kernel_rfl) (fun _ _ _ h => h) (Or.inl ⟨by rfl, ?_⟩) ?_ ?_
          rotate_left
          · intro w'
            go_simp
            with_reducible rfl
          rotate_left
          · simp only [Act.put, List.setIfInBounds_toArray, List.set_cons_zero, List.set_cons_succ, i64_w, i32_w]
            rfl
          refine take_ (i := 35) (N := (some 153)) (v := .bool (d.ac.getD s0 false)) (a' := ?_) #[true, true, true, true, true, true, true, true, true, true, true, true, true, true, true, true, true, true, true, true, true, true, true, true, true, true, true, true, true, true, true, true, true, true, true, true, false, false, false, false, false, false] rfl rfl (by kernel_rfl) (fun _ _ _ h => h) (Or.inl ⟨by rfl, ?_⟩) hHeld ?_ ?_
          · rintro w' ⟨s0, s1, s2, s3⟩
            have sx := cell_keep s1 x3.out
            go_simp
          rotate_left
          · simp only [Act.put, List.setIfInBounds_toArray, List.set_cons_zero, List.set_cons_succ, i64_w, i32_w]
            rfl
          refine pure_ (i := 36) (N := (some 154)) (v := .bool true) (a' := ?_) #[true, true, true, true, true, true, true, true, true, true, true, true, true, true, true, true, true, true, true, true, true, true, true, true, true, true, true, true, true, true, true, true, true, true, true, true, true, false, false, false, false, false] rfl rfl (by kernel_rfl) (fun _ _ _ h => h) (Or.inl ⟨by rfl, ?_⟩) ?_ ?_
          · intro w'
            go_simp
            all_goals simp
          rotate_left
          · simp only [Act.put, List.setIfInBounds_toArray, List.set_cons_zero, List.set_cons_succ, i64_w, i32_w]
            rfl
          refine pure_ (i := 37) (N := (some 155)) (v := .bool true) (a' := ?_) #[true, true, true, true, true, true, true, true, true, true, true, true, true, true, true, true, true, true, true, true, true, true, true, true, true, true, true, true, true, true, true, true, true, true, true, true, true, true, false, false, false, false] rfl rfl (by kernel_rfl) (fun _ _ _ h => h) (Or.inl ⟨by rfl, ?_⟩) ?_ ?_
          · intro w'
            go_simp
          rotate_left
          · simp only [Act.put, List.setIfInBounds_toArray, List.set_cons_zero, List.set_cons_succ, i64_w, i32_w]
            rfl
          refine pure_ (i := 38) (N := (some 156)) (v := .bool true) (a' := ?_) #[true, true, true, true, true, true, true, true, true, true, true, true, true, true, true, true, true, true, true, true, true, true, true, true, true, true, true, true, true, true, true, true, true, true, true, true, true, true, true, false, false, false] rfl rfl (by kernel_rfl) (fun _ _ _ h => h) (Or.inl ⟨by rfl, ?_⟩) ?_ ?_
          · intro w'
            go_simp
          rotate_left
          · simp only [Act.put, List.setIfInBounds_toArray, List.set_cons_zero, List.set_cons_succ, i64_w, i32_w]
            rfl
          refine one_ (i := 39) (N := (some 157)) #[true, true, true, true, true, true, true, true, true, true, true, true, true, true, true, true, true, true, true, true, true, true, true, true, true, true, true, true, true, true, true, true, true, true, true, true, true, true, true, true, false, false] rfl rfl (by kernel_rfl) (by decide) (fun K hK => ?_)
          refine call_ 14 #[] (by rfl) rfl (by go_simp) ?_
          refine (HLive.live_calls y1).mono ?_
          rintro e y2 ⟨rfl, hb⟩
          refine ⟨_, rfl, ?_⟩
          have HBy2 := Aside0.mk (HNone.step_at HBy1.out hb)
          have BXy2 := Aside0.mk (blk_below BXy1.out hb)
          have K19'' := Aside0.mk (blk_below K19'.out hb)
          have K20'' := Aside0.mk (blk_below K20'.out hb)
          clear hb
          refine hK.out _ _ (⟨BXy2.out, HBy2.out, K19''.out, K20''.out⟩) (fun hHeld => ?_)
          clear hK K
          refine norm_ (a' := ?_) ?_ ?_
          rotate_left
          · show Act.put _ (some 157) _ = _
            simp only [Act.put, List.setIfInBounds_toArray, List.set_cons_zero, List.set_cons_succ, i64_w, i32_w]
            rfl
          refine pure_ (i := 40) (N := (some 158)) (v := ?_) (a' := ?_) #[true, true, true, true, true, true, true, true, true, true, true, true, true, true, true, true, true, true, true, true, true, true, true, true, true, true, true, true, true, true, true, true, true, true, true, true, true, true, true, true, true, false] rfl rfl (by kernel_rfl) (fun _ _ _ h => h) (Or.inl ⟨by rfl, ?_⟩) ?_ ?_
          rotate_left
          · intro w'
            go_simp
            with_reducible rfl
          rotate_left
          · simp only [Act.put, List.setIfInBounds_toArray, List.set_cons_zero, List.set_cons_succ, i64_w, i32_w]
            rfl
          refine pure_ (i := 41) (N := (some 6)) (v := ?_) (a' := ?_) #[true, true, true, true, true, true, true, true, true, true, true, true, true, true, true, true, true, true, true, true, true, true, true, true, true, true, true, true, true, true, true, true, true, true, true, true, true, true, true, true, true, true] rfl rfl (by kernel_rfl) (fun _ _ _ h => h) (Or.inl ⟨by rfl, ?_⟩) ?_ ?_
          rotate_left
          · intro w'
            go_simp
            with_reducible rfl
          rotate_left
          · simp only [Act.put, List.setIfInBounds_toArray, List.set_cons_zero, List.set_cons_succ, i64_w, i32_w]
            rfl
          refine done_ (by kernel_rfl) ?_
          go_wp2_with fail
          go_ret
          exact ⟨rfl, HBy2.out⟩
          --ENDP19
          --ENDDONEC
    · have g0 : (HCheck.chk (d.k : Int) s12 != 0) = true := by simpa using hc
      go_wp2_with (first
        | (go_at_call 13; refine (refcheck_calls (d.k : Int) _ _ y3).mono ?_; rintro e w2 ⟨rfl, hb⟩)
        | (go_at_call 14; refine (HLive.live_calls _).mono ?_; rintro e w3 ⟨rfl, hb3⟩))
      go_ret
      have B2 := below_then HB.out HB.out.size hb
      exact ⟨rfl, below_then B2 B2.size hb3⟩
end Go.Proofs.Ytcnnlddjnmkioaa.LMade
