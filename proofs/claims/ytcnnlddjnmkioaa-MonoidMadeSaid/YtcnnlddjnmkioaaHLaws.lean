/- What the laws of chapter 14 call: a monoid that is there; the reference's Check and Go. -/
import Derived.Test.YtcnnlddjnmkioaaHSide2
import Derived.Test.YtcnnlddjnmkioaaHLive
import Derived.Test.YtcnnlddjnmkioaaMBx1
set_option linter.unusedVariables false
set_option linter.unusedSimpArgs false
namespace Go.Proofs.Ytcnnlddjnmkioaa.HLaws
open Go Go.RowKit Go.Proofs.Ytcnnlddjnmkioaa.MB Go.Proofs.Ytcnnlddjnmkioaa.HArr Go.Proofs.Ytcnnlddjnmkioaa.HPack Go.Proofs.Ytcnnlddjnmkioaa.HTable Go.Proofs.Ytcnnlddjnmkioaa.HMon Go.Proofs.Ytcnnlddjnmkioaa.HBuild Go.Proofs.Ytcnnlddjnmkioaa.HBuilt Go.Proofs.Ytcnnlddjnmkioaa.HAuto Go.Proofs.Ytcnnlddjnmkioaa.PureMon Go.Proofs.Ytcnnlddjnmkioaa.HMeth Go.Proofs.YtcnnlddjnmkioaaW.PrintWords Go.Proofs.YtcnnlddjnmkioaaW.PrintLast Go.Proofs.YtcnnlddjnmkioaaW.PrintMore

/-- monoid.Build: nothing, or a monoid. -/
theorem build_two (w : World) (k : Int) (A1 : Option Addr) (c1 : Nat) (nx : List Int) (A2 : Option Addr) (c2 : Nat) (ac : List Bool)
    (hn : Kd.C (Kd.int .i64) w A1 nx.length nx) (hc1 : nx.length ≤ c1) (ha : Kd.C Kd.bool w A2 ac.length ac) (hc2 : ac.length ≤ c2) :
    (∃ n : Int, n ≠ 0 ∧ Calls Try.prog 49 #[.agg #[.int .i64 k, .slice A1 nx.length c1, .slice A2 ac.length c2]] w fun e w' => Below w.heap.size w w' ∧ e = .returned (.tuple #[.pointer none, .int .i64 n])) ∨
    (Calls Try.prog 49 #[.agg #[.int .i64 k, .slice A1 nx.length c1, .slice A2 ac.length c2]] w fun e w' => Below w.heap.size w w' ∧ ∃ g d, e = .returned (.tuple #[.pointer (some ⟨g, 0, none⟩), .int .i64 0]) ∧ MD.Ok d ∧ Hd w' g d ∧ (d.k : Int) = k ∧ d.nx = nx ∧ d.ac = ac) := by
  by_cases hO : HAuto.Ok k nx ac
  · by_cases h64 : 64 < ac.length
    · exact .inl ⟨81, by decide, big_calls w k A1 c1 nx A2 c2 ac hn hc1 ha hc2 hO h64⟩
    · obtain ⟨kn, rfl⟩ : ∃ kn : Nat, k = kn := ⟨k.toNat, by have := hO.1; omega⟩
      have hF := fit_of kn nx ac hO (by omega)
      have hg := good_calls w kn A1 c1 nx A2 c2 ac _ hn hc1 ha hc2 hF rfl
      cases hb : built ac.length kn (letters nx kn ac.length) with
      | none =>
        refine .inl ⟨140, by decide, hg.mono fun e w' h => ⟨h.1, ?_⟩⟩
        rcases h.2 with h | ⟨_, _, _, _, h, _⟩
        · exact h.2
        · rw [hb] at h
          cases h
      | some b =>
        refine .inr (hg.mono fun e w' h => ⟨h.1, ?_⟩)
        rcases h.2 with h | ⟨T, Ws, Rs, g, h, he, hM⟩
        · rw [hb] at h
          cases h.1
        · obtain ⟨us, h1, h2⟩ := hd_of hF h hM
          exact ⟨g, _, he, h1, h2, rfl, rfl, rfl⟩
  · exact .inl ⟨80, by decide, bad_calls w k A1 c1 nx A2 c2 ac hn hc1 ha hc2 hO⟩
set_option maxHeartbeats 1000000 in
set_option maxRecDepth 100000 in
theorem built_two (w : World) (k : Int) (A1 : Option Addr) (c1 : Nat) (nx : List Int) (A2 : Option Addr) (c2 : Nat) (ac : List Bool)
    (hn : Kd.C (Kd.int .i64) w A1 nx.length nx) (hc1 : nx.length ≤ c1) (ha : Kd.C Kd.bool w A2 ac.length ac) (hc2 : ac.length ≤ c2) :
    (Calls Try.prog 12 #[.agg #[.int .i64 k, .slice A1 nx.length c1, .slice A2 ac.length c2]] w fun e w' => Below w.heap.size w w' ∧ e = .returned (.tuple #[.pointer none, .bool false])) ∨
    (Calls Try.prog 12 #[.agg #[.int .i64 k, .slice A1 nx.length c1, .slice A2 ac.length c2]] w fun e w' => Below w.heap.size w w' ∧ ∃ g d, e = .returned (.tuple #[.pointer (some ⟨g, 0, none⟩), .bool true]) ∧ MD.Ok d ∧ Hd w' g d ∧ (d.k : Int) = k ∧ d.nx = nx ∧ d.ac = ac) := by
  have B0 := below_alloc (Below.refl w.heap.size w) (.cells #[.int .i64 k, .slice A1 nx.length c1, .slice A2 ac.length c2] 25)
  have X0 := blk_new w (.cells #[.int .i64 k, .slice A1 nx.length c1, .slice A2 ac.length c2] 25)
  have x0 : (w.alloc (.cells #[.int .i64 k, .slice A1 nx.length c1, .slice A2 ac.length c2] 25)).cell? ⟨w.heap.size, 0, none⟩ = some (.int .i64 k) := (blk_cell X0 0).trans rfl
  have x1 : (w.alloc (.cells #[.int .i64 k, .slice A1 nx.length c1, .slice A2 ac.length c2] 25)).cell? ⟨w.heap.size, 1, none⟩ = some (.slice A1 nx.length c1) := (blk_cell X0 1).trans rfl
  have x2 : (w.alloc (.cells #[.int .i64 k, .slice A1 nx.length c1, .slice A2 ac.length c2] 25)).cell? ⟨w.heap.size, 2, none⟩ = some (.slice A2 ac.length c2) := (blk_cell X0 2).trans rfl
  have h := build_two _ k A1 c1 nx A2 c2 ac (Kd.C_below hn B0) hc1 (Kd.C_below ha B0) hc2
  clear X0 hn ha
  have B0 := Aside0.mk B0
  rcases h with ⟨n, hn0, h⟩ | h
  · refine .inl ?_
    have H := Aside0.mk h
    clear h
    have g0 : (n == 0) = false := by simpa using hn0
    go_enter Try.func12, Try.ntmps12
    go_wp2_with (first
      | (go_at_call 49; refine H.out.mono ?_; rintro e w1 ⟨hb1, rfl⟩)
      | (go_at_call 18; refine (HNone.num_ n _).mono ?_; rintro e w3 ⟨rfl, hw3⟩; subst hw3))
    go_ret2
    exact ⟨below_then B0.out B0.out.size hb1, rfl⟩
  · refine .inr ?_
    have H := Aside0.mk h
    clear h
    go_enter Try.func12, Try.ntmps12
    go_wp2_with (first
      | (go_at_call 49; refine H.out.mono ?_; rintro e w1 ⟨hb1, g, d, rfl, hd, hH, hk, hnx, hac⟩; have HZ := Aside0.mk (show MD.Ok d ∧ Hd w1 g d ∧ (d.k : Int) = k ∧ d.nx = nx ∧ d.ac = ac from ⟨hd, hH, hk, hnx, hac⟩); clear hd hH hk hnx hac)
      | (go_at_call 18; refine (HNone.num_ 0 _).mono ?_; rintro e w3 ⟨rfl, hw3⟩; subst hw3))
    go_ret2
    exact ⟨below_then B0.out B0.out.size hb1, g, d, rfl, HZ.out⟩
/-! ### the reference's Check -/
theorem ref_l0 (k : Int) (h8 : k ≤ 8) (s : ByteArray) (hb : s.size < 4611686018427387904) : ∀ (m p f : Nat), p + m = s.size → m < f → eggboxref01_Check.l0 f k s (p : Int) = some (if (s.data.toList.drop p).all (HCheck.okb k) then 0 else 21)
  | 0, p, f + 1, h, _ => by
    rw [eggboxref01_Check.l0, if_neg (by omega), List.drop_eq_nil_of_le (by simp; omega)]
    rfl
  | m + 1, p, f + 1, h, hf => by
    have hp : p < s.size := by omega
    have hpl : p < s.data.toList.length := by simpa using hp
    have e : bt s (p : Int) = (s.data.toList[p].toNat : Int) := by
      unfold bt
      rw [dif_pos (by simpa using hp)]
      rfl
    have hlt : s.data.toList[p].toNat < 256 := UInt8.toNat_lt _
    rw [eggboxref01_Check.l0, if_pos (by omega), if_pos (by omega), e, List.drop_eq_getElem_cons hpl, List.all_cons, IntWalk.wrap64_in _ (by omega)]
    generalize s.data.toList[p] = b at *
    by_cases h1 : (b.toNat : Int) < 97
    · rw [if_pos h1]
      have : HCheck.okb k b = false := by simp [HCheck.okb]; omega
      rw [this]
      rfl
    · rw [if_neg h1]
      by_cases h2 : ((b.toNat : Int) - 97) % 256 ≥ k
      · rw [if_pos h2]
        have : HCheck.okb k b = false := by simp [HCheck.okb]; omega
        rw [this]
        rfl
      · rw [if_neg h2, show (p : Int) + 1 = ((p + 1 : Nat) : Int) from rfl, ref_l0 k h8 s hb m (p + 1) f (by omega) (by omega)]
        have : HCheck.okb k b = true := by simp [HCheck.okb]; omega
        rw [this, Bool.true_and]
theorem ref_check (k : Int) (s : ByteArray) (hb : s.size < 4611686018427387904) : ∃ K, eggboxref01_Check.f K k s = some (HCheck.chk k s) := by
  refine ⟨s.size + 1, ?_⟩
  unfold eggboxref01_Check.f eggboxref01_Letters.f HCheck.chk
  by_cases h1 : k < 1
  · rw [if_pos h1, if_pos (Or.inl h1)]
    rfl
  · rw [if_neg h1]
    by_cases h2 : k > 8
    · rw [if_pos h2, if_pos (by omega)]
      rfl
    · rw [if_neg h2, if_neg (by omega), Option.bind_some, if_pos rfl]
      have := ref_l0 k (by omega) s hb s.size 0 (s.size + 1) (by omega) (by omega)
      simpa using this
theorem refcheck_calls (k : Int) (s : ByteArray) (w : World) (hb : s.size < 4611686018427387904) : Calls Try.prog 13 #[.int .i64 k, .string s] w fun e w' => e = .returned (.int .i64 (HCheck.chk k s)) ∧ Below w.heap.size w w' := by
  obtain ⟨K, h⟩ := ref_check k s hb
  exact (eggboxref01_Check.calls K k s _ w h).mono fun e w' h => ⟨h.1, by obtain ⟨nd, rfl⟩ := h.2; exact pw_below_drewN (Below.refl _ _) nd⟩
/-- A word that is one, by its letters. -/
theorem enc_of (k : Nat) (s : ByteArray) (h : HCheck.chk (k : Int) s = 0) : ∃ u : List Nat, s = enc u ∧ ∀ l ∈ u, l < k := by
  unfold HCheck.chk at h
  by_cases h1 : (k : Int) < 1 ∨ 8 < (k : Int)
  · rw [if_pos h1] at h
    omega
  · rw [if_neg h1] at h
    by_cases h2 : s.data.toList.all (HCheck.okb k) = true
    · rw [List.all_eq_true] at h2
      refine ⟨s.data.toList.map (fun b => b.toNat - 97), ?_, ?_⟩
      · apply ByteArray.ext
        apply Array.toList_inj.1
        simp only [enc, List.map_map]
        refine (List.map_id' _).symm.trans (List.map_congr_left fun b hb => ?_)
        have := h2 b hb
        simp only [HCheck.okb, Bool.and_eq_true, decide_eq_true_eq] at this
        show b = UInt8.ofNat (97 + (b.toNat - 97))
        rw [show 97 + (b.toNat - 97) = b.toNat by omega]
        simp
      · intro l hl
        rw [List.mem_map] at hl
        obtain ⟨b, hb, rfl⟩ := hl
        have := h2 b hb
        simp only [HCheck.okb, Bool.and_eq_true, decide_eq_true_eq] at this
        omega
    · rw [if_neg h2] at h
      omega
theorem enc_append (u v : List Nat) : enc (u ++ v) = enc u ++ enc v := by
  apply ByteArray.ext
  simp [enc]
/-- A word of pieces. -/
theorem enc_split (k : Nat) (u v : ByteArray) (z : List Nat) (h : u ++ v = enc z) (hz : ∀ l ∈ z, l < k) : ∃ x y, u = enc x ∧ v = enc y ∧ z = x ++ y ∧ (∀ l ∈ x, l < k) ∧ ∀ l ∈ y, l < k := by
  have hs : u.size + v.size = z.length := by
    have := congrArg ByteArray.size h
    rw [ByteArray.size_append, enc_size] at this
    exact this
  have e := enc_append (z.take u.size) (z.drop u.size)
  rw [List.take_append_drop] at e
  have h2 := h.trans e
  have h3 := congrArg (fun b : ByteArray => b.data.toList) h2
  simp only [ByteArray.data_append, Array.toList_append] at h3
  have hl : u.data.toList.length = (enc (z.take u.size)).data.toList.length := by
    have : (enc (z.take u.size)).size = u.size := by rw [enc_size, List.length_take]; omega
    simpa using this.symm
  obtain ⟨q1, q2⟩ := List.append_inj h3 hl
  exact ⟨z.take u.size, z.drop u.size, ByteArray.ext (Array.toList_inj.1 q1), ByteArray.ext (Array.toList_inj.1 q2), (List.take_append_drop _ _).symm, fun l hl => hz l (List.mem_of_mem_take hl), fun l hl => hz l (List.mem_of_mem_drop hl)⟩
/-! ### a letter as a word -/
theorem lit_U (W : World) (b : Nat) (x : Int) (hb : W.heap[b]? = some (.cells #[.int .u8 x] 5 (0, 0))) : Kd.C (Kd.int .u8) W (some ⟨b, 0, none⟩) 1 [x] := by
  refine ⟨rfl, by omega, fun _ => ⟨_, rfl, fun j p hj => ⟨[.int .u8 p], rfl, rfl, fun i u hi => ?_⟩⟩⟩
  match j, i with
  | 0, 0 =>
    simp at hi hj
    subst hi hj
    exact (blk_cell hb 0).trans rfl
  | j + 1, _ => simp at hj
  | 0, i + 1 => simp at hi
theorem chr_conv (W : World) (c : Nat) (hc : c < 8) : (convert 41 9 (.slice (some ⟨W.heap.size, 0, none⟩) 1 1)).run Try.prog (W.alloc (.cells #[.int .u8 (97 + (c : Int))] 5)) = .ok (.string (enc [c])) (W.alloc (.cells #[.int .u8 (97 + (c : Int))] 5)) := by
  have h := Kd.C_string (P := Try.prog) (src := 41) (dst := 9) (c := 1) Try.underlying41 Try.underlying5 Try.underlying9 (lit_U (W.alloc (.cells #[.int .u8 (97 + (c : Int))] 5)) W.heap.size (97 + (c : Int)) (blk_new W _))
  rw [h]
  rcases (show c = 0 ∨ c = 1 ∨ c = 2 ∨ c = 3 ∨ c = 4 ∨ c = 5 ∨ c = 6 ∨ c = 7 by omega) with rfl | rfl | rfl | rfl | rfl | rfl | rfl | rfl <;> rfl
/-! ### products -/
theorem prod_0l (w : World) (g : Nat) (d : MD) (hd : d.Ok) (h : Hd w g d) (j : Nat) (hj : j < d.T.length) : Calls Try.prog 20 #[.pointer (some ⟨g, 0, none⟩), .int .i64 0, .int .i64 j] w fun e w' => e = .returned (.tuple #[.int .i64 (fol d.k d.Rs 0 (d.us.getD j []) : Nat), .int .i64 0]) ∧ Below w.heap.size w w' := prod_calls w g d hd h 0 j hd.full.inv.pos hj
theorem prod_0r (w : World) (g : Nat) (d : MD) (hd : d.Ok) (h : Hd w g d) (i : Nat) (hi : i < d.T.length) : Calls Try.prog 20 #[.pointer (some ⟨g, 0, none⟩), .int .i64 i, .int .i64 0] w fun e w' => e = .returned (.tuple #[.int .i64 (fol d.k d.Rs i (d.us.getD 0 []) : Nat), .int .i64 0]) ∧ Below w.heap.size w w' := prod_calls w g d hd h i 0 hi hd.full.inv.pos
theorem elem_s (w : World) (g : Nat) (d : MD) (hd : d.Ok) (h : Hd w g d) (s : ByteArray) (u : List Nat) (hs : s = enc u) (hu : ∀ l ∈ u, l < d.k) : Calls Try.prog 17 #[.pointer (some ⟨g, 0, none⟩), .string s] w fun e w' => e = .returned (.tuple #[.int .i64 (fol d.k d.Rs 0 u : Nat), .int .i64 0]) ∧ Below w.heap.size w w' := by
  subst hs
  exact elem_calls w g d hd h u hu
section
variable {n k : Nat} {Ls T : List (List Nat)} {Ws : List ByteArray} {Rs : List Int} {us : List (List Nat)}
theorem prodE (h : Full n k Ls T Ws Rs us) (a b : List Nat) (ha : ∀ l ∈ a, l < k) (hb : ∀ l ∈ b, l < k) : fol k Rs (fol k Rs 0 a) (us.getD (fol k Rs 0 b) []) = fol k Rs 0 (a ++ b) := by
  rw [h.prod_elem (h.elem a ha).1 b hb, ← fol_append]
end
end Go.Proofs.Ytcnnlddjnmkioaa.HLaws
