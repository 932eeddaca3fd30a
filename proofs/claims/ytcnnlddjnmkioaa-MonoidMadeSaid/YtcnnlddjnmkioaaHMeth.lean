/- A built monoid's methods: a handle's memory; none, Len, Letters, check, Word, follow, Element, Product. -/
import Derived.Test.YtcnnlddjnmkioaaHBuilt
import Derived.Test.YtcnnlddjnmkioaaHCheck
import Derived.Outline
set_option linter.unusedVariables false
set_option linter.unusedSimpArgs false
namespace Go.Proofs.Ytcnnlddjnmkioaa.HMeth
open Go Go.RowKit Go.Proofs.Ytcnnlddjnmkioaa.MA Go.Proofs.Ytcnnlddjnmkioaa.HArr Go.Proofs.Ytcnnlddjnmkioaa.HPack Go.Proofs.Ytcnnlddjnmkioaa.HTable Go.Proofs.Ytcnnlddjnmkioaa.HPut Go.Proofs.Ytcnnlddjnmkioaa.HRows Go.Proofs.Ytcnnlddjnmkioaa.HSt Go.Proofs.Ytcnnlddjnmkioaa.HMon Go.Proofs.Ytcnnlddjnmkioaa.HBuild Go.Proofs.Ytcnnlddjnmkioaa.HAuto Go.Proofs.Ytcnnlddjnmkioaa.PureMon Go.Proofs.YtcnnlddjnmkioaaW.PrintWords Go.Proofs.YtcnnlddjnmkioaaW.PrintLast Go.Proofs.YtcnnlddjnmkioaaW.PrintMore

/-- What a monoid is made of. -/
structure MD where
  k : Nat
  n : Nat
  nx : List Int
  ac : List Bool
  T : List (List Nat)
  Ws : List ByteArray
  Rs : List Int
  Fs : List Int
  us : List (List Nat)
structure MD.Ok (d : MD) : Prop where
  fit : HBuild.Fit d.k d.nx d.ac
  n : d.n = d.ac.length
  fs : d.Fs = lefts d.n d.k (letters d.nx d.k d.n) d.T (d.T.length * d.k)
  full : Full d.n d.k (letters d.nx d.k d.n) d.T d.Ws d.Rs d.us
/-- A handle: block g. -/
structure Vw (W : World) (g : Nat) (d : MD) (A3 A4 : Option Addr) (c3 c4 g5 c5 g6 c6 g7 c7 g8 c8 gR gF : Nat) : Prop where
  blk : W.heap[g]? = some (.cells #[.int .i64 d.k, .slice A3 d.nx.length c3, .slice A4 d.ac.length c4, .bool true, .slice (some ⟨g5, 0, none⟩) d.T.length c5, .slice (some ⟨g6, 0, none⟩) d.T.length c6, .slice (some ⟨g7, 0, none⟩) d.T.length c7, .slice (some ⟨g8, 0, none⟩) d.T.length c8] 84 (0, 0))
  nxs : Kd.C (Kd.int .i64) W A3 d.nx.length d.nx
  nxc : d.nx.length ≤ c3
  acs : Kd.C Kd.bool W A4 d.ac.length d.ac
  acc : d.ac.length ≤ c4
  trs : ∃ c base, Kd.R kT 57 W base (fun _ => True) (.slice (some ⟨g5, 0, none⟩) d.T.length c) (d.T.map (tup d.n))
  wds : ∀ i, i < d.T.length → W.cell? ⟨g6, i, none⟩ = some (.string (d.Ws.getD i ⟨#[]⟩))
  rts : ∀ i, i < d.T.length → W.cell? ⟨g7, i, none⟩ = some (.slice (some ⟨gR, i * d.k, none⟩) d.k d.k)
  fts : ∀ i, i < d.T.length → W.cell? ⟨g8, i, none⟩ = some (.slice (some ⟨gF, i * d.k, none⟩) d.k d.k)
  rs : ∀ q, q < d.T.length * d.k → W.cell? ⟨gR, q, none⟩ = some (.int .i64 (d.Rs.getD q 0))
  fs : ∀ q, q < d.T.length * d.k → W.cell? ⟨gF, q, none⟩ = some (.int .i64 (d.Fs.getD q 0))
def Hd (W : World) (g : Nat) (d : MD) : Prop := ∃ A3 A4 c3 c4 g5 c5 g6 c6 g7 c7 g8 c8 gR gF, Vw W g d A3 A4 c3 c4 g5 c5 g6 c6 g7 c7 g8 c8 gR gF
theorem cell_keep {W W2 : World} (hb : Below W.heap.size W W2) {p : Addr} {v : Value} (h : W.cell? p = some v) : W2.cell? p = some v := (hb.cell (World.block_lt_of_cell? W p h)).trans h
theorem Vw.below {W W2 : World} {g : Nat} {d : MD} {A3 A4 : Option Addr} {c3 c4 g5 c5 g6 c6 g7 c7 g8 c8 gR gF : Nat} (h : Vw W g d A3 A4 c3 c4 g5 c5 g6 c6 g7 c7 g8 c8 gR gF) (hb : Below W.heap.size W W2) : Vw W2 g d A3 A4 c3 c4 g5 c5 g6 c6 g7 c7 g8 c8 gR gF :=
  ⟨blk_below h.blk hb, Kd.C_below h.nxs hb, h.nxc, Kd.C_below h.acs hb, h.acc, (by obtain ⟨c, base, hr⟩ := h.trs; exact ⟨c, base, Kd.R_below hr hb⟩), fun i hi => cell_keep hb (h.wds i hi), fun i hi => cell_keep hb (h.rts i hi), fun i hi => cell_keep hb (h.fts i hi), fun i hi => cell_keep hb (h.rs i hi), fun i hi => cell_keep hb (h.fs i hi)⟩
theorem Hd.below {W W2 : World} {g : Nat} {d : MD} (h : Hd W g d) (hb : Below W.heap.size W W2) : Hd W2 g d := by
  obtain ⟨A3, A4, c3, c4, g5, c5, g6, c6, g7, c7, g8, c8, gR, gF, V⟩ := h
  exact ⟨A3, A4, c3, c4, g5, c5, g6, c6, g7, c7, g8, c8, gR, gF, V.below hb⟩
theorem int_cell {W : World} {base g N cap : Nat} {ok : Nat → Prop} {xs : List Int} (h : Kd.R (Kd.int .i64) 3 W base ok (.slice (some ⟨g, 0, none⟩) N cap) xs) (i : Nat) (hi : i < xs.length) : W.cell? ⟨g, i, none⟩ = some (.int .i64 (xs.getD i 0)) := by
  have hN := (Kd.R_reads' h).1
  obtain ⟨c, hl, hM, hc⟩ := Kd.R_get h 0 (i : Int) (by omega) (by omega)
  have hM' : c = [.int .i64 (xs.getD (i : Int).toNat 0)] := hM
  subst hM'
  have := hc 0 _ rfl
  rw [Addr.add_mid] at this
  simpa [show (Kd.int .i64).sz = 1 from rfl] using this
theorem row_cell {W : World} {base g gr k N cap : Nat} {ok : Nat → Prop} {xs : List Nat} (h : Kd.R (kS gr k) 22 W base ok (.slice (some ⟨g, 0, none⟩) N cap) xs) (i : Nat) (hi : i < xs.length) : W.cell? ⟨g, i, none⟩ = some (.slice (some ⟨gr, xs.getD i 0 * k, none⟩) k k) := by
  have hN := (Kd.R_reads' h).1
  obtain ⟨c, hl, hM, hc⟩ := Kd.R_get h 0 (i : Int) (by omega) (by omega)
  have hM' : c = [.slice (some ⟨gr, xs.getD (i : Int).toNat 0 * k, none⟩) k k] := hM
  subst hM'
  have := hc 0 _ rfl
  rw [Addr.add_mid] at this
  simpa [show (kS gr k).sz = 1 from rfl] using this
/-- monoid.Build's monoid is a handle. -/
theorem hd_of {W : World} {base g k : Nat} {nx : List Int} {ac : List Bool} {T : List (List Nat)} {Ws : List ByteArray} {Rs : List Int} (hF : HBuild.Fit k nx ac) (hb : built ac.length k (letters nx k ac.length) = some (T, Ws, Rs)) (h : HBuilt.Yes W base g k nx ac T Ws Rs) :
    ∃ us, MD.Ok ⟨k, ac.length, nx, ac, T, Ws, Rs, lefts ac.length k (letters nx k ac.length) T (T.length * k), us⟩ ∧ Hd W g ⟨k, ac.length, nx, ac, T, Ws, Rs, lefts ac.length k (letters nx k ac.length) T (T.length * k), us⟩ := by
  obtain ⟨us, hU⟩ := HBuilt.full hF hb
  refine ⟨us, ⟨hF, rfl, rfl, hU⟩, ?_⟩
  obtain ⟨A3, A4, A5, A6, A7, A8, c3, c4, c5, c6, c7, c8, gR, gF, cR, cF, h0, h1, h2, h3, h4, h5, h6, h7, h8, h9⟩ := h
  have hp := hU.inv.pos
  have hw := hU.inv.wlen
  have hr := hU.inv.rlen
  simp only at hp hw hr
  obtain ⟨g5, rfl⟩ := row_some h4 (by rw [List.length_map]; omega)
  obtain ⟨g6, rfl⟩ := row_some h5 (by omega)
  obtain ⟨g7, rfl⟩ := row_some h6 (by rw [List.length_range]; omega)
  obtain ⟨g8, rfl⟩ := row_some h7 (by rw [List.length_range]; omega)
  have e : ∀ i, i < T.length → (List.range T.length).getD i 0 = i := fun i hi => by rw [List.getD_eq_getElem?_getD, List.getElem?_range hi]; rfl
  refine ⟨A3, A4, c3, c4, g5, c5, g6, c6, g7, c7, g8, c8, gR, gF, ?_, (Kd.R_reads' h2).2.2, (Kd.R_reads' h2).2.1, (Kd.R_reads' h3).2.2, (Kd.R_reads' h3).2.1, ⟨c5, base, h4⟩, fun i hi => str_cell h5 i (by simp only at hi; omega), fun i hi => ?_, fun i hi => ?_, fun q hq => int_cell h8 q (by simp only at hq; omega), fun q hq => int_cell h9 q (by rw [lefts_len]; exact hq)⟩
  · rw [hw] at h1
    exact h1
  · have := row_cell h6 i (by rw [List.length_range]; exact hi)
    rw [e i hi] at this
    exact this
  · have := row_cell h7 i (by rw [List.length_range]; exact hi)
    rw [e i hi] at this
    exact this

/-- Are these elements? -/
def chkL (N : Nat) : List Int → Int
  | [] => 0
  | x :: l => if x < 0 then 11 else if (N : Int) ≤ x then 11 else chkL N l
theorem one_C (W : World) (i : Int) : Kd.C (Kd.int .i64) (W.alloc (.cells #[.int .i64 i] 3)) (some ⟨W.heap.size, 0, none⟩) 1 [i] := (Kd.R_reads' (row_one (d := Kd.int .i64) (e := 3) (base := 0) (x := i) (cs := [.int .i64 i]) rfl (blk_new W (.cells #[.int .i64 i] 3)) (Nat.zero_le _))).2.2
theorem chk_in {N i : Nat} (h : i < N) : chkL N [(i : Int)] = 0 := by
  unfold chkL
  rw [if_neg (by omega), if_neg (by omega)]
  rfl
section
variable (w : World) (g : Nat) (d : MD) (hd : d.Ok) (h : Hd w g d)
include h
set_option maxRecDepth 100000 in
theorem none_calls : Calls Try.prog 52 #[.pointer (some ⟨g, 0, none⟩)] w fun e w' => e = .returned (.bool false) ∧ w' = w := by
  obtain ⟨A3, A4, c3, c4, g5, c5, g6, c6, g7, c7, g8, c8, gR, gF, V⟩ := h
  have hc : w.cell? ⟨g, 3, none⟩ = some (.bool true) := (blk_cell V.blk 3).trans rfl
  clear V
  go_enter Try.func52, Try.ntmps52
  go_wp2_with fail
  go_ret
  exact ⟨rfl, rfl⟩
set_option maxRecDepth 100000 in
theorem len_calls : Calls Try.prog 15 #[.pointer (some ⟨g, 0, none⟩)] w fun e w' => e = .returned (.int .i64 d.T.length) ∧ w' = w := by
  have H := Aside0.mk h
  obtain ⟨A3, A4, c3, c4, g5, c5, g6, c6, g7, c7, g8, c8, gR, gF, V⟩ := h
  have hc : w.cell? ⟨g, 5, none⟩ = some (.slice (some ⟨g6, 0, none⟩) d.T.length c6) := (blk_cell V.blk 5).trans rfl
  clear V
  go_enter Try.func15, Try.ntmps15
  go_wp2_with (go_at_call 52; refine (none_calls w g d H.out).mono ?_; rintro e w1 ⟨rfl, hw1⟩; obtain rfl : w = w1 := hw1.symm)
  go_ret
  exact ⟨rfl, rfl⟩
set_option maxRecDepth 100000 in
theorem letters_calls : Calls Try.prog 39 #[.pointer (some ⟨g, 0, none⟩)] w fun e w' => e = .returned (.int .i64 d.k) ∧ w' = w := by
  have H := Aside0.mk h
  obtain ⟨A3, A4, c3, c4, g5, c5, g6, c6, g7, c7, g8, c8, gR, gF, V⟩ := h
  have hc : w.cell? ⟨g, 0, none⟩ = some (.int .i64 d.k) := (blk_cell V.blk 0).trans rfl
  clear V
  go_enter Try.func39, Try.ntmps39
  go_wp2_with (go_at_call 52; refine (none_calls w g d H.out).mono ?_; rintro e w1 ⟨rfl, hw1⟩; obtain rfl : w = w1 := hw1.symm)
  go_ret
  exact ⟨rfl, rfl⟩
set_option maxHeartbeats 1000000 in
set_option maxRecDepth 100000 in
theorem check_calls (A1 : Option Addr) (c1 : Nat) (xs : List Int) (hx : Kd.C (Kd.int .i64) w A1 xs.length xs) (hl : xs.length < 1000) : Calls Try.prog 53 #[.pointer (some ⟨g, 0, none⟩), .slice A1 xs.length c1] w fun e w' => e = .returned (.int .i64 (chkL d.T.length xs)) ∧ w' = w := by
  have H := Aside0.mk h
  obtain ⟨A3, A4, c3, c4, g5, c5, g6, c6, g7, c7, g8, c8, gR, gF, V⟩ := h
  have hc : w.cell? ⟨g, 5, none⟩ = some (.slice (some ⟨g6, 0, none⟩) d.T.length c6) := (blk_cell V.blk 5).trans rfl
  clear V
  have HX := Aside0.mk hx
  clear hx
  go_enter Try.func53, Try.ntmps53
  go_wp2_with (go_at_call 52; refine (none_calls w g d H.out).mono ?_; rintro e w1 ⟨rfl, hw1⟩; obtain rfl : w = w1 := hw1.symm)
  go_loopw [11] (fun v11 wr => ∃ p : Nat, v11 = .int .i64 p ∧ p ≤ xs.length ∧ wr = w ∧ Aside0 (chkL d.T.length (xs.drop p) = chkL d.T.length xs)) (fun v11 _ => xs.length - (intOf v11).toNat)
  case atStart => exact ⟨0, rfl, Nat.zero_le _, rfl, ⟨rfl⟩⟩
  case round =>
    obtain ⟨p, rfl, hp, rfl, HC⟩ := hrel
    by_cases hlt : p < xs.length
    · have hC := HC.out
      rw [List.drop_eq_getElem_cons hlt] at hC
      simp only [chkL] at hC
      have p1 : (0 : Int) ≤ (p : Int) := by omega
      have q1 : (p : Int) < (xs.length : Int) := by omega
      obtain ⟨ad, e1, hx1⟩ := Kd.at_int HX.out (p : Int) p1 q1
      cases e1
      have hrd : rd xs (p : Int) = xs[p] := by
        unfold rd
        simp [List.getD_eq_getElem?_getD, List.getElem?_eq_getElem hlt]
      rw [hrd, Int.toNat_natCast] at hx1
      obtain ⟨x, hxx⟩ : ∃ x, x = xs[p] := ⟨_, rfl⟩
      rw [← hxx] at hx1 hC
      have g0 : decide ((p : Int) < (xs.length : Int)) = true := decide_eq_true q1
      clear hxx hrd
      by_cases h1 : x < 0
      · rw [if_pos h1] at hC
        have g1 : decide (x < 0) = true := decide_eq_true h1
        have HC2 := Aside0.mk hC
        clear hC HC h1
        go_wp2_with fail
        go_ret
        exact ⟨by rw [← HC2.out]; rfl, rfl⟩
      · rw [if_neg h1] at hC
        have g1 : decide (x < 0) = false := decide_eq_false h1
        clear h1
        by_cases h2 : (d.T.length : Int) ≤ x
        · rw [if_pos h2] at hC
          have g2 : decide (x ≥ (d.T.length : Int)) = true := decide_eq_true h2
          have g3 : decide ((d.T.length : Int) ≤ x) = true := decide_eq_true h2
          have HC2 := Aside0.mk hC
          clear hC HC h2
          go_wp2_with fail
          go_ret
          exact ⟨by rw [← HC2.out]; rfl, rfl⟩
        · rw [if_neg h2] at hC
          have g2 : decide (x ≥ (d.T.length : Int)) = false := decide_eq_false h2
          have g3 : decide ((d.T.length : Int) ≤ x) = false := decide_eq_false h2
          have HC2 := Aside0.mk hC
          clear hC HC h2
          go_wp2_with fail
          go_roundw
          case measure => simp [intOf]; omega
          case rel => exact ⟨p + 1, by go_num, by omega, by first | rfl | trivial, HC2⟩
    · have hx0 : p = xs.length := by omega
      subst hx0
      have hC := HC.out
      rw [List.drop_eq_nil_of_le (Nat.le_refl _)] at hC
      have HC2 := Aside0.mk (show (0 : Int) = chkL d.T.length xs from hC)
      clear hC HC
      go_wp2_with fail
      go_ret
      exact ⟨by rw [← HC2.out]; rfl, rfl⟩

set_option maxHeartbeats 1000000 in
set_option maxRecDepth 100000 in
theorem word_calls (i : Nat) (hi : i < d.T.length) : Calls Try.prog 16 #[.pointer (some ⟨g, 0, none⟩), .int .i64 i] w fun e w' => e = .returned (.tuple #[.string (d.Ws.getD i ⟨#[]⟩), .int .i64 0]) ∧ Below w.heap.size w w' := by
  have B0 := Aside0.mk (below_alloc (Below.refl w.heap.size w) (.cells #[.int .i64 i] 3))
  have H := Aside0.mk (h.below B0.out)
  have HX := Aside0.mk (one_C w i)
  have hchk := chk_in hi
  obtain ⟨A3, A4, c3, c4, g5, c5, g6, c6, g7, c7, g8, c8, gR, gF, V⟩ := H.out
  have x5 : (w.alloc (.cells #[.int .i64 i] 3)).cell? ⟨g, 5, none⟩ = some (.slice (some ⟨g6, 0, none⟩) d.T.length c6) := (blk_cell V.blk 5).trans rfl
  have x6 := V.wds i hi
  clear V
  generalize d.Ws.getD i ⟨#[]⟩ = s at *
  go_enter Try.func16, Try.ntmps16
  go_wp2_with (go_at_call 53; refine (check_calls _ g d H.out _ _ [(i : Int)] HX.out (by simp)).mono ?_; rintro e w1 ⟨rfl, hw1⟩; subst hw1; rw [hchk])
  go_ret2
  exact ⟨rfl, B0.out⟩
set_option maxHeartbeats 1000000 in
set_option maxRecDepth 100000 in
theorem word_out (i : Int) (hi : chkL d.T.length [i] = 11) : Calls Try.prog 16 #[.pointer (some ⟨g, 0, none⟩), .int .i64 i] w fun e w' => e = .returned (.tuple #[.string ⟨#[]⟩, .int .i64 11]) ∧ Below w.heap.size w w' := by
  have B0 := Aside0.mk (below_alloc (Below.refl w.heap.size w) (.cells #[.int .i64 i] 3))
  have H := Aside0.mk (h.below B0.out)
  have HX := Aside0.mk (one_C w i)
  go_enter Try.func16, Try.ntmps16
  go_wp2_with (go_at_call 53; refine (check_calls _ g d H.out _ _ [(i : Int)] HX.out (by simp)).mono ?_; rintro e w1 ⟨rfl, hw1⟩; subst hw1; rw [hi])
  go_ret2
  exact ⟨rfl, B0.out⟩
end
/-! ### words' letters -/
theorem enc_size (u : List Nat) : (enc u).size = u.length := by simp [enc, ByteArray.size]
theorem enc_get (u : List Nat) (p : Nat) (h : p < u.length) : (enc u)[p]'(by rw [enc_size]; exact h) = UInt8.ofNat (97 + u[p]) := by
  show (enc u).data[p]'_ = _
  simp [enc]
theorem okb_of (k : Nat) (l : Nat) (h8 : k ≤ 8) (hl : l < k) : HCheck.okb (k : Int) (UInt8.ofNat (97 + l)) = true := by
  have e : (UInt8.ofNat (97 + l)).toNat = 97 + l := by simp; omega
  simp [HCheck.okb, e]
  omega
theorem chk_enc (k : Nat) (u : List Nat) (h1 : 1 ≤ k) (h8 : k ≤ 8) (hu : ∀ l ∈ u, l < k) : HCheck.chk (k : Int) (enc u) = 0 := by
  unfold HCheck.chk
  rw [if_neg (by omega), if_pos]
  rw [List.all_eq_true]
  intro b hb
  simp only [enc, List.mem_map] at hb
  obtain ⟨l, hl, rfl⟩ := hb
  exact okb_of k l h8 (hu l hl)
theorem next_enc (w : World) (k : Nat) (u : List Nat) (h1 : 1 ≤ k) (h8 : k ≤ 8) (hu : ∀ l ∈ u, l < k) (p : Nat) (hp : p < u.length) (ty : TypeId) :
    (Instr.next (.pointer (some ⟨w.heap.size, 0, none⟩)) true ty).run Try.prog (w.iter (enc u) p) = .ok (.tuple #[.bool true, .int .i64 p, .int .i32 (97 + (u[p] : Int))]) (w.iter (enc u) (p + 1)) := by
  have hps : p < (enc u).size := by rw [enc_size]; exact hp
  have hk := hu u[p] (List.getElem_mem hp)
  rw [run_next_any w (enc u) p ty hps]
  have hb : HCheck.okb (k : Int) ((enc u)[p]'hps) = true := by rw [enc_get u p hp]; exact okb_of k _ h8 hk
  obtain ⟨e, _, _⟩ := HCheck.dec_good (k : Int) (enc u) p (by omega) (by omega) hps hb
  rw [e, enc_get u p hp]
  have e : (UInt8.ofNat (97 + u[p])).toNat = 97 + u[p] := by simp; omega
  rw [e]
  simp
set_option maxHeartbeats 1000000 in
set_option maxRecDepth 100000 in
theorem follow_calls (w : World) (g : Nat) (d : MD) (hd : d.Ok) (h : Hd w g d) (i0 : Nat) (hi0 : i0 < d.T.length) (u : List Nat) (hu : ∀ l ∈ u, l < d.k) :
    Calls Try.prog 55 #[.pointer (some ⟨g, 0, none⟩), .int .i64 i0, .string (enc u)] w fun e w' => e = .returned (.int .i64 (fol d.k d.Rs i0 u : Nat)) ∧ Below w.heap.size w w' := by
  have k1 := hd.fit.k1
  have k8 := hd.fit.k8
  have HD := Aside0.mk hd
  have HU := Aside0.mk hu
  obtain ⟨A3, A4, c3, c4, g5, c5, g6, c6, g7, c7, g8, c8, gR, gF, V⟩ := h
  have HV := Aside0.mk V
  clear V hd hu
  obtain ⟨r, hr⟩ : ∃ r, r = fol d.k d.Rs i0 u := ⟨_, rfl⟩
  rw [← hr]
  have HR := Aside0.mk hr.symm
  clear hr
  go_enter Try.func55, Try.ntmps55
  go_wp2_with fail
  go_loopw [1] (fun v1 w' => ∃ p i : Nat, v1 = .int .i64 i ∧ i < d.T.length ∧ w' = w.iter (enc u) p ∧ p ≤ u.length ∧ Aside0 (fol d.k d.Rs i (u.drop p) = r)) (fun _ w' => u.length - w'.iterPos w.heap.size)
  case atStart => exact ⟨0, i0, rfl, hi0, rfl, Nat.zero_le _, HR⟩
  case round =>
    obtain ⟨p, i, rfl, hi, rfl, hp, HC⟩ := hrel
    by_cases hlt : p < u.length
    · have hC := HC.out
      rw [List.drop_eq_getElem_cons hlt, fol_cons] at hC
      have hnx := fun ty => next_enc w d.k u k1 k8 HU.out p hlt ty
      have hl := HU.out u[p] (List.getElem_mem hlt)
      obtain ⟨l, hll⟩ : ∃ l, l = u[p] := ⟨_, rfl⟩
      rw [← hll] at hnx hl hC
      clear hll
      obtain ⟨s, hs, e, _, _⟩ := HD.out.full.step hi hl
      rw [e, Int.toNat_natCast] at hC
      have hb := HCheck.below_iter w (enc u) (p + 1)
      have hq := idx_lt hi hl
      have x6 := cell_keep hb ((blk_cell HV.out.blk 6).trans rfl)
      have x7 := cell_keep hb (HV.out.rts i hi)
      have x8 := cell_keep hb (HV.out.rs _ hq)
      rw [e] at x8
      have HC2 := Aside0.mk hC
      clear hC HC hb hq e
      generalize i * d.k = m at *
      go_wp2
      go_roundw
      case rel => exact ⟨p + 1, s, rfl, hs, rfl, by omega, HC2⟩
      case measure =>
        simp
        omega
    · have hx : p = u.length := by omega
      subst hx
      have hnx : ∀ ty, (Instr.next (.pointer (some ⟨w.heap.size, 0, none⟩)) true ty).run Try.prog (w.iter (enc u) u.length) = _ := fun ty => run_next_end w (enc u) u.length ty (by rw [enc_size]; omega)
      have hC := HC.out
      rw [List.drop_eq_nil_of_le (Nat.le_refl _), fol_nil] at hC
      subst hC
      go_wp2
      go_ret
      exact ⟨rfl, HCheck.below_iter _ _ _⟩
theorem nil_C (W : World) : Kd.C (Kd.int .i64) W none 0 [] := (Kd.R_reads' (Kd.R_nil (Kd.int .i64) 3 W 0 (fun _ => True))).2.2
theorem lit_C (W : World) (b : Nat) (xs : List Int) (hb : W.heap[b]? = some (.cells (xs.map (Value.int .i64)).toArray 3 (0, 0))) (hl : xs.length < 1000) : Kd.C (Kd.int .i64) W (some ⟨b, 0, none⟩) xs.length xs := by
  refine ⟨rfl, by omega, fun _ => ⟨_, rfl, fun j p hj => ⟨[.int .i64 p], rfl, rfl, fun i u hi => ?_⟩⟩⟩
  match i with
  | 0 =>
    simp at hi
    subst hi
    rw [Addr.add_mid, show (Kd.int .i64).sz = 1 from rfl, Nat.mul_one, Nat.zero_add, Nat.add_zero]
    refine (blk_cell hb j).trans ?_
    simp [hj]
  | i + 1 => simp at hi
theorem two_C (W : World) (i j : Int) : Kd.C (Kd.int .i64) (W.alloc (.cells #[.int .i64 i, .int .i64 j] 3)) (some ⟨W.heap.size, 0, none⟩) 2 [i, j] := lit_C _ _ [i, j] (blk_new W _) (by simp)
theorem chk_two {N i j : Nat} (h : i < N) (h2 : j < N) : chkL N [(i : Int), (j : Int)] = 0 := by
  unfold chkL
  rw [if_neg (by omega), if_neg (by omega)]
  exact chk_in h2
section
variable (w : World) (g : Nat) (d : MD) (hd : d.Ok) (h : Hd w g d)
include h
set_option maxHeartbeats 1000000 in
set_option maxRecDepth 100000 in
include hd in
theorem elem_calls (u : List Nat) (hu : ∀ l ∈ u, l < d.k) : Calls Try.prog 17 #[.pointer (some ⟨g, 0, none⟩), .string (enc u)] w fun e w' => e = .returned (.tuple #[.int .i64 (fol d.k d.Rs 0 u : Nat), .int .i64 0]) ∧ Below w.heap.size w w' := by
  have H := Aside0.mk h
  have HD := Aside0.mk hd
  have HU := Aside0.mk hu
  have HX := Aside0.mk (nil_C w)
  have hch := chk_enc d.k u hd.fit.k1 hd.fit.k8 hu
  have hp := hd.full.inv.pos
  simp only at hp
  obtain ⟨A3, A4, c3, c4, g5, c5, g6, c6, g7, c7, g8, c8, gR, gF, V⟩ := h
  have x0 : w.cell? ⟨g, 0, none⟩ = some (.int .i64 d.k) := (blk_cell V.blk 0).trans rfl
  clear V hd hu
  obtain ⟨r, hr⟩ : ∃ r, r = fol d.k d.Rs 0 u := ⟨_, rfl⟩
  have HR := Aside0.mk hr
  rw [← hr]
  clear hr
  obtain ⟨s, hs⟩ : ∃ s, s = enc u := ⟨_, rfl⟩
  have HS := Aside0.mk hs
  rw [← hs] at hch ⊢
  clear hs
  go_enter Try.func17, Try.ntmps17
  go_wp2_with (first
    | (go_at_call 53; refine (check_calls w g d H.out none 0 [] HX.out (by simp)).mono ?_; rintro e w1 ⟨rfl, hw1⟩; obtain rfl : w = w1 := hw1.symm; rw [show chkL d.T.length [] = 0 from rfl])
    | (go_at_call 54; refine (HCheck.calls d.k s w).mono ?_; rintro e w2 ⟨rfl, hb2⟩; rw [hch])
    | (go_at_call 55; rw [HS.out]; refine (follow_calls w2 g d HD.out (H.out.below hb2) 0 hp u HU.out).mono ?_; rintro e w3 ⟨rfl, hb3⟩; rw [← HR.out]))
  go_ret2
  exact ⟨rfl, below_then hb2 hb2.size hb3⟩
set_option maxHeartbeats 1000000 in
set_option maxRecDepth 100000 in
theorem elem_bad (s : ByteArray) (c : Int) (hc : HCheck.chk (d.k : Int) s = c) (h0 : c ≠ 0) : Calls Try.prog 17 #[.pointer (some ⟨g, 0, none⟩), .string s] w fun e w' => e = .returned (.tuple #[.int .i64 0, .int .i64 c]) ∧ Below w.heap.size w w' := by
  have H := Aside0.mk h
  have HX := Aside0.mk (nil_C w)
  have g0 : (c != 0) = true := by simpa using h0
  obtain ⟨A3, A4, c3, c4, g5, c5, g6, c6, g7, c7, g8, c8, gR, gF, V⟩ := h
  have x0 : w.cell? ⟨g, 0, none⟩ = some (.int .i64 d.k) := (blk_cell V.blk 0).trans rfl
  clear V
  go_enter Try.func17, Try.ntmps17
  go_wp2_with (first
    | (go_at_call 53; refine (check_calls w g d H.out none 0 [] HX.out (by simp)).mono ?_; rintro e w1 ⟨rfl, hw1⟩; obtain rfl : w = w1 := hw1.symm; rw [show chkL d.T.length [] = 0 from rfl])
    | (go_at_call 54; refine (HCheck.calls d.k s w).mono ?_; rintro e w2 ⟨rfl, hb2⟩; rw [hc]))
  go_ret2
  exact ⟨rfl, hb2⟩
set_option maxHeartbeats 1000000 in
set_option maxRecDepth 100000 in
include hd in
theorem prod_calls (i j : Nat) (hi : i < d.T.length) (hj : j < d.T.length) : Calls Try.prog 20 #[.pointer (some ⟨g, 0, none⟩), .int .i64 i, .int .i64 j] w fun e w' => e = .returned (.tuple #[.int .i64 (fol d.k d.Rs i (d.us.getD j []) : Nat), .int .i64 0]) ∧ Below w.heap.size w w' := by
  have B0 := Aside0.mk (below_alloc (Below.refl w.heap.size w) (.cells #[.int .i64 i, .int .i64 j] 3))
  have H := Aside0.mk (h.below B0.out)
  have HD := Aside0.mk hd
  have HU := Aside0.mk (hd.full.lets hj)
  have HX := Aside0.mk (two_C w i j)
  have hchk := chk_two hi hj
  obtain ⟨A3, A4, c3, c4, g5, c5, g6, c6, g7, c7, g8, c8, gR, gF, V⟩ := H.out
  have x5 : (w.alloc (.cells #[.int .i64 i, .int .i64 j] 3)).cell? ⟨g, 5, none⟩ = some (.slice (some ⟨g6, 0, none⟩) d.T.length c6) := (blk_cell V.blk 5).trans rfl
  have x6 := V.wds j hj
  rw [hd.full.wrd hj] at x6
  clear V hd
  obtain ⟨r, hr⟩ : ∃ r, r = fol d.k d.Rs i (d.us.getD j []) := ⟨_, rfl⟩
  have HR := Aside0.mk hr
  rw [← hr]
  clear hr
  obtain ⟨s, hs⟩ : ∃ s, s = enc (d.us.getD j []) := ⟨_, rfl⟩
  have HS := Aside0.mk hs
  rw [← hs] at x6
  clear hs
  go_enter Try.func20, Try.ntmps20
  go_wp2_with (first
    | (go_at_call 53; refine (check_calls _ g d H.out _ _ [(i : Int), (j : Int)] HX.out (by simp)).mono ?_; rintro e w1 ⟨rfl, hw1⟩; subst hw1; rw [hchk])
    | (go_at_call 55; rw [HS.out]; refine (follow_calls _ g d HD.out H.out i hi _ HU.out).mono ?_; rintro e w3 ⟨rfl, hb3⟩; rw [← HR.out]))
  go_ret2
  exact ⟨rfl, below_then B0.out B0.out.size hb3⟩
set_option maxHeartbeats 1000000 in
set_option maxRecDepth 100000 in
theorem prod_out (i j : Int) (hchk : chkL d.T.length [i, j] = 11) : Calls Try.prog 20 #[.pointer (some ⟨g, 0, none⟩), .int .i64 i, .int .i64 j] w fun e w' => e = .returned (.tuple #[.int .i64 0, .int .i64 11]) ∧ Below w.heap.size w w' := by
  have B0 := Aside0.mk (below_alloc (Below.refl w.heap.size w) (.cells #[.int .i64 i, .int .i64 j] 3))
  have H := Aside0.mk (h.below B0.out)
  have HX := Aside0.mk (two_C w i j)
  go_enter Try.func20, Try.ntmps20
  go_wp2_with (go_at_call 53; refine (check_calls _ g d H.out _ _ [i, j] HX.out (by simp)).mono ?_; rintro e w1 ⟨rfl, hw1⟩; subst hw1; rw [hchk])
  go_ret2
  exact ⟨rfl, B0.out⟩
end
end Go.Proofs.Ytcnnlddjnmkioaa.HMeth
