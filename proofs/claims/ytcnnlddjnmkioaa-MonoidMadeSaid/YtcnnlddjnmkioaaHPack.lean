/- trans.pack: contract: images, packed ten to a word. -/
import Derived.Test.YtcnnlddjnmkioaaHArr
import Derived.Laws.Bits64
set_option linter.unusedVariables false
set_option linter.unusedSimpArgs false
namespace Go.Proofs.Ytcnnlddjnmkioaa.HPack
open Go.Proofs.Ytcnnlddjnmkioaa.HReads Go.Proofs.Ytcnnlddjnmkioaa.HArr Go.RowKit Go.Proofs.YtcnnlddjnmkioaaW.PrintWords Go.Proofs.YtcnnlddjnmkioaaW.PrintLast Go.Proofs.YtcnnlddjnmkioaaW.PrintMore

/-- The first r digits to the base 64. -/
def dig (q : Nat → Nat) : Nat → Nat
  | 0 => 0
  | r + 1 => dig q r + q r * 64 ^ r
theorem dig_lt (q : Nat → Nat) : ∀ r : Nat, (∀ i, i < r → q i < 64) → dig q r < 64 ^ r
  | 0, _ => by show 0 < 1; omega
  | r + 1, h => by
    have h1 := dig_lt q r (fun i hi => h i (by omega))
    have h2 := h r (by omega)
    have h3 : q r * 64 ^ r ≤ 63 * 64 ^ r := Nat.mul_le_mul_right _ (by omega)
    show dig q r + q r * 64 ^ r < 64 ^ (r + 1)
    rw [Nat.pow_succ]
    omega
/-- The word j of the first n images. -/
def wrd (p : Nat → Nat) (n j : Nat) : Nat := dig (fun r => p (10 * j + r)) (min 10 (n - 10 * j))
theorem wrd_zero (p : Nat → Nat) (j : Nat) : wrd p 0 j = 0 := by
  unfold wrd
  rw [show min 10 (0 - 10 * j) = 0 by omega]
  rfl
theorem wrd_lt (p : Nat → Nat) (i : Nat) (hp : ∀ k, k < i → p k < 64) : wrd p i (i / 10) < 64 ^ (i % 10) := by
  unfold wrd
  rw [show min 10 (i - 10 * (i / 10)) = i % 10 by omega]
  exact dig_lt _ _ (fun r hr => hp _ (by omega))
theorem wrd_step (p : Nat → Nat) (i : Nat) : wrd p (i + 1) (i / 10) = wrd p i (i / 10) + p i * 64 ^ (i % 10) := by
  unfold wrd
  rw [show min 10 (i - 10 * (i / 10)) = i % 10 by omega, show min 10 (i + 1 - 10 * (i / 10)) = i % 10 + 1 by omega]
  show dig _ (i % 10) + p (10 * (i / 10) + i % 10) * 64 ^ (i % 10) = _
  rw [show 10 * (i / 10) + i % 10 = i by omega]
theorem wrd_other (p : Nat → Nat) (i j : Nat) (h : j ≠ i / 10) : wrd p (i + 1) j = wrd p i j := by
  unfold wrd
  rw [show min 10 (i + 1 - 10 * j) = min 10 (i - 10 * j) by omega]
theorem or_add (a b r : Nat) (ha : a < 64 ^ r) : a ||| b * 64 ^ r = a + b * 64 ^ r := by
  have e : (64 : Nat) ^ r = 2 ^ (6 * r) := by rw [Nat.pow_mul]
  rw [e] at ha ⊢
  have := Nat.two_pow_add_eq_or_of_lt ha b
  rw [Nat.mul_comm, Nat.or_comm, ← this]
  omega
def pk (p : Nat → Nat) (N n : Nat) : Array Value := #[.int .i64 N, .int .u64 (wrd p n 0), .int .u64 (wrd p n 1), .int .u64 (wrd p n 2), .int .u64 (wrd p n 3), .int .u64 (wrd p n 4), .int .u64 (wrd p n 5), .int .u64 (wrd p n 6)]
theorem pk_get (p : Nat → Nat) (N n j : Nat) (h : j < 7) : (pk p N n)[1 + j]? = some (.int .u64 (wrd p n j)) := by
  rcases (show j = 0 ∨ j = 1 ∨ j = 2 ∨ j = 3 ∨ j = 4 ∨ j = 5 ∨ j = 6 by omega) with rfl | rfl | rfl | rfl | rfl | rfl | rfl <;> rfl
theorem pk_one (p : Nat → Nat) (N n : Nat) : (pk p N n).all (·.oneCell') = true := by simp [pk, Value.oneCell']
theorem pk_set (p : Nat → Nat) (N i : Nat) (hi : i < 64) : (pk p N i).setIfInBounds (1 + i / 10) (.int .u64 (wrd p (i + 1) (i / 10))) = pk p N (i + 1) := by
  have hk : ∀ j, wrd p (i + 1) j = if j = i / 10 then wrd p (i + 1) (i / 10) else wrd p i j := fun j => by
    by_cases h : j = i / 10
    · rw [if_pos h, h]
    · rw [if_neg h]
      exact wrd_other p i j h
  generalize wrd p (i + 1) (i / 10) = X at hk ⊢
  rcases (show i / 10 = 0 ∨ i / 10 = 1 ∨ i / 10 = 2 ∨ i / 10 = 3 ∨ i / 10 = 4 ∨ i / 10 = 5 ∨ i / 10 = 6 by omega) with e | e | e | e | e | e | e <;>
  · rw [e] at hk ⊢
    simp [pk, hk]

/-! ### The machine's words -/
theorem u64_in (n : Int) (h0 : 0 ≤ n) (h1 : n < 18446744073709551616) : IntKind.u64.wrap n = n := by
  rw [IntKind.wrap_u64]
  omega
theorem shl_val (x r : Nat) (hx : x < 64) (hr : r < 10) : IntKind.u64.wrap ((x : Int) * 2 ^ (6 * r)) = ((x * 64 ^ r : Nat) : Int) := by
  have e : (64 : Nat) ^ r = 2 ^ (6 * r) := by rw [Nat.pow_mul]
  have h3 : x * 64 ^ r < 18446744073709551616 := by
    have : 64 ^ r ≤ 64 ^ 9 := Nat.pow_le_pow_right (by omega) (by omega)
    have h4 : x * 64 ^ r ≤ 63 * 64 ^ 9 := Nat.mul_le_mul (by omega) this
    have h5 : 63 * 64 ^ 9 < 18446744073709551616 := by decide
    omega
  have h6 : (x : Int) * 2 ^ (6 * r) = ((x * 64 ^ r : Nat) : Int) := by
    rw [e]
    push_cast
    rfl
  rw [h6, u64_in _ (by omega) (by omega)]
theorem or_val (a b : Nat) (ha : a < 18446744073709551616) (hb : b < 18446744073709551616) : bits .or .u64 (a : Int) (b : Int) = ((a ||| b : Nat) : Int) := by
  have h1 : (BitVec.ofInt 64 (a : Int) ||| BitVec.ofInt 64 (b : Int)).toNat = a ||| b := by
    rw [BitVec.ofInt_natCast, BitVec.ofInt_natCast, BitVec.toNat_or, BitVec.toNat_ofNat, BitVec.toNat_ofNat, Nat.mod_eq_of_lt ha, Nat.mod_eq_of_lt hb]
  have h2 : (a ||| b) < 18446744073709551616 := Nat.or_lt_two_pow (n := 64) ha hb
  show IntKind.u64.wrap ((BitVec.ofInt 64 (a : Int) ||| BitVec.ofInt 64 (b : Int)).toNat : Int) = _
  rw [h1, u64_in _ (by omega) (by omega)]
theorem and_val (a b : Nat) (ha : a < 18446744073709551616) (hb : b < 18446744073709551616) : bits .and .u64 (a : Int) (b : Int) = ((a &&& b : Nat) : Int) := by
  have h1 : (BitVec.ofInt 64 (a : Int) &&& BitVec.ofInt 64 (b : Int)).toNat = a &&& b := by
    rw [BitVec.ofInt_natCast, BitVec.ofInt_natCast, BitVec.toNat_and, BitVec.toNat_ofNat, BitVec.toNat_ofNat, Nat.mod_eq_of_lt ha, Nat.mod_eq_of_lt hb]
  have h2 : (a &&& b) < 18446744073709551616 := Nat.and_lt_two_pow (n := 64) a hb
  show IntKind.u64.wrap ((BitVec.ofInt 64 (a : Int) &&& BitVec.ofInt 64 (b : Int)).toNat : Int) = _
  rw [h1, u64_in _ (by omega) (by omega)]

set_option maxHeartbeats 1000000 in
set_option maxRecDepth 100000 in
theorem calls (w : World) (f : Nat → Int) (p : Nat → Nat) (n : Nat) (h1 : 1 ≤ n) (h2 : n ≤ 64) (hf : ∀ i, i < n → f i = p i) (hp : ∀ i, i < n → p i < 64) :
    Calls Try.prog 67 #[.int .i64 n, .agg (arr f)] w fun e w' => e = .returned (.agg (pk p n n)) ∧ Below w.heap.size w w' := by
  have HF := Aside0.mk hf
  have HP := Aside0.mk hp
  clear hf hp
  go_enter Try.func67, Try.ntmps67
  go_wp2_with fail
  go_loopw [10] (fun v10 wr => ∃ i : Nat, v10 = .int .i64 i ∧ i ≤ n ∧ Aside0 (wr.heap[w.heap.size]? = some (.cells (arr f) 103 (0, 0))) ∧ Aside0 (wr.heap[w.heap.size + 1 + 1]? = some (.cells (pk p n i) 57 (0, 0))) ∧ Aside0 (wr.heap[w.heap.size + 1]? = some (.cells #[.int .i64 0, .int .u64 0, .int .u64 0, .int .u64 0, .int .u64 0, .int .u64 0, .int .u64 0, .int .u64 0] 57 (0, 0))) ∧ Aside0 (Below w.heap.size w wr)) (fun v10 _ => n - (intOf v10).toNat)
  case atStart =>
    refine ⟨0, rfl, Nat.zero_le _, ⟨?_⟩, ⟨?_⟩, ⟨?_⟩, ⟨?_⟩⟩
    · exact blk_alloc (blk_alloc (blk_new w _) _) _
    · have := blk_new ((w.alloc (.cells (arr f) 103)).alloc (.cells #[.int .i64 0, .int .u64 0, .int .u64 0, .int .u64 0, .int .u64 0, .int .u64 0, .int .u64 0, .int .u64 0] 57)) (.cells #[.int .i64 n, .int .u64 0, .int .u64 0, .int .u64 0, .int .u64 0, .int .u64 0, .int .u64 0, .int .u64 0] 57)
      have e : pk p n 0 = #[.int .i64 n, .int .u64 0, .int .u64 0, .int .u64 0, .int .u64 0, .int .u64 0, .int .u64 0, .int .u64 0] := by
        unfold pk
        simp only [wrd_zero]
        rfl
      rw [e]
      simpa using this
    · have := blk_alloc (blk_new (w.alloc (.cells (arr f) 103)) (.cells #[.int .i64 0, .int .u64 0, .int .u64 0, .int .u64 0, .int .u64 0, .int .u64 0, .int .u64 0, .int .u64 0] 57)) (.cells #[.int .i64 n, .int .u64 0, .int .u64 0, .int .u64 0, .int .u64 0, .int .u64 0, .int .u64 0, .int .u64 0] 57)
      simpa using this
    · exact below_alloc (below_alloc (below_alloc (Below.refl _ _) _) _) _
  case round =>
    obtain ⟨i, rfl, hi, H1, H2, H3, HB⟩ := hrel
    by_cases hlt : i < n
    · have p1 : (0 ≤ (i : Int) / 10) = True := eq_true (by omega)
      have q1 : ((i : Int) / 10 < 7) = True := eq_true (by omega)
      have t1 : ((i : Int) / 10).toNat = i / 10 := by omega
      have hw1 : IntKind.i64.wrap ((i : Int) / 10) = (i : Int) / 10 := IntWalk.i64_in _ (by omega)
      have p2 : (0 ≤ (i : Int)) = True := eq_true (by omega)
      have q2 : ((i : Int) < 64) = True := eq_true (by omega)
      have hpi := HP.out i hlt
      obtain ⟨r, hr, hr2, hr3⟩ : ∃ r : Nat, (i : Int).tmod 10 = (r : Int) ∧ r < 10 ∧ i % 10 = r := ⟨i % 10, by rw [Int.tmod_eq_emod_of_nonneg (by omega)]; omega, by omega, rfl⟩
      have hw2 : IntKind.i64.wrap (r : Int) = (r : Int) := IntWalk.i64_in _ (by omega)
      have hw3 : IntKind.i64.wrap (6 * (r : Int)) = 6 * (r : Int) := IntWalk.i64_in _ (by omega)
      have hw4 : IntKind.u64.wrap ((p i : Nat) : Int) = (p i : Int) := u64_in _ (by omega) (by omega)
      have hval : bits .or .u64 ((wrd p i (i / 10) : Nat) : Int) (IntKind.u64.wrap ((p i : Int) * 2 ^ (6 * r))) = ((wrd p (i + 1) (i / 10) : Nat) : Int) := by
        have hlo := wrd_lt p i (fun k hk => HP.out k (by omega))
        rw [hr3] at hlo
        have hlo2 : 64 ^ r ≤ 64 ^ 9 := Nat.pow_le_pow_right (by omega) (by omega)
        have hhi : p i * 64 ^ r ≤ 63 * 64 ^ 9 := Nat.mul_le_mul (by omega) hlo2
        have h9 : 63 * 64 ^ 9 < 18446744073709551616 := by decide
        rw [shl_val _ _ hpi hr2, or_val _ _ (by omega) (by omega), or_add _ _ _ hlo, wrd_step, hr3]
      have HV := Aside0.mk hval
      clear hval hpi
      have rA : wr.cell? ⟨w.heap.size, i, none⟩ = some (.int .i64 (p i)) := by
        rw [← HF.out i hlt]
        exact (blk_cell H1.out i).trans (arr_get f i (by omega))
      have rT : wr.cell? ⟨w.heap.size + 1 + 1, 1 + i / 10, none⟩ = some (.int .u64 (wrd p i (i / 10))) := (blk_cell H2.out (1 + i / 10)).trans (pk_get p n i (i / 10) (by omega))
      have zT : wr.frozen? ⟨w.heap.size + 1 + 1, 1 + i / 10, none⟩ = false := blk_frozen H2.out (1 + i / 10)
      have B2 : Aside0 (Below w.heap.size w wr.drew) := ⟨below_drew1 HB.out⟩
      have H1' : Aside0 (wr.drew.heap[w.heap.size]? = some (.cells (arr f) 103 (0, 0))) := ⟨H1.out⟩
      have H2' : Aside0 (wr.drew.heap[w.heap.size + 1 + 1]? = some (.cells (pk p n i) 57 (0, 0))) := ⟨H2.out⟩
      have H3' : Aside0 (wr.drew.heap[w.heap.size + 1]? = some (.cells #[.int .i64 0, .int .u64 0, .int .u64 0, .int .u64 0, .int .u64 0, .int .u64 0, .int .u64 0, .int .u64 0] 57 (0, 0))) := ⟨H3.out⟩
      have rA' : wr.drew.cell? ⟨w.heap.size, i, none⟩ = some (.int .i64 (p i)) := rA
      have rT' : wr.drew.cell? ⟨w.heap.size + 1 + 1, 1 + i / 10, none⟩ = some (.int .u64 (wrd p i (i / 10))) := rT
      have zT' : wr.drew.frozen? ⟨w.heap.size + 1 + 1, 1 + i / 10, none⟩ = false := zT
      go_wp2_with fail
      refine reads_tail 16 (by kernel_rfl) (by kernel_rfl) (by kernel_rfl) ?_
      intro QQ hQQ
      simp only [List.take_succ_cons, List.take_zero]
      clear H1 H2 H3 HB rA rT zT
      generalize wr.drew = w2 at *
      repeat (refine reads_step (fun K hK => ?_); unfold Oper.still; go_simp; refine hK _ ?_; clear hK K)
      refine reads_nil (hQQ _ ?_)
      simp only [List.drop_succ_cons, List.drop_zero]
      go_wp2_with fail
      have Z2 := Aside0.mk (blk_put H2'.out (1 + i / 10) (.int .u64 ((wrd p (i + 1) (i / 10) : Nat) : Int)) rfl)
      rw [HV.out]
      refine ⟨⟨i + 1, by go_num, by omega, ⟨(Below.heap_setCell _ _ _ _ (by first | omega | (simp; omega))).trans H1'.out⟩, ⟨?_⟩, ⟨(Below.heap_setCell _ _ _ _ (by first | omega | simp)).trans H3'.out⟩, ⟨below_set B2.out (by omega)⟩⟩, ?_⟩
      · rw [← pk_set p n i (by omega)]
        exact Z2.out
      · simp [intOf]; omega
    · have hx : i = n := by omega
      subst hx
      have G1 := Aside0.mk (setRow_heap wr (w.heap.size + 1) _ (pk p i i) _ _ H3.out)
      go_wp2_with (first | (refine loadT_arm rfl _ rfl (w.heap.size + 1 + 1) rfl (pk p i i) rfl H2.out ?_) | (refine storeT_arm rfl _ _ rfl (w.heap.size + 1) (pk p i i) rfl rfl _ rfl rfl (pk_one p i i) H3.out ?_))
      refine bodyPost_ret (results_single rfl (.cell (w.heap.size + 1) 57 (pk p i i) (0, 0) _ rfl G1.out Try.underlying57 rfl (by kernel_rfl) .nil)) rfl ?_
      exact ⟨rfl, below_setRow HB.out (by omega) _⟩
end Go.Proofs.Ytcnnlddjnmkioaa.HPack
