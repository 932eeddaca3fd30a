/- Transformations as keys: what a packed one reads as; two that read alike are one; '==' of one with itself. -/
import Derived.Test.YtcnnlddjnmkioaaHPack
import Derived.DeepKeys
set_option linter.unusedVariables false
set_option linter.unusedSimpArgs false
namespace Go.Proofs.Ytcnnlddjnmkioaa.HTkey
open Go Go.RowKit Go.Proofs.Ytcnnlddjnmkioaa.HReads Go.Proofs.Ytcnnlddjnmkioaa.HArr Go.Proofs.Ytcnnlddjnmkioaa.HPack Go.Proofs.YtcnnlddjnmkioaaW.PrintWords Go.Proofs.YtcnnlddjnmkioaaW.PrintLast Go.Proofs.YtcnnlddjnmkioaaW.PrintMore

def lits (p : Nat → Nat) (n : Nat) : List Lit := [.int .i64 n, .int .u64 (wrd p n 0), .int .u64 (wrd p n 1), .int .u64 (wrd p n 2), .int .u64 (wrd p n 3), .int .u64 (wrd p n 4), .int .u64 (wrd p n 5), .int .u64 (wrd p n 6)]
def keyT (p : Nat → Nat) (n : Nat) : Lit := .string (keyBytes (lits p n))
theorem wf_u64 (m : Nat) (h : m < 18446744073709551616) : (Lit.int .u64 (m : Int)).wf = true := by
  simp [Lit.wf, IntKind.min, IntKind.max, IntKind.signed, IntKind.bits]
  omega
theorem wf_i64 (m : Nat) (h : m < 9223372036854775808) : (Lit.int .i64 (m : Int)).wf = true := by
  simp [Lit.wf, IntKind.min, IntKind.max, IntKind.signed, IntKind.bits]
  omega
theorem dig_le (q : Nat → Nat) (n : Nat) (hn : n ≤ 10) (hq : ∀ i, i < n → q i < 64) : dig q n < 18446744073709551616 := by
  have h1 := dig_lt q n hq
  have h2 : 64 ^ n ≤ 64 ^ 10 := Nat.pow_le_pow_right (by omega) hn
  have h3 : 64 ^ 10 < 18446744073709551616 := by decide
  omega
theorem wrd_le (p : Nat → Nat) (n j : Nat) (hp : ∀ k, k < n → p k < 64) : wrd p n j < 18446744073709551616 := by
  unfold wrd
  exact dig_le _ _ (by omega) (fun r hr => hp _ (by omega))
theorem big : ∃ k, Try.prog.types.size + 1 = k + 3 := ⟨Try.prog.types.size - 2, by
  have : 2 ≤ Try.prog.types.size := of_decide_eq_true (by kernel_rfl)
  omega⟩
theorem lit1 (k : Nat) (x : Int) (h : (Lit.int .u64 x).wf = true) : Try.prog.keyLits (k + 1) 54 [.int .u64 x] = some [.int .u64 x] := by
  unfold Program.keyLits
  rw [Try.underlying54]
  exact if_pos ⟨rfl, h⟩
theorem litN (k : Nat) (x : Int) (h : (Lit.int .i64 x).wf = true) : Try.prog.keyLits (k + 1) 3 [.int .i64 x] = some [.int .i64 x] := by
  unfold Program.keyLits
  rw [Try.underlying3]
  exact if_pos ⟨rfl, h⟩
theorem lit7 (k : Nat) (a b c d e f g : Int) (ha : (Lit.int .u64 a).wf = true) (hb : (Lit.int .u64 b).wf = true) (hc : (Lit.int .u64 c).wf = true) (hd : (Lit.int .u64 d).wf = true) (he : (Lit.int .u64 e).wf = true) (hf : (Lit.int .u64 f).wf = true) (hg : (Lit.int .u64 g).wf = true) :
    Try.prog.keyLits (k + 2) 55 [.int .u64 a, .int .u64 b, .int .u64 c, .int .u64 d, .int .u64 e, .int .u64 f, .int .u64 g] = some [.int .u64 a, .int .u64 b, .int .u64 c, .int .u64 d, .int .u64 e, .int .u64 f, .int .u64 g] := by
  have c3 : Try.prog.cellsOf 55 = 7 := by kernel_rfl
  have c4 : Try.prog.cellsOf 54 = 1 := by kernel_rfl
  have hR : List.range 7 = [0, 1, 2, 3, 4, 5, 6] := rfl
  unfold Program.keyLits
  rw [Try.underlying55]
  simp only [c3, c4, hR]
  simp [List.mapM_cons, lit1 k _ ha, lit1 k _ hb, lit1 k _ hc, lit1 k _ hd, lit1 k _ he, lit1 k _ hf, lit1 k _ hg]
theorem lit8 (k : Nat) (n a b c d e f g : Int) (hn : (Lit.int .i64 n).wf = true) (ha : (Lit.int .u64 a).wf = true) (hb : (Lit.int .u64 b).wf = true) (hc : (Lit.int .u64 c).wf = true) (hd : (Lit.int .u64 d).wf = true) (he : (Lit.int .u64 e).wf = true) (hf : (Lit.int .u64 f).wf = true) (hg : (Lit.int .u64 g).wf = true) :
    Try.prog.keyLits (k + 3) 57 [.int .i64 n, .int .u64 a, .int .u64 b, .int .u64 c, .int .u64 d, .int .u64 e, .int .u64 f, .int .u64 g] = some [.int .i64 n, .int .u64 a, .int .u64 b, .int .u64 c, .int .u64 d, .int .u64 e, .int .u64 f, .int .u64 g] := by
  have c1 : Try.prog.cellsOf 57 = 8 := by kernel_rfl
  have c2 : Try.prog.cellsOf 3 = 1 := by kernel_rfl
  have c3 : Try.prog.cellsOf 55 = 7 := by kernel_rfl
  unfold Program.keyLits
  rw [Try.underlying57]
  simp only [c1]
  rw [if_pos ⟨rfl, by simp⟩]
  simp [List.mapM_cons, c2, c3, litN (k + 1) _ hn, lit7 k _ _ _ _ _ _ _ ha hb hc hd he hf hg]
theorem formed_pk (p : Nat → Nat) (n : Nat) : (Value.agg (pk p n n)).formed Try.prog 57 = true := by
  have c1 : Try.prog.cellsOf 57 = 8 := by kernel_rfl
  rw [Value.formed, Try.underlying57]
  simp only [c1]
  rfl
theorem key_pk (p : Nat → Nat) (n : Nat) (hn : n ≤ 64) (hp : ∀ k, k < n → p k < 64) : keyOf Try.prog 57 (.agg (pk p n n)) = some (keyT p n) := by
  obtain ⟨k, hk⟩ := big
  have hl : Try.prog.keyLits (k + 3) 57 (Value.agg (pk p n n)).cells.toList = some (lits p n) :=
    lit8 k _ _ _ _ _ _ _ _ (wf_i64 n (by omega)) (wf_u64 _ (wrd_le p n 0 hp)) (wf_u64 _ (wrd_le p n 1 hp)) (wf_u64 _ (wrd_le p n 2 hp)) (wf_u64 _ (wrd_le p n 3 hp)) (wf_u64 _ (wrd_le p n 4 hp)) (wf_u64 _ (wrd_le p n 5 hp)) (wf_u64 _ (wrd_le p n 6 hp))
  have hkt : Try.prog.keyType 57 = true := by kernel_rfl
  unfold keyOf
  rw [Try.underlying57]
  simp only [hkt, formed_pk, Bool.and_self, if_true, hk, hl]
  rfl
/-- '==' of a transformation with itself. -/
theorem eqT (p : Nat → Nat) (n : Nat) (hn : n ≤ 64) (hp : ∀ k, k < n → p k < 64) (w : World) : (Op.equal 57 (.agg (pk p n n)) (.agg (pk p n n))).run Try.prog w = .ok true w := by
  have hk := key_pk p n hn hp
  obtain ⟨r, h1, h2⟩ := run_equal_deep w (m := 3) (by omega) (k := 57) (by kernel_rfl) (by rw [Try.underlying57]) hk hk
  rw [h1, h2.2 rfl]
set_option maxRecDepth 100000 in
theorem exec_eqT {p : Nat → Nat} {n : Nat} (hn : n ≤ 64) (hp : ∀ k, k < n → p k < 64) {op : Oper} {a : Act} {w : World} {x y : Operand} (ho : op.op = .binOp .eql 57 x y 57) (hx : a.eval x = .agg (pk p n n)) (hy : a.eval y = .agg (pk p n n)) : (execOp a.eval op).run Try.prog w = .ok (.value (.bool true)) w := by
  unfold execOp
  simp only [ho, hx, hy, Sem.run_bind]
  have hg : (eqGuard .eql 57 x y (.agg (pk p n n)) (.agg (pk p n n))).run Try.prog w = .ok () w := by
    unfold eqGuard
    simp
  rw [hg]
  simp only [Result.andThen_ok]
  have he := eqT p n hn hp w
  have hb : (binOp .eql 57 (.agg (pk p n n)) (.agg (pk p n n))).run Try.prog w = .ok (.bool true) w := by
    unfold binOp
    simp only [Sem.run_bind, he, Result.andThen_ok, Sem.run_pure]
  rw [hb]
  rfl
end Go.Proofs.Ytcnnlddjnmkioaa.HTkey
