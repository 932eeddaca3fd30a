/- The reference's Order on words of letters. -/
import Derived.Test.YtcnnlddjnmkioaaHLaws
import Derived.Test.YtcnnlddjnmkioaaMOx1
set_option linter.unusedVariables false
set_option linter.unusedSimpArgs false
namespace Go.Proofs.Ytcnnlddjnmkioaa.HOrd
open Go Go.RowKit Go.Proofs.Ytcnnlddjnmkioaa.MO Go.Proofs.Ytcnnlddjnmkioaa.PureMon Go.Proofs.Ytcnnlddjnmkioaa.HMeth Go.Proofs.YtcnnlddjnmkioaaW.PrintWords Go.Proofs.YtcnnlddjnmkioaaW.PrintLast Go.Proofs.YtcnnlddjnmkioaaW.PrintMore

def ord (u v : ByteArray) : Int := if u.size = v.size then Lib.compareBytes u.data.toList v.data.toList else if u.size < v.size then -1 else 1
theorem ord_f (u v : ByteArray) : eggboxref01_Order.f u v = some (ord u v) := by
  unfold eggboxref01_Order.f strings_Compare.f ord
  simp only [Option.bind_some]
  by_cases hs : u.size = v.size
  · rw [if_pos (by omega), if_pos hs]
  · rw [if_neg (by omega), if_neg hs]
    by_cases hlt : u.size < v.size
    · rw [if_pos (by omega), if_pos hlt]
    · rw [if_neg (by omega), if_neg hlt]
theorem order_calls (u v : ByteArray) (w : World) : Calls Try.prog 19 #[.string u, .string v] w fun e w' => e = .returned (.int .i64 (ord u v)) ∧ Below w.heap.size w w' :=
  (eggboxref01_Order.calls u v _ w (ord_f u v)).mono fun e w' h => ⟨h.1, by obtain ⟨nd, rfl⟩ := h.2; exact pw_below_drewN (Below.refl _ _) nd⟩
theorem lt_chr (a b : Nat) (h : a < b) (hb : b < 8) : UInt8.ofNat (97 + a) < UInt8.ofNat (97 + b) := by
  rw [UInt8.lt_iff_toNat_lt]
  simp
  omega
theorem cmp_self : ∀ l : List UInt8, Lib.compareBytes l l = 0
  | [] => rfl
  | a :: l => by
    rw [Lib.compareBytes, if_neg (UInt8.lt_irrefl a), if_neg (UInt8.lt_irrefl a), cmp_self l]
theorem cmp_lex : ∀ (a b : List Nat), (∀ l ∈ a, l < 8) → (∀ l ∈ b, l < 8) → lex a b → Lib.compareBytes (a.map (fun l => UInt8.ofNat (97 + l))) (b.map (fun l => UInt8.ofNat (97 + l))) = -1
  | x :: a, y :: b, ha, hb, h => by
    rw [List.map_cons, List.map_cons, Lib.compareBytes]
    rcases h with h | ⟨rfl, h⟩
    · rw [if_pos (lt_chr x y h (hb y (by simp)))]
    · rw [if_neg (UInt8.lt_irrefl _), if_neg (UInt8.lt_irrefl _)]
      exact cmp_lex a b (fun l hl => ha l (by simp [hl])) (fun l hl => hb l (by simp [hl])) h
  | [], _, _, _, h => h.elim
  | _ :: _, [], _, _, h => h.elim
theorem ord_lt (a b : List Nat) (ha : ∀ l ∈ a, l < 8) (hb : ∀ l ∈ b, l < 8) (h : llt a b) : ord (enc a) (enc b) = -1 := by
  unfold ord
  rw [enc_size, enc_size]
  rcases h with h | ⟨h, h2⟩
  · rw [if_neg (by omega), if_pos h]
  · rw [if_pos h]
    exact cmp_lex a b ha hb h2
theorem ord_self (a : ByteArray) : ord a a = 0 := by
  unfold ord
  rw [if_pos rfl]
  exact cmp_self _
theorem ord_le (a b : List Nat) (ha : ∀ l ∈ a, l < 8) (hb : ∀ l ∈ b, l < 8) (h : lle a b) : ord (enc a) (enc b) ≤ 0 := by
  rcases h with rfl | h
  · rw [ord_self]
    decide
  · rw [ord_lt a b ha hb h]
    decide
theorem enc_extract (u : List Nat) (a b : Nat) : (enc u).extract a b = enc ((u.take b).drop a) := by
  apply ByteArray.ext
  apply Array.toList_inj.1
  rw [ByteArray.data_extract, Array.toList_extract]
  simp only [enc, List.extract_eq_take_drop, List.map_drop, List.map_take]
  rw [List.drop_take]
end Go.Proofs.Ytcnnlddjnmkioaa.HOrd
