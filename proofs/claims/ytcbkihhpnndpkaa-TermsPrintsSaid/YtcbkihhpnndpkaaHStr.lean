/- A tree as a text: what spelled and Print come to. -/
import Derived.Test.YtcbkihhpnndpkaaHTree
set_option linter.unusedVariables false
set_option linter.unusedSimpArgs false
namespace Go.Proofs.Ytcbkihhpnndpkaa.HStr
open Go.RowKit Go.Proofs.YtcbkihhpnndpkaaW.PrintWords Go.Proofs.YtcbkihhpnndpkaaW.PrintLast Go.Proofs.YtcbkihhpnndpkaaW.PrintMore
open Go.Proofs.Ytcbkihhpnndpkaa Go.Proofs.Ytcbkihhpnndpkaa.PA Go.Proofs.Ytcbkihhpnndpkaa.PF Go.Proofs.Ytcbkihhpnndpkaa.PG Go.Proofs.Ytcbkihhpnndpkaa.HRead Go.Proofs.Ytcbkihhpnndpkaa.HSpell Go.Proofs.Ytcbkihhpnndpkaa.HFoldPiece Go.Proofs.Ytcbkihhpnndpkaa.HTree

def brk (w : ByteArray) (b : Bool) : ByteArray := if b then ((⟨#[40]⟩ : ByteArray) ++ w) ++ (⟨#[41]⟩ : ByteArray) else w
def several : T → Bool
 | .mul _ _ => true
 | _ => false
def str : T → ByteArray
 | .one => ⟨#[49]⟩
 | .var c => letter c
 | .mul a b => str a ++ brk (str b) (several b)
 | .om a => brk (str a) (several a) ++ (⟨#[94, 119]⟩ : ByteArray)
theorem brk_size (w : ByteArray) (b : Bool) : (brk w b).size = w.size + if b then 2 else 0 := by
 unfold brk
 cases b with
 | true =>
  rw [if_pos rfl, if_pos rfl, ByteArray.size_append, ByteArray.size_append]
  show 1 + w.size + 1 = _
  omega
 | false => rfl
theorem brk_le (w : ByteArray) (b : Bool) : (brk w b).size ≤ w.size + 2 := by
 rw [brk_size]
 split <;> omega
theorem str_size : ∀ t, (str t).size + 2 ≤ 4 * (toL t).length
 | .one => by show 1 + 2 ≤ 4 * 1; omega
 | .var c => by show 1 + 2 ≤ 4 * 1; omega
 | .mul a b => by
  have h1 := str_size a
  have h2 := str_size b
  have h3 := brk_le (str b) (several b)
  simp only [str, toL, ByteArray.size_append, List.length_append, List.length_cons, List.length_nil]
  omega
 | .om a => by
  have h1 := str_size a
  have h3 := brk_le (str a) (several a)
  have e : (⟨#[94, 119]⟩ : ByteArray).size = 2 := rfl
  simp only [str, toL, ByteArray.size_append, List.length_append, List.length_cons, List.length_nil, e]
  omega
theorem bracketed_ok (w : ByteArray) (b : Bool) (h : w.size ≤ 4000000000) : terms_piece_bracketed.f w b = some (brk w b) := by
 unfold terms_piece_bracketed.f brk
 cases b with
 | false => rfl
 | true =>
  have e : (⟨#[40]⟩ : ByteArray).size = 1 := rfl
  rw [if_pos rfl, if_pos (by omega), if_pos (by rw [ByteArray.size_append, e]; omega)]
  rfl
theorem times_ok (x y : P2) (h : x.1.size ≤ 4000000000) (h2 : y.1.size ≤ 4000000000) : timesP x y = some (x.1 ++ brk y.1 y.2, true) := by
 unfold timesP terms_spelled_2.f
 have := brk_le y.1 y.2
 rw [bracketed_ok _ _ h2]
 simp only [Option.bind_some]
 rw [if_pos (by omega)]
theorem omega_ok (x : P2) (h : x.1.size ≤ 4000000000) : omegaP x = some (brk x.1 x.2 ++ (⟨#[94, 119]⟩ : ByteArray), false) := by
 unfold omegaP terms_spelled_3.f
 have := brk_le x.1 x.2
 rw [bracketed_ok _ _ h]
 simp only [Option.bind_some]
 rw [if_pos (by omega)]
theorem run_tree : ∀ (t : T), t.wf → (toL t).length ≤ 1000000 → ∀ (l : List S97) (st : List P2), run leafP timesP omegaP (toL t ++ l) st = run leafP timesP omegaP l (st ++ [(str t, several t)])
 | .one, _, _, l, st => by simp [toL, run, put, leafP, str, several]
 | .var c, h, _, l, st => by
  have h' : isName c = true := h
  simp [toL, run, put, leafP, str, several, h']
 | .mul a b, h, hl, l, st => by
  have hla : (toL a).length + (toL b).length + 1 ≤ 1000000 := by simp [toL] at hl; omega
  have sa := str_size a
  have sb := str_size b
  rw [toL, List.append_assoc, List.append_assoc, run_tree a h.1 (by omega), run_tree b h.2 (by omega)]
  have e : put leafP timesP omegaP (st ++ [(str a, several a)] ++ [(str b, several b)]) ⟨3, 0⟩ = some (st ++ [(str (.mul a b), several (.mul a b))]) := by
   unfold put
   rw [if_pos rfl, if_pos (by simp)]
   have e1 : (st ++ [(str a, several a)] ++ [(str b, several b)]).getD ((st ++ [(str a, several a)] ++ [(str b, several b)]).length - 2) (⟨#[]⟩, false) = (str a, several a) := by simp
   have e2 : (st ++ [(str a, several a)] ++ [(str b, several b)]).getD ((st ++ [(str a, several a)] ++ [(str b, several b)]).length - 1) (⟨#[]⟩, false) = (str b, several b) := by simp
   rw [e1, e2, times_ok _ _ (by show (str a).size ≤ _; omega) (by show (str b).size ≤ _; omega)]
   simp [str, several]
  show (put leafP timesP omegaP _ ⟨3, 0⟩).bind (run leafP timesP omegaP l) = _
  rw [e]
  rfl
 | .om a, h, hl, l, st => by
  have hla : (toL a).length + 1 ≤ 1000000 := by simpa [toL] using hl
  have sa := str_size a
  rw [toL, List.append_assoc, run_tree a h (by omega)]
  have e : put leafP timesP omegaP (st ++ [(str a, several a)]) ⟨4, 0⟩ = some (st ++ [(str (.om a), several (.om a))]) := by
   unfold put
   rw [if_neg (by decide), if_pos rfl, if_pos (by simp)]
   have e2 : (st ++ [(str a, several a)]).getD ((st ++ [(str a, several a)]).length - 1) (⟨#[]⟩, false) = (str a, several a) := by simp
   rw [e2, omega_ok _ (by show (str a).size ≤ _; omega)]
   simp [str, several]
  show (put leafP timesP omegaP _ ⟨4, 0⟩).bind (run leafP timesP omegaP l) = _
  rw [e]
  rfl
theorem spelled_ok (t : T) (h : t.wf) (hl : (toL t).length ≤ 400) : terms_spelled.f (toL t) = some (str t) := by
 unfold terms_spelled.f
 rw [if_pos hl]
 have := run_tree t h (by omega) [] []
 rw [List.append_nil] at this
 rw [this]
 rfl
def sg (b : Bool) : ByteArray := if b then ⟨#[32, 60, 61, 32]⟩ else ⟨#[32, 61, 32]⟩
def txt (a c : T) (b : Bool) : ByteArray := (str a ++ sg b) ++ str c
theorem sg_size (b : Bool) : (sg b).size ≤ 4 := by cases b <;> decide
theorem print_ok (a c : T) (b : Bool) (ha : a.wf) (hc : c.wf) (h1 : (toL a).length ≤ 400) (h2 : (toL c).length ≤ 400) :
 Ev (fun k => terms_Print.f k (toL a) (toL c) b) (if 1000 < (txt a c b).size then (⟨#[]⟩, 6) else (txt a c b, 0)) := by
 have hk := check_ok (toL a) (toL c) b (toL_byte a ha) (toL_byte c hc)
 have e0 : chk (toL a) (toL c) = 0 := by
  unfold chk
  rw [if_neg (by omega), if_pos ⟨scan_good a ha, scan_good c hc⟩]
 rw [e0] at hk
 have sa := str_size a
 have sc := str_size c
 have ss := sg_size b
 unfold terms_Print.f
 refine Ev.bind hk ?_
 simp only [if_true]
 have key : Ev (fun k => terms_Print.j0 k (sg b) (toL a) (toL c) b) (if 1000 < (txt a c b).size then (⟨#[]⟩, 6) else (txt a c b, 0)) := by
  refine Ev.step (f := fun _ => some (if 1000 < (txt a c b).size then (⟨#[]⟩, 6) else (txt a c b, 0))) (fun k => ?_) (Ev.now _)
  simp only [terms_Print.j0]
  rw [spelled_ok a ha h1, spelled_ok c hc h2]
  simp only [Option.bind_some]
  rw [if_pos (by omega), if_pos (by rw [ByteArray.size_append]; omega)]
  show (if ((txt a c b).size : Int) > 1000 then some _ else some (txt a c b, (0 : Int))) = _
  by_cases hz : 1000 < (txt a c b).size
  · rw [if_pos (by omega), if_pos hz]
  · rw [if_neg (by omega), if_neg hz]
 cases b with
 | true => simpa [sg] using key
 | false => simpa [sg] using key
end Go.Proofs.Ytcbkihhpnndpkaa.HStr
