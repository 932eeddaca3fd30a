/- The variables and a side from behind: plain laws of both answers. -/
import Derived.Test.YtcbkihhpnndpkaaHTree
import Derived.Test.YtcbkihhpnndpkaaPAx0
import Derived.Test.YtcbkihhpnndpkaaPAx2
import Derived.Test.YtcbkihhpnndpkaaHVars
import Derived.Test.YtcbkihhpnndpkaaHTurned
import Derived.Test.YtcbkihhpnndpkaaPUx1
set_option linter.unusedVariables false
set_option linter.unusedSimpArgs false
namespace Go.Proofs.Ytcbkihhpnndpkaa.HRefTurn
open Go.RowKit Go.Proofs.YtcbkihhpnndpkaaW.PrintWords Go.Proofs.YtcbkihhpnndpkaaW.PrintLast Go.Proofs.YtcbkihhpnndpkaaW.PrintMore
open Go.Proofs.Ytcbkihhpnndpkaa Go.Proofs.Ytcbkihhpnndpkaa.PA Go.Proofs.Ytcbkihhpnndpkaa.PU Go.Proofs.Ytcbkihhpnndpkaa.HRead Go.Proofs.Ytcbkihhpnndpkaa.HTree Go.Proofs.Ytcbkihhpnndpkaa.HUsed Go.Proofs.Ytcbkihhpnndpkaa.HVars

/-! ### The variables -/
theorem named_toL : ∀ t : T, t.wf → named (toL t) = true
 | .one, _ => by simp [named, toL]
 | .var c, h => by
  have h' : HSpell.isName c = true := h
  simp [named, toL, h']
 | .om a, h => by
  have := named_toL a h
  simp only [named, toL, List.all_append] at this ⊢
  simp [this]
 | .mul a b, h => by
  have h1 := named_toL a h.1
  have h2 := named_toL b h.2
  simp only [named, toL, List.all_append] at h1 h2 ⊢
  simp [h1, h2]

/-! ### From behind -/
def rev : T → T
 | .one => .one
 | .var c => .var c
 | .om a => .om (rev a)
 | .mul a b => .mul (rev b) (rev a)
theorem rev_len : ∀ t, (toL (rev t)).length = (toL t).length
 | .one => rfl
 | .var c => rfl
 | .om a => by simp [rev, toL, rev_len a]
 | .mul a b => by simp [rev, toL, rev_len a, rev_len b]; omega
theorem rev_wf : ∀ t : T, t.wf → (rev t).wf
 | .one, _ => trivial
 | .var c, h => h
 | .om a, h => rev_wf a h
 | .mul a b, h => ⟨rev_wf b h.2, rev_wf a h.1⟩
theorem run_rev : ∀ (t : T), (toL t).length ≤ 1000000 → ∀ (l : List S97) (st : List HFoldSigns.E), HFoldSigns.run HTurned.leafP HTurned.timesP HTurned.omegaP (toL t ++ l) st = HFoldSigns.run HTurned.leafP HTurned.timesP HTurned.omegaP l (st ++ [toL (rev t)])
 | .one, _, l, st => by simp [toL, rev, HFoldSigns.run, HFoldSigns.put, HTurned.leafP]
 | .var c, _, l, st => by simp [toL, rev, HFoldSigns.run, HFoldSigns.put, HTurned.leafP]
 | .mul a b, hl, l, st => by
  have hla : (toL a).length + (toL b).length + 1 ≤ 1000000 := by simp [toL] at hl; omega
  rw [toL, List.append_assoc, List.append_assoc, run_rev a (by omega), run_rev b (by omega)]
  have e : HFoldSigns.put HTurned.leafP HTurned.timesP HTurned.omegaP (st ++ [toL (rev a)] ++ [toL (rev b)]) ⟨3, 0⟩ = some (st ++ [toL (rev (.mul a b))]) := by
   unfold HFoldSigns.put
   rw [if_pos rfl, if_pos (by simp)]
   have e1 : (st ++ [toL (rev a)] ++ [toL (rev b)]).getD ((st ++ [toL (rev a)] ++ [toL (rev b)]).length - 2) [] = toL (rev a) := by simp
   have e2 : (st ++ [toL (rev a)] ++ [toL (rev b)]).getD ((st ++ [toL (rev a)] ++ [toL (rev b)]).length - 1) [] = toL (rev b) := by simp
   have ra := rev_len a
   have rb := rev_len b
   rw [e1, e2]
   unfold HTurned.timesP
   rw [if_pos (by omega)]
   simp [rev, toL]
  show (HFoldSigns.put HTurned.leafP HTurned.timesP HTurned.omegaP _ ⟨3, 0⟩).bind (HFoldSigns.run HTurned.leafP HTurned.timesP HTurned.omegaP l) = _
  rw [e]
  rfl
 | .om a, hl, l, st => by
  have hla : (toL a).length + 1 ≤ 1000000 := by simpa [toL] using hl
  rw [toL, List.append_assoc, run_rev a (by omega)]
  have e : HFoldSigns.put HTurned.leafP HTurned.timesP HTurned.omegaP (st ++ [toL (rev a)]) ⟨4, 0⟩ = some (st ++ [toL (rev (.om a))]) := by
   unfold HFoldSigns.put
   rw [if_neg (by decide), if_pos rfl, if_pos (by simp)]
   have e2 : (st ++ [toL (rev a)]).getD ((st ++ [toL (rev a)]).length - 1) [] = toL (rev a) := by simp
   have ra := rev_len a
   rw [e2]
   unfold HTurned.omegaP
   rw [if_pos (by omega)]
   simp [rev, toL]
  show (HFoldSigns.put HTurned.leafP HTurned.timesP HTurned.omegaP _ ⟨4, 0⟩).bind (HFoldSigns.run HTurned.leafP HTurned.timesP HTurned.omegaP l) = _
  rw [e]
  rfl
theorem turned_ok (t : T) (h : (toL t).length ≤ 400) : terms_turned.f (toL t) = some (toL (rev t)) := by
 unfold terms_turned.f
 rw [if_pos h]
 have := run_rev t (by omega) [] []
 rw [List.append_nil] at this
 rw [this]
 rfl
theorem turn_ok (a c : T) (b : Bool) (ha : a.wf) (hc : c.wf) (h1 : (toL a).length ≤ 400) (h2 : (toL c).length ≤ 400) (h0 : chk (toL a) (toL c) = 0) : Ev (fun k => terms_Turn.f k (toL a) (toL c) b) (toL (rev a), toL (rev c), b, 0) := by
 have hk := check_ok (toL a) (toL c) b (toL_byte a ha) (toL_byte c hc)
 rw [h0] at hk
 unfold terms_Turn.f
 refine Ev.bind hk ?_
 simp only [if_true, turned_ok a h1, turned_ok c h2, Option.bind_some]
 exact Ev.now _
end Go.Proofs.Ytcbkihhpnndpkaa.HRefTurn
