/- Regions that read in any order and write at their end: the reads, one after another, with what follows kept closed. -/
import Derived.Test.YtcnnlddjnmkioaaMAx0
import Derived.Outline
import Derived.IntWalk
import Derived.StillTailTactics
set_option linter.unusedVariables false
set_option linter.unusedSimpArgs false
namespace Go.Proofs.Ytcnnlddjnmkioaa.HReads
open Go Go.RowKit

/-- Operations that only read, one after another. -/
def reads (P : Program) (w : World) (Q : Act → Prop) : List Oper → Act → Prop
  | [], a => Q a
  | o :: l, a => o.still P a w (reads P w Q l)
theorem reads_nil {P : Program} {w : World} {Q : Act → Prop} {a : Act} (h : Q a) : reads P w Q [] a := h
theorem reads_step {P : Program} {w : World} {Q : Act → Prop} {a : Act} {o : Oper} {l : List Oper} (h : ∀ K : Act → Prop, (∀ a, reads P w Q l a → K a) → o.still P a w K) : reads P w Q (o :: l) a := h _ (fun _ h => h)
theorem of_reads {P : Program} {ops : Array Oper} {w : World} {Q : Act → Prop} : ∀ (l : List Oper) (a : Act), (∀ o ∈ l, o.guard = none) → reads P w Q l a → wpStill P ops w Q l a
  | [], _, _, h => h
  | o :: l, a, hg, h => by
    have h0 : Region.wanted o (yielded ops a.tmps) = true := by
      unfold Region.wanted
      rw [hg o (by simp)]
    unfold wpStill
    rw [if_pos h0]
    have h' : o.still P a w (reads P w Q l) := h
    unfold Oper.still at h' ⊢
    revert h'
    cases (execOp a.eval o).run P w with
    | ok nx w' =>
      cases nx with
      | value v => exact fun q => ⟨q.1, of_reads l _ (fun o ho => hg o (by simp [ho])) q.2⟩
      | skip => exact fun q => ⟨q.1, of_reads l _ (fun o ho => hg o (by simp [ho])) q.2⟩
      | enter f args => exact fun q => ⟨q.1, by obtain ⟨v, hv, hk⟩ := q.2; exact ⟨v, hv, of_reads l _ (fun o ho => hg o (by simp [ho])) hk⟩⟩
      | _ => exact fun q => q
    | _ => exact fun q => q
/-- A region of reads with one order behind them: what follows stays closed while the reads are walked. -/
theorem reads_tail {P : Program} {id : Nat} {Q : Exit → Act → World → Prop} {a : Act} {w : World} {l : List Oper} (n : Nat) (hm : P.follows .mixedOrders = true) (hB : Region.lexTailB .any l.toArray n = true) (hg : (l.take n).all (fun o => o.guard.isNone) = true)
    (h : ∀ QQ : Act → Prop, (∀ a', wpList P l.toArray Q (l.drop n) a' w.drew → QQ a') → reads P w.drew QQ (l.take n) a) : (Code.region id l.toArray true).wp P Q a w :=
  wp_region_still_tail n hm hB (of_reads _ _ (fun o ho => by simpa using List.all_eq_true.1 hg o ho) (h _ (fun _ h => h)))
end Go.Proofs.Ytcnnlddjnmkioaa.HReads
