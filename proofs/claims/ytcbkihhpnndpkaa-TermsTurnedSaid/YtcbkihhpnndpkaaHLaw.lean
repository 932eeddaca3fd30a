/- Plain laws of the statements' helpers: Same of itself, spoil, knows. -/
import Derived.Test.YtcbkihhpnndpkaaPLx1
import Derived.Test.YtcbkihhpnndpkaaPAx10
import Derived.Test.YtcbkihhpnndpkaaQ5
set_option linter.unusedVariables false
set_option linter.unusedSimpArgs false
namespace Go.Proofs.Ytcbkihhpnndpkaa.HLaw
open Go.RowKit Go.Proofs.YtcbkihhpnndpkaaW.PrintWords Go.Proofs.YtcbkihhpnndpkaaW.PrintLast Go.Proofs.YtcbkihhpnndpkaaW.PrintMore
open Go.Proofs.Ytcbkihhpnndpkaa Go.Proofs.Ytcbkihhpnndpkaa.PA Go.Proofs.Ytcbkihhpnndpkaa.PZ Go.Proofs.Ytcbkihhpnndpkaa.PG Go.Proofs.Ytcbkihhpnndpkaa.PL Go.Proofs.Ytcbkihhpnndpkaa.HRead Go.Proofs.Ytcbkihhpnndpkaa.HParsed

theorem sides_loop (l : List S97) (hl : l.length ≤ 1000000) : ∀ (n i : Nat), l.length - i ≤ n → Ev (fun k => eggboxlaw19_sides.l0 k l l (i : Int)) true := by
 intro n
 induction n with
 | zero =>
  intro i h
  refine Ev.step (f := fun _ => some true) (fun k => ?_) (Ev.now _)
  simp only [eggboxlaw19_sides.l0]
  rw [if_neg (by omega)]
 | succ n ih =>
  intro i h
  by_cases hi : i < l.length
  · refine Ev.step (f := fun k => eggboxlaw19_sides.l0 k l l ((i + 1 : Nat) : Int)) (fun k => ?_) (ih (i + 1) (by omega))
    simp only [eggboxlaw19_sides.l0]
    rw [if_pos (by omega), if_pos (by omega), if_pos (by omega), if_neg (by simp), w64 (by omega) (by omega)]
    rfl
  · exact ih i (by omega)
theorem sides_self (l : List S97) (hl : l.length ≤ 1000000) : Ev (fun k => eggboxlaw19_sides.f k l l) true := by
 refine Ev.congr (f := fun k => eggboxlaw19_sides.l0 k l l 0) (fun k => ?_) (sides_loop l hl l.length 0 (by omega))
 unfold eggboxlaw19_sides.f
 rw [if_pos rfl]
theorem same_self (l m : List S97) (b : Bool) (hl : l.length ≤ 1000000) (hm : m.length ≤ 1000000) : Ev (fun k => eggboxlaw19_Same.f k l m b l m b) true := by
 refine Ev.bind (sides_self l hl) ?_
 simp only [if_true]
 refine Ev.bind (sides_self m hm) ?_
 simp only [if_true, beq_self_eq_true]
 exact Ev.now _

theorem parse_one : parseP (⟨#[32, 120, 32, 121, 32, 60, 61, 32, 40, 121, 41, 94, 119, 32]⟩ : ByteArray) 4096 = some ⟨[⟨2, 120⟩, ⟨2, 121⟩, ⟨3, 0⟩], [⟨2, 121⟩, ⟨4, 0⟩], true, 0, 0⟩ := by kernel_rfl
theorem print_one : terms_Print.f 50 [⟨2, 120⟩, ⟨2, 121⟩, ⟨3, 0⟩] [⟨2, 121⟩, ⟨4, 0⟩] true = some (⟨#[120, 121, 32, 60, 61, 32, 121, 94, 119]⟩, 0) := by kernel_rfl
theorem knows_ok : Ev (fun k => eggboxlaw19_knows.f k) true := by
 unfold eggboxlaw19_knows.f
 unfold terms_Parse.f
 rw [parse_one]
 simp only [Option.map_some, Option.bind_some]
 refine Ev.bind (Ev.of (k := 50) (fun k => terms_Print.mono _ _ _ k) print_one) ?_
 simp only [eggboxlaw19_num.f, Option.bind_some]
 exact ⟨0, fun _ _ => by kernel_rfl⟩
end Go.Proofs.Ytcbkihhpnndpkaa.HLaw
