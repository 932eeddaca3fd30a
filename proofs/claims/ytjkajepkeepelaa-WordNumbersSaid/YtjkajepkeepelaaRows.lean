/-
  No cell of these rows narrows 'for every input' (looked for: loops, veiled, ifaces, maps, wideKeys, modest, calm, conditions, laid).
  DERIVED. THE GIVEN ROWS OF THIS SEAT. 9 by the template 'for every input the law returns true; each argument reads behind the call as it read before'; 0 by the template 'total and deterministic' (their statements: YtjkajepkeepelaaTotals.lean).
  GIVEN WITH THE SEED: the statements are not yours to turn. If you find one false, say at which input.
  Laid BY PROGRAM, IN A SANDBOX (cutbox-rows.mjs): the forced cells as the released guide's own fill.sh prints them over the translation fbbf845ff9f5099e… (all of the seat's roots in one cut). By AI agents, Wed Nov 11 2026. No macro, syntax, notation, axiom, sorry.
-/
import Derived.Test.YtjkajepkeepelaaChecked
import GoSem.Claim
import GoSem.ClaimJoined
import GoSem.ClaimMapViews
import Derived.JoinedTies
import Derived.KernelRfl
namespace Go.Proofs.Ytjkajepkeepelaa
/- THE CELL 'sum', in the pinned program and in every row, IS THE sha256 OF THE DUMP (.gsa) THAT YtjkajepkeepelaaProg.lean LOADS. Nothing in Lean hashes anything: it is a label: what it is worth is what the hold of that sum in a sandbox is worth. -/
noncomputable def Try.pinned : Pinned := { name := "ytjkajepkeepelaa", sum := "fbbf845ff9f5099e84f0a30440e7def3450e1c619aac9fa6f60e55c0d9411081", checked := Try.checked }
namespace Rows
def none {H : Type} : Left H := { results := [], args := [] }

/-- 'eggboxlaw01.WordFineWilf': WHATEVER THE INPUT: true; the input reads as it did. -/
def wordFineWilfSpec : ChangeSpec := { name := "wordFineWilf", fn := fun _ => fun
  | [d1, d2] => { results := [.lit (.bool true)], args := [d1, d2] }
  | _ => none }
def wordFineWilfRow : OpenClaim := { program := "ytjkajepkeepelaa", sum := "fbbf845ff9f5099e84f0a30440e7def3450e1c619aac9fa6f60e55c0d9411081", func := "eggbox/eggboxlaw01.WordFineWilf", spec := "wordFineWilf", unfollowed := true, recurses := true, apart := false }
def WordFineWilfSaid : Prop := wordFineWilfRow.holds Try.pinned (OpenSpec.ofChange wordFineWilfSpec)

/-- ITS FALSE NEIGHBOUR: 'it returns false'. Refute it at one input. -/
def wordFineWilfWrong : ChangeSpec := { name := "wordFineWilf", fn := fun _ => fun
  | [d1, d2] => { results := [.lit (.bool false)], args := [d1, d2] }
  | _ => none }
def WordFineWilfWrongFalsely : Prop := wordFineWilfRow.holds Try.pinned (OpenSpec.ofChange wordFineWilfWrong)

/-- 'eggboxlaw01.WordPeriods': WHATEVER THE INPUT: true; the input reads as it did. -/
def wordPeriodsSpec : ChangeSpec := { name := "wordPeriods", fn := fun _ => fun
  | [d1, d2] => { results := [.lit (.bool true)], args := [d1, d2] }
  | _ => none }
def wordPeriodsRow : OpenClaim := { program := "ytjkajepkeepelaa", sum := "fbbf845ff9f5099e84f0a30440e7def3450e1c619aac9fa6f60e55c0d9411081", func := "eggbox/eggboxlaw01.WordPeriods", spec := "wordPeriods", unfollowed := true, recurses := true, apart := false }
def WordPeriodsSaid : Prop := wordPeriodsRow.holds Try.pinned (OpenSpec.ofChange wordPeriodsSpec)

/-- ITS FALSE NEIGHBOUR: 'it returns false'. Refute it at one input. -/
def wordPeriodsWrong : ChangeSpec := { name := "wordPeriods", fn := fun _ => fun
  | [d1, d2] => { results := [.lit (.bool false)], args := [d1, d2] }
  | _ => none }
def WordPeriodsWrongFalsely : Prop := wordPeriodsRow.holds Try.pinned (OpenSpec.ofChange wordPeriodsWrong)

/-- 'eggboxlaw01.WordCommutes': WHATEVER THE INPUT: true; the input reads as it did. -/
def wordCommutesSpec : ChangeSpec := { name := "wordCommutes", fn := fun _ => fun
  | [d1, d2, d3] => { results := [.lit (.bool true)], args := [d1, d2, d3] }
  | _ => none }
def wordCommutesRow : OpenClaim := { program := "ytjkajepkeepelaa", sum := "fbbf845ff9f5099e84f0a30440e7def3450e1c619aac9fa6f60e55c0d9411081", func := "eggbox/eggboxlaw01.WordCommutes", spec := "wordCommutes", unfollowed := true, recurses := true, apart := false }
def WordCommutesSaid : Prop := wordCommutesRow.holds Try.pinned (OpenSpec.ofChange wordCommutesSpec)

/-- ITS FALSE NEIGHBOUR: 'it returns false'. Refute it at one input. -/
def wordCommutesWrong : ChangeSpec := { name := "wordCommutes", fn := fun _ => fun
  | [d1, d2, d3] => { results := [.lit (.bool false)], args := [d1, d2, d3] }
  | _ => none }
def WordCommutesWrongFalsely : Prop := wordCommutesRow.holds Try.pinned (OpenSpec.ofChange wordCommutesWrong)

/-- 'eggboxlaw01.WordOrders': WHATEVER THE INPUT: true; the input reads as it did. -/
def wordOrdersSpec : ChangeSpec := { name := "wordOrders", fn := fun _ => fun
  | [d1, d2, d3] => { results := [.lit (.bool true)], args := [d1, d2, d3] }
  | _ => none }
def wordOrdersRow : OpenClaim := { program := "ytjkajepkeepelaa", sum := "fbbf845ff9f5099e84f0a30440e7def3450e1c619aac9fa6f60e55c0d9411081", func := "eggbox/eggboxlaw01.WordOrders", spec := "wordOrders", inPlace := ["internal/bytealg.abigen_runtime_cmpstring"], unfollowed := true, recurses := true, apart := false }
def WordOrdersSaid : Prop := wordOrdersRow.holds Try.pinned (OpenSpec.ofChange wordOrdersSpec)

/-- ITS FALSE NEIGHBOUR: 'it returns false'. Refute it at one input. -/
def wordOrdersWrong : ChangeSpec := { name := "wordOrders", fn := fun _ => fun
  | [d1, d2, d3] => { results := [.lit (.bool false)], args := [d1, d2, d3] }
  | _ => none }
def WordOrdersWrongFalsely : Prop := wordOrdersRow.holds Try.pinned (OpenSpec.ofChange wordOrdersWrong)

/-- 'eggboxlaw01.WordTurns': WHATEVER THE INPUT: true; the input reads as it did. -/
def wordTurnsSpec : ChangeSpec := { name := "wordTurns", fn := fun _ => fun
  | [d1, d2, d3] => { results := [.lit (.bool true)], args := [d1, d2, d3] }
  | _ => none }
def wordTurnsRow : OpenClaim := { program := "ytjkajepkeepelaa", sum := "fbbf845ff9f5099e84f0a30440e7def3450e1c619aac9fa6f60e55c0d9411081", func := "eggbox/eggboxlaw01.WordTurns", spec := "wordTurns", unfollowed := true, recurses := true, apart := false }
def WordTurnsSaid : Prop := wordTurnsRow.holds Try.pinned (OpenSpec.ofChange wordTurnsSpec)

/-- ITS FALSE NEIGHBOUR: 'it returns false'. Refute it at one input. -/
def wordTurnsWrong : ChangeSpec := { name := "wordTurns", fn := fun _ => fun
  | [d1, d2, d3] => { results := [.lit (.bool false)], args := [d1, d2, d3] }
  | _ => none }
def WordTurnsWrongFalsely : Prop := wordTurnsRow.holds Try.pinned (OpenSpec.ofChange wordTurnsWrong)

/-- 'eggboxlaw01.WordRoots': WHATEVER THE INPUT: true; the input reads as it did. -/
def wordRootsSpec : ChangeSpec := { name := "wordRoots", fn := fun _ => fun
  | [d1, d2, d3] => { results := [.lit (.bool true)], args := [d1, d2, d3] }
  | _ => none }
def wordRootsRow : OpenClaim := { program := "ytjkajepkeepelaa", sum := "fbbf845ff9f5099e84f0a30440e7def3450e1c619aac9fa6f60e55c0d9411081", func := "eggbox/eggboxlaw01.WordRoots", spec := "wordRoots", unfollowed := true, recurses := true, apart := false }
def WordRootsSaid : Prop := wordRootsRow.holds Try.pinned (OpenSpec.ofChange wordRootsSpec)

/-- ITS FALSE NEIGHBOUR: 'it returns false'. Refute it at one input. -/
def wordRootsWrong : ChangeSpec := { name := "wordRoots", fn := fun _ => fun
  | [d1, d2, d3] => { results := [.lit (.bool false)], args := [d1, d2, d3] }
  | _ => none }
def WordRootsWrongFalsely : Prop := wordRootsRow.holds Try.pinned (OpenSpec.ofChange wordRootsWrong)

/-- 'eggboxlaw01.WordRank': WHATEVER THE INPUT: true; the input reads as it did. -/
def wordRankSpec : ChangeSpec := { name := "wordRank", fn := fun _ => fun
  | [d1, d2, d3, d4] => { results := [.lit (.bool true)], args := [d1, d2, d3, d4] }
  | _ => none }
def wordRankRow : OpenClaim := { program := "ytjkajepkeepelaa", sum := "fbbf845ff9f5099e84f0a30440e7def3450e1c619aac9fa6f60e55c0d9411081", func := "eggbox/eggboxlaw01.WordRank", spec := "wordRank", unfollowed := true, recurses := true, apart := false }
def WordRankSaid : Prop := wordRankRow.holds Try.pinned (OpenSpec.ofChange wordRankSpec)

/-- ITS FALSE NEIGHBOUR: 'it returns false'. Refute it at one input. -/
def wordRankWrong : ChangeSpec := { name := "wordRank", fn := fun _ => fun
  | [d1, d2, d3, d4] => { results := [.lit (.bool false)], args := [d1, d2, d3, d4] }
  | _ => none }
def WordRankWrongFalsely : Prop := wordRankRow.holds Try.pinned (OpenSpec.ofChange wordRankWrong)

/-- 'eggboxlaw01.WordPowers': WHATEVER THE INPUT: true; the input reads as it did. -/
def wordPowersSpec : ChangeSpec := { name := "wordPowers", fn := fun _ => fun
  | [d1, d2, d3] => { results := [.lit (.bool true)], args := [d1, d2, d3] }
  | _ => none }
def wordPowersRow : OpenClaim := { program := "ytjkajepkeepelaa", sum := "fbbf845ff9f5099e84f0a30440e7def3450e1c619aac9fa6f60e55c0d9411081", func := "eggbox/eggboxlaw01.WordPowers", spec := "wordPowers", inPlace := ["internal/abi.NoEscape", "internal/bytealg.MakeNoZero"], unfollowed := true, recurses := true, apart := false }
def WordPowersSaid : Prop := wordPowersRow.holds Try.pinned (OpenSpec.ofChange wordPowersSpec)

/-- ITS FALSE NEIGHBOUR: 'it returns false'. Refute it at one input. -/
def wordPowersWrong : ChangeSpec := { name := "wordPowers", fn := fun _ => fun
  | [d1, d2, d3] => { results := [.lit (.bool false)], args := [d1, d2, d3] }
  | _ => none }
def WordPowersWrongFalsely : Prop := wordPowersRow.holds Try.pinned (OpenSpec.ofChange wordPowersWrong)

/-- 'eggboxlaw01.WordNumbers': WHATEVER THE INPUT: true; the input reads as it did. -/
def wordNumbersSpec : ChangeSpec := { name := "wordNumbers", fn := fun _ => fun
  | [d1, d2, d3] => { results := [.lit (.bool true)], args := [d1, d2, d3] }
  | _ => none }
def wordNumbersRow : OpenClaim := { program := "ytjkajepkeepelaa", sum := "fbbf845ff9f5099e84f0a30440e7def3450e1c619aac9fa6f60e55c0d9411081", func := "eggbox/eggboxlaw01.WordNumbers", spec := "wordNumbers", inPlace := ["internal/abi.NoEscape", "internal/bytealg.MakeNoZero"], unfollowed := true, recurses := true, apart := false }
def WordNumbersSaid : Prop := wordNumbersRow.holds Try.pinned (OpenSpec.ofChange wordNumbersSpec)

/-- ITS FALSE NEIGHBOUR: 'it returns false'. Refute it at one input. -/
def wordNumbersWrong : ChangeSpec := { name := "wordNumbers", fn := fun _ => fun
  | [d1, d2, d3] => { results := [.lit (.bool false)], args := [d1, d2, d3] }
  | _ => none }
def WordNumbersWrongFalsely : Prop := wordNumbersRow.holds Try.pinned (OpenSpec.ofChange wordNumbersWrong)

/- THE SECOND FORM. 'bulk': how many values and letters a reading holds, each counted each time it is reached (what is shared counts as often as it is met; a slice's spare places count too). A statement '..UptoSaid' is the law's where the arguments, and the package variables that the reading takes, are together of bulk at most 1048576: NARROWER than '..Said'. Prove '..Said' where nothing that the law and all that it calls make is longer than what came in: it says more and counts as full. Else prove '..UptoSaid'. A law counts once. -/
mutual
def uptoBulk {H : Type} : DataW H → Nat
  | .lit (.string bytes) => bytes.length + 1
  | .lit _ => 1
  | .nil => 1
  | .ptr d => uptoBulk d + 1
  | .slice elems spare => uptoBulkAll elems + uptoBulkAll spare + 1
  | .agg parts => uptoBulkAll parts + 1
  | .iface _ d => uptoBulk d + 1
  | .map entries => uptoBulkEntries entries + 1
  | .held _ => 1
def uptoBulkAll {H : Type} : List (DataW H) → Nat
  | [] => 0
  | d :: r => uptoBulk d + uptoBulkAll r
def uptoBulkEntries {H : Type} : List (Lit × DataW H) → Nat
  | [] => 0
  | x :: r => uptoBulkEntry x + uptoBulkEntries r
def uptoBulkEntry {H : Type} : Lit × DataW H → Nat
  | (.string bytes, d) => bytes.length + uptoBulk d + 1
  | (_, d) => uptoBulk d + 1
 end
def uptoSmall : (H : Type) → List (DataW H) → Bool := fun _ ds => decide (uptoBulkAll ds ≤ 1048576)
def OpenSpec.upto (s : _root_.Go.ChangeSpec) : _root_.Go.OpenSpec := { _root_.Go.OpenSpec.ofChange s with cond := some uptoSmall }

/-- 'eggboxlaw01.WordFineWilf', WHERE WHAT IT READS IS OF BULK AT MOST 1048576: true; the input reads as it did. -/
def wordFineWilfUptoRow : OpenClaim := { program := "ytjkajepkeepelaa", sum := "fbbf845ff9f5099e84f0a30440e7def3450e1c619aac9fa6f60e55c0d9411081", func := "eggbox/eggboxlaw01.WordFineWilf", spec := "wordFineWilf", unfollowed := true, recurses := true, apart := false, narrowed := true }
def WordFineWilfUptoSaid : Prop := wordFineWilfUptoRow.holds Try.pinned (OpenSpec.upto wordFineWilfSpec)

/-- 'eggboxlaw01.WordPeriods', WHERE WHAT IT READS IS OF BULK AT MOST 1048576: true; the input reads as it did. -/
def wordPeriodsUptoRow : OpenClaim := { program := "ytjkajepkeepelaa", sum := "fbbf845ff9f5099e84f0a30440e7def3450e1c619aac9fa6f60e55c0d9411081", func := "eggbox/eggboxlaw01.WordPeriods", spec := "wordPeriods", unfollowed := true, recurses := true, apart := false, narrowed := true }
def WordPeriodsUptoSaid : Prop := wordPeriodsUptoRow.holds Try.pinned (OpenSpec.upto wordPeriodsSpec)

/-- 'eggboxlaw01.WordCommutes', WHERE WHAT IT READS IS OF BULK AT MOST 1048576: true; the input reads as it did. -/
def wordCommutesUptoRow : OpenClaim := { program := "ytjkajepkeepelaa", sum := "fbbf845ff9f5099e84f0a30440e7def3450e1c619aac9fa6f60e55c0d9411081", func := "eggbox/eggboxlaw01.WordCommutes", spec := "wordCommutes", unfollowed := true, recurses := true, apart := false, narrowed := true }
def WordCommutesUptoSaid : Prop := wordCommutesUptoRow.holds Try.pinned (OpenSpec.upto wordCommutesSpec)

/-- 'eggboxlaw01.WordOrders', WHERE WHAT IT READS IS OF BULK AT MOST 1048576: true; the input reads as it did. -/
def wordOrdersUptoRow : OpenClaim := { program := "ytjkajepkeepelaa", sum := "fbbf845ff9f5099e84f0a30440e7def3450e1c619aac9fa6f60e55c0d9411081", func := "eggbox/eggboxlaw01.WordOrders", spec := "wordOrders", inPlace := ["internal/bytealg.abigen_runtime_cmpstring"], unfollowed := true, recurses := true, apart := false, narrowed := true }
def WordOrdersUptoSaid : Prop := wordOrdersUptoRow.holds Try.pinned (OpenSpec.upto wordOrdersSpec)

/-- 'eggboxlaw01.WordTurns', WHERE WHAT IT READS IS OF BULK AT MOST 1048576: true; the input reads as it did. -/
def wordTurnsUptoRow : OpenClaim := { program := "ytjkajepkeepelaa", sum := "fbbf845ff9f5099e84f0a30440e7def3450e1c619aac9fa6f60e55c0d9411081", func := "eggbox/eggboxlaw01.WordTurns", spec := "wordTurns", unfollowed := true, recurses := true, apart := false, narrowed := true }
def WordTurnsUptoSaid : Prop := wordTurnsUptoRow.holds Try.pinned (OpenSpec.upto wordTurnsSpec)

/-- 'eggboxlaw01.WordRoots', WHERE WHAT IT READS IS OF BULK AT MOST 1048576: true; the input reads as it did. -/
def wordRootsUptoRow : OpenClaim := { program := "ytjkajepkeepelaa", sum := "fbbf845ff9f5099e84f0a30440e7def3450e1c619aac9fa6f60e55c0d9411081", func := "eggbox/eggboxlaw01.WordRoots", spec := "wordRoots", unfollowed := true, recurses := true, apart := false, narrowed := true }
def WordRootsUptoSaid : Prop := wordRootsUptoRow.holds Try.pinned (OpenSpec.upto wordRootsSpec)

/-- 'eggboxlaw01.WordRank', WHERE WHAT IT READS IS OF BULK AT MOST 1048576: true; the input reads as it did. -/
def wordRankUptoRow : OpenClaim := { program := "ytjkajepkeepelaa", sum := "fbbf845ff9f5099e84f0a30440e7def3450e1c619aac9fa6f60e55c0d9411081", func := "eggbox/eggboxlaw01.WordRank", spec := "wordRank", unfollowed := true, recurses := true, apart := false, narrowed := true }
def WordRankUptoSaid : Prop := wordRankUptoRow.holds Try.pinned (OpenSpec.upto wordRankSpec)

/-- 'eggboxlaw01.WordPowers', WHERE WHAT IT READS IS OF BULK AT MOST 1048576: true; the input reads as it did. -/
def wordPowersUptoRow : OpenClaim := { program := "ytjkajepkeepelaa", sum := "fbbf845ff9f5099e84f0a30440e7def3450e1c619aac9fa6f60e55c0d9411081", func := "eggbox/eggboxlaw01.WordPowers", spec := "wordPowers", inPlace := ["internal/abi.NoEscape", "internal/bytealg.MakeNoZero"], unfollowed := true, recurses := true, apart := false, narrowed := true }
def WordPowersUptoSaid : Prop := wordPowersUptoRow.holds Try.pinned (OpenSpec.upto wordPowersSpec)

/-- 'eggboxlaw01.WordNumbers', WHERE WHAT IT READS IS OF BULK AT MOST 1048576: true; the input reads as it did. -/
def wordNumbersUptoRow : OpenClaim := { program := "ytjkajepkeepelaa", sum := "fbbf845ff9f5099e84f0a30440e7def3450e1c619aac9fa6f60e55c0d9411081", func := "eggbox/eggboxlaw01.WordNumbers", spec := "wordNumbers", inPlace := ["internal/abi.NoEscape", "internal/bytealg.MakeNoZero"], unfollowed := true, recurses := true, apart := false, narrowed := true }
def WordNumbersUptoSaid : Prop := wordNumbersUptoRow.holds Try.pinned (OpenSpec.upto wordNumbersSpec)

end Rows
end Go.Proofs.Ytjkajepkeepelaa
