/-
  No cell of these rows narrows 'for every input' (looked for: loops, veiled, ifaces, maps, wideKeys, modest, calm, conditions, laid).
  DERIVED. THE GIVEN ROWS OF THIS SEAT. 9 by the template 'for every input the law returns true; each argument reads behind the call as it read before'; 0 by the template 'total and deterministic' (their statements: YtcnnlddjnmkioaaTotals.lean).
  GIVEN WITH THE SEED: the statements are not yours to turn. If you find one false, say at which input.
  Laid BY PROGRAM, IN A SANDBOX (cutbox-rows.mjs): the forced cells as the released guide's own fill.sh prints them over the translation 467effaf62f13cc3… (all of the seat's roots in one cut). By AI agents, Wed Nov 11 2026. No macro, syntax, notation, axiom, sorry.
-/
import Derived.Test.YtcnnlddjnmkioaaChecked
import GoSem.Claim
import GoSem.ClaimJoined
import GoSem.ClaimMapViews
import Derived.JoinedTies
import Derived.KernelRfl
namespace Go.Proofs.Ytcnnlddjnmkioaa
/- THE CELL 'sum', in the pinned program and in every row, IS THE sha256 OF THE DUMP (.gsa) THAT YtcnnlddjnmkioaaProg.lean LOADS. Nothing in Lean hashes anything: it is a label: what it is worth is what the hold of that sum in a sandbox is worth. -/
noncomputable def Try.pinned : Pinned := { name := "ytcnnlddjnmkioaa", sum := "467effaf62f13cc3017cb0af3920ea302ac8f667f66e51f69792da147d027542", checked := Try.checked }
namespace Rows
def none {H : Type} : Left H := { results := [], args := [] }

/-- 'eggboxlaw14.MonoidLeast': WHATEVER THE INPUT: true; the input reads as it did. -/
def monoidLeastSpec : ChangeSpec := { name := "monoidLeast", fn := fun _ => fun
  | [d1, d2, d3, d4] => { results := [.lit (.bool true)], args := [d1, d2, d3, d4] }
  | _ => none }
def monoidLeastRow : OpenClaim := { program := "ytcnnlddjnmkioaa", sum := "467effaf62f13cc3017cb0af3920ea302ac8f667f66e51f69792da147d027542", func := "eggbox/eggboxlaw14.MonoidLeast", spec := "monoidLeast", inPlace := ["internal/bytealg.abigen_runtime_cmpstring"], plainKeys := false, apart := false }
def MonoidLeastSaid : Prop := monoidLeastRow.holds Try.pinned (OpenSpec.ofChange monoidLeastSpec)

/-- ITS FALSE NEIGHBOUR: 'it returns false'. Refute it at one input. -/
def monoidLeastWrong : ChangeSpec := { name := "monoidLeast", fn := fun _ => fun
  | [d1, d2, d3, d4] => { results := [.lit (.bool false)], args := [d1, d2, d3, d4] }
  | _ => none }
def MonoidLeastWrongFalsely : Prop := monoidLeastRow.holds Try.pinned (OpenSpec.ofChange monoidLeastWrong)

/-- 'eggboxlaw14.MonoidProducts': WHATEVER THE INPUT: true; the input reads as it did. -/
def monoidProductsSpec : ChangeSpec := { name := "monoidProducts", fn := fun _ => fun
  | [d1, d2, d3, d4] => { results := [.lit (.bool true)], args := [d1, d2, d3, d4] }
  | _ => none }
def monoidProductsRow : OpenClaim := { program := "ytcnnlddjnmkioaa", sum := "467effaf62f13cc3017cb0af3920ea302ac8f667f66e51f69792da147d027542", func := "eggbox/eggboxlaw14.MonoidProducts", spec := "monoidProducts", unfollowed := true, recurses := true, plainKeys := false, apart := false }
def MonoidProductsSaid : Prop := monoidProductsRow.holds Try.pinned (OpenSpec.ofChange monoidProductsSpec)

/-- ITS FALSE NEIGHBOUR: 'it returns false'. Refute it at one input. -/
def monoidProductsWrong : ChangeSpec := { name := "monoidProducts", fn := fun _ => fun
  | [d1, d2, d3, d4] => { results := [.lit (.bool false)], args := [d1, d2, d3, d4] }
  | _ => none }
def MonoidProductsWrongFalsely : Prop := monoidProductsRow.holds Try.pinned (OpenSpec.ofChange monoidProductsWrong)

/-- 'eggboxlaw14.MonoidRules': WHATEVER THE INPUT: true; the input reads as it did. -/
def monoidRulesSpec : ChangeSpec := { name := "monoidRules", fn := fun _ => fun
  | [d] => { results := [.lit (.bool true)], args := [d] }
  | _ => none }
def monoidRulesRow : OpenClaim := { program := "ytcnnlddjnmkioaa", sum := "467effaf62f13cc3017cb0af3920ea302ac8f667f66e51f69792da147d027542", func := "eggbox/eggboxlaw14.MonoidRules", spec := "monoidRules", unfollowed := true, recurses := true, plainKeys := false, apart := false }
def MonoidRulesSaid : Prop := monoidRulesRow.holds Try.pinned (OpenSpec.ofChange monoidRulesSpec)

/-- ITS FALSE NEIGHBOUR: 'it returns false'. Refute it at one input. -/
def monoidRulesWrong : ChangeSpec := { name := "monoidRules", fn := fun _ => fun
  | [d] => { results := [.lit (.bool false)], args := [d] }
  | _ => none }
def MonoidRulesWrongFalsely : Prop := monoidRulesRow.holds Try.pinned (OpenSpec.ofChange monoidRulesWrong)

/-- 'eggboxlaw14.MonoidRewrites': WHATEVER THE INPUT: true; the input reads as it did. -/
def monoidRewritesSpec : ChangeSpec := { name := "monoidRewrites", fn := fun _ => fun
  | [d1, d2, d3] => { results := [.lit (.bool true)], args := [d1, d2, d3] }
  | _ => none }
def monoidRewritesRow : OpenClaim := { program := "ytcnnlddjnmkioaa", sum := "467effaf62f13cc3017cb0af3920ea302ac8f667f66e51f69792da147d027542", func := "eggbox/eggboxlaw14.MonoidRewrites", spec := "monoidRewrites", inPlace := ["internal/bytealg.abigen_runtime_cmpstring"], unfollowed := true, recurses := true, plainKeys := false, apart := false }
def MonoidRewritesSaid : Prop := monoidRewritesRow.holds Try.pinned (OpenSpec.ofChange monoidRewritesSpec)

/-- ITS FALSE NEIGHBOUR: 'it returns false'. Refute it at one input. -/
def monoidRewritesWrong : ChangeSpec := { name := "monoidRewrites", fn := fun _ => fun
  | [d1, d2, d3] => { results := [.lit (.bool false)], args := [d1, d2, d3] }
  | _ => none }
def MonoidRewritesWrongFalsely : Prop := monoidRewritesRow.holds Try.pinned (OpenSpec.ofChange monoidRewritesWrong)

/-- 'eggboxlaw14.MonoidMade': WHATEVER THE INPUT: true; the input reads as it did. -/
def monoidMadeSpec : ChangeSpec := { name := "monoidMade", fn := fun _ => fun
  | [d1, d2, d3] => { results := [.lit (.bool true)], args := [d1, d2, d3] }
  | _ => none }
def monoidMadeRow : OpenClaim := { program := "ytcnnlddjnmkioaa", sum := "467effaf62f13cc3017cb0af3920ea302ac8f667f66e51f69792da147d027542", func := "eggbox/eggboxlaw14.MonoidMade", spec := "monoidMade", plainKeys := false, apart := false }
def MonoidMadeSaid : Prop := monoidMadeRow.holds Try.pinned (OpenSpec.ofChange monoidMadeSpec)

/-- ITS FALSE NEIGHBOUR: 'it returns false'. Refute it at one input. -/
def monoidMadeWrong : ChangeSpec := { name := "monoidMade", fn := fun _ => fun
  | [d1, d2, d3] => { results := [.lit (.bool false)], args := [d1, d2, d3] }
  | _ => none }
def MonoidMadeWrongFalsely : Prop := monoidMadeRow.holds Try.pinned (OpenSpec.ofChange monoidMadeWrong)

/-- 'eggboxlaw14.MonoidTables': WHATEVER THE INPUT: true; the input reads as it did. -/
def monoidTablesSpec : ChangeSpec := { name := "monoidTables", fn := fun _ => fun
  | [d1, d2, d3, d4] => { results := [.lit (.bool true)], args := [d1, d2, d3, d4] }
  | _ => none }
def monoidTablesRow : OpenClaim := { program := "ytcnnlddjnmkioaa", sum := "467effaf62f13cc3017cb0af3920ea302ac8f667f66e51f69792da147d027542", func := "eggbox/eggboxlaw14.MonoidTables", spec := "monoidTables", unfollowed := true, recurses := true, plainKeys := false, apart := false }
def MonoidTablesSaid : Prop := monoidTablesRow.holds Try.pinned (OpenSpec.ofChange monoidTablesSpec)

/-- ITS FALSE NEIGHBOUR: 'it returns false'. Refute it at one input. -/
def monoidTablesWrong : ChangeSpec := { name := "monoidTables", fn := fun _ => fun
  | [d1, d2, d3, d4] => { results := [.lit (.bool false)], args := [d1, d2, d3, d4] }
  | _ => none }
def MonoidTablesWrongFalsely : Prop := monoidTablesRow.holds Try.pinned (OpenSpec.ofChange monoidTablesWrong)

/-- 'eggboxlaw14.MonoidElements': WHATEVER THE INPUT: true; the input reads as it did. -/
def monoidElementsSpec : ChangeSpec := { name := "monoidElements", fn := fun _ => fun
  | [d1, d2, d3, d4] => { results := [.lit (.bool true)], args := [d1, d2, d3, d4] }
  | _ => none }
def monoidElementsRow : OpenClaim := { program := "ytcnnlddjnmkioaa", sum := "467effaf62f13cc3017cb0af3920ea302ac8f667f66e51f69792da147d027542", func := "eggbox/eggboxlaw14.MonoidElements", spec := "monoidElements", plainKeys := false, apart := false }
def MonoidElementsSaid : Prop := monoidElementsRow.holds Try.pinned (OpenSpec.ofChange monoidElementsSpec)

/-- ITS FALSE NEIGHBOUR: 'it returns false'. Refute it at one input. -/
def monoidElementsWrong : ChangeSpec := { name := "monoidElements", fn := fun _ => fun
  | [d1, d2, d3, d4] => { results := [.lit (.bool false)], args := [d1, d2, d3, d4] }
  | _ => none }
def MonoidElementsWrongFalsely : Prop := monoidElementsRow.holds Try.pinned (OpenSpec.ofChange monoidElementsWrong)

/-- 'eggboxlaw14.MonoidNil': WHATEVER THE INPUT: true; the input reads as it did. -/
def monoidNilSpec : ChangeSpec := { name := "monoidNil", fn := fun _ => fun
  | [] => { results := [.lit (.bool true)], args := [] }
  | _ => none }
def monoidNilRow : OpenClaim := { program := "ytcnnlddjnmkioaa", sum := "467effaf62f13cc3017cb0af3920ea302ac8f667f66e51f69792da147d027542", func := "eggbox/eggboxlaw14.MonoidNil", spec := "monoidNil", unfollowed := true, recurses := true, plainKeys := false, apart := false }
def MonoidNilSaid : Prop := monoidNilRow.holds Try.pinned (OpenSpec.ofChange monoidNilSpec)

/-- ITS FALSE NEIGHBOUR: 'it returns false'. Refute it at one input. -/
def monoidNilWrong : ChangeSpec := { name := "monoidNil", fn := fun _ => fun
  | [] => { results := [.lit (.bool false)], args := [] }
  | _ => none }
def MonoidNilWrongFalsely : Prop := monoidNilRow.holds Try.pinned (OpenSpec.ofChange monoidNilWrong)

/-- 'eggboxlaw14.MonoidSyntactic': WHATEVER THE INPUT: true; the input reads as it did. -/
def monoidSyntacticSpec : ChangeSpec := { name := "monoidSyntactic", fn := fun _ => fun
  | [d1, d2, d3, d4, d5] => { results := [.lit (.bool true)], args := [d1, d2, d3, d4, d5] }
  | _ => none }
def monoidSyntacticRow : OpenClaim := { program := "ytcnnlddjnmkioaa", sum := "467effaf62f13cc3017cb0af3920ea302ac8f667f66e51f69792da147d027542", func := "eggbox/eggboxlaw14.MonoidSyntactic", spec := "monoidSyntactic", plainKeys := false, apart := false }
def MonoidSyntacticSaid : Prop := monoidSyntacticRow.holds Try.pinned (OpenSpec.ofChange monoidSyntacticSpec)

/-- ITS FALSE NEIGHBOUR: 'it returns false'. Refute it at one input. -/
def monoidSyntacticWrong : ChangeSpec := { name := "monoidSyntactic", fn := fun _ => fun
  | [d1, d2, d3, d4, d5] => { results := [.lit (.bool false)], args := [d1, d2, d3, d4, d5] }
  | _ => none }
def MonoidSyntacticWrongFalsely : Prop := monoidSyntacticRow.holds Try.pinned (OpenSpec.ofChange monoidSyntacticWrong)

/- THE SECOND FORM. 'bulk': how many values and letters a reading holds, each counted each time it is reached (what is shared counts as often as it is met; a slice's spare places count too). A statement '..UptoSaid' is the law's where the arguments, and the package variables that the reading takes, are together of bulk at most 1048576: NARROWER than '..Said'. Prove '..Said' where nothing that the law and all that it calls make is longer than what came in: it says more and counts as full. Else prove '..UptoSaid'. A law counts once. -/
mutual
def uptoBulk {H : Type} : DataW H → Nat
  | .lit (.string bytes) => bytes.length + 1
  | .lit _ => 1
  | .nil => 1
  | .ptr d => uptoBulk d + 1
  | .slice elems spare => uptoBulkAll elems + uptoBulkAll spare + 1
  | .agg parts => uptoBulkAll parts + 1
  | .iface _ d => uptoBulk d + 1
  | .map entries => uptoBulkEntries entries + 1
  | .held _ => 1
def uptoBulkAll {H : Type} : List (DataW H) → Nat
  | [] => 0
  | d :: r => uptoBulk d + uptoBulkAll r
def uptoBulkEntries {H : Type} : List (Lit × DataW H) → Nat
  | [] => 0
  | x :: r => uptoBulkEntry x + uptoBulkEntries r
def uptoBulkEntry {H : Type} : Lit × DataW H → Nat
  | (.string bytes, d) => bytes.length + uptoBulk d + 1
  | (_, d) => uptoBulk d + 1
 end
def uptoSmall : (H : Type) → List (DataW H) → Bool := fun _ ds => decide (uptoBulkAll ds ≤ 1048576)
def OpenSpec.upto (s : _root_.Go.ChangeSpec) : _root_.Go.OpenSpec := { _root_.Go.OpenSpec.ofChange s with cond := some uptoSmall }

/-- 'eggboxlaw14.MonoidLeast', WHERE WHAT IT READS IS OF BULK AT MOST 1048576: true; the input reads as it did. -/
def monoidLeastUptoRow : OpenClaim := { program := "ytcnnlddjnmkioaa", sum := "467effaf62f13cc3017cb0af3920ea302ac8f667f66e51f69792da147d027542", func := "eggbox/eggboxlaw14.MonoidLeast", spec := "monoidLeast", inPlace := ["internal/bytealg.abigen_runtime_cmpstring"], plainKeys := false, apart := false, narrowed := true }
def MonoidLeastUptoSaid : Prop := monoidLeastUptoRow.holds Try.pinned (OpenSpec.upto monoidLeastSpec)

/-- 'eggboxlaw14.MonoidProducts', WHERE WHAT IT READS IS OF BULK AT MOST 1048576: true; the input reads as it did. -/
def monoidProductsUptoRow : OpenClaim := { program := "ytcnnlddjnmkioaa", sum := "467effaf62f13cc3017cb0af3920ea302ac8f667f66e51f69792da147d027542", func := "eggbox/eggboxlaw14.MonoidProducts", spec := "monoidProducts", unfollowed := true, recurses := true, plainKeys := false, apart := false, narrowed := true }
def MonoidProductsUptoSaid : Prop := monoidProductsUptoRow.holds Try.pinned (OpenSpec.upto monoidProductsSpec)

/-- 'eggboxlaw14.MonoidRules', WHERE WHAT IT READS IS OF BULK AT MOST 1048576: true; the input reads as it did. -/
def monoidRulesUptoRow : OpenClaim := { program := "ytcnnlddjnmkioaa", sum := "467effaf62f13cc3017cb0af3920ea302ac8f667f66e51f69792da147d027542", func := "eggbox/eggboxlaw14.MonoidRules", spec := "monoidRules", unfollowed := true, recurses := true, plainKeys := false, apart := false, narrowed := true }
def MonoidRulesUptoSaid : Prop := monoidRulesUptoRow.holds Try.pinned (OpenSpec.upto monoidRulesSpec)

/-- 'eggboxlaw14.MonoidRewrites', WHERE WHAT IT READS IS OF BULK AT MOST 1048576: true; the input reads as it did. -/
def monoidRewritesUptoRow : OpenClaim := { program := "ytcnnlddjnmkioaa", sum := "467effaf62f13cc3017cb0af3920ea302ac8f667f66e51f69792da147d027542", func := "eggbox/eggboxlaw14.MonoidRewrites", spec := "monoidRewrites", inPlace := ["internal/bytealg.abigen_runtime_cmpstring"], unfollowed := true, recurses := true, plainKeys := false, apart := false, narrowed := true }
def MonoidRewritesUptoSaid : Prop := monoidRewritesUptoRow.holds Try.pinned (OpenSpec.upto monoidRewritesSpec)

/-- 'eggboxlaw14.MonoidMade', WHERE WHAT IT READS IS OF BULK AT MOST 1048576: true; the input reads as it did. -/
def monoidMadeUptoRow : OpenClaim := { program := "ytcnnlddjnmkioaa", sum := "467effaf62f13cc3017cb0af3920ea302ac8f667f66e51f69792da147d027542", func := "eggbox/eggboxlaw14.MonoidMade", spec := "monoidMade", plainKeys := false, apart := false, narrowed := true }
def MonoidMadeUptoSaid : Prop := monoidMadeUptoRow.holds Try.pinned (OpenSpec.upto monoidMadeSpec)

/-- 'eggboxlaw14.MonoidTables', WHERE WHAT IT READS IS OF BULK AT MOST 1048576: true; the input reads as it did. -/
def monoidTablesUptoRow : OpenClaim := { program := "ytcnnlddjnmkioaa", sum := "467effaf62f13cc3017cb0af3920ea302ac8f667f66e51f69792da147d027542", func := "eggbox/eggboxlaw14.MonoidTables", spec := "monoidTables", unfollowed := true, recurses := true, plainKeys := false, apart := false, narrowed := true }
def MonoidTablesUptoSaid : Prop := monoidTablesUptoRow.holds Try.pinned (OpenSpec.upto monoidTablesSpec)

/-- 'eggboxlaw14.MonoidElements', WHERE WHAT IT READS IS OF BULK AT MOST 1048576: true; the input reads as it did. -/
def monoidElementsUptoRow : OpenClaim := { program := "ytcnnlddjnmkioaa", sum := "467effaf62f13cc3017cb0af3920ea302ac8f667f66e51f69792da147d027542", func := "eggbox/eggboxlaw14.MonoidElements", spec := "monoidElements", plainKeys := false, apart := false, narrowed := true }
def MonoidElementsUptoSaid : Prop := monoidElementsUptoRow.holds Try.pinned (OpenSpec.upto monoidElementsSpec)

/-- 'eggboxlaw14.MonoidNil', WHERE WHAT IT READS IS OF BULK AT MOST 1048576: true; the input reads as it did. -/
def monoidNilUptoRow : OpenClaim := { program := "ytcnnlddjnmkioaa", sum := "467effaf62f13cc3017cb0af3920ea302ac8f667f66e51f69792da147d027542", func := "eggbox/eggboxlaw14.MonoidNil", spec := "monoidNil", unfollowed := true, recurses := true, plainKeys := false, apart := false, narrowed := true }
def MonoidNilUptoSaid : Prop := monoidNilUptoRow.holds Try.pinned (OpenSpec.upto monoidNilSpec)

/-- 'eggboxlaw14.MonoidSyntactic', WHERE WHAT IT READS IS OF BULK AT MOST 1048576: true; the input reads as it did. -/
def monoidSyntacticUptoRow : OpenClaim := { program := "ytcnnlddjnmkioaa", sum := "467effaf62f13cc3017cb0af3920ea302ac8f667f66e51f69792da147d027542", func := "eggbox/eggboxlaw14.MonoidSyntactic", spec := "monoidSyntactic", plainKeys := false, apart := false, narrowed := true }
def MonoidSyntacticUptoSaid : Prop := monoidSyntacticUptoRow.holds Try.pinned (OpenSpec.upto monoidSyntacticSpec)

end Rows
end Go.Proofs.Ytcnnlddjnmkioaa
