/-
  No cell of these rows narrows 'for every input' (looked for: loops, veiled, ifaces, maps, wideKeys, modest, calm, conditions, laid).
  DERIVED. THE GIVEN ROWS OF THIS SEAT. 8 by the template 'for every input the law returns true; each argument reads behind the call as it read before'; 0 by the template 'total and deterministic' (their statements: YtcbkihhpnndpkaaTotals.lean).
  GIVEN WITH THE SEED: the statements are not yours to turn. If you find one false, say at which input.
  Laid BY PROGRAM, IN A SANDBOX (cutbox-rows.mjs): the forced cells as the released guide's own fill.sh prints them over the translation ef43952d16685853… (all of the seat's roots in one cut). By AI agents, Wed Nov 11 2026. No macro, syntax, notation, axiom, sorry.
-/
import Derived.Test.YtcbkihhpnndpkaaChecked
import GoSem.Claim
import GoSem.ClaimJoined
import GoSem.ClaimMapViews
import Derived.JoinedTies
import Derived.KernelRfl
namespace Go.Proofs.Ytcbkihhpnndpkaa
/- THE CELL 'sum', in the pinned program and in every row, IS THE sha256 OF THE DUMP (.gsa) THAT YtcbkihhpnndpkaaProg.lean LOADS. Nothing in Lean hashes anything: it is a label: what it is worth is what the hold of that sum in a sandbox is worth. -/
noncomputable def Try.pinned : Pinned := { name := "ytcbkihhpnndpkaa", sum := "ef43952d166858534151975a612fd6e8f9f3487cc9ee6d9bc1d2f7605244fa52", checked := Try.checked }
namespace Rows
def none {H : Type} : Left H := { results := [], args := [] }

/-- 'eggboxlaw19.TermsParses': WHATEVER THE INPUT: true; the input reads as it did. -/
def termsParsesSpec : ChangeSpec := { name := "termsParses", fn := fun _ => fun
  | [d] => { results := [.lit (.bool true)], args := [d] }
  | _ => none }
def termsParsesRow : OpenClaim := { program := "ytcbkihhpnndpkaa", sum := "ef43952d166858534151975a612fd6e8f9f3487cc9ee6d9bc1d2f7605244fa52", func := "eggbox/eggboxlaw19.TermsParses", spec := "termsParses", inPlace := ["internal/bytealg.IndexByteString"], unfollowed := true, recurses := true, plainKeys := false, apart := false }
def TermsParsesSaid : Prop := termsParsesRow.holds Try.pinned (OpenSpec.ofChange termsParsesSpec)

/-- ITS FALSE NEIGHBOUR: 'it returns false'. Refute it at one input. -/
def termsParsesWrong : ChangeSpec := { name := "termsParses", fn := fun _ => fun
  | [d] => { results := [.lit (.bool false)], args := [d] }
  | _ => none }
def TermsParsesWrongFalsely : Prop := termsParsesRow.holds Try.pinned (OpenSpec.ofChange termsParsesWrong)

/-- 'eggboxlaw19.TermsBack': WHATEVER THE INPUT: true; the input reads as it did. -/
def termsBackSpec : ChangeSpec := { name := "termsBack", fn := fun _ => fun
  | [d1, d2] => { results := [.lit (.bool true)], args := [d1, d2] }
  | _ => none }
def termsBackRow : OpenClaim := { program := "ytcbkihhpnndpkaa", sum := "ef43952d166858534151975a612fd6e8f9f3487cc9ee6d9bc1d2f7605244fa52", func := "eggbox/eggboxlaw19.TermsBack", spec := "termsBack", inPlace := ["internal/bytealg.IndexByteString"], unfollowed := true, recurses := true, plainKeys := false, apart := false }
def TermsBackSaid : Prop := termsBackRow.holds Try.pinned (OpenSpec.ofChange termsBackSpec)

/-- ITS FALSE NEIGHBOUR: 'it returns false'. Refute it at one input. -/
def termsBackWrong : ChangeSpec := { name := "termsBack", fn := fun _ => fun
  | [d1, d2] => { results := [.lit (.bool false)], args := [d1, d2] }
  | _ => none }
def TermsBackWrongFalsely : Prop := termsBackRow.holds Try.pinned (OpenSpec.ofChange termsBackWrong)

/-- 'eggboxlaw19.TermsPrints': WHATEVER THE INPUT: true; the input reads as it did. -/
def termsPrintsSpec : ChangeSpec := { name := "termsPrints", fn := fun _ => fun
  | [d] => { results := [.lit (.bool true)], args := [d] }
  | _ => none }
def termsPrintsRow : OpenClaim := { program := "ytcbkihhpnndpkaa", sum := "ef43952d166858534151975a612fd6e8f9f3487cc9ee6d9bc1d2f7605244fa52", func := "eggbox/eggboxlaw19.TermsPrints", spec := "termsPrints", inPlace := ["internal/bytealg.IndexByteString"], unfollowed := true, recurses := true, plainKeys := false, apart := false }
def TermsPrintsSaid : Prop := termsPrintsRow.holds Try.pinned (OpenSpec.ofChange termsPrintsSpec)

/-- ITS FALSE NEIGHBOUR: 'it returns false'. Refute it at one input. -/
def termsPrintsWrong : ChangeSpec := { name := "termsPrints", fn := fun _ => fun
  | [d] => { results := [.lit (.bool false)], args := [d] }
  | _ => none }
def TermsPrintsWrongFalsely : Prop := termsPrintsRow.holds Try.pinned (OpenSpec.ofChange termsPrintsWrong)

/-- 'eggboxlaw19.TermsNil': WHATEVER THE INPUT: true; the input reads as it did. -/
def termsNilSpec : ChangeSpec := { name := "termsNil", fn := fun _ => fun
  | [d1, d2] => { results := [.lit (.bool true)], args := [d1, d2] }
  | _ => none }
def termsNilRow : OpenClaim := { program := "ytcbkihhpnndpkaa", sum := "ef43952d166858534151975a612fd6e8f9f3487cc9ee6d9bc1d2f7605244fa52", func := "eggbox/eggboxlaw19.TermsNil", spec := "termsNil", inPlace := ["internal/bytealg.IndexByteString"], unfollowed := true, recurses := true, plainKeys := false, apart := false }
def TermsNilSaid : Prop := termsNilRow.holds Try.pinned (OpenSpec.ofChange termsNilSpec)

/-- ITS FALSE NEIGHBOUR: 'it returns false'. Refute it at one input. -/
def termsNilWrong : ChangeSpec := { name := "termsNil", fn := fun _ => fun
  | [d1, d2] => { results := [.lit (.bool false)], args := [d1, d2] }
  | _ => none }
def TermsNilWrongFalsely : Prop := termsNilRow.holds Try.pinned (OpenSpec.ofChange termsNilWrong)

/-- 'eggboxlaw19.TermsWords': WHATEVER THE INPUT: true; the input reads as it did. -/
def termsWordsSpec : ChangeSpec := { name := "termsWords", fn := fun _ => fun
  | [d1, d2, d3, d4] => { results := [.lit (.bool true)], args := [d1, d2, d3, d4] }
  | _ => none }
def termsWordsRow : OpenClaim := { program := "ytcbkihhpnndpkaa", sum := "ef43952d166858534151975a612fd6e8f9f3487cc9ee6d9bc1d2f7605244fa52", func := "eggbox/eggboxlaw19.TermsWords", spec := "termsWords", inPlace := ["internal/bytealg.IndexByteString", "internal/abi.NoEscape", "internal/bytealg.MakeNoZero"], unfollowed := true, recurses := true, plainKeys := false, apart := false }
def TermsWordsSaid : Prop := termsWordsRow.holds Try.pinned (OpenSpec.ofChange termsWordsSpec)

/-- ITS FALSE NEIGHBOUR: 'it returns false'. Refute it at one input. -/
def termsWordsWrong : ChangeSpec := { name := "termsWords", fn := fun _ => fun
  | [d1, d2, d3, d4] => { results := [.lit (.bool false)], args := [d1, d2, d3, d4] }
  | _ => none }
def TermsWordsWrongFalsely : Prop := termsWordsRow.holds Try.pinned (OpenSpec.ofChange termsWordsWrong)

/-- 'eggboxlaw19.TermsTurned': WHATEVER THE INPUT: true; the input reads as it did. -/
def termsTurnedSpec : ChangeSpec := { name := "termsTurned", fn := fun _ => fun
  | [d1, d2, d3, d4] => { results := [.lit (.bool true)], args := [d1, d2, d3, d4] }
  | _ => none }
def termsTurnedRow : OpenClaim := { program := "ytcbkihhpnndpkaa", sum := "ef43952d166858534151975a612fd6e8f9f3487cc9ee6d9bc1d2f7605244fa52", func := "eggbox/eggboxlaw19.TermsTurned", spec := "termsTurned", inPlace := ["internal/bytealg.IndexByteString", "internal/abi.NoEscape", "internal/bytealg.MakeNoZero"], unfollowed := true, recurses := true, plainKeys := false, apart := false }
def TermsTurnedSaid : Prop := termsTurnedRow.holds Try.pinned (OpenSpec.ofChange termsTurnedSpec)

/-- ITS FALSE NEIGHBOUR: 'it returns false'. Refute it at one input. -/
def termsTurnedWrong : ChangeSpec := { name := "termsTurned", fn := fun _ => fun
  | [d1, d2, d3, d4] => { results := [.lit (.bool false)], args := [d1, d2, d3, d4] }
  | _ => none }
def TermsTurnedWrongFalsely : Prop := termsTurnedRow.holds Try.pinned (OpenSpec.ofChange termsTurnedWrong)

/-- 'eggboxlaw19.TermsValues': WHATEVER THE INPUT: true; the input reads as it did. -/
def termsValuesSpec : ChangeSpec := { name := "termsValues", fn := fun _ => fun
  | [d1, d2, d3] => { results := [.lit (.bool true)], args := [d1, d2, d3] }
  | _ => none }
def termsValuesRow : OpenClaim := { program := "ytcbkihhpnndpkaa", sum := "ef43952d166858534151975a612fd6e8f9f3487cc9ee6d9bc1d2f7605244fa52", func := "eggbox/eggboxlaw19.TermsValues", spec := "termsValues", inPlace := ["internal/bytealg.IndexByteString"], unfollowed := true, recurses := true, plainKeys := false, apart := false }
def TermsValuesSaid : Prop := termsValuesRow.holds Try.pinned (OpenSpec.ofChange termsValuesSpec)

/-- ITS FALSE NEIGHBOUR: 'it returns false'. Refute it at one input. -/
def termsValuesWrong : ChangeSpec := { name := "termsValues", fn := fun _ => fun
  | [d1, d2, d3] => { results := [.lit (.bool false)], args := [d1, d2, d3] }
  | _ => none }
def TermsValuesWrongFalsely : Prop := termsValuesRow.holds Try.pinned (OpenSpec.ofChange termsValuesWrong)

/-- 'eggboxlaw19.TermsMorphism': WHATEVER THE INPUT: true; the input reads as it did. -/
def termsMorphismSpec : ChangeSpec := { name := "termsMorphism", fn := fun _ => fun
  | [d1, d2, d3, d4] => { results := [.lit (.bool true)], args := [d1, d2, d3, d4] }
  | _ => none }
def termsMorphismRow : OpenClaim := { program := "ytcbkihhpnndpkaa", sum := "ef43952d166858534151975a612fd6e8f9f3487cc9ee6d9bc1d2f7605244fa52", func := "eggbox/eggboxlaw19.TermsMorphism", spec := "termsMorphism", inPlace := ["internal/bytealg.IndexByteString", "internal/abi.NoEscape", "internal/bytealg.MakeNoZero"], unfollowed := true, recurses := true, plainKeys := false, apart := false }
def TermsMorphismSaid : Prop := termsMorphismRow.holds Try.pinned (OpenSpec.ofChange termsMorphismSpec)

/-- ITS FALSE NEIGHBOUR: 'it returns false'. Refute it at one input. -/
def termsMorphismWrong : ChangeSpec := { name := "termsMorphism", fn := fun _ => fun
  | [d1, d2, d3, d4] => { results := [.lit (.bool false)], args := [d1, d2, d3, d4] }
  | _ => none }
def TermsMorphismWrongFalsely : Prop := termsMorphismRow.holds Try.pinned (OpenSpec.ofChange termsMorphismWrong)

/- THE SECOND FORM. 'bulk': how many values and letters a reading holds, each counted each time it is reached (what is shared counts as often as it is met; a slice's spare places count too). A statement '..UptoSaid' is the law's where the arguments, and the package variables that the reading takes, are together of bulk at most 1048576: NARROWER than '..Said'. Prove '..Said' where nothing that the law and all that it calls make is longer than what came in: it says more and counts as full. Else prove '..UptoSaid'. A law counts once. -/
mutual
def uptoBulk {H : Type} : DataW H → Nat
  | .lit (.string bytes) => bytes.length + 1
  | .lit _ => 1
  | .nil => 1
  | .ptr d => uptoBulk d + 1
  | .slice elems spare => uptoBulkAll elems + uptoBulkAll spare + 1
  | .agg parts => uptoBulkAll parts + 1
  | .iface _ d => uptoBulk d + 1
  | .map entries => uptoBulkEntries entries + 1
  | .held _ => 1
def uptoBulkAll {H : Type} : List (DataW H) → Nat
  | [] => 0
  | d :: r => uptoBulk d + uptoBulkAll r
def uptoBulkEntries {H : Type} : List (Lit × DataW H) → Nat
  | [] => 0
  | x :: r => uptoBulkEntry x + uptoBulkEntries r
def uptoBulkEntry {H : Type} : Lit × DataW H → Nat
  | (.string bytes, d) => bytes.length + uptoBulk d + 1
  | (_, d) => uptoBulk d + 1
 end
def uptoSmall : (H : Type) → List (DataW H) → Bool := fun _ ds => decide (uptoBulkAll ds ≤ 1048576)
def OpenSpec.upto (s : _root_.Go.ChangeSpec) : _root_.Go.OpenSpec := { _root_.Go.OpenSpec.ofChange s with cond := some uptoSmall }

/-- 'eggboxlaw19.TermsParses', WHERE WHAT IT READS IS OF BULK AT MOST 1048576: true; the input reads as it did. -/
def termsParsesUptoRow : OpenClaim := { program := "ytcbkihhpnndpkaa", sum := "ef43952d166858534151975a612fd6e8f9f3487cc9ee6d9bc1d2f7605244fa52", func := "eggbox/eggboxlaw19.TermsParses", spec := "termsParses", inPlace := ["internal/bytealg.IndexByteString"], unfollowed := true, recurses := true, plainKeys := false, apart := false, narrowed := true }
def TermsParsesUptoSaid : Prop := termsParsesUptoRow.holds Try.pinned (OpenSpec.upto termsParsesSpec)

/-- 'eggboxlaw19.TermsBack', WHERE WHAT IT READS IS OF BULK AT MOST 1048576: true; the input reads as it did. -/
def termsBackUptoRow : OpenClaim := { program := "ytcbkihhpnndpkaa", sum := "ef43952d166858534151975a612fd6e8f9f3487cc9ee6d9bc1d2f7605244fa52", func := "eggbox/eggboxlaw19.TermsBack", spec := "termsBack", inPlace := ["internal/bytealg.IndexByteString"], unfollowed := true, recurses := true, plainKeys := false, apart := false, narrowed := true }
def TermsBackUptoSaid : Prop := termsBackUptoRow.holds Try.pinned (OpenSpec.upto termsBackSpec)

/-- 'eggboxlaw19.TermsPrints', WHERE WHAT IT READS IS OF BULK AT MOST 1048576: true; the input reads as it did. -/
def termsPrintsUptoRow : OpenClaim := { program := "ytcbkihhpnndpkaa", sum := "ef43952d166858534151975a612fd6e8f9f3487cc9ee6d9bc1d2f7605244fa52", func := "eggbox/eggboxlaw19.TermsPrints", spec := "termsPrints", inPlace := ["internal/bytealg.IndexByteString"], unfollowed := true, recurses := true, plainKeys := false, apart := false, narrowed := true }
def TermsPrintsUptoSaid : Prop := termsPrintsUptoRow.holds Try.pinned (OpenSpec.upto termsPrintsSpec)

/-- 'eggboxlaw19.TermsNil', WHERE WHAT IT READS IS OF BULK AT MOST 1048576: true; the input reads as it did. -/
def termsNilUptoRow : OpenClaim := { program := "ytcbkihhpnndpkaa", sum := "ef43952d166858534151975a612fd6e8f9f3487cc9ee6d9bc1d2f7605244fa52", func := "eggbox/eggboxlaw19.TermsNil", spec := "termsNil", inPlace := ["internal/bytealg.IndexByteString"], unfollowed := true, recurses := true, plainKeys := false, apart := false, narrowed := true }
def TermsNilUptoSaid : Prop := termsNilUptoRow.holds Try.pinned (OpenSpec.upto termsNilSpec)

/-- 'eggboxlaw19.TermsWords', WHERE WHAT IT READS IS OF BULK AT MOST 1048576: true; the input reads as it did. -/
def termsWordsUptoRow : OpenClaim := { program := "ytcbkihhpnndpkaa", sum := "ef43952d166858534151975a612fd6e8f9f3487cc9ee6d9bc1d2f7605244fa52", func := "eggbox/eggboxlaw19.TermsWords", spec := "termsWords", inPlace := ["internal/bytealg.IndexByteString", "internal/abi.NoEscape", "internal/bytealg.MakeNoZero"], unfollowed := true, recurses := true, plainKeys := false, apart := false, narrowed := true }
def TermsWordsUptoSaid : Prop := termsWordsUptoRow.holds Try.pinned (OpenSpec.upto termsWordsSpec)

/-- 'eggboxlaw19.TermsTurned', WHERE WHAT IT READS IS OF BULK AT MOST 1048576: true; the input reads as it did. -/
def termsTurnedUptoRow : OpenClaim := { program := "ytcbkihhpnndpkaa", sum := "ef43952d166858534151975a612fd6e8f9f3487cc9ee6d9bc1d2f7605244fa52", func := "eggbox/eggboxlaw19.TermsTurned", spec := "termsTurned", inPlace := ["internal/bytealg.IndexByteString", "internal/abi.NoEscape", "internal/bytealg.MakeNoZero"], unfollowed := true, recurses := true, plainKeys := false, apart := false, narrowed := true }
def TermsTurnedUptoSaid : Prop := termsTurnedUptoRow.holds Try.pinned (OpenSpec.upto termsTurnedSpec)

/-- 'eggboxlaw19.TermsValues', WHERE WHAT IT READS IS OF BULK AT MOST 1048576: true; the input reads as it did. -/
def termsValuesUptoRow : OpenClaim := { program := "ytcbkihhpnndpkaa", sum := "ef43952d166858534151975a612fd6e8f9f3487cc9ee6d9bc1d2f7605244fa52", func := "eggbox/eggboxlaw19.TermsValues", spec := "termsValues", inPlace := ["internal/bytealg.IndexByteString"], unfollowed := true, recurses := true, plainKeys := false, apart := false, narrowed := true }
def TermsValuesUptoSaid : Prop := termsValuesUptoRow.holds Try.pinned (OpenSpec.upto termsValuesSpec)

/-- 'eggboxlaw19.TermsMorphism', WHERE WHAT IT READS IS OF BULK AT MOST 1048576: true; the input reads as it did. -/
def termsMorphismUptoRow : OpenClaim := { program := "ytcbkihhpnndpkaa", sum := "ef43952d166858534151975a612fd6e8f9f3487cc9ee6d9bc1d2f7605244fa52", func := "eggbox/eggboxlaw19.TermsMorphism", spec := "termsMorphism", inPlace := ["internal/bytealg.IndexByteString", "internal/abi.NoEscape", "internal/bytealg.MakeNoZero"], unfollowed := true, recurses := true, plainKeys := false, apart := false, narrowed := true }
def TermsMorphismUptoSaid : Prop := termsMorphismUptoRow.holds Try.pinned (OpenSpec.upto termsMorphismSpec)

end Rows
end Go.Proofs.Ytcbkihhpnndpkaa
