/-
  No cell of these rows narrows 'for every input' (looked for: loops, veiled, ifaces, maps, wideKeys, modest, calm, conditions, laid).
  DERIVED. THE GIVEN ROWS OF THIS SEAT. 4 by the template 'for every input the law returns true; each argument reads behind the call as it read before'; 0 by the template 'total and deterministic' (their statements: YtbmnlohaidbmdaaTotals.lean).
  GIVEN WITH THE SEED: the statements are not yours to turn. If you find one false, say at which input.
  Laid BY PROGRAM, IN A SANDBOX (cutbox-rows.mjs): the forced cells as the released guide's own fill.sh prints them over the translation 04efb39b35f46416… (all of the seat's roots in one cut). By AI agents, Wed Nov 11 2026. No macro, syntax, notation, axiom, sorry.
-/
import Derived.Test.YtbmnlohaidbmdaaChecked
import GoSem.Claim
import GoSem.ClaimJoined
import GoSem.ClaimMapViews
import Derived.JoinedTies
import Derived.KernelRfl
namespace Go.Proofs.Ytbmnlohaidbmdaa
/- THE CELL 'sum', in the pinned program and in every row, IS THE sha256 OF THE DUMP (.gsa) THAT YtbmnlohaidbmdaaProg.lean LOADS. Nothing in Lean hashes anything: it is a label: what it is worth is what the hold of that sum in a sandbox is worth. -/
noncomputable def Try.pinned : Pinned := { name := "ytbmnlohaidbmdaa", sum := "04efb39b35f464164cb0f02e65343146e7181f94d97364ed2ed9e783ffe42002", checked := Try.checked }
namespace Rows
def none {H : Type} : Left H := { results := [], args := [] }

/-- 'plumblinelaw12.QlSolves': WHATEVER THE INPUT: true; the input reads as it did. -/
def qlSolvesSpec : ChangeSpec := { name := "qlSolves", fn := fun _ => fun
  | [d1, d2] => { results := [.lit (.bool true)], args := [d1, d2] }
  | _ => none }
def qlSolvesRow : OpenClaim := { program := "ytbmnlohaidbmdaa", sum := "04efb39b35f464164cb0f02e65343146e7181f94d97364ed2ed9e783ffe42002", func := "plumbline/plumblinelaw12.QlSolves", spec := "qlSolves", inPlace := ["math.Float64bits", "math.Float64frombits", "math.sqrt"], unfollowed := true, recurses := true, apart := false }
def QlSolvesSaid : Prop := qlSolvesRow.holds Try.pinned (OpenSpec.ofChange qlSolvesSpec)

/-- ITS FALSE NEIGHBOUR: 'it returns false'. Refute it at one input. -/
def qlSolvesWrong : ChangeSpec := { name := "qlSolves", fn := fun _ => fun
  | [d1, d2] => { results := [.lit (.bool false)], args := [d1, d2] }
  | _ => none }
def QlSolvesWrongFalsely : Prop := qlSolvesRow.holds Try.pinned (OpenSpec.ofChange qlSolvesWrong)

/-- 'plumblinelaw12.QlValues': WHATEVER THE INPUT: true; the input reads as it did. -/
def qlValuesSpec : ChangeSpec := { name := "qlValues", fn := fun _ => fun
  | [d] => { results := [.lit (.bool true)], args := [d] }
  | _ => none }
def qlValuesRow : OpenClaim := { program := "ytbmnlohaidbmdaa", sum := "04efb39b35f464164cb0f02e65343146e7181f94d97364ed2ed9e783ffe42002", func := "plumbline/plumblinelaw12.QlValues", spec := "qlValues", inPlace := ["math.Float64bits", "math.Float64frombits", "math.sqrt"], unfollowed := true, recurses := true, apart := false }
def QlValuesSaid : Prop := qlValuesRow.holds Try.pinned (OpenSpec.ofChange qlValuesSpec)

/-- ITS FALSE NEIGHBOUR: 'it returns false'. Refute it at one input. -/
def qlValuesWrong : ChangeSpec := { name := "qlValues", fn := fun _ => fun
  | [d] => { results := [.lit (.bool false)], args := [d] }
  | _ => none }
def QlValuesWrongFalsely : Prop := qlValuesRow.holds Try.pinned (OpenSpec.ofChange qlValuesWrong)

/-- 'plumblinelaw12.QlSorted': WHATEVER THE INPUT: true; the input reads as it did. -/
def qlSortedSpec : ChangeSpec := { name := "qlSorted", fn := fun _ => fun
  | [d1, d2] => { results := [.lit (.bool true)], args := [d1, d2] }
  | _ => none }
def qlSortedRow : OpenClaim := { program := "ytbmnlohaidbmdaa", sum := "04efb39b35f464164cb0f02e65343146e7181f94d97364ed2ed9e783ffe42002", func := "plumbline/plumblinelaw12.QlSorted", spec := "qlSorted", inPlace := ["math.Float64bits", "math.Float64frombits", "math.sqrt"], unfollowed := true, recurses := true, apart := false }
def QlSortedSaid : Prop := qlSortedRow.holds Try.pinned (OpenSpec.ofChange qlSortedSpec)

/-- ITS FALSE NEIGHBOUR: 'it returns false'. Refute it at one input. -/
def qlSortedWrong : ChangeSpec := { name := "qlSorted", fn := fun _ => fun
  | [d1, d2] => { results := [.lit (.bool false)], args := [d1, d2] }
  | _ => none }
def QlSortedWrongFalsely : Prop := qlSortedRow.holds Try.pinned (OpenSpec.ofChange qlSortedWrong)

/-- 'plumblinelaw12.QlPairs': WHATEVER THE INPUT: true; the input reads as it did. -/
def qlPairsSpec : ChangeSpec := { name := "qlPairs", fn := fun _ => fun
  | [d] => { results := [.lit (.bool true)], args := [d] }
  | _ => none }
def qlPairsRow : OpenClaim := { program := "ytbmnlohaidbmdaa", sum := "04efb39b35f464164cb0f02e65343146e7181f94d97364ed2ed9e783ffe42002", func := "plumbline/plumblinelaw12.QlPairs", spec := "qlPairs", inPlace := ["math.Float64bits", "math.Float64frombits", "math.sqrt"], unfollowed := true, recurses := true, apart := false }
def QlPairsSaid : Prop := qlPairsRow.holds Try.pinned (OpenSpec.ofChange qlPairsSpec)

/-- ITS FALSE NEIGHBOUR: 'it returns false'. Refute it at one input. -/
def qlPairsWrong : ChangeSpec := { name := "qlPairs", fn := fun _ => fun
  | [d] => { results := [.lit (.bool false)], args := [d] }
  | _ => none }
def QlPairsWrongFalsely : Prop := qlPairsRow.holds Try.pinned (OpenSpec.ofChange qlPairsWrong)

/- THE SECOND FORM. 'bulk': how many values and letters a reading holds, each counted each time it is reached (what is shared counts as often as it is met; a slice's spare places count too). A statement '..UptoSaid' is the law's where the arguments, and the package variables that the reading takes, are together of bulk at most 1048576: NARROWER than '..Said'. Prove '..Said' where nothing that the law and all that it calls make is longer than what came in: it says more and counts as full. Else prove '..UptoSaid'. A law counts once. -/
mutual
def uptoBulk {H : Type} : DataW H → Nat
  | .lit (.string bytes) => bytes.length + 1
  | .lit _ => 1
  | .nil => 1
  | .ptr d => uptoBulk d + 1
  | .slice elems spare => uptoBulkAll elems + uptoBulkAll spare + 1
  | .agg parts => uptoBulkAll parts + 1
  | .iface _ d => uptoBulk d + 1
  | .map entries => uptoBulkEntries entries + 1
  | .held _ => 1
def uptoBulkAll {H : Type} : List (DataW H) → Nat
  | [] => 0
  | d :: r => uptoBulk d + uptoBulkAll r
def uptoBulkEntries {H : Type} : List (Lit × DataW H) → Nat
  | [] => 0
  | x :: r => uptoBulkEntry x + uptoBulkEntries r
def uptoBulkEntry {H : Type} : Lit × DataW H → Nat
  | (.string bytes, d) => bytes.length + uptoBulk d + 1
  | (_, d) => uptoBulk d + 1
 end
def uptoSmall : (H : Type) → List (DataW H) → Bool := fun _ ds => decide (uptoBulkAll ds ≤ 1048576)
def OpenSpec.upto (s : _root_.Go.ChangeSpec) : _root_.Go.OpenSpec := { _root_.Go.OpenSpec.ofChange s with cond := some uptoSmall }

/-- 'plumblinelaw12.QlSolves', WHERE WHAT IT READS IS OF BULK AT MOST 1048576: true; the input reads as it did. -/
def qlSolvesUptoRow : OpenClaim := { program := "ytbmnlohaidbmdaa", sum := "04efb39b35f464164cb0f02e65343146e7181f94d97364ed2ed9e783ffe42002", func := "plumbline/plumblinelaw12.QlSolves", spec := "qlSolves", inPlace := ["math.Float64bits", "math.Float64frombits", "math.sqrt"], unfollowed := true, recurses := true, apart := false, narrowed := true }
def QlSolvesUptoSaid : Prop := qlSolvesUptoRow.holds Try.pinned (OpenSpec.upto qlSolvesSpec)

/-- 'plumblinelaw12.QlValues', WHERE WHAT IT READS IS OF BULK AT MOST 1048576: true; the input reads as it did. -/
def qlValuesUptoRow : OpenClaim := { program := "ytbmnlohaidbmdaa", sum := "04efb39b35f464164cb0f02e65343146e7181f94d97364ed2ed9e783ffe42002", func := "plumbline/plumblinelaw12.QlValues", spec := "qlValues", inPlace := ["math.Float64bits", "math.Float64frombits", "math.sqrt"], unfollowed := true, recurses := true, apart := false, narrowed := true }
def QlValuesUptoSaid : Prop := qlValuesUptoRow.holds Try.pinned (OpenSpec.upto qlValuesSpec)

/-- 'plumblinelaw12.QlSorted', WHERE WHAT IT READS IS OF BULK AT MOST 1048576: true; the input reads as it did. -/
def qlSortedUptoRow : OpenClaim := { program := "ytbmnlohaidbmdaa", sum := "04efb39b35f464164cb0f02e65343146e7181f94d97364ed2ed9e783ffe42002", func := "plumbline/plumblinelaw12.QlSorted", spec := "qlSorted", inPlace := ["math.Float64bits", "math.Float64frombits", "math.sqrt"], unfollowed := true, recurses := true, apart := false, narrowed := true }
def QlSortedUptoSaid : Prop := qlSortedUptoRow.holds Try.pinned (OpenSpec.upto qlSortedSpec)

/-- 'plumblinelaw12.QlPairs', WHERE WHAT IT READS IS OF BULK AT MOST 1048576: true; the input reads as it did. -/
def qlPairsUptoRow : OpenClaim := { program := "ytbmnlohaidbmdaa", sum := "04efb39b35f464164cb0f02e65343146e7181f94d97364ed2ed9e783ffe42002", func := "plumbline/plumblinelaw12.QlPairs", spec := "qlPairs", inPlace := ["math.Float64bits", "math.Float64frombits", "math.sqrt"], unfollowed := true, recurses := true, apart := false, narrowed := true }
def QlPairsUptoSaid : Prop := qlPairsUptoRow.holds Try.pinned (OpenSpec.upto qlPairsSpec)

end Rows
end Go.Proofs.Ytbmnlohaidbmdaa
