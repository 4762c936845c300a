/-
  No cell of these rows narrows 'for every input' (looked for: loops, veiled, ifaces, maps, wideKeys, modest, calm, conditions, laid).
  DERIVED. THE GIVEN ROWS OF THIS SEAT. 10 by the template 'for every input the law returns true; each argument reads behind the call as it read before'; 0 by the template 'total and deterministic' (their statements: YtpjdibanjmmbkaaTotals.lean).
  GIVEN WITH THE SEED: the statements are not yours to turn. If you find one false, say at which input.
  Laid BY PROGRAM, IN A SANDBOX (cutbox-rows.mjs): the forced cells as the released guide's own fill.sh prints them over the translation a6f5691eabcf5d45… (all of the seat's roots in one cut). By AI agents, Wed Nov 11 2026. No macro, syntax, notation, axiom, sorry.
-/
import Derived.Test.YtpjdibanjmmbkaaChecked
import GoSem.Claim
import GoSem.ClaimJoined
import GoSem.ClaimMapViews
import Derived.JoinedTies
import Derived.KernelRfl
namespace Go.Proofs.Ytpjdibanjmmbkaa
/- THE CELL 'sum', in the pinned program and in every row, IS THE sha256 OF THE DUMP (.gsa) THAT YtpjdibanjmmbkaaProg.lean LOADS. Nothing in Lean hashes anything: it is a label: what it is worth is what the hold of that sum in a sandbox is worth. -/
noncomputable def Try.pinned : Pinned := { name := "ytpjdibanjmmbkaa", sum := "a6f5691eabcf5d45b003b70787ae0e925a754dfb78249ec61157c20c9a71b746", checked := Try.checked }
namespace Rows
def none {H : Type} : Left H := { results := [], args := [] }

/-- 'plumblinelaw15.SecularTurns': WHATEVER THE INPUT: true; the input reads as it did. -/
def secularTurnsSpec : ChangeSpec := { name := "secularTurns", fn := fun _ => fun
  | [d1, d2] => { results := [.lit (.bool true)], args := [d1, d2] }
  | _ => none }
def secularTurnsRow : OpenClaim := { program := "ytpjdibanjmmbkaa", sum := "a6f5691eabcf5d45b003b70787ae0e925a754dfb78249ec61157c20c9a71b746", func := "plumbline/plumblinelaw15.SecularTurns", spec := "secularTurns", inPlace := ["math.Float64bits", "math.Float64frombits"], unfollowed := true, recurses := true, plainKeys := false, apart := false }
def SecularTurnsSaid : Prop := secularTurnsRow.holds Try.pinned (OpenSpec.ofChange secularTurnsSpec)

/-- ITS FALSE NEIGHBOUR: 'it returns false'. Refute it at one input. -/
def secularTurnsWrong : ChangeSpec := { name := "secularTurns", fn := fun _ => fun
  | [d1, d2] => { results := [.lit (.bool false)], args := [d1, d2] }
  | _ => none }
def SecularTurnsWrongFalsely : Prop := secularTurnsRow.holds Try.pinned (OpenSpec.ofChange secularTurnsWrong)

/-- 'plumblinelaw07.ViewSame': WHATEVER THE INPUT: true; the input reads as it did. -/
def viewSameSpec : ChangeSpec := { name := "viewSame", fn := fun _ => fun
  | [d1, d2, d3] => { results := [.lit (.bool true)], args := [d1, d2, d3] }
  | _ => none }
def viewSameRow : OpenClaim := { program := "ytpjdibanjmmbkaa", sum := "a6f5691eabcf5d45b003b70787ae0e925a754dfb78249ec61157c20c9a71b746", func := "plumbline/plumblinelaw07.ViewSame", spec := "viewSame", inPlace := ["math.Float64bits"], unfollowed := true, recurses := true, plainKeys := false, apart := false }
def ViewSameSaid : Prop := viewSameRow.holds Try.pinned (OpenSpec.ofChange viewSameSpec)

/-- ITS FALSE NEIGHBOUR: 'it returns false'. Refute it at one input. -/
def viewSameWrong : ChangeSpec := { name := "viewSame", fn := fun _ => fun
  | [d1, d2, d3] => { results := [.lit (.bool false)], args := [d1, d2, d3] }
  | _ => none }
def ViewSameWrongFalsely : Prop := viewSameRow.holds Try.pinned (OpenSpec.ofChange viewSameWrong)

/-- 'plumblinelaw07.ViewCuts': WHATEVER THE INPUT: true; the input reads as it did. -/
def viewCutsSpec : ChangeSpec := { name := "viewCuts", fn := fun _ => fun
  | [d1, d2, d3, d4, d5] => { results := [.lit (.bool true)], args := [d1, d2, d3, d4, d5] }
  | _ => none }
def viewCutsRow : OpenClaim := { program := "ytpjdibanjmmbkaa", sum := "a6f5691eabcf5d45b003b70787ae0e925a754dfb78249ec61157c20c9a71b746", func := "plumbline/plumblinelaw07.ViewCuts", spec := "viewCuts", inPlace := ["math.Float64bits"], unfollowed := true, recurses := true, plainKeys := false, apart := false }
def ViewCutsSaid : Prop := viewCutsRow.holds Try.pinned (OpenSpec.ofChange viewCutsSpec)

/-- ITS FALSE NEIGHBOUR: 'it returns false'. Refute it at one input. -/
def viewCutsWrong : ChangeSpec := { name := "viewCuts", fn := fun _ => fun
  | [d1, d2, d3, d4, d5] => { results := [.lit (.bool false)], args := [d1, d2, d3, d4, d5] }
  | _ => none }
def ViewCutsWrongFalsely : Prop := viewCutsRow.holds Try.pinned (OpenSpec.ofChange viewCutsWrong)

/-- 'plumblinelaw07.ViewMeans': WHATEVER THE INPUT: true; the input reads as it did. -/
def viewMeansSpec : ChangeSpec := { name := "viewMeans", fn := fun _ => fun
  | [d1, d2, d3, d4] => { results := [.lit (.bool true)], args := [d1, d2, d3, d4] }
  | _ => none }
def viewMeansRow : OpenClaim := { program := "ytpjdibanjmmbkaa", sum := "a6f5691eabcf5d45b003b70787ae0e925a754dfb78249ec61157c20c9a71b746", func := "plumbline/plumblinelaw07.ViewMeans", spec := "viewMeans", inPlace := ["math.Float64bits"], unfollowed := true, recurses := true, plainKeys := false, apart := false }
def ViewMeansSaid : Prop := viewMeansRow.holds Try.pinned (OpenSpec.ofChange viewMeansSpec)

/-- ITS FALSE NEIGHBOUR: 'it returns false'. Refute it at one input. -/
def viewMeansWrong : ChangeSpec := { name := "viewMeans", fn := fun _ => fun
  | [d1, d2, d3, d4] => { results := [.lit (.bool false)], args := [d1, d2, d3, d4] }
  | _ => none }
def ViewMeansWrongFalsely : Prop := viewMeansRow.holds Try.pinned (OpenSpec.ofChange viewMeansWrong)

/-- 'plumblinelaw07.ViewSets': WHATEVER THE INPUT: true; the input reads as it did. -/
def viewSetsSpec : ChangeSpec := { name := "viewSets", fn := fun _ => fun
  | [d1, d2, d3, d4, d5] => { results := [.lit (.bool true)], args := [d1, d2, d3, d4, d5] }
  | _ => none }
def viewSetsRow : OpenClaim := { program := "ytpjdibanjmmbkaa", sum := "a6f5691eabcf5d45b003b70787ae0e925a754dfb78249ec61157c20c9a71b746", func := "plumbline/plumblinelaw07.ViewSets", spec := "viewSets", inPlace := ["math.Float64bits"], unfollowed := true, recurses := true, plainKeys := false, apart := false }
def ViewSetsSaid : Prop := viewSetsRow.holds Try.pinned (OpenSpec.ofChange viewSetsSpec)

/-- ITS FALSE NEIGHBOUR: 'it returns false'. Refute it at one input. -/
def viewSetsWrong : ChangeSpec := { name := "viewSets", fn := fun _ => fun
  | [d1, d2, d3, d4, d5] => { results := [.lit (.bool false)], args := [d1, d2, d3, d4, d5] }
  | _ => none }
def ViewSetsWrongFalsely : Prop := viewSetsRow.holds Try.pinned (OpenSpec.ofChange viewSetsWrong)

/-- 'plumblinelaw07.ViewOf': WHATEVER THE INPUT: true; the input reads as it did. -/
def viewOfSpec : ChangeSpec := { name := "viewOf", fn := fun _ => fun
  | [d] => { results := [.lit (.bool true)], args := [d] }
  | _ => none }
def viewOfRow : OpenClaim := { program := "ytpjdibanjmmbkaa", sum := "a6f5691eabcf5d45b003b70787ae0e925a754dfb78249ec61157c20c9a71b746", func := "plumbline/plumblinelaw07.ViewOf", spec := "viewOf", inPlace := ["math.Float64bits"], unfollowed := true, recurses := true, plainKeys := false, apart := false }
def ViewOfSaid : Prop := viewOfRow.holds Try.pinned (OpenSpec.ofChange viewOfSpec)

/-- ITS FALSE NEIGHBOUR: 'it returns false'. Refute it at one input. -/
def viewOfWrong : ChangeSpec := { name := "viewOf", fn := fun _ => fun
  | [d] => { results := [.lit (.bool false)], args := [d] }
  | _ => none }
def ViewOfWrongFalsely : Prop := viewOfRow.holds Try.pinned (OpenSpec.ofChange viewOfWrong)

/-- 'plumblinelaw07.ViewNew': WHATEVER THE INPUT: true; the input reads as it did. -/
def viewNewSpec : ChangeSpec := { name := "viewNew", fn := fun _ => fun
  | [d1, d2] => { results := [.lit (.bool true)], args := [d1, d2] }
  | _ => none }
def viewNewRow : OpenClaim := { program := "ytpjdibanjmmbkaa", sum := "a6f5691eabcf5d45b003b70787ae0e925a754dfb78249ec61157c20c9a71b746", func := "plumbline/plumblinelaw07.ViewNew", spec := "viewNew", inPlace := ["math.Float64bits"], unfollowed := true, recurses := true, plainKeys := false, apart := false }
def ViewNewSaid : Prop := viewNewRow.holds Try.pinned (OpenSpec.ofChange viewNewSpec)

/-- ITS FALSE NEIGHBOUR: 'it returns false'. Refute it at one input. -/
def viewNewWrong : ChangeSpec := { name := "viewNew", fn := fun _ => fun
  | [d1, d2] => { results := [.lit (.bool false)], args := [d1, d2] }
  | _ => none }
def ViewNewWrongFalsely : Prop := viewNewRow.holds Try.pinned (OpenSpec.ofChange viewNewWrong)

/-- 'plumblinelaw07.ViewTakes': WHATEVER THE INPUT: true; the input reads as it did. -/
def viewTakesSpec : ChangeSpec := { name := "viewTakes", fn := fun _ => fun
  | [d1, d2, d3, d4] => { results := [.lit (.bool true)], args := [d1, d2, d3, d4] }
  | _ => none }
def viewTakesRow : OpenClaim := { program := "ytpjdibanjmmbkaa", sum := "a6f5691eabcf5d45b003b70787ae0e925a754dfb78249ec61157c20c9a71b746", func := "plumbline/plumblinelaw07.ViewTakes", spec := "viewTakes", inPlace := ["math.Float64bits"], unfollowed := true, recurses := true, plainKeys := false, apart := false }
def ViewTakesSaid : Prop := viewTakesRow.holds Try.pinned (OpenSpec.ofChange viewTakesSpec)

/-- ITS FALSE NEIGHBOUR: 'it returns false'. Refute it at one input. -/
def viewTakesWrong : ChangeSpec := { name := "viewTakes", fn := fun _ => fun
  | [d1, d2, d3, d4] => { results := [.lit (.bool false)], args := [d1, d2, d3, d4] }
  | _ => none }
def ViewTakesWrongFalsely : Prop := viewTakesRow.holds Try.pinned (OpenSpec.ofChange viewTakesWrong)

/-- 'plumblinelaw07.ViewNil': WHATEVER THE INPUT: true; the input reads as it did. -/
def viewNilSpec : ChangeSpec := { name := "viewNil", fn := fun _ => fun
  | [] => { results := [.lit (.bool true)], args := [] }
  | _ => none }
def viewNilRow : OpenClaim := { program := "ytpjdibanjmmbkaa", sum := "a6f5691eabcf5d45b003b70787ae0e925a754dfb78249ec61157c20c9a71b746", func := "plumbline/plumblinelaw07.ViewNil", spec := "viewNil", inPlace := ["math.Float64bits"], unfollowed := true, recurses := true, plainKeys := false, apart := false }
def ViewNilSaid : Prop := viewNilRow.holds Try.pinned (OpenSpec.ofChange viewNilSpec)

/-- ITS FALSE NEIGHBOUR: 'it returns false'. Refute it at one input. -/
def viewNilWrong : ChangeSpec := { name := "viewNil", fn := fun _ => fun
  | [] => { results := [.lit (.bool false)], args := [] }
  | _ => none }
def ViewNilWrongFalsely : Prop := viewNilRow.holds Try.pinned (OpenSpec.ofChange viewNilWrong)

/-- 'plumblinelaw13.SturmPlaces': WHATEVER THE INPUT: true; the input reads as it did. -/
def sturmPlacesSpec : ChangeSpec := { name := "sturmPlaces", fn := fun _ => fun
  | [d1, d2] => { results := [.lit (.bool true)], args := [d1, d2] }
  | _ => none }
def sturmPlacesRow : OpenClaim := { program := "ytpjdibanjmmbkaa", sum := "a6f5691eabcf5d45b003b70787ae0e925a754dfb78249ec61157c20c9a71b746", func := "plumbline/plumblinelaw13.SturmPlaces", spec := "sturmPlaces", inPlace := ["math.Float64bits", "math.Float64frombits"], unfollowed := true, recurses := true, plainKeys := false, apart := false }
def SturmPlacesSaid : Prop := sturmPlacesRow.holds Try.pinned (OpenSpec.ofChange sturmPlacesSpec)

/-- ITS FALSE NEIGHBOUR: 'it returns false'. Refute it at one input. -/
def sturmPlacesWrong : ChangeSpec := { name := "sturmPlaces", fn := fun _ => fun
  | [d1, d2] => { results := [.lit (.bool false)], args := [d1, d2] }
  | _ => none }
def SturmPlacesWrongFalsely : Prop := sturmPlacesRow.holds Try.pinned (OpenSpec.ofChange sturmPlacesWrong)

/- THE SECOND FORM. 'bulk': how many values and letters a reading holds, each counted each time it is reached (what is shared counts as often as it is met; a slice's spare places count too). A statement '..UptoSaid' is the law's where the arguments, and the package variables that the reading takes, are together of bulk at most 1048576: NARROWER than '..Said'. Prove '..Said' where nothing that the law and all that it calls make is longer than what came in: it says more and counts as full. Else prove '..UptoSaid'. A law counts once. -/
mutual
def uptoBulk {H : Type} : DataW H → Nat
  | .lit (.string bytes) => bytes.length + 1
  | .lit _ => 1
  | .nil => 1
  | .ptr d => uptoBulk d + 1
  | .slice elems spare => uptoBulkAll elems + uptoBulkAll spare + 1
  | .agg parts => uptoBulkAll parts + 1
  | .iface _ d => uptoBulk d + 1
  | .map entries => uptoBulkEntries entries + 1
  | .held _ => 1
def uptoBulkAll {H : Type} : List (DataW H) → Nat
  | [] => 0
  | d :: r => uptoBulk d + uptoBulkAll r
def uptoBulkEntries {H : Type} : List (Lit × DataW H) → Nat
  | [] => 0
  | x :: r => uptoBulkEntry x + uptoBulkEntries r
def uptoBulkEntry {H : Type} : Lit × DataW H → Nat
  | (.string bytes, d) => bytes.length + uptoBulk d + 1
  | (_, d) => uptoBulk d + 1
 end
def uptoSmall : (H : Type) → List (DataW H) → Bool := fun _ ds => decide (uptoBulkAll ds ≤ 1048576)
def OpenSpec.upto (s : _root_.Go.ChangeSpec) : _root_.Go.OpenSpec := { _root_.Go.OpenSpec.ofChange s with cond := some uptoSmall }

/-- 'plumblinelaw15.SecularTurns', WHERE WHAT IT READS IS OF BULK AT MOST 1048576: true; the input reads as it did. -/
def secularTurnsUptoRow : OpenClaim := { program := "ytpjdibanjmmbkaa", sum := "a6f5691eabcf5d45b003b70787ae0e925a754dfb78249ec61157c20c9a71b746", func := "plumbline/plumblinelaw15.SecularTurns", spec := "secularTurns", inPlace := ["math.Float64bits", "math.Float64frombits"], unfollowed := true, recurses := true, plainKeys := false, apart := false, narrowed := true }
def SecularTurnsUptoSaid : Prop := secularTurnsUptoRow.holds Try.pinned (OpenSpec.upto secularTurnsSpec)

/-- 'plumblinelaw07.ViewSame', WHERE WHAT IT READS IS OF BULK AT MOST 1048576: true; the input reads as it did. -/
def viewSameUptoRow : OpenClaim := { program := "ytpjdibanjmmbkaa", sum := "a6f5691eabcf5d45b003b70787ae0e925a754dfb78249ec61157c20c9a71b746", func := "plumbline/plumblinelaw07.ViewSame", spec := "viewSame", inPlace := ["math.Float64bits"], unfollowed := true, recurses := true, plainKeys := false, apart := false, narrowed := true }
def ViewSameUptoSaid : Prop := viewSameUptoRow.holds Try.pinned (OpenSpec.upto viewSameSpec)

/-- 'plumblinelaw07.ViewCuts', WHERE WHAT IT READS IS OF BULK AT MOST 1048576: true; the input reads as it did. -/
def viewCutsUptoRow : OpenClaim := { program := "ytpjdibanjmmbkaa", sum := "a6f5691eabcf5d45b003b70787ae0e925a754dfb78249ec61157c20c9a71b746", func := "plumbline/plumblinelaw07.ViewCuts", spec := "viewCuts", inPlace := ["math.Float64bits"], unfollowed := true, recurses := true, plainKeys := false, apart := false, narrowed := true }
def ViewCutsUptoSaid : Prop := viewCutsUptoRow.holds Try.pinned (OpenSpec.upto viewCutsSpec)

/-- 'plumblinelaw07.ViewMeans', WHERE WHAT IT READS IS OF BULK AT MOST 1048576: true; the input reads as it did. -/
def viewMeansUptoRow : OpenClaim := { program := "ytpjdibanjmmbkaa", sum := "a6f5691eabcf5d45b003b70787ae0e925a754dfb78249ec61157c20c9a71b746", func := "plumbline/plumblinelaw07.ViewMeans", spec := "viewMeans", inPlace := ["math.Float64bits"], unfollowed := true, recurses := true, plainKeys := false, apart := false, narrowed := true }
def ViewMeansUptoSaid : Prop := viewMeansUptoRow.holds Try.pinned (OpenSpec.upto viewMeansSpec)

/-- 'plumblinelaw07.ViewSets', WHERE WHAT IT READS IS OF BULK AT MOST 1048576: true; the input reads as it did. -/
def viewSetsUptoRow : OpenClaim := { program := "ytpjdibanjmmbkaa", sum := "a6f5691eabcf5d45b003b70787ae0e925a754dfb78249ec61157c20c9a71b746", func := "plumbline/plumblinelaw07.ViewSets", spec := "viewSets", inPlace := ["math.Float64bits"], unfollowed := true, recurses := true, plainKeys := false, apart := false, narrowed := true }
def ViewSetsUptoSaid : Prop := viewSetsUptoRow.holds Try.pinned (OpenSpec.upto viewSetsSpec)

/-- 'plumblinelaw07.ViewOf', WHERE WHAT IT READS IS OF BULK AT MOST 1048576: true; the input reads as it did. -/
def viewOfUptoRow : OpenClaim := { program := "ytpjdibanjmmbkaa", sum := "a6f5691eabcf5d45b003b70787ae0e925a754dfb78249ec61157c20c9a71b746", func := "plumbline/plumblinelaw07.ViewOf", spec := "viewOf", inPlace := ["math.Float64bits"], unfollowed := true, recurses := true, plainKeys := false, apart := false, narrowed := true }
def ViewOfUptoSaid : Prop := viewOfUptoRow.holds Try.pinned (OpenSpec.upto viewOfSpec)

/-- 'plumblinelaw07.ViewNew', WHERE WHAT IT READS IS OF BULK AT MOST 1048576: true; the input reads as it did. -/
def viewNewUptoRow : OpenClaim := { program := "ytpjdibanjmmbkaa", sum := "a6f5691eabcf5d45b003b70787ae0e925a754dfb78249ec61157c20c9a71b746", func := "plumbline/plumblinelaw07.ViewNew", spec := "viewNew", inPlace := ["math.Float64bits"], unfollowed := true, recurses := true, plainKeys := false, apart := false, narrowed := true }
def ViewNewUptoSaid : Prop := viewNewUptoRow.holds Try.pinned (OpenSpec.upto viewNewSpec)

/-- 'plumblinelaw07.ViewTakes', WHERE WHAT IT READS IS OF BULK AT MOST 1048576: true; the input reads as it did. -/
def viewTakesUptoRow : OpenClaim := { program := "ytpjdibanjmmbkaa", sum := "a6f5691eabcf5d45b003b70787ae0e925a754dfb78249ec61157c20c9a71b746", func := "plumbline/plumblinelaw07.ViewTakes", spec := "viewTakes", inPlace := ["math.Float64bits"], unfollowed := true, recurses := true, plainKeys := false, apart := false, narrowed := true }
def ViewTakesUptoSaid : Prop := viewTakesUptoRow.holds Try.pinned (OpenSpec.upto viewTakesSpec)

/-- 'plumblinelaw07.ViewNil', WHERE WHAT IT READS IS OF BULK AT MOST 1048576: true; the input reads as it did. -/
def viewNilUptoRow : OpenClaim := { program := "ytpjdibanjmmbkaa", sum := "a6f5691eabcf5d45b003b70787ae0e925a754dfb78249ec61157c20c9a71b746", func := "plumbline/plumblinelaw07.ViewNil", spec := "viewNil", inPlace := ["math.Float64bits"], unfollowed := true, recurses := true, plainKeys := false, apart := false, narrowed := true }
def ViewNilUptoSaid : Prop := viewNilUptoRow.holds Try.pinned (OpenSpec.upto viewNilSpec)

/-- 'plumblinelaw13.SturmPlaces', WHERE WHAT IT READS IS OF BULK AT MOST 1048576: true; the input reads as it did. -/
def sturmPlacesUptoRow : OpenClaim := { program := "ytpjdibanjmmbkaa", sum := "a6f5691eabcf5d45b003b70787ae0e925a754dfb78249ec61157c20c9a71b746", func := "plumbline/plumblinelaw13.SturmPlaces", spec := "sturmPlaces", inPlace := ["math.Float64bits", "math.Float64frombits"], unfollowed := true, recurses := true, plainKeys := false, apart := false, narrowed := true }
def SturmPlacesUptoSaid : Prop := sturmPlacesUptoRow.holds Try.pinned (OpenSpec.upto sturmPlacesSpec)

end Rows
end Go.Proofs.Ytpjdibanjmmbkaa
