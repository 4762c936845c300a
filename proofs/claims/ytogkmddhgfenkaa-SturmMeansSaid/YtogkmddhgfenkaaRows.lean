/-
  No cell of these rows narrows 'for every input' (looked for: loops, veiled, ifaces, maps, wideKeys, modest, calm, conditions, laid).
  DERIVED. THE GIVEN ROWS OF THIS SEAT. 12 by the template 'for every input the law returns true; each argument reads behind the call as it read before'; 0 by the template 'total and deterministic' (their statements: YtogkmddhgfenkaaTotals.lean).
  GIVEN WITH THE SEED: the statements are not yours to turn. If you find one false, say at which input.
  Laid BY PROGRAM, IN A SANDBOX (cutbox-rows.mjs): the forced cells as the released guide's own fill.sh prints them over the translation 73b684ecfdefb5ea… (all of the seat's roots in one cut). By AI agents, Wed Nov 11 2026. No macro, syntax, notation, axiom, sorry.
-/
import Derived.Test.YtogkmddhgfenkaaChecked
import GoSem.Claim
import GoSem.ClaimJoined
import GoSem.ClaimMapViews
import Derived.JoinedTies
import Derived.KernelRfl
namespace Go.Proofs.Ytogkmddhgfenkaa
/- THE CELL 'sum', in the pinned program and in every row, IS THE sha256 OF THE DUMP (.gsa) THAT YtogkmddhgfenkaaProg.lean LOADS. Nothing in Lean hashes anything: it is a label: what it is worth is what the hold of that sum in a sandbox is worth. -/
noncomputable def Try.pinned : Pinned := { name := "ytogkmddhgfenkaa", sum := "73b684ecfdefb5eae373c3a662201417f078d7c3bb9827f2234bdf2e00c1c178", checked := Try.checked }
namespace Rows
def none {H : Type} : Left H := { results := [], args := [] }

/-- 'plumblinelaw05.GuardSquares': WHATEVER THE INPUT: true; the input reads as it did. -/
def guardSquaresSpec : ChangeSpec := { name := "guardSquares", fn := fun _ => fun
  | [d1, d2] => { results := [.lit (.bool true)], args := [d1, d2] }
  | _ => none }
def guardSquaresRow : OpenClaim := { program := "ytogkmddhgfenkaa", sum := "73b684ecfdefb5eae373c3a662201417f078d7c3bb9827f2234bdf2e00c1c178", func := "plumbline/plumblinelaw05.GuardSquares", spec := "guardSquares", inPlace := ["math.Float64bits", "math.Float64frombits"], unfollowed := true, recurses := true, plainKeys := false, apart := false }
def GuardSquaresSaid : Prop := guardSquaresRow.holds Try.pinned (OpenSpec.ofChange guardSquaresSpec)

/-- ITS FALSE NEIGHBOUR: 'it returns false'. Refute it at one input. -/
def guardSquaresWrong : ChangeSpec := { name := "guardSquares", fn := fun _ => fun
  | [d1, d2] => { results := [.lit (.bool false)], args := [d1, d2] }
  | _ => none }
def GuardSquaresWrongFalsely : Prop := guardSquaresRow.holds Try.pinned (OpenSpec.ofChange guardSquaresWrong)

/-- 'plumblinelaw05.GuardWords': WHATEVER THE INPUT: true; the input reads as it did. -/
def guardWordsSpec : ChangeSpec := { name := "guardWords", fn := fun _ => fun
  | [d1, d2] => { results := [.lit (.bool true)], args := [d1, d2] }
  | _ => none }
def guardWordsRow : OpenClaim := { program := "ytogkmddhgfenkaa", sum := "73b684ecfdefb5eae373c3a662201417f078d7c3bb9827f2234bdf2e00c1c178", func := "plumbline/plumblinelaw05.GuardWords", spec := "guardWords", inPlace := ["math.Float64frombits", "math.Float64bits"], unfollowed := true, recurses := true, plainKeys := false, apart := false }
def GuardWordsSaid : Prop := guardWordsRow.holds Try.pinned (OpenSpec.ofChange guardWordsSpec)

/-- ITS FALSE NEIGHBOUR: 'it returns false'. Refute it at one input. -/
def guardWordsWrong : ChangeSpec := { name := "guardWords", fn := fun _ => fun
  | [d1, d2] => { results := [.lit (.bool false)], args := [d1, d2] }
  | _ => none }
def GuardWordsWrongFalsely : Prop := guardWordsRow.holds Try.pinned (OpenSpec.ofChange guardWordsWrong)

/-- 'plumblinelaw05.GuardPowers': WHATEVER THE INPUT: true; the input reads as it did. -/
def guardPowersSpec : ChangeSpec := { name := "guardPowers", fn := fun _ => fun
  | [d] => { results := [.lit (.bool true)], args := [d] }
  | _ => none }
def guardPowersRow : OpenClaim := { program := "ytogkmddhgfenkaa", sum := "73b684ecfdefb5eae373c3a662201417f078d7c3bb9827f2234bdf2e00c1c178", func := "plumbline/plumblinelaw05.GuardPowers", spec := "guardPowers", inPlace := ["math.Float64bits", "math.Float64frombits"], unfollowed := true, recurses := true, plainKeys := false, apart := false }
def GuardPowersSaid : Prop := guardPowersRow.holds Try.pinned (OpenSpec.ofChange guardPowersSpec)

/-- ITS FALSE NEIGHBOUR: 'it returns false'. Refute it at one input. -/
def guardPowersWrong : ChangeSpec := { name := "guardPowers", fn := fun _ => fun
  | [d] => { results := [.lit (.bool false)], args := [d] }
  | _ => none }
def GuardPowersWrongFalsely : Prop := guardPowersRow.holds Try.pinned (OpenSpec.ofChange guardPowersWrong)

/-- 'plumblinelaw05.GuardTimes': WHATEVER THE INPUT: true; the input reads as it did. -/
def guardTimesSpec : ChangeSpec := { name := "guardTimes", fn := fun _ => fun
  | [d1, d2] => { results := [.lit (.bool true)], args := [d1, d2] }
  | _ => none }
def guardTimesRow : OpenClaim := { program := "ytogkmddhgfenkaa", sum := "73b684ecfdefb5eae373c3a662201417f078d7c3bb9827f2234bdf2e00c1c178", func := "plumbline/plumblinelaw05.GuardTimes", spec := "guardTimes", inPlace := ["math.Float64bits", "math.Float64frombits"], unfollowed := true, recurses := true, plainKeys := false, apart := false }
def GuardTimesSaid : Prop := guardTimesRow.holds Try.pinned (OpenSpec.ofChange guardTimesSpec)

/-- ITS FALSE NEIGHBOUR: 'it returns false'. Refute it at one input. -/
def guardTimesWrong : ChangeSpec := { name := "guardTimes", fn := fun _ => fun
  | [d1, d2] => { results := [.lit (.bool false)], args := [d1, d2] }
  | _ => none }
def GuardTimesWrongFalsely : Prop := guardTimesRow.holds Try.pinned (OpenSpec.ofChange guardTimesWrong)

/-- 'plumblinelaw05.GuardAny': WHATEVER THE INPUT: true; the input reads as it did. -/
def guardAnySpec : ChangeSpec := { name := "guardAny", fn := fun _ => fun
  | [d1, d2, d3] => { results := [.lit (.bool true)], args := [d1, d2, d3] }
  | _ => none }
def guardAnyRow : OpenClaim := { program := "ytogkmddhgfenkaa", sum := "73b684ecfdefb5eae373c3a662201417f078d7c3bb9827f2234bdf2e00c1c178", func := "plumbline/plumblinelaw05.GuardAny", spec := "guardAny", inPlace := ["math.Float64bits", "math.Float64frombits"], unfollowed := true, recurses := true, plainKeys := false, apart := false }
def GuardAnySaid : Prop := guardAnyRow.holds Try.pinned (OpenSpec.ofChange guardAnySpec)

/-- ITS FALSE NEIGHBOUR: 'it returns false'. Refute it at one input. -/
def guardAnyWrong : ChangeSpec := { name := "guardAny", fn := fun _ => fun
  | [d1, d2, d3] => { results := [.lit (.bool false)], args := [d1, d2, d3] }
  | _ => none }
def GuardAnyWrongFalsely : Prop := guardAnyRow.holds Try.pinned (OpenSpec.ofChange guardAnyWrong)

/-- 'plumblinelaw13.SturmBounds': WHATEVER THE INPUT: true; the input reads as it did. -/
def sturmBoundsSpec : ChangeSpec := { name := "sturmBounds", fn := fun _ => fun
  | [d] => { results := [.lit (.bool true)], args := [d] }
  | _ => none }
def sturmBoundsRow : OpenClaim := { program := "ytogkmddhgfenkaa", sum := "73b684ecfdefb5eae373c3a662201417f078d7c3bb9827f2234bdf2e00c1c178", func := "plumbline/plumblinelaw13.SturmBounds", spec := "sturmBounds", inPlace := ["math.Float64bits", "math.Float64frombits"], unfollowed := true, recurses := true, plainKeys := false, apart := false }
def SturmBoundsSaid : Prop := sturmBoundsRow.holds Try.pinned (OpenSpec.ofChange sturmBoundsSpec)

/-- ITS FALSE NEIGHBOUR: 'it returns false'. Refute it at one input. -/
def sturmBoundsWrong : ChangeSpec := { name := "sturmBounds", fn := fun _ => fun
  | [d] => { results := [.lit (.bool false)], args := [d] }
  | _ => none }
def SturmBoundsWrongFalsely : Prop := sturmBoundsRow.holds Try.pinned (OpenSpec.ofChange sturmBoundsWrong)

/-- 'plumblinelaw13.SturmMeans': WHATEVER THE INPUT: true; the input reads as it did. -/
def sturmMeansSpec : ChangeSpec := { name := "sturmMeans", fn := fun _ => fun
  | [d] => { results := [.lit (.bool true)], args := [d] }
  | _ => none }
def sturmMeansRow : OpenClaim := { program := "ytogkmddhgfenkaa", sum := "73b684ecfdefb5eae373c3a662201417f078d7c3bb9827f2234bdf2e00c1c178", func := "plumbline/plumblinelaw13.SturmMeans", spec := "sturmMeans", inPlace := ["math.Float64bits", "math.Float64frombits"], unfollowed := true, recurses := true, plainKeys := false, apart := false }
def SturmMeansSaid : Prop := sturmMeansRow.holds Try.pinned (OpenSpec.ofChange sturmMeansSpec)

/-- ITS FALSE NEIGHBOUR: 'it returns false'. Refute it at one input. -/
def sturmMeansWrong : ChangeSpec := { name := "sturmMeans", fn := fun _ => fun
  | [d] => { results := [.lit (.bool false)], args := [d] }
  | _ => none }
def SturmMeansWrongFalsely : Prop := sturmMeansRow.holds Try.pinned (OpenSpec.ofChange sturmMeansWrong)

/-- 'plumblinelaw05.GuardScales': WHATEVER THE INPUT: true; the input reads as it did. -/
def guardScalesSpec : ChangeSpec := { name := "guardScales", fn := fun _ => fun
  | [d1, d2] => { results := [.lit (.bool true)], args := [d1, d2] }
  | _ => none }
def guardScalesRow : OpenClaim := { program := "ytogkmddhgfenkaa", sum := "73b684ecfdefb5eae373c3a662201417f078d7c3bb9827f2234bdf2e00c1c178", func := "plumbline/plumblinelaw05.GuardScales", spec := "guardScales", inPlace := ["math.Float64bits", "math.Float64frombits"], unfollowed := true, recurses := true, plainKeys := false, apart := false }
def GuardScalesSaid : Prop := guardScalesRow.holds Try.pinned (OpenSpec.ofChange guardScalesSpec)

/-- ITS FALSE NEIGHBOUR: 'it returns false'. Refute it at one input. -/
def guardScalesWrong : ChangeSpec := { name := "guardScales", fn := fun _ => fun
  | [d1, d2] => { results := [.lit (.bool false)], args := [d1, d2] }
  | _ => none }
def GuardScalesWrongFalsely : Prop := guardScalesRow.holds Try.pinned (OpenSpec.ofChange guardScalesWrong)

/-- 'plumblinelaw13.SturmCounts': WHATEVER THE INPUT: true; the input reads as it did. -/
def sturmCountsSpec : ChangeSpec := { name := "sturmCounts", fn := fun _ => fun
  | [d1, d2, d3] => { results := [.lit (.bool true)], args := [d1, d2, d3] }
  | _ => none }
def sturmCountsRow : OpenClaim := { program := "ytogkmddhgfenkaa", sum := "73b684ecfdefb5eae373c3a662201417f078d7c3bb9827f2234bdf2e00c1c178", func := "plumbline/plumblinelaw13.SturmCounts", spec := "sturmCounts", inPlace := ["math.Float64bits", "math.Float64frombits"], unfollowed := true, recurses := true, plainKeys := false, apart := false }
def SturmCountsSaid : Prop := sturmCountsRow.holds Try.pinned (OpenSpec.ofChange sturmCountsSpec)

/-- ITS FALSE NEIGHBOUR: 'it returns false'. Refute it at one input. -/
def sturmCountsWrong : ChangeSpec := { name := "sturmCounts", fn := fun _ => fun
  | [d1, d2, d3] => { results := [.lit (.bool false)], args := [d1, d2, d3] }
  | _ => none }
def SturmCountsWrongFalsely : Prop := sturmCountsRow.holds Try.pinned (OpenSpec.ofChange sturmCountsWrong)

/-- 'plumblinelaw13.SturmFinds': WHATEVER THE INPUT: true; the input reads as it did. -/
def sturmFindsSpec : ChangeSpec := { name := "sturmFinds", fn := fun _ => fun
  | [d1, d2] => { results := [.lit (.bool true)], args := [d1, d2] }
  | _ => none }
def sturmFindsRow : OpenClaim := { program := "ytogkmddhgfenkaa", sum := "73b684ecfdefb5eae373c3a662201417f078d7c3bb9827f2234bdf2e00c1c178", func := "plumbline/plumblinelaw13.SturmFinds", spec := "sturmFinds", inPlace := ["math.Float64bits", "math.Float64frombits"], unfollowed := true, recurses := true, plainKeys := false, apart := false }
def SturmFindsSaid : Prop := sturmFindsRow.holds Try.pinned (OpenSpec.ofChange sturmFindsSpec)

/-- ITS FALSE NEIGHBOUR: 'it returns false'. Refute it at one input. -/
def sturmFindsWrong : ChangeSpec := { name := "sturmFinds", fn := fun _ => fun
  | [d1, d2] => { results := [.lit (.bool false)], args := [d1, d2] }
  | _ => none }
def SturmFindsWrongFalsely : Prop := sturmFindsRow.holds Try.pinned (OpenSpec.ofChange sturmFindsWrong)

/-- 'plumblinelaw13.SturmNil': WHATEVER THE INPUT: true; the input reads as it did. -/
def sturmNilSpec : ChangeSpec := { name := "sturmNil", fn := fun _ => fun
  | [] => { results := [.lit (.bool true)], args := [] }
  | _ => none }
def sturmNilRow : OpenClaim := { program := "ytogkmddhgfenkaa", sum := "73b684ecfdefb5eae373c3a662201417f078d7c3bb9827f2234bdf2e00c1c178", func := "plumbline/plumblinelaw13.SturmNil", spec := "sturmNil", inPlace := ["math.Float64bits", "math.Float64frombits"], unfollowed := true, recurses := true, plainKeys := false, apart := false }
def SturmNilSaid : Prop := sturmNilRow.holds Try.pinned (OpenSpec.ofChange sturmNilSpec)

/-- ITS FALSE NEIGHBOUR: 'it returns false'. Refute it at one input. -/
def sturmNilWrong : ChangeSpec := { name := "sturmNil", fn := fun _ => fun
  | [] => { results := [.lit (.bool false)], args := [] }
  | _ => none }
def SturmNilWrongFalsely : Prop := sturmNilRow.holds Try.pinned (OpenSpec.ofChange sturmNilWrong)

/-- 'plumblinelaw13.SturmAll': WHATEVER THE INPUT: true; the input reads as it did. -/
def sturmAllSpec : ChangeSpec := { name := "sturmAll", fn := fun _ => fun
  | [d1, d2, d3] => { results := [.lit (.bool true)], args := [d1, d2, d3] }
  | _ => none }
def sturmAllRow : OpenClaim := { program := "ytogkmddhgfenkaa", sum := "73b684ecfdefb5eae373c3a662201417f078d7c3bb9827f2234bdf2e00c1c178", func := "plumbline/plumblinelaw13.SturmAll", spec := "sturmAll", inPlace := ["math.Float64bits", "math.Float64frombits"], unfollowed := true, recurses := true, plainKeys := false, apart := false }
def SturmAllSaid : Prop := sturmAllRow.holds Try.pinned (OpenSpec.ofChange sturmAllSpec)

/-- ITS FALSE NEIGHBOUR: 'it returns false'. Refute it at one input. -/
def sturmAllWrong : ChangeSpec := { name := "sturmAll", fn := fun _ => fun
  | [d1, d2, d3] => { results := [.lit (.bool false)], args := [d1, d2, d3] }
  | _ => none }
def SturmAllWrongFalsely : Prop := sturmAllRow.holds Try.pinned (OpenSpec.ofChange sturmAllWrong)

/- THE SECOND FORM. 'bulk': how many values and letters a reading holds, each counted each time it is reached (what is shared counts as often as it is met; a slice's spare places count too). A statement '..UptoSaid' is the law's where the arguments, and the package variables that the reading takes, are together of bulk at most 1048576: NARROWER than '..Said'. Prove '..Said' where nothing that the law and all that it calls make is longer than what came in: it says more and counts as full. Else prove '..UptoSaid'. A law counts once. -/
mutual
def uptoBulk {H : Type} : DataW H → Nat
  | .lit (.string bytes) => bytes.length + 1
  | .lit _ => 1
  | .nil => 1
  | .ptr d => uptoBulk d + 1
  | .slice elems spare => uptoBulkAll elems + uptoBulkAll spare + 1
  | .agg parts => uptoBulkAll parts + 1
  | .iface _ d => uptoBulk d + 1
  | .map entries => uptoBulkEntries entries + 1
  | .held _ => 1
def uptoBulkAll {H : Type} : List (DataW H) → Nat
  | [] => 0
  | d :: r => uptoBulk d + uptoBulkAll r
def uptoBulkEntries {H : Type} : List (Lit × DataW H) → Nat
  | [] => 0
  | x :: r => uptoBulkEntry x + uptoBulkEntries r
def uptoBulkEntry {H : Type} : Lit × DataW H → Nat
  | (.string bytes, d) => bytes.length + uptoBulk d + 1
  | (_, d) => uptoBulk d + 1
 end
def uptoSmall : (H : Type) → List (DataW H) → Bool := fun _ ds => decide (uptoBulkAll ds ≤ 1048576)
def OpenSpec.upto (s : _root_.Go.ChangeSpec) : _root_.Go.OpenSpec := { _root_.Go.OpenSpec.ofChange s with cond := some uptoSmall }

/-- 'plumblinelaw05.GuardSquares', WHERE WHAT IT READS IS OF BULK AT MOST 1048576: true; the input reads as it did. -/
def guardSquaresUptoRow : OpenClaim := { program := "ytogkmddhgfenkaa", sum := "73b684ecfdefb5eae373c3a662201417f078d7c3bb9827f2234bdf2e00c1c178", func := "plumbline/plumblinelaw05.GuardSquares", spec := "guardSquares", inPlace := ["math.Float64bits", "math.Float64frombits"], unfollowed := true, recurses := true, plainKeys := false, apart := false, narrowed := true }
def GuardSquaresUptoSaid : Prop := guardSquaresUptoRow.holds Try.pinned (OpenSpec.upto guardSquaresSpec)

/-- 'plumblinelaw05.GuardWords', WHERE WHAT IT READS IS OF BULK AT MOST 1048576: true; the input reads as it did. -/
def guardWordsUptoRow : OpenClaim := { program := "ytogkmddhgfenkaa", sum := "73b684ecfdefb5eae373c3a662201417f078d7c3bb9827f2234bdf2e00c1c178", func := "plumbline/plumblinelaw05.GuardWords", spec := "guardWords", inPlace := ["math.Float64frombits", "math.Float64bits"], unfollowed := true, recurses := true, plainKeys := false, apart := false, narrowed := true }
def GuardWordsUptoSaid : Prop := guardWordsUptoRow.holds Try.pinned (OpenSpec.upto guardWordsSpec)

/-- 'plumblinelaw05.GuardPowers', WHERE WHAT IT READS IS OF BULK AT MOST 1048576: true; the input reads as it did. -/
def guardPowersUptoRow : OpenClaim := { program := "ytogkmddhgfenkaa", sum := "73b684ecfdefb5eae373c3a662201417f078d7c3bb9827f2234bdf2e00c1c178", func := "plumbline/plumblinelaw05.GuardPowers", spec := "guardPowers", inPlace := ["math.Float64bits", "math.Float64frombits"], unfollowed := true, recurses := true, plainKeys := false, apart := false, narrowed := true }
def GuardPowersUptoSaid : Prop := guardPowersUptoRow.holds Try.pinned (OpenSpec.upto guardPowersSpec)

/-- 'plumblinelaw05.GuardTimes', WHERE WHAT IT READS IS OF BULK AT MOST 1048576: true; the input reads as it did. -/
def guardTimesUptoRow : OpenClaim := { program := "ytogkmddhgfenkaa", sum := "73b684ecfdefb5eae373c3a662201417f078d7c3bb9827f2234bdf2e00c1c178", func := "plumbline/plumblinelaw05.GuardTimes", spec := "guardTimes", inPlace := ["math.Float64bits", "math.Float64frombits"], unfollowed := true, recurses := true, plainKeys := false, apart := false, narrowed := true }
def GuardTimesUptoSaid : Prop := guardTimesUptoRow.holds Try.pinned (OpenSpec.upto guardTimesSpec)

/-- 'plumblinelaw05.GuardAny', WHERE WHAT IT READS IS OF BULK AT MOST 1048576: true; the input reads as it did. -/
def guardAnyUptoRow : OpenClaim := { program := "ytogkmddhgfenkaa", sum := "73b684ecfdefb5eae373c3a662201417f078d7c3bb9827f2234bdf2e00c1c178", func := "plumbline/plumblinelaw05.GuardAny", spec := "guardAny", inPlace := ["math.Float64bits", "math.Float64frombits"], unfollowed := true, recurses := true, plainKeys := false, apart := false, narrowed := true }
def GuardAnyUptoSaid : Prop := guardAnyUptoRow.holds Try.pinned (OpenSpec.upto guardAnySpec)

/-- 'plumblinelaw13.SturmBounds', WHERE WHAT IT READS IS OF BULK AT MOST 1048576: true; the input reads as it did. -/
def sturmBoundsUptoRow : OpenClaim := { program := "ytogkmddhgfenkaa", sum := "73b684ecfdefb5eae373c3a662201417f078d7c3bb9827f2234bdf2e00c1c178", func := "plumbline/plumblinelaw13.SturmBounds", spec := "sturmBounds", inPlace := ["math.Float64bits", "math.Float64frombits"], unfollowed := true, recurses := true, plainKeys := false, apart := false, narrowed := true }
def SturmBoundsUptoSaid : Prop := sturmBoundsUptoRow.holds Try.pinned (OpenSpec.upto sturmBoundsSpec)

/-- 'plumblinelaw13.SturmMeans', WHERE WHAT IT READS IS OF BULK AT MOST 1048576: true; the input reads as it did. -/
def sturmMeansUptoRow : OpenClaim := { program := "ytogkmddhgfenkaa", sum := "73b684ecfdefb5eae373c3a662201417f078d7c3bb9827f2234bdf2e00c1c178", func := "plumbline/plumblinelaw13.SturmMeans", spec := "sturmMeans", inPlace := ["math.Float64bits", "math.Float64frombits"], unfollowed := true, recurses := true, plainKeys := false, apart := false, narrowed := true }
def SturmMeansUptoSaid : Prop := sturmMeansUptoRow.holds Try.pinned (OpenSpec.upto sturmMeansSpec)

/-- 'plumblinelaw05.GuardScales', WHERE WHAT IT READS IS OF BULK AT MOST 1048576: true; the input reads as it did. -/
def guardScalesUptoRow : OpenClaim := { program := "ytogkmddhgfenkaa", sum := "73b684ecfdefb5eae373c3a662201417f078d7c3bb9827f2234bdf2e00c1c178", func := "plumbline/plumblinelaw05.GuardScales", spec := "guardScales", inPlace := ["math.Float64bits", "math.Float64frombits"], unfollowed := true, recurses := true, plainKeys := false, apart := false, narrowed := true }
def GuardScalesUptoSaid : Prop := guardScalesUptoRow.holds Try.pinned (OpenSpec.upto guardScalesSpec)

/-- 'plumblinelaw13.SturmCounts', WHERE WHAT IT READS IS OF BULK AT MOST 1048576: true; the input reads as it did. -/
def sturmCountsUptoRow : OpenClaim := { program := "ytogkmddhgfenkaa", sum := "73b684ecfdefb5eae373c3a662201417f078d7c3bb9827f2234bdf2e00c1c178", func := "plumbline/plumblinelaw13.SturmCounts", spec := "sturmCounts", inPlace := ["math.Float64bits", "math.Float64frombits"], unfollowed := true, recurses := true, plainKeys := false, apart := false, narrowed := true }
def SturmCountsUptoSaid : Prop := sturmCountsUptoRow.holds Try.pinned (OpenSpec.upto sturmCountsSpec)

/-- 'plumblinelaw13.SturmFinds', WHERE WHAT IT READS IS OF BULK AT MOST 1048576: true; the input reads as it did. -/
def sturmFindsUptoRow : OpenClaim := { program := "ytogkmddhgfenkaa", sum := "73b684ecfdefb5eae373c3a662201417f078d7c3bb9827f2234bdf2e00c1c178", func := "plumbline/plumblinelaw13.SturmFinds", spec := "sturmFinds", inPlace := ["math.Float64bits", "math.Float64frombits"], unfollowed := true, recurses := true, plainKeys := false, apart := false, narrowed := true }
def SturmFindsUptoSaid : Prop := sturmFindsUptoRow.holds Try.pinned (OpenSpec.upto sturmFindsSpec)

/-- 'plumblinelaw13.SturmNil', WHERE WHAT IT READS IS OF BULK AT MOST 1048576: true; the input reads as it did. -/
def sturmNilUptoRow : OpenClaim := { program := "ytogkmddhgfenkaa", sum := "73b684ecfdefb5eae373c3a662201417f078d7c3bb9827f2234bdf2e00c1c178", func := "plumbline/plumblinelaw13.SturmNil", spec := "sturmNil", inPlace := ["math.Float64bits", "math.Float64frombits"], unfollowed := true, recurses := true, plainKeys := false, apart := false, narrowed := true }
def SturmNilUptoSaid : Prop := sturmNilUptoRow.holds Try.pinned (OpenSpec.upto sturmNilSpec)

/-- 'plumblinelaw13.SturmAll', WHERE WHAT IT READS IS OF BULK AT MOST 1048576: true; the input reads as it did. -/
def sturmAllUptoRow : OpenClaim := { program := "ytogkmddhgfenkaa", sum := "73b684ecfdefb5eae373c3a662201417f078d7c3bb9827f2234bdf2e00c1c178", func := "plumbline/plumblinelaw13.SturmAll", spec := "sturmAll", inPlace := ["math.Float64bits", "math.Float64frombits"], unfollowed := true, recurses := true, plainKeys := false, apart := false, narrowed := true }
def SturmAllUptoSaid : Prop := sturmAllUptoRow.holds Try.pinned (OpenSpec.upto sturmAllSpec)

end Rows
end Go.Proofs.Ytogkmddhgfenkaa
