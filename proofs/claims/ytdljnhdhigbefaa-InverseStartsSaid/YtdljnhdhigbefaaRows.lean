/-
  No cell of these rows narrows 'for every input' (looked for: loops, veiled, ifaces, maps, wideKeys, modest, calm, conditions, laid).
  DERIVED. THE GIVEN ROWS OF THIS SEAT. 10 by the template 'for every input the law returns true; each argument reads behind the call as it read before'; 0 by the template 'total and deterministic' (their statements: YtdljnhdhigbefaaTotals.lean).
  GIVEN WITH THE SEED: the statements are not yours to turn. If you find one false, say at which input.
  Laid BY PROGRAM, IN A SANDBOX (cutbox-rows.mjs): the forced cells as the released guide's own fill.sh prints them over the translation 4fbba77bb676d2e3… (all of the seat's roots in one cut). By AI agents, Wed Nov 11 2026. No macro, syntax, notation, axiom, sorry.
-/
import Derived.Test.YtdljnhdhigbefaaChecked
import GoSem.Claim
import GoSem.ClaimJoined
import GoSem.ClaimMapViews
import Derived.JoinedTies
import Derived.KernelRfl
namespace Go.Proofs.Ytdljnhdhigbefaa
/- THE CELL 'sum', in the pinned program and in every row, IS THE sha256 OF THE DUMP (.gsa) THAT YtdljnhdhigbefaaProg.lean LOADS. Nothing in Lean hashes anything: it is a label: what it is worth is what the hold of that sum in a sandbox is worth. -/
noncomputable def Try.pinned : Pinned := { name := "ytdljnhdhigbefaa", sum := "4fbba77bb676d2e3688ba6584ffe7f9d5ec52c37b4b9b6c1f48cbc1493f241a1", checked := Try.checked }
namespace Rows
def none {H : Type} : Left H := { results := [], args := [] }

/-- 'plumblinelaw17.GkSolves': WHATEVER THE INPUT: true; the input reads as it did. -/
def gkSolvesSpec : ChangeSpec := { name := "gkSolves", fn := fun _ => fun
  | [d1, d2, d3] => { results := [.lit (.bool true)], args := [d1, d2, d3] }
  | _ => none }
def gkSolvesRow : OpenClaim := { program := "ytdljnhdhigbefaa", sum := "4fbba77bb676d2e3688ba6584ffe7f9d5ec52c37b4b9b6c1f48cbc1493f241a1", func := "plumbline/plumblinelaw17.GkSolves", spec := "gkSolves", inPlace := ["math.Float64bits", "math.Float64frombits", "math.sqrt"], unfollowed := true, recurses := true, plainKeys := false, apart := false }
def GkSolvesSaid : Prop := gkSolvesRow.holds Try.pinned (OpenSpec.ofChange gkSolvesSpec)

/-- ITS FALSE NEIGHBOUR: 'it returns false'. Refute it at one input. -/
def gkSolvesWrong : ChangeSpec := { name := "gkSolves", fn := fun _ => fun
  | [d1, d2, d3] => { results := [.lit (.bool false)], args := [d1, d2, d3] }
  | _ => none }
def GkSolvesWrongFalsely : Prop := gkSolvesRow.holds Try.pinned (OpenSpec.ofChange gkSolvesWrong)

/-- 'plumblinelaw17.GkFalls': WHATEVER THE INPUT: true; the input reads as it did. -/
def gkFallsSpec : ChangeSpec := { name := "gkFalls", fn := fun _ => fun
  | [d] => { results := [.lit (.bool true)], args := [d] }
  | _ => none }
def gkFallsRow : OpenClaim := { program := "ytdljnhdhigbefaa", sum := "4fbba77bb676d2e3688ba6584ffe7f9d5ec52c37b4b9b6c1f48cbc1493f241a1", func := "plumbline/plumblinelaw17.GkFalls", spec := "gkFalls", inPlace := ["math.Float64bits", "math.Float64frombits", "math.sqrt"], unfollowed := true, recurses := true, plainKeys := false, apart := false }
def GkFallsSaid : Prop := gkFallsRow.holds Try.pinned (OpenSpec.ofChange gkFallsSpec)

/-- ITS FALSE NEIGHBOUR: 'it returns false'. Refute it at one input. -/
def gkFallsWrong : ChangeSpec := { name := "gkFalls", fn := fun _ => fun
  | [d] => { results := [.lit (.bool false)], args := [d] }
  | _ => none }
def GkFallsWrongFalsely : Prop := gkFallsRow.holds Try.pinned (OpenSpec.ofChange gkFallsWrong)

/-- 'plumblinelaw17.GkDiagonal': WHATEVER THE INPUT: true; the input reads as it did. -/
def gkDiagonalSpec : ChangeSpec := { name := "gkDiagonal", fn := fun _ => fun
  | [d] => { results := [.lit (.bool true)], args := [d] }
  | _ => none }
def gkDiagonalRow : OpenClaim := { program := "ytdljnhdhigbefaa", sum := "4fbba77bb676d2e3688ba6584ffe7f9d5ec52c37b4b9b6c1f48cbc1493f241a1", func := "plumbline/plumblinelaw17.GkDiagonal", spec := "gkDiagonal", inPlace := ["math.Float64bits", "math.Float64frombits", "math.sqrt"], unfollowed := true, recurses := true, plainKeys := false, apart := false }
def GkDiagonalSaid : Prop := gkDiagonalRow.holds Try.pinned (OpenSpec.ofChange gkDiagonalSpec)

/-- ITS FALSE NEIGHBOUR: 'it returns false'. Refute it at one input. -/
def gkDiagonalWrong : ChangeSpec := { name := "gkDiagonal", fn := fun _ => fun
  | [d] => { results := [.lit (.bool false)], args := [d] }
  | _ => none }
def GkDiagonalWrongFalsely : Prop := gkDiagonalRow.holds Try.pinned (OpenSpec.ofChange gkDiagonalWrong)

/-- 'plumblinelaw14.InverseSolves': WHATEVER THE INPUT: true; the input reads as it did. -/
def inverseSolvesSpec : ChangeSpec := { name := "inverseSolves", fn := fun _ => fun
  | [d1, d2] => { results := [.lit (.bool true)], args := [d1, d2] }
  | _ => none }
def inverseSolvesRow : OpenClaim := { program := "ytdljnhdhigbefaa", sum := "4fbba77bb676d2e3688ba6584ffe7f9d5ec52c37b4b9b6c1f48cbc1493f241a1", func := "plumbline/plumblinelaw14.InverseSolves", spec := "inverseSolves", inPlace := ["math.Float64bits", "math.Float64frombits", "math.sqrt"], unfollowed := true, recurses := true, plainKeys := false, apart := false }
def InverseSolvesSaid : Prop := inverseSolvesRow.holds Try.pinned (OpenSpec.ofChange inverseSolvesSpec)

/-- ITS FALSE NEIGHBOUR: 'it returns false'. Refute it at one input. -/
def inverseSolvesWrong : ChangeSpec := { name := "inverseSolves", fn := fun _ => fun
  | [d1, d2] => { results := [.lit (.bool false)], args := [d1, d2] }
  | _ => none }
def InverseSolvesWrongFalsely : Prop := inverseSolvesRow.holds Try.pinned (OpenSpec.ofChange inverseSolvesWrong)

/-- 'plumblinelaw14.InverseNil': WHATEVER THE INPUT: true; the input reads as it did. -/
def inverseNilSpec : ChangeSpec := { name := "inverseNil", fn := fun _ => fun
  | [] => { results := [.lit (.bool true)], args := [] }
  | _ => none }
def inverseNilRow : OpenClaim := { program := "ytdljnhdhigbefaa", sum := "4fbba77bb676d2e3688ba6584ffe7f9d5ec52c37b4b9b6c1f48cbc1493f241a1", func := "plumbline/plumblinelaw14.InverseNil", spec := "inverseNil", inPlace := ["math.Float64bits", "math.Float64frombits", "math.sqrt"], unfollowed := true, recurses := true, plainKeys := false, apart := false }
def InverseNilSaid : Prop := inverseNilRow.holds Try.pinned (OpenSpec.ofChange inverseNilSpec)

/-- ITS FALSE NEIGHBOUR: 'it returns false'. Refute it at one input. -/
def inverseNilWrong : ChangeSpec := { name := "inverseNil", fn := fun _ => fun
  | [] => { results := [.lit (.bool false)], args := [] }
  | _ => none }
def InverseNilWrongFalsely : Prop := inverseNilRow.holds Try.pinned (OpenSpec.ofChange inverseNilWrong)

/-- 'plumblinelaw14.InverseStarts': WHATEVER THE INPUT: true; the input reads as it did. -/
def inverseStartsSpec : ChangeSpec := { name := "inverseStarts", fn := fun _ => fun
  | [d1, d2] => { results := [.lit (.bool true)], args := [d1, d2] }
  | _ => none }
def inverseStartsRow : OpenClaim := { program := "ytdljnhdhigbefaa", sum := "4fbba77bb676d2e3688ba6584ffe7f9d5ec52c37b4b9b6c1f48cbc1493f241a1", func := "plumbline/plumblinelaw14.InverseStarts", spec := "inverseStarts", inPlace := ["math.Float64bits", "math.Float64frombits", "math.sqrt"], unfollowed := true, recurses := true, plainKeys := false, apart := false }
def InverseStartsSaid : Prop := inverseStartsRow.holds Try.pinned (OpenSpec.ofChange inverseStartsSpec)

/-- ITS FALSE NEIGHBOUR: 'it returns false'. Refute it at one input. -/
def inverseStartsWrong : ChangeSpec := { name := "inverseStarts", fn := fun _ => fun
  | [d1, d2] => { results := [.lit (.bool false)], args := [d1, d2] }
  | _ => none }
def InverseStartsWrongFalsely : Prop := inverseStartsRow.holds Try.pinned (OpenSpec.ofChange inverseStartsWrong)

/-- 'plumblinelaw14.InverseFactors': WHATEVER THE INPUT: true; the input reads as it did. -/
def inverseFactorsSpec : ChangeSpec := { name := "inverseFactors", fn := fun _ => fun
  | [d1, d2] => { results := [.lit (.bool true)], args := [d1, d2] }
  | _ => none }
def inverseFactorsRow : OpenClaim := { program := "ytdljnhdhigbefaa", sum := "4fbba77bb676d2e3688ba6584ffe7f9d5ec52c37b4b9b6c1f48cbc1493f241a1", func := "plumbline/plumblinelaw14.InverseFactors", spec := "inverseFactors", inPlace := ["math.Float64bits", "math.Float64frombits", "math.sqrt"], unfollowed := true, recurses := true, plainKeys := false, apart := false }
def InverseFactorsSaid : Prop := inverseFactorsRow.holds Try.pinned (OpenSpec.ofChange inverseFactorsSpec)

/-- ITS FALSE NEIGHBOUR: 'it returns false'. Refute it at one input. -/
def inverseFactorsWrong : ChangeSpec := { name := "inverseFactors", fn := fun _ => fun
  | [d1, d2] => { results := [.lit (.bool false)], args := [d1, d2] }
  | _ => none }
def InverseFactorsWrongFalsely : Prop := inverseFactorsRow.holds Try.pinned (OpenSpec.ofChange inverseFactorsWrong)

/-- 'plumblinelaw14.InverseClusters': WHATEVER THE INPUT: true; the input reads as it did. -/
def inverseClustersSpec : ChangeSpec := { name := "inverseClusters", fn := fun _ => fun
  | [d1, d2] => { results := [.lit (.bool true)], args := [d1, d2] }
  | _ => none }
def inverseClustersRow : OpenClaim := { program := "ytdljnhdhigbefaa", sum := "4fbba77bb676d2e3688ba6584ffe7f9d5ec52c37b4b9b6c1f48cbc1493f241a1", func := "plumbline/plumblinelaw14.InverseClusters", spec := "inverseClusters", inPlace := ["math.Float64bits", "math.Float64frombits", "math.sqrt"], unfollowed := true, recurses := true, plainKeys := false, apart := false }
def InverseClustersSaid : Prop := inverseClustersRow.holds Try.pinned (OpenSpec.ofChange inverseClustersSpec)

/-- ITS FALSE NEIGHBOUR: 'it returns false'. Refute it at one input. -/
def inverseClustersWrong : ChangeSpec := { name := "inverseClusters", fn := fun _ => fun
  | [d1, d2] => { results := [.lit (.bool false)], args := [d1, d2] }
  | _ => none }
def InverseClustersWrongFalsely : Prop := inverseClustersRow.holds Try.pinned (OpenSpec.ofChange inverseClustersWrong)

/-- 'plumblinelaw14.InverseVectors': WHATEVER THE INPUT: true; the input reads as it did. -/
def inverseVectorsSpec : ChangeSpec := { name := "inverseVectors", fn := fun _ => fun
  | [d1, d2] => { results := [.lit (.bool true)], args := [d1, d2] }
  | _ => none }
def inverseVectorsRow : OpenClaim := { program := "ytdljnhdhigbefaa", sum := "4fbba77bb676d2e3688ba6584ffe7f9d5ec52c37b4b9b6c1f48cbc1493f241a1", func := "plumbline/plumblinelaw14.InverseVectors", spec := "inverseVectors", inPlace := ["math.Float64bits", "math.Float64frombits", "math.sqrt"], unfollowed := true, recurses := true, plainKeys := false, apart := false }
def InverseVectorsSaid : Prop := inverseVectorsRow.holds Try.pinned (OpenSpec.ofChange inverseVectorsSpec)

/-- ITS FALSE NEIGHBOUR: 'it returns false'. Refute it at one input. -/
def inverseVectorsWrong : ChangeSpec := { name := "inverseVectors", fn := fun _ => fun
  | [d1, d2] => { results := [.lit (.bool false)], args := [d1, d2] }
  | _ => none }
def InverseVectorsWrongFalsely : Prop := inverseVectorsRow.holds Try.pinned (OpenSpec.ofChange inverseVectorsWrong)

/-- 'plumblinelaw14.InverseMeans': WHATEVER THE INPUT: true; the input reads as it did. -/
def inverseMeansSpec : ChangeSpec := { name := "inverseMeans", fn := fun _ => fun
  | [d] => { results := [.lit (.bool true)], args := [d] }
  | _ => none }
def inverseMeansRow : OpenClaim := { program := "ytdljnhdhigbefaa", sum := "4fbba77bb676d2e3688ba6584ffe7f9d5ec52c37b4b9b6c1f48cbc1493f241a1", func := "plumbline/plumblinelaw14.InverseMeans", spec := "inverseMeans", inPlace := ["math.Float64bits", "math.Float64frombits", "math.sqrt"], unfollowed := true, recurses := true, plainKeys := false, apart := false }
def InverseMeansSaid : Prop := inverseMeansRow.holds Try.pinned (OpenSpec.ofChange inverseMeansSpec)

/-- ITS FALSE NEIGHBOUR: 'it returns false'. Refute it at one input. -/
def inverseMeansWrong : ChangeSpec := { name := "inverseMeans", fn := fun _ => fun
  | [d] => { results := [.lit (.bool false)], args := [d] }
  | _ => none }
def InverseMeansWrongFalsely : Prop := inverseMeansRow.holds Try.pinned (OpenSpec.ofChange inverseMeansWrong)

/- THE SECOND FORM. 'bulk': how many values and letters a reading holds, each counted each time it is reached (what is shared counts as often as it is met; a slice's spare places count too). A statement '..UptoSaid' is the law's where the arguments, and the package variables that the reading takes, are together of bulk at most 1048576: NARROWER than '..Said'. Prove '..Said' where nothing that the law and all that it calls make is longer than what came in: it says more and counts as full. Else prove '..UptoSaid'. A law counts once. -/
mutual
def uptoBulk {H : Type} : DataW H → Nat
  | .lit (.string bytes) => bytes.length + 1
  | .lit _ => 1
  | .nil => 1
  | .ptr d => uptoBulk d + 1
  | .slice elems spare => uptoBulkAll elems + uptoBulkAll spare + 1
  | .agg parts => uptoBulkAll parts + 1
  | .iface _ d => uptoBulk d + 1
  | .map entries => uptoBulkEntries entries + 1
  | .held _ => 1
def uptoBulkAll {H : Type} : List (DataW H) → Nat
  | [] => 0
  | d :: r => uptoBulk d + uptoBulkAll r
def uptoBulkEntries {H : Type} : List (Lit × DataW H) → Nat
  | [] => 0
  | x :: r => uptoBulkEntry x + uptoBulkEntries r
def uptoBulkEntry {H : Type} : Lit × DataW H → Nat
  | (.string bytes, d) => bytes.length + uptoBulk d + 1
  | (_, d) => uptoBulk d + 1
 end
def uptoSmall : (H : Type) → List (DataW H) → Bool := fun _ ds => decide (uptoBulkAll ds ≤ 1048576)
def OpenSpec.upto (s : _root_.Go.ChangeSpec) : _root_.Go.OpenSpec := { _root_.Go.OpenSpec.ofChange s with cond := some uptoSmall }

/-- 'plumblinelaw17.GkSolves', WHERE WHAT IT READS IS OF BULK AT MOST 1048576: true; the input reads as it did. -/
def gkSolvesUptoRow : OpenClaim := { program := "ytdljnhdhigbefaa", sum := "4fbba77bb676d2e3688ba6584ffe7f9d5ec52c37b4b9b6c1f48cbc1493f241a1", func := "plumbline/plumblinelaw17.GkSolves", spec := "gkSolves", inPlace := ["math.Float64bits", "math.Float64frombits", "math.sqrt"], unfollowed := true, recurses := true, plainKeys := false, apart := false, narrowed := true }
def GkSolvesUptoSaid : Prop := gkSolvesUptoRow.holds Try.pinned (OpenSpec.upto gkSolvesSpec)

/-- 'plumblinelaw17.GkFalls', WHERE WHAT IT READS IS OF BULK AT MOST 1048576: true; the input reads as it did. -/
def gkFallsUptoRow : OpenClaim := { program := "ytdljnhdhigbefaa", sum := "4fbba77bb676d2e3688ba6584ffe7f9d5ec52c37b4b9b6c1f48cbc1493f241a1", func := "plumbline/plumblinelaw17.GkFalls", spec := "gkFalls", inPlace := ["math.Float64bits", "math.Float64frombits", "math.sqrt"], unfollowed := true, recurses := true, plainKeys := false, apart := false, narrowed := true }
def GkFallsUptoSaid : Prop := gkFallsUptoRow.holds Try.pinned (OpenSpec.upto gkFallsSpec)

/-- 'plumblinelaw17.GkDiagonal', WHERE WHAT IT READS IS OF BULK AT MOST 1048576: true; the input reads as it did. -/
def gkDiagonalUptoRow : OpenClaim := { program := "ytdljnhdhigbefaa", sum := "4fbba77bb676d2e3688ba6584ffe7f9d5ec52c37b4b9b6c1f48cbc1493f241a1", func := "plumbline/plumblinelaw17.GkDiagonal", spec := "gkDiagonal", inPlace := ["math.Float64bits", "math.Float64frombits", "math.sqrt"], unfollowed := true, recurses := true, plainKeys := false, apart := false, narrowed := true }
def GkDiagonalUptoSaid : Prop := gkDiagonalUptoRow.holds Try.pinned (OpenSpec.upto gkDiagonalSpec)

/-- 'plumblinelaw14.InverseSolves', WHERE WHAT IT READS IS OF BULK AT MOST 1048576: true; the input reads as it did. -/
def inverseSolvesUptoRow : OpenClaim := { program := "ytdljnhdhigbefaa", sum := "4fbba77bb676d2e3688ba6584ffe7f9d5ec52c37b4b9b6c1f48cbc1493f241a1", func := "plumbline/plumblinelaw14.InverseSolves", spec := "inverseSolves", inPlace := ["math.Float64bits", "math.Float64frombits", "math.sqrt"], unfollowed := true, recurses := true, plainKeys := false, apart := false, narrowed := true }
def InverseSolvesUptoSaid : Prop := inverseSolvesUptoRow.holds Try.pinned (OpenSpec.upto inverseSolvesSpec)

/-- 'plumblinelaw14.InverseNil', WHERE WHAT IT READS IS OF BULK AT MOST 1048576: true; the input reads as it did. -/
def inverseNilUptoRow : OpenClaim := { program := "ytdljnhdhigbefaa", sum := "4fbba77bb676d2e3688ba6584ffe7f9d5ec52c37b4b9b6c1f48cbc1493f241a1", func := "plumbline/plumblinelaw14.InverseNil", spec := "inverseNil", inPlace := ["math.Float64bits", "math.Float64frombits", "math.sqrt"], unfollowed := true, recurses := true, plainKeys := false, apart := false, narrowed := true }
def InverseNilUptoSaid : Prop := inverseNilUptoRow.holds Try.pinned (OpenSpec.upto inverseNilSpec)

/-- 'plumblinelaw14.InverseStarts', WHERE WHAT IT READS IS OF BULK AT MOST 1048576: true; the input reads as it did. -/
def inverseStartsUptoRow : OpenClaim := { program := "ytdljnhdhigbefaa", sum := "4fbba77bb676d2e3688ba6584ffe7f9d5ec52c37b4b9b6c1f48cbc1493f241a1", func := "plumbline/plumblinelaw14.InverseStarts", spec := "inverseStarts", inPlace := ["math.Float64bits", "math.Float64frombits", "math.sqrt"], unfollowed := true, recurses := true, plainKeys := false, apart := false, narrowed := true }
def InverseStartsUptoSaid : Prop := inverseStartsUptoRow.holds Try.pinned (OpenSpec.upto inverseStartsSpec)

/-- 'plumblinelaw14.InverseFactors', WHERE WHAT IT READS IS OF BULK AT MOST 1048576: true; the input reads as it did. -/
def inverseFactorsUptoRow : OpenClaim := { program := "ytdljnhdhigbefaa", sum := "4fbba77bb676d2e3688ba6584ffe7f9d5ec52c37b4b9b6c1f48cbc1493f241a1", func := "plumbline/plumblinelaw14.InverseFactors", spec := "inverseFactors", inPlace := ["math.Float64bits", "math.Float64frombits", "math.sqrt"], unfollowed := true, recurses := true, plainKeys := false, apart := false, narrowed := true }
def InverseFactorsUptoSaid : Prop := inverseFactorsUptoRow.holds Try.pinned (OpenSpec.upto inverseFactorsSpec)

/-- 'plumblinelaw14.InverseClusters', WHERE WHAT IT READS IS OF BULK AT MOST 1048576: true; the input reads as it did. -/
def inverseClustersUptoRow : OpenClaim := { program := "ytdljnhdhigbefaa", sum := "4fbba77bb676d2e3688ba6584ffe7f9d5ec52c37b4b9b6c1f48cbc1493f241a1", func := "plumbline/plumblinelaw14.InverseClusters", spec := "inverseClusters", inPlace := ["math.Float64bits", "math.Float64frombits", "math.sqrt"], unfollowed := true, recurses := true, plainKeys := false, apart := false, narrowed := true }
def InverseClustersUptoSaid : Prop := inverseClustersUptoRow.holds Try.pinned (OpenSpec.upto inverseClustersSpec)

/-- 'plumblinelaw14.InverseVectors', WHERE WHAT IT READS IS OF BULK AT MOST 1048576: true; the input reads as it did. -/
def inverseVectorsUptoRow : OpenClaim := { program := "ytdljnhdhigbefaa", sum := "4fbba77bb676d2e3688ba6584ffe7f9d5ec52c37b4b9b6c1f48cbc1493f241a1", func := "plumbline/plumblinelaw14.InverseVectors", spec := "inverseVectors", inPlace := ["math.Float64bits", "math.Float64frombits", "math.sqrt"], unfollowed := true, recurses := true, plainKeys := false, apart := false, narrowed := true }
def InverseVectorsUptoSaid : Prop := inverseVectorsUptoRow.holds Try.pinned (OpenSpec.upto inverseVectorsSpec)

/-- 'plumblinelaw14.InverseMeans', WHERE WHAT IT READS IS OF BULK AT MOST 1048576: true; the input reads as it did. -/
def inverseMeansUptoRow : OpenClaim := { program := "ytdljnhdhigbefaa", sum := "4fbba77bb676d2e3688ba6584ffe7f9d5ec52c37b4b9b6c1f48cbc1493f241a1", func := "plumbline/plumblinelaw14.InverseMeans", spec := "inverseMeans", inPlace := ["math.Float64bits", "math.Float64frombits", "math.sqrt"], unfollowed := true, recurses := true, plainKeys := false, apart := false, narrowed := true }
def InverseMeansUptoSaid : Prop := inverseMeansUptoRow.holds Try.pinned (OpenSpec.upto inverseMeansSpec)

end Rows
end Go.Proofs.Ytdljnhdhigbefaa
