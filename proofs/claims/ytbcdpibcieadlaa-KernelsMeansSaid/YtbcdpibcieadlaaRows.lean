/-
  No cell of these rows narrows 'for every input' (looked for: loops, veiled, ifaces, maps, wideKeys, modest, calm, conditions, laid).
  DERIVED. THE GIVEN ROWS OF THIS SEAT. 12 by the template 'for every input the law returns true; each argument reads behind the call as it read before'; 0 by the template 'total and deterministic' (their statements: YtbcdpibcieadlaaTotals.lean).
  GIVEN WITH THE SEED: the statements are not yours to turn. If you find one false, say at which input.
  Laid BY PROGRAM, IN A SANDBOX (cutbox-rows.mjs): the forced cells as the released guide's own fill.sh prints them over the translation f35bddd1449a1e9c… (all of the seat's roots in one cut). By AI agents, Wed Nov 11 2026. No macro, syntax, notation, axiom, sorry.
-/
import Derived.Test.YtbcdpibcieadlaaChecked
import GoSem.Claim
import GoSem.ClaimJoined
import GoSem.ClaimMapViews
import Derived.JoinedTies
import Derived.KernelRfl
namespace Go.Proofs.Ytbcdpibcieadlaa
/- THE CELL 'sum', in the pinned program and in every row, IS THE sha256 OF THE DUMP (.gsa) THAT YtbcdpibcieadlaaProg.lean LOADS. Nothing in Lean hashes anything: it is a label: what it is worth is what the hold of that sum in a sandbox is worth. -/
noncomputable def Try.pinned : Pinned := { name := "ytbcdpibcieadlaa", sum := "f35bddd1449a1e9c22dd4459183d6c0439ed472f975cc33031a0fdadd4ba60dc", checked := Try.checked }
namespace Rows
def none {H : Type} : Left H := { results := [], args := [] }

/-- 'plumblinelaw08.KernelsSums': WHATEVER THE INPUT: true; the input reads as it did. -/
def kernelsSumsSpec : ChangeSpec := { name := "kernelsSums", fn := fun _ => fun
  | [d1, d2, d3] => { results := [.lit (.bool true)], args := [d1, d2, d3] }
  | _ => none }
def kernelsSumsRow : OpenClaim := { program := "ytbcdpibcieadlaa", sum := "f35bddd1449a1e9c22dd4459183d6c0439ed472f975cc33031a0fdadd4ba60dc", func := "plumbline/plumblinelaw08.KernelsSums", spec := "kernelsSums", inPlace := ["math.Float64bits", "math.Float64frombits"], unfollowed := true, recurses := true, plainKeys := false, apart := false }
def KernelsSumsSaid : Prop := kernelsSumsRow.holds Try.pinned (OpenSpec.ofChange kernelsSumsSpec)

/-- ITS FALSE NEIGHBOUR: 'it returns false'. Refute it at one input. -/
def kernelsSumsWrong : ChangeSpec := { name := "kernelsSums", fn := fun _ => fun
  | [d1, d2, d3] => { results := [.lit (.bool false)], args := [d1, d2, d3] }
  | _ => none }
def KernelsSumsWrongFalsely : Prop := kernelsSumsRow.holds Try.pinned (OpenSpec.ofChange kernelsSumsWrong)

/-- 'plumblinelaw08.KernelsGemv': WHATEVER THE INPUT: true; the input reads as it did. -/
def kernelsGemvSpec : ChangeSpec := { name := "kernelsGemv", fn := fun _ => fun
  | [d1, d2, d3, d4, d5, d6] => { results := [.lit (.bool true)], args := [d1, d2, d3, d4, d5, d6] }
  | _ => none }
def kernelsGemvRow : OpenClaim := { program := "ytbcdpibcieadlaa", sum := "f35bddd1449a1e9c22dd4459183d6c0439ed472f975cc33031a0fdadd4ba60dc", func := "plumbline/plumblinelaw08.KernelsGemv", spec := "kernelsGemv", inPlace := ["math.Float64bits", "math.Float64frombits"], unfollowed := true, recurses := true, plainKeys := false, apart := false }
def KernelsGemvSaid : Prop := kernelsGemvRow.holds Try.pinned (OpenSpec.ofChange kernelsGemvSpec)

/-- ITS FALSE NEIGHBOUR: 'it returns false'. Refute it at one input. -/
def kernelsGemvWrong : ChangeSpec := { name := "kernelsGemv", fn := fun _ => fun
  | [d1, d2, d3, d4, d5, d6] => { results := [.lit (.bool false)], args := [d1, d2, d3, d4, d5, d6] }
  | _ => none }
def KernelsGemvWrongFalsely : Prop := kernelsGemvRow.holds Try.pinned (OpenSpec.ofChange kernelsGemvWrong)

/-- 'plumblinelaw08.KernelsGemm': WHATEVER THE INPUT: true; the input reads as it did. -/
def kernelsGemmSpec : ChangeSpec := { name := "kernelsGemm", fn := fun _ => fun
  | [d1, d2, d3, d4, d5, d6] => { results := [.lit (.bool true)], args := [d1, d2, d3, d4, d5, d6] }
  | _ => none }
def kernelsGemmRow : OpenClaim := { program := "ytbcdpibcieadlaa", sum := "f35bddd1449a1e9c22dd4459183d6c0439ed472f975cc33031a0fdadd4ba60dc", func := "plumbline/plumblinelaw08.KernelsGemm", spec := "kernelsGemm", inPlace := ["math.Float64bits", "math.Float64frombits"], unfollowed := true, recurses := true, plainKeys := false, apart := false }
def KernelsGemmSaid : Prop := kernelsGemmRow.holds Try.pinned (OpenSpec.ofChange kernelsGemmSpec)

/-- ITS FALSE NEIGHBOUR: 'it returns false'. Refute it at one input. -/
def kernelsGemmWrong : ChangeSpec := { name := "kernelsGemm", fn := fun _ => fun
  | [d1, d2, d3, d4, d5, d6] => { results := [.lit (.bool false)], args := [d1, d2, d3, d4, d5, d6] }
  | _ => none }
def KernelsGemmWrongFalsely : Prop := kernelsGemmRow.holds Try.pinned (OpenSpec.ofChange kernelsGemmWrong)

/-- 'plumblinelaw08.KernelsTrmm': WHATEVER THE INPUT: true; the input reads as it did. -/
def kernelsTrmmSpec : ChangeSpec := { name := "kernelsTrmm", fn := fun _ => fun
  | [d1, d2, d3, d4, d5] => { results := [.lit (.bool true)], args := [d1, d2, d3, d4, d5] }
  | _ => none }
def kernelsTrmmRow : OpenClaim := { program := "ytbcdpibcieadlaa", sum := "f35bddd1449a1e9c22dd4459183d6c0439ed472f975cc33031a0fdadd4ba60dc", func := "plumbline/plumblinelaw08.KernelsTrmm", spec := "kernelsTrmm", inPlace := ["math.Float64bits", "math.Float64frombits"], unfollowed := true, recurses := true, plainKeys := false, apart := false }
def KernelsTrmmSaid : Prop := kernelsTrmmRow.holds Try.pinned (OpenSpec.ofChange kernelsTrmmSpec)

/-- ITS FALSE NEIGHBOUR: 'it returns false'. Refute it at one input. -/
def kernelsTrmmWrong : ChangeSpec := { name := "kernelsTrmm", fn := fun _ => fun
  | [d1, d2, d3, d4, d5] => { results := [.lit (.bool false)], args := [d1, d2, d3, d4, d5] }
  | _ => none }
def KernelsTrmmWrongFalsely : Prop := kernelsTrmmRow.holds Try.pinned (OpenSpec.ofChange kernelsTrmmWrong)

/-- 'plumblinelaw08.KernelsMeans': WHATEVER THE INPUT: true; the input reads as it did. -/
def kernelsMeansSpec : ChangeSpec := { name := "kernelsMeans", fn := fun _ => fun
  | [d1, d2, d3, d4] => { results := [.lit (.bool true)], args := [d1, d2, d3, d4] }
  | _ => none }
def kernelsMeansRow : OpenClaim := { program := "ytbcdpibcieadlaa", sum := "f35bddd1449a1e9c22dd4459183d6c0439ed472f975cc33031a0fdadd4ba60dc", func := "plumbline/plumblinelaw08.KernelsMeans", spec := "kernelsMeans", inPlace := ["math.Float64bits", "math.Float64frombits"], unfollowed := true, recurses := true, plainKeys := false, apart := false }
def KernelsMeansSaid : Prop := kernelsMeansRow.holds Try.pinned (OpenSpec.ofChange kernelsMeansSpec)

/-- ITS FALSE NEIGHBOUR: 'it returns false'. Refute it at one input. -/
def kernelsMeansWrong : ChangeSpec := { name := "kernelsMeans", fn := fun _ => fun
  | [d1, d2, d3, d4] => { results := [.lit (.bool false)], args := [d1, d2, d3, d4] }
  | _ => none }
def KernelsMeansWrongFalsely : Prop := kernelsMeansRow.holds Try.pinned (OpenSpec.ofChange kernelsMeansWrong)

/-- 'plumblinelaw08.KernelsSymv': WHATEVER THE INPUT: true; the input reads as it did. -/
def kernelsSymvSpec : ChangeSpec := { name := "kernelsSymv", fn := fun _ => fun
  | [d1, d2, d3, d4, d5, d6] => { results := [.lit (.bool true)], args := [d1, d2, d3, d4, d5, d6] }
  | _ => none }
def kernelsSymvRow : OpenClaim := { program := "ytbcdpibcieadlaa", sum := "f35bddd1449a1e9c22dd4459183d6c0439ed472f975cc33031a0fdadd4ba60dc", func := "plumbline/plumblinelaw08.KernelsSymv", spec := "kernelsSymv", inPlace := ["math.Float64bits", "math.Float64frombits"], unfollowed := true, recurses := true, plainKeys := false, apart := false }
def KernelsSymvSaid : Prop := kernelsSymvRow.holds Try.pinned (OpenSpec.ofChange kernelsSymvSpec)

/-- ITS FALSE NEIGHBOUR: 'it returns false'. Refute it at one input. -/
def kernelsSymvWrong : ChangeSpec := { name := "kernelsSymv", fn := fun _ => fun
  | [d1, d2, d3, d4, d5, d6] => { results := [.lit (.bool false)], args := [d1, d2, d3, d4, d5, d6] }
  | _ => none }
def KernelsSymvWrongFalsely : Prop := kernelsSymvRow.holds Try.pinned (OpenSpec.ofChange kernelsSymvWrong)

/-- 'plumblinelaw08.KernelsGer': WHATEVER THE INPUT: true; the input reads as it did. -/
def kernelsGerSpec : ChangeSpec := { name := "kernelsGer", fn := fun _ => fun
  | [d1, d2, d3, d4, d5] => { results := [.lit (.bool true)], args := [d1, d2, d3, d4, d5] }
  | _ => none }
def kernelsGerRow : OpenClaim := { program := "ytbcdpibcieadlaa", sum := "f35bddd1449a1e9c22dd4459183d6c0439ed472f975cc33031a0fdadd4ba60dc", func := "plumbline/plumblinelaw08.KernelsGer", spec := "kernelsGer", inPlace := ["math.Float64bits", "math.Float64frombits"], unfollowed := true, recurses := true, plainKeys := false, apart := false }
def KernelsGerSaid : Prop := kernelsGerRow.holds Try.pinned (OpenSpec.ofChange kernelsGerSpec)

/-- ITS FALSE NEIGHBOUR: 'it returns false'. Refute it at one input. -/
def kernelsGerWrong : ChangeSpec := { name := "kernelsGer", fn := fun _ => fun
  | [d1, d2, d3, d4, d5] => { results := [.lit (.bool false)], args := [d1, d2, d3, d4, d5] }
  | _ => none }
def KernelsGerWrongFalsely : Prop := kernelsGerRow.holds Try.pinned (OpenSpec.ofChange kernelsGerWrong)

/-- 'plumblinelaw08.KernelsSyr2': WHATEVER THE INPUT: true; the input reads as it did. -/
def kernelsSyr2Spec : ChangeSpec := { name := "kernelsSyr2", fn := fun _ => fun
  | [d1, d2, d3, d4, d5] => { results := [.lit (.bool true)], args := [d1, d2, d3, d4, d5] }
  | _ => none }
def kernelsSyr2Row : OpenClaim := { program := "ytbcdpibcieadlaa", sum := "f35bddd1449a1e9c22dd4459183d6c0439ed472f975cc33031a0fdadd4ba60dc", func := "plumbline/plumblinelaw08.KernelsSyr2", spec := "kernelsSyr2", inPlace := ["math.Float64bits", "math.Float64frombits"], unfollowed := true, recurses := true, plainKeys := false, apart := false }
def KernelsSyr2Said : Prop := kernelsSyr2Row.holds Try.pinned (OpenSpec.ofChange kernelsSyr2Spec)

/-- ITS FALSE NEIGHBOUR: 'it returns false'. Refute it at one input. -/
def kernelsSyr2Wrong : ChangeSpec := { name := "kernelsSyr2", fn := fun _ => fun
  | [d1, d2, d3, d4, d5] => { results := [.lit (.bool false)], args := [d1, d2, d3, d4, d5] }
  | _ => none }
def KernelsSyr2WrongFalsely : Prop := kernelsSyr2Row.holds Try.pinned (OpenSpec.ofChange kernelsSyr2Wrong)

/-- 'plumblinelaw08.KernelsSyr2k': WHATEVER THE INPUT: true; the input reads as it did. -/
def kernelsSyr2kSpec : ChangeSpec := { name := "kernelsSyr2k", fn := fun _ => fun
  | [d1, d2, d3, d4, d5, d6] => { results := [.lit (.bool true)], args := [d1, d2, d3, d4, d5, d6] }
  | _ => none }
def kernelsSyr2kRow : OpenClaim := { program := "ytbcdpibcieadlaa", sum := "f35bddd1449a1e9c22dd4459183d6c0439ed472f975cc33031a0fdadd4ba60dc", func := "plumbline/plumblinelaw08.KernelsSyr2k", spec := "kernelsSyr2k", inPlace := ["math.Float64bits", "math.Float64frombits"], unfollowed := true, recurses := true, plainKeys := false, apart := false }
def KernelsSyr2kSaid : Prop := kernelsSyr2kRow.holds Try.pinned (OpenSpec.ofChange kernelsSyr2kSpec)

/-- ITS FALSE NEIGHBOUR: 'it returns false'. Refute it at one input. -/
def kernelsSyr2kWrong : ChangeSpec := { name := "kernelsSyr2k", fn := fun _ => fun
  | [d1, d2, d3, d4, d5, d6] => { results := [.lit (.bool false)], args := [d1, d2, d3, d4, d5, d6] }
  | _ => none }
def KernelsSyr2kWrongFalsely : Prop := kernelsSyr2kRow.holds Try.pinned (OpenSpec.ofChange kernelsSyr2kWrong)

/-- 'plumblinelaw08.KernelsAhead': WHATEVER THE INPUT: true; the input reads as it did. -/
def kernelsAheadSpec : ChangeSpec := { name := "kernelsAhead", fn := fun _ => fun
  | [d1, d2, d3, d4, d5] => { results := [.lit (.bool true)], args := [d1, d2, d3, d4, d5] }
  | _ => none }
def kernelsAheadRow : OpenClaim := { program := "ytbcdpibcieadlaa", sum := "f35bddd1449a1e9c22dd4459183d6c0439ed472f975cc33031a0fdadd4ba60dc", func := "plumbline/plumblinelaw08.KernelsAhead", spec := "kernelsAhead", inPlace := ["math.Float64bits", "math.Float64frombits"], unfollowed := true, recurses := true, plainKeys := false, apart := false }
def KernelsAheadSaid : Prop := kernelsAheadRow.holds Try.pinned (OpenSpec.ofChange kernelsAheadSpec)

/-- ITS FALSE NEIGHBOUR: 'it returns false'. Refute it at one input. -/
def kernelsAheadWrong : ChangeSpec := { name := "kernelsAhead", fn := fun _ => fun
  | [d1, d2, d3, d4, d5] => { results := [.lit (.bool false)], args := [d1, d2, d3, d4, d5] }
  | _ => none }
def KernelsAheadWrongFalsely : Prop := kernelsAheadRow.holds Try.pinned (OpenSpec.ofChange kernelsAheadWrong)

/-- 'plumblinelaw08.KernelsSteps': WHATEVER THE INPUT: true; the input reads as it did. -/
def kernelsStepsSpec : ChangeSpec := { name := "kernelsSteps", fn := fun _ => fun
  | [d1, d2, d3, d4] => { results := [.lit (.bool true)], args := [d1, d2, d3, d4] }
  | _ => none }
def kernelsStepsRow : OpenClaim := { program := "ytbcdpibcieadlaa", sum := "f35bddd1449a1e9c22dd4459183d6c0439ed472f975cc33031a0fdadd4ba60dc", func := "plumbline/plumblinelaw08.KernelsSteps", spec := "kernelsSteps", inPlace := ["math.Float64bits", "math.Float64frombits"], unfollowed := true, recurses := true, plainKeys := false, apart := false }
def KernelsStepsSaid : Prop := kernelsStepsRow.holds Try.pinned (OpenSpec.ofChange kernelsStepsSpec)

/-- ITS FALSE NEIGHBOUR: 'it returns false'. Refute it at one input. -/
def kernelsStepsWrong : ChangeSpec := { name := "kernelsSteps", fn := fun _ => fun
  | [d1, d2, d3, d4] => { results := [.lit (.bool false)], args := [d1, d2, d3, d4] }
  | _ => none }
def KernelsStepsWrongFalsely : Prop := kernelsStepsRow.holds Try.pinned (OpenSpec.ofChange kernelsStepsWrong)

/-- 'plumblinelaw08.KernelsNil': WHATEVER THE INPUT: true; the input reads as it did. -/
def kernelsNilSpec : ChangeSpec := { name := "kernelsNil", fn := fun _ => fun
  | [] => { results := [.lit (.bool true)], args := [] }
  | _ => none }
def kernelsNilRow : OpenClaim := { program := "ytbcdpibcieadlaa", sum := "f35bddd1449a1e9c22dd4459183d6c0439ed472f975cc33031a0fdadd4ba60dc", func := "plumbline/plumblinelaw08.KernelsNil", spec := "kernelsNil", inPlace := ["math.Float64bits", "math.Float64frombits"], unfollowed := true, recurses := true, plainKeys := false, apart := false }
def KernelsNilSaid : Prop := kernelsNilRow.holds Try.pinned (OpenSpec.ofChange kernelsNilSpec)

/-- ITS FALSE NEIGHBOUR: 'it returns false'. Refute it at one input. -/
def kernelsNilWrong : ChangeSpec := { name := "kernelsNil", fn := fun _ => fun
  | [] => { results := [.lit (.bool false)], args := [] }
  | _ => none }
def KernelsNilWrongFalsely : Prop := kernelsNilRow.holds Try.pinned (OpenSpec.ofChange kernelsNilWrong)

/- THE SECOND FORM. 'bulk': how many values and letters a reading holds, each counted each time it is reached (what is shared counts as often as it is met; a slice's spare places count too). A statement '..UptoSaid' is the law's where the arguments, and the package variables that the reading takes, are together of bulk at most 1048576: NARROWER than '..Said'. Prove '..Said' where nothing that the law and all that it calls make is longer than what came in: it says more and counts as full. Else prove '..UptoSaid'. A law counts once. -/
mutual
def uptoBulk {H : Type} : DataW H → Nat
  | .lit (.string bytes) => bytes.length + 1
  | .lit _ => 1
  | .nil => 1
  | .ptr d => uptoBulk d + 1
  | .slice elems spare => uptoBulkAll elems + uptoBulkAll spare + 1
  | .agg parts => uptoBulkAll parts + 1
  | .iface _ d => uptoBulk d + 1
  | .map entries => uptoBulkEntries entries + 1
  | .held _ => 1
def uptoBulkAll {H : Type} : List (DataW H) → Nat
  | [] => 0
  | d :: r => uptoBulk d + uptoBulkAll r
def uptoBulkEntries {H : Type} : List (Lit × DataW H) → Nat
  | [] => 0
  | x :: r => uptoBulkEntry x + uptoBulkEntries r
def uptoBulkEntry {H : Type} : Lit × DataW H → Nat
  | (.string bytes, d) => bytes.length + uptoBulk d + 1
  | (_, d) => uptoBulk d + 1
 end
def uptoSmall : (H : Type) → List (DataW H) → Bool := fun _ ds => decide (uptoBulkAll ds ≤ 1048576)
def OpenSpec.upto (s : _root_.Go.ChangeSpec) : _root_.Go.OpenSpec := { _root_.Go.OpenSpec.ofChange s with cond := some uptoSmall }

/-- 'plumblinelaw08.KernelsSums', WHERE WHAT IT READS IS OF BULK AT MOST 1048576: true; the input reads as it did. -/
def kernelsSumsUptoRow : OpenClaim := { program := "ytbcdpibcieadlaa", sum := "f35bddd1449a1e9c22dd4459183d6c0439ed472f975cc33031a0fdadd4ba60dc", func := "plumbline/plumblinelaw08.KernelsSums", spec := "kernelsSums", inPlace := ["math.Float64bits", "math.Float64frombits"], unfollowed := true, recurses := true, plainKeys := false, apart := false, narrowed := true }
def KernelsSumsUptoSaid : Prop := kernelsSumsUptoRow.holds Try.pinned (OpenSpec.upto kernelsSumsSpec)

/-- 'plumblinelaw08.KernelsGemv', WHERE WHAT IT READS IS OF BULK AT MOST 1048576: true; the input reads as it did. -/
def kernelsGemvUptoRow : OpenClaim := { program := "ytbcdpibcieadlaa", sum := "f35bddd1449a1e9c22dd4459183d6c0439ed472f975cc33031a0fdadd4ba60dc", func := "plumbline/plumblinelaw08.KernelsGemv", spec := "kernelsGemv", inPlace := ["math.Float64bits", "math.Float64frombits"], unfollowed := true, recurses := true, plainKeys := false, apart := false, narrowed := true }
def KernelsGemvUptoSaid : Prop := kernelsGemvUptoRow.holds Try.pinned (OpenSpec.upto kernelsGemvSpec)

/-- 'plumblinelaw08.KernelsGemm', WHERE WHAT IT READS IS OF BULK AT MOST 1048576: true; the input reads as it did. -/
def kernelsGemmUptoRow : OpenClaim := { program := "ytbcdpibcieadlaa", sum := "f35bddd1449a1e9c22dd4459183d6c0439ed472f975cc33031a0fdadd4ba60dc", func := "plumbline/plumblinelaw08.KernelsGemm", spec := "kernelsGemm", inPlace := ["math.Float64bits", "math.Float64frombits"], unfollowed := true, recurses := true, plainKeys := false, apart := false, narrowed := true }
def KernelsGemmUptoSaid : Prop := kernelsGemmUptoRow.holds Try.pinned (OpenSpec.upto kernelsGemmSpec)

/-- 'plumblinelaw08.KernelsTrmm', WHERE WHAT IT READS IS OF BULK AT MOST 1048576: true; the input reads as it did. -/
def kernelsTrmmUptoRow : OpenClaim := { program := "ytbcdpibcieadlaa", sum := "f35bddd1449a1e9c22dd4459183d6c0439ed472f975cc33031a0fdadd4ba60dc", func := "plumbline/plumblinelaw08.KernelsTrmm", spec := "kernelsTrmm", inPlace := ["math.Float64bits", "math.Float64frombits"], unfollowed := true, recurses := true, plainKeys := false, apart := false, narrowed := true }
def KernelsTrmmUptoSaid : Prop := kernelsTrmmUptoRow.holds Try.pinned (OpenSpec.upto kernelsTrmmSpec)

/-- 'plumblinelaw08.KernelsMeans', WHERE WHAT IT READS IS OF BULK AT MOST 1048576: true; the input reads as it did. -/
def kernelsMeansUptoRow : OpenClaim := { program := "ytbcdpibcieadlaa", sum := "f35bddd1449a1e9c22dd4459183d6c0439ed472f975cc33031a0fdadd4ba60dc", func := "plumbline/plumblinelaw08.KernelsMeans", spec := "kernelsMeans", inPlace := ["math.Float64bits", "math.Float64frombits"], unfollowed := true, recurses := true, plainKeys := false, apart := false, narrowed := true }
def KernelsMeansUptoSaid : Prop := kernelsMeansUptoRow.holds Try.pinned (OpenSpec.upto kernelsMeansSpec)

/-- 'plumblinelaw08.KernelsSymv', WHERE WHAT IT READS IS OF BULK AT MOST 1048576: true; the input reads as it did. -/
def kernelsSymvUptoRow : OpenClaim := { program := "ytbcdpibcieadlaa", sum := "f35bddd1449a1e9c22dd4459183d6c0439ed472f975cc33031a0fdadd4ba60dc", func := "plumbline/plumblinelaw08.KernelsSymv", spec := "kernelsSymv", inPlace := ["math.Float64bits", "math.Float64frombits"], unfollowed := true, recurses := true, plainKeys := false, apart := false, narrowed := true }
def KernelsSymvUptoSaid : Prop := kernelsSymvUptoRow.holds Try.pinned (OpenSpec.upto kernelsSymvSpec)

/-- 'plumblinelaw08.KernelsGer', WHERE WHAT IT READS IS OF BULK AT MOST 1048576: true; the input reads as it did. -/
def kernelsGerUptoRow : OpenClaim := { program := "ytbcdpibcieadlaa", sum := "f35bddd1449a1e9c22dd4459183d6c0439ed472f975cc33031a0fdadd4ba60dc", func := "plumbline/plumblinelaw08.KernelsGer", spec := "kernelsGer", inPlace := ["math.Float64bits", "math.Float64frombits"], unfollowed := true, recurses := true, plainKeys := false, apart := false, narrowed := true }
def KernelsGerUptoSaid : Prop := kernelsGerUptoRow.holds Try.pinned (OpenSpec.upto kernelsGerSpec)

/-- 'plumblinelaw08.KernelsSyr2', WHERE WHAT IT READS IS OF BULK AT MOST 1048576: true; the input reads as it did. -/
def kernelsSyr2UptoRow : OpenClaim := { program := "ytbcdpibcieadlaa", sum := "f35bddd1449a1e9c22dd4459183d6c0439ed472f975cc33031a0fdadd4ba60dc", func := "plumbline/plumblinelaw08.KernelsSyr2", spec := "kernelsSyr2", inPlace := ["math.Float64bits", "math.Float64frombits"], unfollowed := true, recurses := true, plainKeys := false, apart := false, narrowed := true }
def KernelsSyr2UptoSaid : Prop := kernelsSyr2UptoRow.holds Try.pinned (OpenSpec.upto kernelsSyr2Spec)

/-- 'plumblinelaw08.KernelsSyr2k', WHERE WHAT IT READS IS OF BULK AT MOST 1048576: true; the input reads as it did. -/
def kernelsSyr2kUptoRow : OpenClaim := { program := "ytbcdpibcieadlaa", sum := "f35bddd1449a1e9c22dd4459183d6c0439ed472f975cc33031a0fdadd4ba60dc", func := "plumbline/plumblinelaw08.KernelsSyr2k", spec := "kernelsSyr2k", inPlace := ["math.Float64bits", "math.Float64frombits"], unfollowed := true, recurses := true, plainKeys := false, apart := false, narrowed := true }
def KernelsSyr2kUptoSaid : Prop := kernelsSyr2kUptoRow.holds Try.pinned (OpenSpec.upto kernelsSyr2kSpec)

/-- 'plumblinelaw08.KernelsAhead', WHERE WHAT IT READS IS OF BULK AT MOST 1048576: true; the input reads as it did. -/
def kernelsAheadUptoRow : OpenClaim := { program := "ytbcdpibcieadlaa", sum := "f35bddd1449a1e9c22dd4459183d6c0439ed472f975cc33031a0fdadd4ba60dc", func := "plumbline/plumblinelaw08.KernelsAhead", spec := "kernelsAhead", inPlace := ["math.Float64bits", "math.Float64frombits"], unfollowed := true, recurses := true, plainKeys := false, apart := false, narrowed := true }
def KernelsAheadUptoSaid : Prop := kernelsAheadUptoRow.holds Try.pinned (OpenSpec.upto kernelsAheadSpec)

/-- 'plumblinelaw08.KernelsSteps', WHERE WHAT IT READS IS OF BULK AT MOST 1048576: true; the input reads as it did. -/
def kernelsStepsUptoRow : OpenClaim := { program := "ytbcdpibcieadlaa", sum := "f35bddd1449a1e9c22dd4459183d6c0439ed472f975cc33031a0fdadd4ba60dc", func := "plumbline/plumblinelaw08.KernelsSteps", spec := "kernelsSteps", inPlace := ["math.Float64bits", "math.Float64frombits"], unfollowed := true, recurses := true, plainKeys := false, apart := false, narrowed := true }
def KernelsStepsUptoSaid : Prop := kernelsStepsUptoRow.holds Try.pinned (OpenSpec.upto kernelsStepsSpec)

/-- 'plumblinelaw08.KernelsNil', WHERE WHAT IT READS IS OF BULK AT MOST 1048576: true; the input reads as it did. -/
def kernelsNilUptoRow : OpenClaim := { program := "ytbcdpibcieadlaa", sum := "f35bddd1449a1e9c22dd4459183d6c0439ed472f975cc33031a0fdadd4ba60dc", func := "plumbline/plumblinelaw08.KernelsNil", spec := "kernelsNil", inPlace := ["math.Float64bits", "math.Float64frombits"], unfollowed := true, recurses := true, plainKeys := false, apart := false, narrowed := true }
def KernelsNilUptoSaid : Prop := kernelsNilUptoRow.holds Try.pinned (OpenSpec.upto kernelsNilSpec)

end Rows
end Go.Proofs.Ytbcdpibcieadlaa
