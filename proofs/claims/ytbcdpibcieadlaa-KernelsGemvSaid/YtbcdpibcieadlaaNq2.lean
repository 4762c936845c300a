/- Drawn regions, walked in the text's order: a call is known as one ahead of the walk's own steps. No condition. -/
import Derived.Test.YtbcdpibcieadlaaWk
namespace Go.Proofs.Ytbcdpibcieadlaa
open Go Go.RowKit
section
variable {P : Program} {ops : Array Oper} {C : World → Prop} {F : FuncId → Array Value → Value → Prop} {R : Act → Prop} {K : Act → Prop} {o : Oper} {a : Act}
def isCallOp (o : Oper) : Bool := match o.op with | .call _ => true | _ => false
theorem nq_inC (_ : isCallOp o = true) (h : ∀ w, C w → nqUpon P C F (fun v => K (a.put o.dst v)) ((execOp a.eval o).run P w)) : nq P C F o a K := nq_in h
end
end Go.Proofs.Ytbcdpibcieadlaa
