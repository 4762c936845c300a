/- A float's operation, in a walk: the operation is asked first. No condition. -/
import Derived.Test.YtogkmddhgfenkaaWk
namespace Go.Proofs.Ytogkmddhgfenkaa
open Go Go.RowKit
section
variable {P : Program} {ops : Array Oper} {Q : Exit → Act → World → Prop} {a : Act} {w : World} {rest : List Oper} {o : Oper} {op : BinOp} {xt yt : TypeId} {ox oy : Operand} {x y v : Nat}
theorem wpList_fltB (ho : o.op = .binOp op xt ox oy yt) (hx : a.eval ox = .float .f64 x) (hy : a.eval oy = .float .f64 y) (h : fbin op x y = some v) (hw : Region.wanted o (yielded ops a.tmps) = true)
    (hk : ∀ K : Act → World → Prop, (∀ a w, wpList P ops Q rest a w → K a w) → ∀ s n, K (a.put o.dst (.float .f64 (raw v s))) (w.drewN n)) : wpList P ops Q (o :: rest) a w :=
  wpList_flt hw ho hx hy h hk
end
end Go.Proofs.Ytogkmddhgfenkaa
