/- Rules of the walk for floats; slices of floats in memory; small laws on worlds. No condition. -/
import Derived.Test.YtbcdpibcieadlaaFl
import Derived.Test.YtbcdpibcieadlaaNq
import Derived.WalkKit
import Derived.WalkLawsBesides
import Derived.WalkSpells
import Derived.Maps.RangeWalk
import Derived.Lib.Hide
import Derived.Deep.DeepCutAuto
namespace Go.Proofs.Ytbcdpibcieadlaa
open Go Go.RowKit

/-- A float result: v, whatever its NaN's bits. -/
def FR (e : Ending) (v : Nat) : Prop := ∃ s, e = .returned (.float .f64 (raw v s))
theorem FR.mk (v s : Nat) : FR (.returned (.float .f64 (raw v s))) v := ⟨s, rfl⟩
theorem FR.of {v x s : Nat} (h : x = raw v s) : FR (.returned (.float .f64 x)) v := ⟨s, by rw [h]⟩

/-- A slot that holds the float v, whatever its NaN's bits. -/
def IsF (x : Value) (v : Nat) : Prop := ∃ s, x = .float .f64 (raw v s)
theorem IsF.of {x v s : Nat} (h : x = v) : IsF (.float .f64 (raw x s)) v := ⟨s, by rw [h]⟩
theorem IsF.const {x : Nat} (h : isnan x = false) : IsF (.float .f64 x) x := ⟨0, by rw [raw_of_not h]⟩
theorem FR.eq {x v s : Nat} (h : x = v) : FR (.returned (.float .f64 (raw x s))) v := ⟨s, by rw [h]⟩

def fbin (op : BinOp) (x y : Nat) : Option Nat :=
  match op with
  | .add => some (fadd x y)
  | .sub => some (fsub x y)
  | .mul => some (fmul x y)
  | .quo => some (fdiv x y)
  | _ => none

section
variable {P : Program} {ops : Array Oper} {Q : Exit → Act → World → Prop} {a : Act} {w : World} {rest : List Oper} {o : Oper} {op : BinOp} {xt yt : TypeId} {ox oy : Operand} {x y v : Nat}

theorem run_fbin (w : World) (t : TypeId) (h : fbin op x y = some v) : ∃ s n, (binOp op t (.float .f64 x) (.float .f64 y)).run P w = .ok (.float .f64 (raw v s)) (w.drewN n) := by
  cases op <;> simp only [fbin] at h <;> cases h
  · exact run_fadd w t x y
  · exact run_fsub w t x y
  · exact run_fmul w t x y
  · exact run_fdiv w t x y

theorem exec_fbin (w : World) (ho : o.op = .binOp op xt ox oy yt) (hx : a.eval ox = .float .f64 x) (hy : a.eval oy = .float .f64 y) (h : fbin op x y = some v) :
    ∃ s n, (execOp a.eval o).run P w = .ok (.value (.float .f64 (raw v s))) (w.drewN n) := by
  obtain ⟨s, n, hr⟩ := run_fbin (P := P) w xt h
  refine ⟨s, n, ?_⟩
  unfold execOp
  rw [ho]
  simp only [hx, hy]
  have hg : eqGuard op xt ox oy (.float .f64 x) (.float .f64 y) = pure () := by
    cases op <;> first | (simp only [fbin] at h; cases h; done) | rfl
  rw [hg]
  simp [hr]

/-- A float's operation, in a walk. -/
theorem wp_flt {K : Act → World → Prop} (ho : o.op = .binOp op xt ox oy yt) (hx : a.eval ox = .float .f64 x) (hy : a.eval oy = .float .f64 y) (h : fbin op x y = some v)
    (hk : ∀ s n, K (a.put o.dst (.float .f64 (raw v s))) (w.drewN n)) : o.wp P a w K Q := by
  obtain ⟨s, n, hr⟩ := exec_fbin (P := P) w ho hx hy h
  unfold Oper.wp
  rw [hr]
  exact hk s n

theorem wpList_flt (hw : Region.wanted o (yielded ops a.tmps) = true) (ho : o.op = .binOp op xt ox oy yt) (hx : a.eval ox = .float .f64 x) (hy : a.eval oy = .float .f64 y) (h : fbin op x y = some v)
    (hk : ∀ K : Act → World → Prop, (∀ a w, wpList P ops Q rest a w → K a w) → ∀ s n, K (a.put o.dst (.float .f64 (raw v s))) (w.drewN n)) : wpList P ops Q (o :: rest) a w :=
  BigFrame.wpList_want hw fun K hK => wp_flt ho hx hy h (hk K hK)

variable {C : World → Prop} {F : FuncId → Array Value → Value → Prop} {R : Act → Prop}

theorem nqW_plain {d : Option Tmp} {p : Op} {t : TypeId} {s : String} {af : Array Edge} (h : ∀ K : Act → Prop, (∀ a, nqW P ops C F R rest a → K a) → nq P C F ⟨d, p, t, s, af, none⟩ a K) : nqW P ops C F R (⟨d, p, t, s, af, none⟩ :: rest) a :=
  nqW_step fun K hK => by simp only [Region.wanted, if_true]; exact h K hK
theorem nqW_want (hw : Region.wanted o (yielded ops a.tmps) = true) (h : ∀ K : Act → Prop, (∀ a, nqW P ops C F R rest a → K a) → nq P C F o a K) : nqW P ops C F R (o :: rest) a :=
  nqW_step fun K hK => by rw [if_pos hw]; exact h K hK
theorem nqW_skip (hw : Region.wanted o (yielded ops a.tmps) = false) (h : ∀ K : Act → Prop, (∀ a, nqW P ops C F R rest a → K a) → K (a.put o.dst undef)) : nqW P ops C F R (o :: rest) a :=
  nqW_step fun K hK => by rw [if_neg (by rw [hw]; exact Bool.false_ne_true)]; exact h K hK

variable {K : Act → Prop}
theorem nq_flt (ho : o.op = .binOp op xt ox oy yt) (hx : a.eval ox = .float .f64 x) (hy : a.eval oy = .float .f64 y) (h : fbin op x y = some v)
    (hC : ∀ w n, C w → C (w.drewN n)) (hk : ∀ s, K (a.put o.dst (.float .f64 (raw v s)))) : nq P C F o a K := by
  unfold nq
  intro w hwC
  obtain ⟨s, n, hr⟩ := exec_fbin (P := P) w ho hx hy h
  rw [hr]
  exact ⟨hC _ _ hwC, hk s⟩
theorem nq_move (ho : o.op = .move ox) (hk : K (a.put o.dst (a.eval ox))) : nq P C F o a K := by
  unfold nq
  intro w hwC
  unfold execOp; rw [ho]
  exact ⟨hwC, hk⟩
theorem nq_assign (ho : o.op = .assign ox) (hk : K (a.put o.dst (a.eval ox))) : nq P C F o a K := by
  unfold nq
  intro w hwC
  unfold execOp; rw [ho]
  exact ⟨hwC, hk⟩
theorem nq_in (h : ∀ w, C w → nqUpon P C F (fun v => K (a.put o.dst v)) ((execOp a.eval o).run P w)) : nq P C F o a K := by unfold nq; exact h
/-- What an operation that leaves the world comes to. -/
def sameUpon (w : World) (K : Value → Prop) : Result Next → Prop
  | .ok (.value u) w' => w' = w ∧ K u
  | .ok .skip w' => w' = w ∧ K undef
  | _ => False
@[go_sem] theorem sameUpon_value {w w' : World} {K : Value → Prop} {u : Value} : sameUpon w K (.ok (.value u) w') = (w' = w ∧ K u) := rfl
@[go_sem] theorem sameUpon_skip {w w' : World} {K : Value → Prop} : sameUpon w K (.ok .skip w') = (w' = w ∧ K undef) := rfl
theorem nq_same (h : ∀ w, C w → sameUpon w (fun v => K (a.put o.dst v)) ((execOp a.eval o).run P w)) : nq P C F o a K := by
  unfold nq
  intro w hw
  have h := h w hw
  generalize (execOp a.eval o).run P w = r at h
  cases r with
  | ok n w' =>
    cases n <;> simp only [sameUpon] at h
    case value u => obtain ⟨rfl, hk⟩ := h; exact ⟨hw, hk⟩
    case skip => obtain ⟨rfl, hk⟩ := h; exact ⟨hw, hk⟩
  | halt x w' => simp only [sameUpon] at h
/-- Any operation that yields a value and leaves the world. -/
theorem nq_val {u : Value} (hr : ∀ w, C w → (execOp a.eval o).run P w = .ok (.value u) w) (hk : K (a.put o.dst u)) : nq P C F o a K := by
  unfold nq
  intro w hwC
  rw [hr w hwC]
  exact ⟨hwC, hk⟩
/-- A call. -/
theorem nq_call {f : FuncId} {args : Array Value} (hr : ∀ w, C w → (execOp a.eval o).run P w = .ok (.enter f args) w)
    (hc : ∀ w, C w → Calls P f args w fun e w' => ∃ v, e = .returned v ∧ F f args v ∧ C w') (hk : ∀ v, F f args v → K (a.put o.dst v)) : nq P C F o a K := by
  unfold nq
  intro w hwC
  rw [hr w hwC]
  exact ⟨hwC, hc, hk⟩
end

/-! ### Worlds -/
theorem below_cells {B : Nat} {W w1 : World} (hb : Below B W w1) : (∀ b o, b < B → w1.cell? ⟨b, o, none⟩ = W.cell? ⟨b, o, none⟩) ∧ (∀ b o, b < B → w1.frozen? ⟨b, o, none⟩ = W.frozen? ⟨b, o, none⟩) :=
  ⟨fun b o h => hb.cell (p := ⟨b, o, none⟩) h, fun b o h => hb.frozen (p := ⟨b, o, none⟩) h⟩
theorem below_step {W w1 w2 : World} {B : Nat} (h : Below B W w1) (hB : B ≤ w1.heap.size) (k : Below w1.heap.size w1 w2) : Below B W w2 := h.trans (k.mono hB)
theorem below_drewN {B : Nat} {W w1 : World} (n : Nat) (hb : Below B W w1) : Below B W (w1.drewN n) := ⟨hb.os, hb.tape, hb.output, hb.size, hb.block⟩

theorem cells_of_below {W w1 : World} (hb : Below W.heap.size W w1) : ∀ b o v, W.cell? ⟨b, o, none⟩ = some v → w1.cell? ⟨b, o, none⟩ = some v := fun b o v h => by
  rw [hb.cell (p := ⟨b, o, none⟩)]
  · exact h
  · show b < W.heap.size
    by_cases hlt : b < W.heap.size
    · exact hlt
    · unfold World.cell? at h
      rw [Array.getElem?_eq_none (show W.heap.size ≤ b by omega)] at h
      cases h

theorem lt_more {b n : Nat} (h : b < n) : b < n ∧ b < n + 1 ∧ b < n + 1 + 1 ∧ b < n + 1 + 1 + 1 ∧ b < n + 1 + 1 + 1 + 1 ∧ b < n + 1 + 1 + 1 + 1 + 1 ∧ b < n + 1 + 1 + 1 + 1 + 1 + 1 := by omega

/-- A class of worlds, under a name that the walk's simp takes. -/
def Cls (C : World → Prop) (w : World) : Prop := C w

/-- The region that draws, in the class of the worlds that have all that was there. -/
theorem wp_region_nqb {P : Program} {id : Nat} {Q : Exit → Act → World → Prop} {a : Act} {w : World} {l : List Oper} (n : Nat) (F : FuncId → Array Value → Value → Prop)
    (hm : P.follows .mixedOrders = true) (hB : nqB l n = true)
    (h : ∀ (C : World → Prop) (R : Act → Prop), (∀ w', Cls C w' → ∀ b o, b < w.heap.size → w'.cell? ⟨b, o, none⟩ = w.cell? ⟨b, o, none⟩) → (∀ w', Cls C w' → Below w.heap.size w w') →
      (∀ w' w'', Cls C w' → Below w'.heap.size w' w'' → Cls C w'') → (∀ w' n, Cls C w' → Cls C (w'.drewN n)) →
      (∀ a', (∀ w', Below w.heap.size w w' → wpList P l.toArray Q (l.drop n) a' w') → R a') → nqW P l.toArray (Cls C) F R (l.take n) a) : (Code.region id l.toArray true).wp P Q a w :=
  wp_region_nq n F (Below w.heap.size w) hm hB (below_drewN 1 (Below.refl _ _))
    (h (Below w.heap.size w) (fun a' => ∀ w', Below w.heap.size w w' → wpList P l.toArray Q (l.drop n) a' w') (fun _ hw' => (below_cells hw').1) (fun _ h => h)
      (fun _ _ h1 h2 => h1.trans (h2.mono h1.size)) (fun _ n h => below_drewN n h) (fun _ h => h))

theorem below_undrew {n : Nat} {W w1 : World} (hb : Below (W.drewN n).heap.size (W.drewN n) w1) : Below W.heap.size W w1 := ⟨hb.os, hb.tape, hb.output, hb.size, hb.block⟩

/-! ### A block of the call's own, known whole -/
/-- Block n holds just cs. -/
def Box (w : World) (n : Nat) (cs : List Value) : Prop := ∃ T, w.heap[n]? = some (.cells cs.toArray T (0, 0))
theorem Box.lt {w : World} {n : Nat} {cs : List Value} (h : Box w n cs) : n < w.heap.size := by
  obtain ⟨T, h⟩ := h
  exact (Array.getElem?_eq_some_iff.1 h).1
theorem Box.cell {w : World} {n : Nat} {cs : List Value} (h : Box w n cs) (i : Nat) : w.cell? ⟨n, i, none⟩ = cs[i]? := by
  obtain ⟨T, h⟩ := h
  unfold World.cell?
  simp [h]
theorem Box.frozen {w : World} {n : Nat} {cs : List Value} (h : Box w n cs) (i : Nat) : w.frozen? ⟨n, i, none⟩ = false := by
  obtain ⟨T, h⟩ := h
  unfold World.frozen?
  simp [h]
theorem Box.new (w : World) (cs : List Value) (T : TypeId) : Box (w.alloc (.cells cs.toArray T)) w.heap.size cs :=
  ⟨T, by show (w.heap.push _)[w.heap.size]? = _; simp⟩
theorem Box.below {w w' : World} {n : Nat} {cs : List Value} (h : Box w n cs) (hb : Below w.heap.size w w') : Box w' n cs := by
  have hl := h.lt
  obtain ⟨T, h⟩ := h
  exact ⟨T, by rw [hb.block n hl]; exact h⟩
theorem Box.alloc {w : World} {n : Nat} {cs : List Value} (h : Box w n cs) (o : Obj) : Box (w.alloc o) n cs := h.below ((Below.refl _ _).alloc (Nat.le_refl _) o)
theorem Box.drewN {w : World} {n : Nat} {cs : List Value} (h : Box w n cs) (k : Nat) : Box (w.drewN k) n cs := h
theorem Box.set {w : World} {n : Nat} {cs : List Value} (h : Box w n cs) (j : Nat) (v : Value) : Box (w.setCell ⟨n, j, none⟩ v) n (cs.set j v) := by
  obtain ⟨T, h⟩ := h
  refine ⟨T, ?_⟩
  unfold World.setCell
  simp [Array.getElem?_modify, h]
theorem Box.set_other {w : World} {n m : Nat} {cs : List Value} (h : Box w n cs) (hne : n ≠ m) (j : Nat) (v : Value) : Box (w.setCell ⟨m, j, none⟩ v) n cs := by
  obtain ⟨T, h⟩ := h
  exact ⟨T, by rw [Below.heap_setCell _ _ _ _ hne]; exact h⟩
/-- What the walk asks of a box. -/
theorem Box.facts {w : World} {n : Nat} {cs : List Value} (h : Box w n cs) : n < w.heap.size ∧ (∀ i, w.cell? ⟨n, i, none⟩ = cs[i]?) ∧ ∀ i, w.frozen? ⟨n, i, none⟩ = false := ⟨h.lt, h.cell, h.frozen⟩

/-- What a result variable holds. -/
def rvSem (tmps : Array Value) : ResultVar → Sem Value
  | .tmp t => pure (tmps.getD t undef)
  | .cell a t => do loadVar t (← asAddr (tmps.getD a undef))
section
variable {P : Program} {w : World} {tmps : Array Value} {fn : Func} {r1 r2 r3 r4 : ResultVar} {v1 v2 v3 v4 : Value}
theorem rv_tmp {t : Tmp} {v : Value} (h : tmps.getD t undef = v) : (rvSem tmps (.tmp t)).run P w = .ok v w := by show (pure (tmps.getD t undef) : Sem Value).run P w = _; rw [h]; rfl
theorem rv_cell {p : Tmp} {ty : TypeId} {g : Nat} {cs : List Value} {d : TypeDesc} (hp : tmps.getD p undef = .pointer (some ⟨g, 0, none⟩)) (hb : Box w g cs) (hd : (match d with | .struct _ | .array _ _ => true | _ => false) = true) (hu : P.underlying ty = some d) (hi : (P.info? ty).map (·.size) = some cs.length) :
    (rvSem tmps (.cell p ty)).run P w = .ok (.agg cs.toArray) w := by
  obtain ⟨T, hg⟩ := hb
  show (do loadVar ty (← asAddr (tmps.getD p undef)) : Sem Value).run P w = _
  rw [hp]
  simp [asAddr, run_loadVar_row w g T ty cs.toArray (0, 0) d hg hu (by cases d <;> simp_all) (by simpa using hi)]
theorem results_one (h : fn.results = #[r1]) (h1 : (rvSem tmps r1).run P w = .ok v1 w) : (results fn tmps).run P w = .ok v1 w := by
  have e : results fn tmps = (do let vs ← #[r1].mapM (rvSem tmps); pure (if h : vs.size = 1 then vs[0] else .tuple vs)) := by unfold results; rw [h]; rfl
  rw [e]
  simp [h1]
theorem results_two (h : fn.results = #[r1, r2]) (h1 : (rvSem tmps r1).run P w = .ok v1 w) (h2 : (rvSem tmps r2).run P w = .ok v2 w) : (results fn tmps).run P w = .ok (.tuple #[v1, v2]) w := by
  have e : results fn tmps = (do let vs ← #[r1, r2].mapM (rvSem tmps); pure (if h : vs.size = 1 then vs[0] else .tuple vs)) := by unfold results; rw [h]; rfl
  rw [e]
  simp [h1, h2]
theorem results_three (h : fn.results = #[r1, r2, r3]) (h1 : (rvSem tmps r1).run P w = .ok v1 w) (h2 : (rvSem tmps r2).run P w = .ok v2 w) (h3 : (rvSem tmps r3).run P w = .ok v3 w) : (results fn tmps).run P w = .ok (.tuple #[v1, v2, v3]) w := by
  have e : results fn tmps = (do let vs ← #[r1, r2, r3].mapM (rvSem tmps); pure (if h : vs.size = 1 then vs[0] else .tuple vs)) := by unfold results; rw [h]; rfl
  rw [e]
  simp [h1, h2, h3]
theorem results_four (h : fn.results = #[r1, r2, r3, r4]) (h1 : (rvSem tmps r1).run P w = .ok v1 w) (h2 : (rvSem tmps r2).run P w = .ok v2 w) (h3 : (rvSem tmps r3).run P w = .ok v3 w) (h4 : (rvSem tmps r4).run P w = .ok v4 w) : (results fn tmps).run P w = .ok (.tuple #[v1, v2, v3, v4]) w := by
  have e : results fn tmps = (do let vs ← #[r1, r2, r3, r4].mapM (rvSem tmps); pure (if h : vs.size = 1 then vs[0] else .tuple vs)) := by unfold results; rw [h]; rfl
  rw [e]
  simp [h1, h2, h3, h4]
end

/-! ### A slice of floats -/
/-- The floats from a on are zs. -/
def Fls (w : World) (a : Option Addr) (zs : List Nat) : Prop := zs ≠ [] → ∃ b off, a = some ⟨b, off, none⟩ ∧ b < w.heap.size ∧ ∀ i v, zs[i]? = some v → ∃ s, w.cell? ⟨b, off + i, none⟩ = some (.float .f64 (raw v s))

theorem Fls.below {w w' : World} {a : Option Addr} {zs : List Nat} (h : Fls w a zs) (hb : Below w.heap.size w w') : Fls w' a zs := fun hz => by
  obtain ⟨b, off, rfl, hlt, hc⟩ := h hz
  refine ⟨b, off, rfl, Nat.lt_of_lt_of_le hlt hb.size, fun i v hi => ?_⟩
  obtain ⟨s, hs⟩ := hc i v hi
  exact ⟨s, by rw [hb.cell (p := ⟨b, off + i, none⟩) hlt]; exact hs⟩
theorem Fls.at {w : World} {a : Option Addr} {zs : List Nat} (h : Fls w a zs) {i : Nat} (hi : i < zs.length) : ∃ b off s, a = some ⟨b, off, none⟩ ∧ b < w.heap.size ∧ w.cell? ⟨b, off + i, none⟩ = some (.float .f64 (raw (zs.getD i 0) s)) := by
  obtain ⟨b, off, ha, hlt, hc⟩ := h (by intro e; subst e; simp at hi)
  obtain ⟨s, hs⟩ := hc i (zs.getD i 0) (by simp [hi])
  exact ⟨b, off, s, ha, hlt, hs⟩
end Go.Proofs.Ytbcdpibcieadlaa
