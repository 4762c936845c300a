/- Rules of the walk for floats; slices of floats in memory; small laws on worlds. No condition. -/
import Derived.Test.YtdljnhdhigbefaaZz1
import Derived.WalkKit
import Derived.WalkLawsBesides
import Derived.WalkSpells
import Derived.Maps.RangeWalk
import Derived.Lib.Hide
import Derived.Deep.DeepCutAuto
import Derived.Test.YtdljnhdhigbefaaChecked
namespace Go.Proofs.Ytdljnhdhigbefaa
open Go Go.RowKit

/-- A float result: v, whatever its NaN's bits. -/
def FR (e : Ending) (v : Nat) : Prop := ∃ s, e = .returned (.float .f64 (raw v s))
theorem FR.mk (v s : Nat) : FR (.returned (.float .f64 (raw v s))) v := ⟨s, rfl⟩
theorem FR.of {v x s : Nat} (h : x = raw v s) : FR (.returned (.float .f64 x)) v := ⟨s, by rw [h]⟩

/-- A slot that holds the float v, whatever its NaN's bits. -/
def IsF (x : Value) (v : Nat) : Prop := ∃ s, x = .float .f64 (raw v s)
theorem IsF.of {x v s : Nat} (h : x = v) : IsF (.float .f64 (raw x s)) v := ⟨s, by rw [h]⟩
theorem IsF.const {x : Nat} (h : isnan x = false) : IsF (.float .f64 x) x := ⟨0, by rw [raw_of_not h]⟩
theorem FR.eq {x v s : Nat} (h : x = v) : FR (.returned (.float .f64 (raw x s))) v := ⟨s, by rw [h]⟩

def fbin (op : BinOp) (x y : Nat) : Option Nat :=
  match op with
  | .add => some (fadd x y)
  | .sub => some (fsub x y)
  | .mul => some (fmul x y)
  | .quo => some (fdiv x y)
  | _ => none

section
variable {P : Program} {ops : Array Oper} {Q : Exit → Act → World → Prop} {a : Act} {w : World} {rest : List Oper} {o : Oper} {op : BinOp} {xt yt : TypeId} {ox oy : Operand} {x y v : Nat}

theorem run_fbin (w : World) (t : TypeId) (h : fbin op x y = some v) : ∃ s n, (binOp op t (.float .f64 x) (.float .f64 y)).run P w = .ok (.float .f64 (raw v s)) (w.drewN n) := by
  cases op <;> simp only [fbin] at h <;> cases h
  · exact run_fadd w t x y
  · exact run_fsub w t x y
  · exact run_fmul w t x y
  · exact run_fdiv w t x y

theorem exec_fbin (w : World) (ho : o.op = .binOp op xt ox oy yt) (hx : a.eval ox = .float .f64 x) (hy : a.eval oy = .float .f64 y) (h : fbin op x y = some v) :
    ∃ s n, (execOp a.eval o).run P w = .ok (.value (.float .f64 (raw v s))) (w.drewN n) := by
  obtain ⟨s, n, hr⟩ := run_fbin (P := P) w xt h
  refine ⟨s, n, ?_⟩
  unfold execOp
  rw [ho]
  simp only [hx, hy]
  have hg : eqGuard op xt ox oy (.float .f64 x) (.float .f64 y) = pure () := by
    cases op <;> first | (simp only [fbin] at h; cases h; done) | rfl
  rw [hg]
  simp [hr]

/-- A float's operation, in a walk. -/
theorem wp_flt {K : Act → World → Prop} (ho : o.op = .binOp op xt ox oy yt) (hx : a.eval ox = .float .f64 x) (hy : a.eval oy = .float .f64 y) (h : fbin op x y = some v)
    (hk : ∀ s n, K (a.put o.dst (.float .f64 (raw v s))) (w.drewN n)) : o.wp P a w K Q := by
  obtain ⟨s, n, hr⟩ := exec_fbin (P := P) w ho hx hy h
  unfold Oper.wp
  rw [hr]
  exact hk s n

theorem wpList_flt (hw : Region.wanted o (yielded ops a.tmps) = true) (ho : o.op = .binOp op xt ox oy yt) (hx : a.eval ox = .float .f64 x) (hy : a.eval oy = .float .f64 y) (h : fbin op x y = some v)
    (hk : ∀ K : Act → World → Prop, (∀ a w, wpList P ops Q rest a w → K a w) → ∀ s n, K (a.put o.dst (.float .f64 (raw v s))) (w.drewN n)) : wpList P ops Q (o :: rest) a w :=
  BigFrame.wpList_want hw fun K hK => wp_flt ho hx hy h (hk K hK)

variable {C : World → Prop} {F : FuncId → Array Value → Value → Prop} {R : Act → Prop}

theorem nqW_plain {d : Option Tmp} {p : Op} {t : TypeId} {s : String} {af : Array Edge} (h : ∀ K : Act → Prop, (∀ a, nqW P ops C F R rest a → K a) → nq P C F ⟨d, p, t, s, af, none⟩ a K) : nqW P ops C F R (⟨d, p, t, s, af, none⟩ :: rest) a :=
  nqW_step fun K hK => by simp only [Region.wanted, if_true]; exact h K hK
theorem nqW_want (hw : Region.wanted o (yielded ops a.tmps) = true) (h : ∀ K : Act → Prop, (∀ a, nqW P ops C F R rest a → K a) → nq P C F o a K) : nqW P ops C F R (o :: rest) a :=
  nqW_step fun K hK => by rw [if_pos hw]; exact h K hK
theorem nqW_skip (hw : Region.wanted o (yielded ops a.tmps) = false) (h : ∀ K : Act → Prop, (∀ a, nqW P ops C F R rest a → K a) → K (a.put o.dst undef)) : nqW P ops C F R (o :: rest) a :=
  nqW_step fun K hK => by rw [if_neg (by rw [hw]; exact Bool.false_ne_true)]; exact h K hK

variable {K : Act → Prop}
theorem nq_flt (ho : o.op = .binOp op xt ox oy yt) (hx : a.eval ox = .float .f64 x) (hy : a.eval oy = .float .f64 y) (h : fbin op x y = some v)
    (hC : ∀ w n, C w → C (w.drewN n)) (hk : ∀ s, K (a.put o.dst (.float .f64 (raw v s)))) : nq P C F o a K := by
  unfold nq
  intro w hwC
  obtain ⟨s, n, hr⟩ := exec_fbin (P := P) w ho hx hy h
  rw [hr]
  exact ⟨hC _ _ hwC, hk s⟩
theorem nq_move (ho : o.op = .move ox) (hk : K (a.put o.dst (a.eval ox))) : nq P C F o a K := by
  unfold nq
  intro w hwC
  unfold execOp; rw [ho]
  exact ⟨hwC, hk⟩
theorem nq_assign (ho : o.op = .assign ox) (hk : K (a.put o.dst (a.eval ox))) : nq P C F o a K := by
  unfold nq
  intro w hwC
  unfold execOp; rw [ho]
  exact ⟨hwC, hk⟩
theorem nq_in (h : ∀ w, C w → nqUpon P C F (fun v => K (a.put o.dst v)) ((execOp a.eval o).run P w)) : nq P C F o a K := by unfold nq; exact h
/-- What an operation that leaves the world comes to. -/
def sameUpon (w : World) (K : Value → Prop) : Result Next → Prop
  | .ok (.value u) w' => w' = w ∧ K u
  | .ok .skip w' => w' = w ∧ K undef
  | _ => False
@[go_sem] theorem sameUpon_value {w w' : World} {K : Value → Prop} {u : Value} : sameUpon w K (.ok (.value u) w') = (w' = w ∧ K u) := rfl
@[go_sem] theorem sameUpon_skip {w w' : World} {K : Value → Prop} : sameUpon w K (.ok .skip w') = (w' = w ∧ K undef) := rfl
theorem nq_same (h : ∀ w, C w → sameUpon w (fun v => K (a.put o.dst v)) ((execOp a.eval o).run P w)) : nq P C F o a K := by
  unfold nq
  intro w hw
  have h := h w hw
  generalize (execOp a.eval o).run P w = r at h
  cases r with
  | ok n w' =>
    cases n <;> simp only [sameUpon] at h
    case value u => obtain ⟨rfl, hk⟩ := h; exact ⟨hw, hk⟩
    case skip => obtain ⟨rfl, hk⟩ := h; exact ⟨hw, hk⟩
  | halt x w' => simp only [sameUpon] at h
/-- Any operation that yields a value and leaves the world. -/
theorem nq_val {u : Value} (hr : ∀ w, C w → (execOp a.eval o).run P w = .ok (.value u) w) (hk : K (a.put o.dst u)) : nq P C F o a K := by
  unfold nq
  intro w hwC
  rw [hr w hwC]
  exact ⟨hwC, hk⟩
/-- A call. -/
theorem nq_call {f : FuncId} {args : Array Value} (hr : ∀ w, C w → (execOp a.eval o).run P w = .ok (.enter f args) w)
    (hc : ∀ w, C w → Calls P f args w fun e w' => ∃ v, e = .returned v ∧ F f args v ∧ C w') (hk : ∀ v, F f args v → K (a.put o.dst v)) : nq P C F o a K := by
  unfold nq
  intro w hwC
  rw [hr w hwC]
  exact ⟨hwC, hc, hk⟩
end

/-! ### Worlds -/
theorem below_cells {B : Nat} {W w1 : World} (hb : Below B W w1) : (∀ b o, b < B → w1.cell? ⟨b, o, none⟩ = W.cell? ⟨b, o, none⟩) ∧ (∀ b o, b < B → w1.frozen? ⟨b, o, none⟩ = W.frozen? ⟨b, o, none⟩) :=
  ⟨fun b o h => hb.cell (p := ⟨b, o, none⟩) h, fun b o h => hb.frozen (p := ⟨b, o, none⟩) h⟩
theorem below_step {W w1 w2 : World} {B : Nat} (h : Below B W w1) (hB : B ≤ w1.heap.size) (k : Below w1.heap.size w1 w2) : Below B W w2 := h.trans (k.mono hB)
theorem below_drewN {B : Nat} {W w1 : World} (n : Nat) (hb : Below B W w1) : Below B W (w1.drewN n) := ⟨hb.os, hb.tape, hb.output, hb.size, hb.block⟩

theorem cells_of_below {W w1 : World} (hb : Below W.heap.size W w1) : ∀ b o v, W.cell? ⟨b, o, none⟩ = some v → w1.cell? ⟨b, o, none⟩ = some v := fun b o v h => by
  rw [hb.cell (p := ⟨b, o, none⟩)]
  · exact h
  · show b < W.heap.size
    by_cases hlt : b < W.heap.size
    · exact hlt
    · unfold World.cell? at h
      rw [Array.getElem?_eq_none (show W.heap.size ≤ b by omega)] at h
      cases h

theorem lt_more {b n : Nat} (h : b < n) : b < n ∧ b < n + 1 ∧ b < n + 1 + 1 ∧ b < n + 1 + 1 + 1 ∧ b < n + 1 + 1 + 1 + 1 ∧ b < n + 1 + 1 + 1 + 1 + 1 ∧ b < n + 1 + 1 + 1 + 1 + 1 + 1 := by omega

/-- A class of worlds, under a name that the walk's simp takes. -/
def Cls (C : World → Prop) (w : World) : Prop := C w

/-- The region that draws, in the class of the worlds that have all that was there. -/
theorem wp_region_nqb {P : Program} {id : Nat} {Q : Exit → Act → World → Prop} {a : Act} {w : World} {l : List Oper} (n : Nat) (F : FuncId → Array Value → Value → Prop)
    (hm : P.follows .mixedOrders = true) (hB : nqB l n = true)
    (h : ∀ (C : World → Prop) (R : Act → Prop), (∀ w', Cls C w' → ∀ b o, b < w.heap.size → w'.cell? ⟨b, o, none⟩ = w.cell? ⟨b, o, none⟩) → (∀ w', Cls C w' → Below w.heap.size w w') →
      (∀ w' w'', Cls C w' → Below w'.heap.size w' w'' → Cls C w'') → (∀ w' n, Cls C w' → Cls C (w'.drewN n)) →
      (∀ a', (∀ w', Below w.heap.size w w' → wpList P l.toArray Q (l.drop n) a' w') → R a') → nqW P l.toArray (Cls C) F R (l.take n) a) : (Code.region id l.toArray true).wp P Q a w :=
  wp_region_nq n F (Below w.heap.size w) hm hB (below_drewN 1 (Below.refl _ _))
    (h (Below w.heap.size w) (fun a' => ∀ w', Below w.heap.size w w' → wpList P l.toArray Q (l.drop n) a' w') (fun _ hw' => (below_cells hw').1) (fun _ h => h)
      (fun _ _ h1 h2 => h1.trans (h2.mono h1.size)) (fun _ n h => below_drewN n h) (fun _ h => h))

theorem below_undrew {n : Nat} {W w1 : World} (hb : Below (W.drewN n).heap.size (W.drewN n) w1) : Below W.heap.size W w1 := ⟨hb.os, hb.tape, hb.output, hb.size, hb.block⟩

/-! ### A block of the call's own, known whole -/
/-- Block n holds just cs. -/
def Box (w : World) (n : Nat) (cs : List Value) : Prop := ∃ T, w.heap[n]? = some (.cells cs.toArray T (0, 0))
theorem Box.lt {w : World} {n : Nat} {cs : List Value} (h : Box w n cs) : n < w.heap.size := by
  obtain ⟨T, h⟩ := h
  exact (Array.getElem?_eq_some_iff.1 h).1
theorem Box.cell {w : World} {n : Nat} {cs : List Value} (h : Box w n cs) (i : Nat) : w.cell? ⟨n, i, none⟩ = cs[i]? := by
  obtain ⟨T, h⟩ := h
  unfold World.cell?
  simp [h]
theorem Box.frozen {w : World} {n : Nat} {cs : List Value} (h : Box w n cs) (i : Nat) : w.frozen? ⟨n, i, none⟩ = false := by
  obtain ⟨T, h⟩ := h
  unfold World.frozen?
  simp [h]
theorem Box.new (w : World) (cs : List Value) (T : TypeId) : Box (w.alloc (.cells cs.toArray T)) w.heap.size cs :=
  ⟨T, by show (w.heap.push _)[w.heap.size]? = _; simp⟩
theorem Box.below {w w' : World} {n : Nat} {cs : List Value} (h : Box w n cs) (hb : Below w.heap.size w w') : Box w' n cs := by
  have hl := h.lt
  obtain ⟨T, h⟩ := h
  exact ⟨T, by rw [hb.block n hl]; exact h⟩
theorem Box.alloc {w : World} {n : Nat} {cs : List Value} (h : Box w n cs) (o : Obj) : Box (w.alloc o) n cs := h.below ((Below.refl _ _).alloc (Nat.le_refl _) o)
theorem Box.drewN {w : World} {n : Nat} {cs : List Value} (h : Box w n cs) (k : Nat) : Box (w.drewN k) n cs := h
theorem Box.set {w : World} {n : Nat} {cs : List Value} (h : Box w n cs) (j : Nat) (v : Value) : Box (w.setCell ⟨n, j, none⟩ v) n (cs.set j v) := by
  obtain ⟨T, h⟩ := h
  refine ⟨T, ?_⟩
  unfold World.setCell
  simp [Array.getElem?_modify, h]
theorem Box.set_other {w : World} {n m : Nat} {cs : List Value} (h : Box w n cs) (hne : n ≠ m) (j : Nat) (v : Value) : Box (w.setCell ⟨m, j, none⟩ v) n cs := by
  obtain ⟨T, h⟩ := h
  exact ⟨T, by rw [Below.heap_setCell _ _ _ _ hne]; exact h⟩
/-- What the walk asks of a box. -/
theorem Box.facts {w : World} {n : Nat} {cs : List Value} (h : Box w n cs) : n < w.heap.size ∧ (∀ i, w.cell? ⟨n, i, none⟩ = cs[i]?) ∧ ∀ i, w.frozen? ⟨n, i, none⟩ = false := ⟨h.lt, h.cell, h.frozen⟩

/-- What a result variable holds. -/
def rvSem (tmps : Array Value) : ResultVar → Sem Value
  | .tmp t => pure (tmps.getD t undef)
  | .cell a t => do loadVar t (← asAddr (tmps.getD a undef))
section
variable {P : Program} {w : World} {tmps : Array Value} {fn : Func} {r1 r2 r3 r4 : ResultVar} {v1 v2 v3 v4 : Value}
theorem rv_tmp {t : Tmp} {v : Value} (h : tmps.getD t undef = v) : (rvSem tmps (.tmp t)).run P w = .ok v w := by show (pure (tmps.getD t undef) : Sem Value).run P w = _; rw [h]; rfl
theorem rv_cell {p : Tmp} {ty : TypeId} {g : Nat} {cs : List Value} {d : TypeDesc} (hp : tmps.getD p undef = .pointer (some ⟨g, 0, none⟩)) (hb : Box w g cs) (hd : (match d with | .struct _ | .array _ _ => true | _ => false) = true) (hu : P.underlying ty = some d) (hi : (P.info? ty).map (·.size) = some cs.length) :
    (rvSem tmps (.cell p ty)).run P w = .ok (.agg cs.toArray) w := by
  obtain ⟨T, hg⟩ := hb
  show (do loadVar ty (← asAddr (tmps.getD p undef)) : Sem Value).run P w = _
  rw [hp]
  simp [asAddr, run_loadVar_row w g T ty cs.toArray (0, 0) d hg hu (by cases d <;> simp_all) (by simpa using hi)]
theorem results_one (h : fn.results = #[r1]) (h1 : (rvSem tmps r1).run P w = .ok v1 w) : (results fn tmps).run P w = .ok v1 w := by
  have e : results fn tmps = (do let vs ← #[r1].mapM (rvSem tmps); pure (if h : vs.size = 1 then vs[0] else .tuple vs)) := by unfold results; rw [h]; rfl
  rw [e]
  simp [h1]
theorem results_two (h : fn.results = #[r1, r2]) (h1 : (rvSem tmps r1).run P w = .ok v1 w) (h2 : (rvSem tmps r2).run P w = .ok v2 w) : (results fn tmps).run P w = .ok (.tuple #[v1, v2]) w := by
  have e : results fn tmps = (do let vs ← #[r1, r2].mapM (rvSem tmps); pure (if h : vs.size = 1 then vs[0] else .tuple vs)) := by unfold results; rw [h]; rfl
  rw [e]
  simp [h1, h2]
theorem results_three (h : fn.results = #[r1, r2, r3]) (h1 : (rvSem tmps r1).run P w = .ok v1 w) (h2 : (rvSem tmps r2).run P w = .ok v2 w) (h3 : (rvSem tmps r3).run P w = .ok v3 w) : (results fn tmps).run P w = .ok (.tuple #[v1, v2, v3]) w := by
  have e : results fn tmps = (do let vs ← #[r1, r2, r3].mapM (rvSem tmps); pure (if h : vs.size = 1 then vs[0] else .tuple vs)) := by unfold results; rw [h]; rfl
  rw [e]
  simp [h1, h2, h3]
theorem results_four (h : fn.results = #[r1, r2, r3, r4]) (h1 : (rvSem tmps r1).run P w = .ok v1 w) (h2 : (rvSem tmps r2).run P w = .ok v2 w) (h3 : (rvSem tmps r3).run P w = .ok v3 w) (h4 : (rvSem tmps r4).run P w = .ok v4 w) : (results fn tmps).run P w = .ok (.tuple #[v1, v2, v3, v4]) w := by
  have e : results fn tmps = (do let vs ← #[r1, r2, r3, r4].mapM (rvSem tmps); pure (if h : vs.size = 1 then vs[0] else .tuple vs)) := by unfold results; rw [h]; rfl
  rw [e]
  simp [h1, h2, h3, h4]
end

/-! ### A slice of floats -/
/-- The floats from a on are zs. -/
def Fls (w : World) (a : Option Addr) (zs : List Nat) : Prop := zs ≠ [] → ∃ b off, a = some ⟨b, off, none⟩ ∧ b < w.heap.size ∧ ∀ i v, zs[i]? = some v → ∃ s, w.cell? ⟨b, off + i, none⟩ = some (.float .f64 (raw v s))

theorem Fls.below {w w' : World} {a : Option Addr} {zs : List Nat} (h : Fls w a zs) (hb : Below w.heap.size w w') : Fls w' a zs := fun hz => by
  obtain ⟨b, off, rfl, hlt, hc⟩ := h hz
  refine ⟨b, off, rfl, Nat.lt_of_lt_of_le hlt hb.size, fun i v hi => ?_⟩
  obtain ⟨s, hs⟩ := hc i v hi
  exact ⟨s, by rw [hb.cell (p := ⟨b, off + i, none⟩) hlt]; exact hs⟩
theorem Fls.at {w : World} {a : Option Addr} {zs : List Nat} (h : Fls w a zs) {i : Nat} (hi : i < zs.length) : ∃ b off s, a = some ⟨b, off, none⟩ ∧ b < w.heap.size ∧ w.cell? ⟨b, off + i, none⟩ = some (.float .f64 (raw (zs.getD i 0) s)) := by
  obtain ⟨b, off, ha, hlt, hc⟩ := h (by intro e; subst e; simp at hi)
  obtain ⟨s, hs⟩ := hc i (zs.getD i 0) (by simp [hi])
  exact ⟨b, off, s, ha, hlt, hs⟩
end Go.Proofs.Ytdljnhdhigbefaa

/- The order of floats is that of their words, read with their signs. -/
namespace Go.Proofs.Ytdljnhdhigbefaa
open Go

/-- The size of a finite word, in units of the least. -/
def fval (r : Nat) : Nat := if r < 4503599627370496 then r else (4503599627370496 + r % 4503599627370496) * 2 ^ (r / 4503599627370496 - 1)
/-- A word with its sign. -/
def fkey (x : Nat) : Int := if x / 9223372036854775808 % 2 = 1 then -((x % 9223372036854775808 : Nat) : Int) else ((x % 9223372036854775808 : Nat) : Int)

theorem fval_lt {a b : Nat} (h : a < b) : fval a < fval b := by
  unfold fval
  have hb : b = 4503599627370496 * (b / 4503599627370496) + b % 4503599627370496 := (Nat.div_add_mod _ _).symm
  have ha : a = 4503599627370496 * (a / 4503599627370496) + a % 4503599627370496 := (Nat.div_add_mod _ _).symm
  have hbm : b % 4503599627370496 < 4503599627370496 := Nat.mod_lt _ (by decide)
  have ham : a % 4503599627370496 < 4503599627370496 := Nat.mod_lt _ (by decide)
  generalize b / 4503599627370496 = qb at *
  generalize a / 4503599627370496 = qa at *
  generalize b % 4503599627370496 = rb at *
  generalize a % 4503599627370496 = ra at *
  by_cases h2 : b < 4503599627370496
  · rw [if_pos h2, if_pos (by omega)]; exact h
  · rw [if_neg h2]
    have hqb : 1 ≤ qb := by omega
    have p1 : 1 ≤ 2 ^ (qb - 1) := Nat.one_le_two_pow
    by_cases h1 : a < 4503599627370496
    · rw [if_pos h1]
      calc a < 4503599627370496 * 1 := by omega
        _ ≤ (4503599627370496 + rb) * 2 ^ (qb - 1) := Nat.mul_le_mul (by omega) p1
    · rw [if_neg h1]
      have hqa : 1 ≤ qa := by omega
      have hle : qa ≤ qb := by omega
      by_cases hq : qa = qb
      · subst hq
        exact Nat.mul_lt_mul_of_pos_right (by omega) (by omega)
      · have e : 2 ^ (qa - 1) * 2 ≤ 2 ^ (qb - 1) := by
          rw [← Nat.pow_succ]
          exact Nat.pow_le_pow_right (by decide) (by omega)
        calc (4503599627370496 + ra) * 2 ^ (qa - 1) < (4503599627370496 * 2) * 2 ^ (qa - 1) := Nat.mul_lt_mul_of_pos_right (by omega) (Nat.two_pow_pos _)
          _ = 4503599627370496 * (2 ^ (qa - 1) * 2) := by rw [Nat.mul_assoc, Nat.mul_comm 2]
          _ ≤ 4503599627370496 * 2 ^ (qb - 1) := Nat.mul_le_mul_left _ e
          _ ≤ (4503599627370496 + rb) * 2 ^ (qb - 1) := Nat.mul_le_mul_right _ (by omega)
theorem fval_le {a b : Nat} (h : a ≤ b) : fval a ≤ fval b := by
  rcases Nat.lt_or_eq_of_le h with h | h
  · exact Nat.le_of_lt (fval_lt h)
  · rw [h]; exact Nat.le_refl _
theorem fval_lt_iff {a b : Nat} : fval a < fval b ↔ a < b := by
  constructor
  · intro h
    rcases Nat.lt_or_ge a b with h' | h'
    · exact h'
    · have := fval_le h'; omega
  · exact fval_lt
theorem fval_zero : fval 0 = 0 := by decide
theorem fval_inj {a b : Nat} : fval a = fval b ↔ a = b := by
  constructor
  · intro h
    rcases Nat.lt_trichotomy a b with h' | h' | h'
    · have := fval_lt h'; omega
    · exact h'
    · have := fval_lt h'; omega
  · intro h; rw [h]

theorem least64 : Ieee.double.leastPlace = -1074 := by decide
/-- What a word reads as. -/
theorem read_fin (x : Nat) (h : x % 9223372036854775808 < 9218868437227405312) : ∃ (m : Nat) (i : Int), Ieee.double.read x = .number (x / 9223372036854775808 % 2 == 1) m i ∧ -1074 ≤ i ∧ m <<< (i + 1074).toNat = fval (x % 9223372036854775808) := by
  unfold Ieee.Format.read
  simp only [width64, binade64, inf64, least64]
  by_cases h1 : x % 9223372036854775808 < 4503599627370496
  · rw [if_pos h1]
    refine ⟨_, _, rfl, by decide, ?_⟩
    unfold fval
    rw [if_pos h1]
    simp
  · rw [if_neg h1, if_pos h]
    refine ⟨_, _, rfl, by omega, ?_⟩
    unfold fval
    rw [if_neg h1, Nat.shiftLeft_eq]
    congr 2
    omega
theorem read_inf (x : Nat) (h : x % 9223372036854775808 = 9218868437227405312) : Ieee.double.read x = .infinity (x / 9223372036854775808 % 2 == 1) := by
  unfold Ieee.Format.read
  simp only [width64, binade64, inf64, least64, h]
  rfl

theorem compare_same {a b c d : Int} (h1 : a < b ↔ c < d) (h2 : a = b ↔ c = d) : compare a b = compare c d := by
  simp only [compare, compareOfLessAndEq]
  by_cases h : a < b
  · rw [if_pos h, if_pos (h1.1 h)]
  · rw [if_neg h, if_neg (fun x => h (h1.2 x))]
    by_cases h' : a = b
    · rw [if_pos h', if_pos (h2.1 h')]
    · rw [if_neg h', if_neg (fun x => h' (h2.2 x))]

theorem compare_lt {a b : Int} (h : a < b) : compare a b = .lt := by simp only [compare, compareOfLessAndEq]; rw [if_pos h]
theorem compare_gt {a b : Int} (h : b < a) : compare a b = .gt := by
  simp only [compare, compareOfLessAndEq]; rw [if_neg (by omega), if_neg (by omega)]
theorem compare_eq {a b : Int} (h : a = b) : compare a b = .eq := by
  simp only [compare, compareOfLessAndEq]; rw [if_neg (by omega), if_pos h]

theorem signed_scale (s : Bool) (m a b : Nat) : Ieee.signed s m (a + b) = Ieee.signed s m a * ((2 ^ b : Nat) : Int) := by
  unfold Ieee.signed
  have : m <<< (a + b) = m <<< a * 2 ^ b := by rw [Nat.shiftLeft_eq, Nat.shiftLeft_eq, Nat.pow_add, Nat.mul_assoc]
  rw [this]
  cases s <;> simp [Int.natCast_mul, Int.neg_mul]

theorem order_numbers (s t : Bool) (m n : Nat) (i j : Int) (hi : -1074 ≤ i) (hj : -1074 ≤ j) : Ieee.Datum.order (.number s m i) (.number t n j) = some (compare (Ieee.signed s m (i + 1074).toNat) (Ieee.signed t n (j + 1074).toNat)) := by
  unfold Ieee.Datum.order
  simp only []
  congr 1
  have hb : -1074 ≤ min i j := by omega
  have e1 : (i + 1074).toNat = (i - min i j).toNat + (min i j + 1074).toNat := by omega
  have e2 : (j + 1074).toNat = (j - min i j).toNat + (min i j + 1074).toNat := by omega
  rw [e1, e2, signed_scale, signed_scale]
  have hp : (0 : Int) < ((2 ^ (min i j + 1074).toNat : Nat) : Int) := Int.ofNat_lt.2 (Nat.two_pow_pos _)
  refine compare_same ?_ ?_
  · exact (Int.mul_lt_mul_right hp).symm
  · constructor
    · intro h; rw [h]
    · intro h; exact Int.eq_of_mul_eq_mul_right (by omega) h

/-- **THE ORDER OF TWO FLOATS THAT ARE NO NaN.** -/
theorem order_key {x y : Nat} (hx : isnan x = false) (hy : isnan y = false) : Ieee.double.order x y = some (compare (fkey x) (fkey y)) := by
  unfold isnan at hx hy
  simp only [decide_eq_false_iff_not, Nat.not_lt] at hx hy
  unfold Ieee.Format.order fkey
  generalize hrx : x % 9223372036854775808 = rx at *
  generalize hry : y % 9223372036854775808 = ry at *
  by_cases fx : rx < 9218868437227405312
  · obtain ⟨m, i, e1, hi, hm⟩ := read_fin x (by rw [hrx]; exact fx)
    rw [e1]
    rw [hrx] at hm
    generalize hsx : (x / 9223372036854775808 % 2 == 1) = sx at *
    by_cases fy : ry < 9218868437227405312
    · obtain ⟨n, j, e2, hj, hn⟩ := read_fin y (by rw [hry]; exact fy)
      rw [e2, order_numbers _ _ _ _ _ _ hi hj]
      rw [hry] at hn
      generalize hsy : (y / 9223372036854775808 % 2 == 1) = sy at *
      congr 1
      unfold Ieee.signed
      rw [hm, hn]
      have hlt := @fval_lt_iff rx ry
      have hgt := @fval_lt_iff ry rx
      have hz1 := @fval_lt_iff 0 rx
      have hz2 := @fval_lt_iff 0 ry
      rw [fval_zero] at hz1 hz2
      refine compare_same ?_ ?_ <;> cases sx <;> cases sy <;> simp_all <;> omega
    · have fy' : ry = 9218868437227405312 := by omega
      rw [read_inf y (by rw [hry]; exact fy')]
      generalize hsy : (y / 9223372036854775808 % 2 == 1) = sy at *
      unfold Ieee.Datum.order
      simp only []
      congr 1
      cases sy
      · rw [compare_lt]
        · rfl
        · simp at hsy; split <;> split <;> omega
      · rw [compare_gt]
        · rfl
        · simp at hsy; split <;> split <;> omega
  · have fx' : rx = 9218868437227405312 := by omega
    rw [read_inf x (by rw [hrx]; exact fx')]
    generalize hsx : (x / 9223372036854775808 % 2 == 1) = sx at *
    by_cases fy : ry < 9218868437227405312
    · obtain ⟨n, j, e2, hj, hn⟩ := read_fin y (by rw [hry]; exact fy)
      rw [e2]
      generalize hsy : (y / 9223372036854775808 % 2 == 1) = sy at *
      unfold Ieee.Datum.order
      simp only []
      congr 1
      cases sx
      · rw [compare_gt]
        · rfl
        · simp at hsx; split <;> split <;> omega
      · rw [compare_lt]
        · rfl
        · simp at hsx; split <;> split <;> omega
    · have fy' : ry = 9218868437227405312 := by omega
      rw [read_inf y (by rw [hry]; exact fy')]
      generalize hsy : (y / 9223372036854775808 % 2 == 1) = sy at *
      unfold Ieee.Datum.order
      simp only []
      congr 1
      simp only [compare, compareOfLessAndEq]
      cases sx <;> cases sy <;> simp_all
theorem flt_key {x y : Nat} (hx : isnan x = false) (hy : isnan y = false) : flt x y = decide (fkey x < fkey y) := by
  unfold flt
  rw [order_key hx hy]
  rcases Int.lt_trichotomy (fkey x) (fkey y) with h | h | h
  · rw [compare_lt h, decide_eq_true h]; rfl
  · rw [compare_eq h, decide_eq_false (by omega)]; rfl
  · rw [compare_gt h, decide_eq_false (by omega)]; rfl
theorem feq_key {x y : Nat} (hx : isnan x = false) (hy : isnan y = false) : feq x y = decide (fkey x = fkey y) := by
  unfold feq
  rw [order_key hx hy]
  rcases Int.lt_trichotomy (fkey x) (fkey y) with h | h | h
  · rw [compare_lt h, decide_eq_false (by omega)]; rfl
  · rw [compare_eq h, decide_eq_true h]; rfl
  · rw [compare_gt h, decide_eq_false (by omega)]; rfl
theorem fle_key {x y : Nat} (hx : isnan x = false) (hy : isnan y = false) : fle x y = decide (fkey x ≤ fkey y) := by
  have e : fle x y = (flt x y || feq x y) := by unfold fle flt feq; rfl
  rw [e, flt_key hx hy, feq_key hx hy, Bool.eq_iff_iff]
  simp
  omega
theorem order_nan {x y : Nat} (h : isnan x = true ∨ isnan y = true) : Ieee.double.order x y = none := by
  unfold Ieee.Format.order
  rcases h with h | h
  · exact order_nan_left _ (by rw [read_nan]; exact h)
  · exact order_nan_right _ (by rw [read_nan]; exact h)
theorem flt_nan {x y : Nat} (h : isnan x = true ∨ isnan y = true) : flt x y = false := by unfold flt; rw [order_nan h]; rfl
theorem feq_nan {x y : Nat} (h : isnan x = true ∨ isnan y = true) : feq x y = false := by unfold feq; rw [order_nan h]; rfl
theorem fle_nan {x y : Nat} (h : isnan x = true ∨ isnan y = true) : fle x y = false := by unfold fle; rw [order_nan h]; rfl
end Go.Proofs.Ytdljnhdhigbefaa

/- Package math, as far as it is called: what its functions give, as plain functions of the words. -/
namespace Go.Proofs.Ytdljnhdhigbefaa
open Go Go.RowKit
set_option maxRecDepth 100000

/-- The size of a word. -/
def fabs (x : Nat) : Nat := x % 9223372036854775808

@[go_sem] theorem call_Float64bits (x : Nat) (w : World) : (callFunc 68 #[.float .f64 x]).run Try.prog w = .ok (.value (.int .u64 x)) w := by kernel_rfl
@[go_sem] theorem call_Float64frombits (n : Int) (w : World) : (callFunc 67 #[.int .u64 n]).run Try.prog w = .ok (.value (.float .f64 n.toNat)) w := by kernel_rfl
set_option maxHeartbeats 400000 in
theorem IsNaN_any (x : Nat) (w : World) : Calls Try.prog 75 #[.float .f64 x] w fun e w' => e = .returned (.bool (isnan x)) ∧ w = w' := by
  go_enter Try.func75, Try.ntmps75
  go_wp2
  go_ret
  exact ⟨by rw [feq_self]; simp, rfl⟩
theorem fabs_lt (x : Nat) : fabs x < 9223372036854775808 := Nat.mod_lt _ (by decide)
theorem isnan_fabs (x : Nat) : isnan (fabs x) = isnan x := by
  unfold isnan fabs
  rw [Nat.mod_mod]
attribute [irreducible] fabs
theorem bits_clear {x : Nat} (hx : x < 18446744073709551616) : bits .andNot .u64 (x : Int) 9223372036854775808 = ((fabs x : Nat) : Int) := by
  rw [show (9223372036854775808 : Int) = ((9223372036854775808 : Nat) : Int) from rfl, u64_andNot_nat x _ hx (by decide)]
  unfold fabs
  rw [show (18446744073709551615 - 9223372036854775808 : Nat) = 2 ^ 63 - 1 from by decide, Nat.and_two_pow_sub_one_eq_mod]
theorem bits_sign {x : Nat} (hx : x < 18446744073709551616) : bits .and .u64 (x : Int) 9223372036854775808 = ((x / 9223372036854775808 * 9223372036854775808 : Nat) : Int) := by
  rw [show (9223372036854775808 : Int) = ((2 ^ 63 : Nat) : Int) from by decide, u64_and_nat x _ hx (by decide), nat_bit]
  rw [show (2 ^ 63 : Nat) = 9223372036854775808 from by decide, Nat.mod_eq_of_lt (show x / 9223372036854775808 < 2 by omega)]
/-- The size of a float whose NaN's bits are any. -/
theorem fabs_raw (v s : Nat) : ∃ t, fabs (raw v s) = raw (fabs v) t := by
  cases h : isnan v
  · exact ⟨0, by rw [raw_of_not h, raw_of_not (by rw [isnan_fabs]; exact h)]⟩
  · refine ⟨s / 2 * 2, ?_⟩
    unfold raw
    rw [isnan_fabs, h]
    simp only [if_true]
    unfold fabs nanW
    have hb : (s / 2) % 4503599627370495 < 4503599627370495 := Nat.mod_lt _ (by decide)
    have e1 : s / 2 * 2 % 2 = 0 := by omega
    have e2 : s / 2 * 2 / 2 = s / 2 := by omega
    rw [e1, e2]
    have ha : s % 2 < 2 := Nat.mod_lt _ (by decide)
    generalize s % 2 = a at *
    generalize (s / 2) % 4503599627370495 = b at *
    omega
/-- Is it neither an infinity nor a NaN? -/
def ffin (x : Nat) : Bool := decide (x % 9223372036854775808 < 9218868437227405312)
theorem ffin_raw (v s : Nat) : ffin (raw v s) = ffin v := by
  unfold ffin raw
  cases h : isnan v
  · simp
  · simp only [if_true]
    have h1 := isnan_nanW s
    unfold isnan at h h1
    simp only [decide_eq_true_eq] at h h1
    rw [Bool.eq_iff_iff]
    simp only [decide_eq_true_eq]
    omega

set_option maxHeartbeats 400000 in
theorem Abs_any (x : Nat) (hx : x < 18446744073709551616) (w : World) : Calls Try.prog 48 #[.float .f64 x] w fun e w' => e = .returned (.float .f64 (fabs x)) ∧ w = w' := by
  have he := bits_clear hx
  go_enter Try.func48, Try.ntmps48
  go_wp2
  go_ret
  exact ⟨rfl, rfl⟩
/-- The greatest float is below it just if it is an infinity. -/
theorem flt_most (x : Nat) : flt 9218868437227405311 (fabs x) = decide (x % 9223372036854775808 = 9218868437227405312) := by
  have hk : fkey 9218868437227405311 = 9218868437227405311 := by decide
  have hm : isnan 9218868437227405311 = false := by kernel_rfl
  have hx : x % 9223372036854775808 < 9223372036854775808 := Nat.mod_lt _ (by decide)
  cases h : isnan x
  · rw [flt_key hm (by rw [isnan_fabs]; exact h), hk]
    unfold isnan at h
    simp only [decide_eq_false_iff_not, Nat.not_lt] at h
    have e : fkey (fabs x) = ((x % 9223372036854775808 : Nat) : Int) := by
      unfold fkey fabs
      rw [Nat.mod_mod, Nat.div_eq_of_lt hx, if_neg (by decide)]
    rw [e, Bool.eq_iff_iff]
    simp only [decide_eq_true_eq]
    omega
  · rw [flt_nan (.inr (by rw [isnan_fabs]; exact h))]
    unfold isnan at h
    simp only [decide_eq_true_eq] at h
    rw [eq_comm, decide_eq_false_iff_not]
    omega
set_option maxHeartbeats 400000 in
theorem IsInf0_any (x : Nat) (hx : x < 18446744073709551616) (w : World) : Calls Try.prog 76 #[.float .f64 x, .int .i64 0] w fun e w' => e = .returned (.bool (decide (x % 9223372036854775808 = 9218868437227405312))) ∧ w = w' := by
  have he := bits_clear hx
  have hm := flt_most x
  go_enter Try.func76, Try.ntmps76
  go_wp2_with (go_at_call 48; refine (Abs_any x hx _).mono ?_; rintro e w' ⟨rfl, rfl⟩)
  go_ret
  exact ⟨rfl, rfl⟩

theorem infinite_eq (x : Nat) : (isnan x || decide (x % 9223372036854775808 = 9218868437227405312)) = !ffin x := by
  unfold isnan ffin
  rw [Bool.eq_iff_iff]
  simp
  omega

/-- All are words of 64 bits. -/
def Words (zs : List Nat) : Prop := ∀ v ∈ zs, v < 18446744073709551616
theorem Words.at {zs : List Nat} (h : Words zs) (k : Nat) : zs.getD k 0 < 18446744073709551616 := by
  by_cases hk : k < zs.length
  · have : zs.getD k 0 = zs[k] := by simp [hk]
    rw [this]; exact h _ (List.getElem_mem hk)
  · have : zs.getD k 0 = 0 := by simp [Nat.not_lt.1 hk]
    rw [this]; decide

set_option maxHeartbeats 1000000 in
theorem IndexFunc_any (f : FuncId) (p : Nat → Bool) (hp : ∀ (x : Nat) (w : World), x < 18446744073709551616 → Calls Try.prog f #[.float .f64 x] w fun e w' => e = .returned (.bool (p x)) ∧ w = w') (hr : ∀ v s, p (raw v s) = p v) (hcf : ∀ x w, (callFunc f #[.float .f64 x]).run Try.prog w = .ok (.enter f #[.float .f64 x]) w)
    (w : World) (za : Option Addr) (zs : List Nat) (zc : Nat) (hZ : Fls w za zs) (hW : Words zs) (hl : zs.length ≤ maxLen) :
    Calls Try.prog 115 #[.slice za zs.length zc, .func (.func f) #[] #[]] w fun e w' => (∃ r : Int, e = .returned (.int .i64 r) ∧ decide (0 ≤ r) = zs.any p) ∧ w = w' := by
  have hl' := hl
  unfold maxLen at hl'
  have hln : zs.length ≤ 9223372036854775807 := by omega
  go_enter Try.func115, Try.ntmps115
  go_wp2_with fail
  go_loop [8] (fun i => ∃ k : Nat, k ≤ zs.length ∧ i = .int .i64 k ∧ ∀ j, j < k → p (zs.getD j 0) = false) (fun i => zs.length - (intOf i).toNat)
  case atStart => exact ⟨0, Nat.zero_le _, rfl, fun _ h => absurd h (Nat.not_lt_zero _)⟩
  case round =>
    obtain ⟨k, hk, rfl, hno⟩ := hrel
    have HNO := Lib.hid hno
    clear hno
    by_cases hlt : k < zs.length
    · obtain ⟨b, o, s1, rfl, hb, hc1⟩ := hZ.at hlt
      go_wp2_with fail
      have HP := hp (raw (zs.getD k 0) s1) w (raw_lt (hW.at k) s1)
      have e0 : zs.getD k 0 = zs[k] := by simp [hlt]
      rw [e0] at HP
      refine HP.mono ?_
      rintro e w2 ⟨rfl, rfl⟩
      clear HP
      have hr1 := hr zs[k] s1
      cases hpk : p zs[k]
      · rw [hr1, hpk]
        go_wp2
        go_round
        case rel => exact ⟨k + 1, by omega, by go_num, fun j hj => by
          by_cases hjk : j = k
          · subst hjk; rw [e0]; exact hpk
          · exact HNO.out j (by omega)⟩
        case measure => simp [intOf]; omega
      · rw [hr1, hpk]
        go_wp2
        go_ret
        refine ⟨⟨k, rfl, ?_⟩, rfl⟩
        rw [decide_eq_true (by omega), eq_comm, List.any_eq_true]
        exact ⟨zs[k], List.getElem_mem hlt, hpk⟩
    · go_wp2
      go_ret
      refine ⟨⟨-1, rfl, ?_⟩, rfl⟩
      rw [decide_eq_false (by omega), eq_comm, List.any_eq_false]
      intro x hx
      obtain ⟨j, hj, rfl⟩ := List.getElem_of_mem hx
      have := HNO.out j (by omega)
      simp [hj] at this
      simp [this]
set_option maxHeartbeats 1000000 in
theorem ContainsFunc_any (f : FuncId) (p : Nat → Bool) (hp : ∀ (x : Nat) (w : World), x < 18446744073709551616 → Calls Try.prog f #[.float .f64 x] w fun e w' => e = .returned (.bool (p x)) ∧ w = w') (hr : ∀ v s, p (raw v s) = p v) (hcf : ∀ x w, (callFunc f #[.float .f64 x]).run Try.prog w = .ok (.enter f #[.float .f64 x]) w)
    (w : World) (za : Option Addr) (zs : List Nat) (zc : Nat) (hZ : Fls w za zs) (hW : Words zs) (hl : zs.length ≤ maxLen) :
    Calls Try.prog 87 #[.slice za zs.length zc, .func (.func f) #[] #[]] w fun e w' => e = .returned (.bool (zs.any p)) ∧ w = w' := by
  have H := Lib.hid (IndexFunc_any f p hp hr hcf w za zs zc hZ hW hl)
  clear hp hr hcf
  go_enter Try.func87, Try.ntmps87
  go_wp2_with fail
  refine H.out.mono ?_
  rintro e w2 ⟨⟨r, rfl, hr⟩, rfl⟩
  have HR := Lib.hid hr
  clear hr
  go_wp2
  go_ret
  exact ⟨by rw [← HR.out]; rfl, rfl⟩
end Go.Proofs.Ytdljnhdhigbefaa

/- Layer 12, plainly, on lists of words: what is turned, swept, solved and sorted. No condition. -/
namespace Go.Proofs.Ytdljnhdhigbefaa
open Go Go.RowKit
set_option maxRecDepth 100000

/-- 1 and 2, as words. -/
def w1q : Nat := 4607182418800017408
def w2q : Nat := 4611686018427387904
/-- A length of two. -/
def hypP (p q : Nat) : Nat := if feq p 0 then p else fmul p (fsqrt (fadd 4607182418800017408 (fmul (fdiv q p) (fdiv q p))))
def hypW (x y : Nat) : Nat := if flt (fabs x) (fabs y) then hypP (fabs y) (fabs x) else hypP (fabs x) (fabs y)
/-- A size with another one's sign, where a NaN is met by a NaN. -/
def sgnW (x y : Nat) : Nat := if isnan x then qnan else x % 9223372036854775808 + y / 9223372036854775808 * 9223372036854775808
/-- A row's two columns, turned. -/
def turnR (z : List Nat) (n i c s r : Nat) : List Nat :=
  (z.set (r * n + i) (fsub (fmul c (z.getD (r * n + i) 0)) (fmul s (z.getD (r * n + i + 1) 0)))).set (r * n + i + 1) (fadd (fmul s (z.getD (r * n + i) 0)) (fmul c (z.getD (r * n + i + 1) 0)))
def turnL (z : List Nat) (n i c s : Nat) : Nat → List Nat
  | 0 => z
  | r + 1 => turnR (turnL z n i c s r) n i c s r
/-- Where the block ends. -/
def endB (d e : List Nat) (m : Nat) : Bool := feq (fadd (fabs (e.getD m 0)) (fadd (fabs (d.getD m 0)) (fabs (d.getD (m + 1) 0)))) (fadd (fabs (d.getD m 0)) (fabs (d.getD (m + 1) 0)))
def endL (d e : List Nat) : Nat → Nat → Nat
  | 0, m => m
  | f + 1, m => if m + 1 < d.length then (if endB d e m then m else endL d e f (m + 1)) else m
/-- What a sweep holds. -/
structure SwS where
  d : List Nat
  e : List Nat
  z : List Nat
  g : Nat
  s : Nat
  c : Nat
  p : Nat
def swF (x : SwS) (i : Nat) : Nat := fmul x.s (x.e.getD i 0)
def swB (x : SwS) (i : Nat) : Nat := fmul x.c (x.e.getD i 0)
def swR (x : SwS) (i : Nat) : Nat := hypW (swF x i) x.g
/-- A sweep's step that goes on. -/
def swN (n rows : Nat) (x : SwS) (i : Nat) : SwS :=
  let b := swB x i
  let r := swR x i
  let s := fdiv (swF x i) r
  let c := fdiv x.g r
  let g := fsub (x.d.getD (i + 1) 0) x.p
  let q := fadd (fmul (fsub (x.d.getD i 0) g) s) (fmul (fmul 4611686018427387904 c) b)
  let p := fmul s q
  ⟨x.d.set (i + 1) (fadd g p), x.e.set (i + 1) r, turnL x.z n i c s rows, fsub (fmul c q) b, s, c, p⟩
/-- One that ends it. -/
def swX (m : Nat) (x : SwS) (i : Nat) : SwS := { x with d := x.d.set (i + 1) (fsub (x.d.getD (i + 1) 0) x.p), e := (x.e.set (i + 1) (swR x i)).set m 0 }
/-- k steps from l + k - 1 down to l; true: it has ended early. -/
def swL (n rows l m : Nat) : Nat → SwS → SwS × Bool
  | 0, x => (x, false)
  | k + 1, x => if feq (swR x (l + k)) 0 then (swX m x (l + k), true) else swL n rows l m k (swN n rows x (l + k))
def swG (d e : List Nat) (l m : Nat) : Nat :=
  let g := fdiv (fsub (d.getD (l + 1) 0) (d.getD l 0)) (fmul 4611686018427387904 (e.getD l 0))
  fadd (fsub (d.getD m 0) (d.getD l 0)) (fdiv (e.getD l 0) (fadd g (sgnW (hypW g 4607182418800017408) g)))
def sw0 (d e z : List Nat) (l m : Nat) : SwS := ⟨d, e, z, swG d e l m, 4607182418800017408, 4607182418800017408, 0⟩
structure QlS where
  d : List Nat
  e : List Nat
  z : List Nat
def swE (l m : Nat) (y : SwS × Bool) : QlS := if y.2 then ⟨y.1.d, y.1.e, y.1.z⟩ else ⟨y.1.d.set l (fsub (y.1.d.getD l 0) y.1.p), (y.1.e.set l y.1.g).set m 0, y.1.z⟩
/-- A sweep from m up to l. -/
def sweepL (n rows : Nat) (x : QlS) (l m : Nat) : QlS := swE l m (swL n rows l m (m - l) (sw0 x.d x.e x.z l m))
/-- One value: as many sweeps as it takes, f at most. -/
def valQ (n rows l : Nat) : Nat → QlS → QlS × Nat × Bool
  | f, x => if endL x.d x.e x.d.length l = l then (x, 0, true) else
    match f with
    | 0 => (x, 0, false)
    | f + 1 => let y := valQ n rows l f (sweepL n rows x l (endL x.d x.e x.d.length l)); (y.1, y.2.1 + 1, y.2.2)
/-- The values l, l + 1, .. of n. -/
def solQ (n rows : Nat) : Nat → QlS → Nat → QlS × Nat × Bool
  | 0, x, s => (x, s, true)
  | k + 1, x, s => let y := valQ n rows (n - (k + 1)) 30 x; if y.2.2 then solQ n rows k y.1 (s + y.2.1) else (y.1, s + y.2.1, false)
/-- The least one's place, from i on. -/
def minL (w : List Nat) : Nat → Nat → Nat → Nat
  | 0, _, k => k
  | f + 1, j, k => if j < w.length then minL w f (j + 1) (if flt (w.getD j 0) (w.getD k 0) then j else k) else k
def swapL (l : List Nat) (i k : Nat) : List Nat := (l.set i (l.getD k 0)).set k (l.getD i 0)
def swapC (z : List Nat) (n i k : Nat) : Nat → List Nat
  | 0 => z
  | r + 1 => swapL (swapC z n i k r) (r * n + i) (r * n + k)
/-- The first i are sorted; columns along. -/
def sortQ (n rows : Nat) (w z : List Nat) : Nat → List Nat × List Nat
  | 0 => (w, z)
  | i + 1 => let y := sortQ n rows w z i; let k := minL y.1 y.1.length (i + 1) i; (swapL y.1 i k, swapC y.2 n i k rows)
theorem knq1 : sortQ 3 0 [4613937818241073152, 4607182418800017408, 4611686018427387904] [] 3 = ([4607182418800017408, 4611686018427387904, 4613937818241073152], []) := by kernel_rfl
theorem knq2 : (solQ 3 0 3 ⟨[4613937818241073152, 4607182418800017408, 4611686018427387904], [0, 0, 0], []⟩ 0) = (⟨[4613937818241073152, 4607182418800017408, 4611686018427387904], [0, 0, 0], []⟩, 0, true) := by kernel_rfl
theorem knq3 : (let y := solQ 2 0 2 ⟨[0, 0], [4607182418800017408, 0], []⟩ 0; let w := (sortQ 2 0 y.1.d y.1.z 2).1; decide (0 < y.2.1) && y.2.2 && flt 13830554906015530189 (w.getD 0 0) && true) = true := by kernel_rfl
end Go.Proofs.Ytdljnhdhigbefaa
