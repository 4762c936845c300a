/- What is general among the texts on views. No condition. -/
import Derived.Test.YtdljnhdhigbefaaChecked
import Derived.Test.YtdljnhdhigbefaaZz2
import Derived.Test.YtdljnhdhigbefaaZz3
import Derived.LaidEqlPtr
import Derived.Laws.CopyOwn
import Derived.Laws.MakeOwn
import Derived.Laws.OwnMore
import Derived.LoopIn
import Derived.LoopNIn
import Derived.Maps.OwnIn
import Derived.Maps.Views
import Derived.OwnWalkIn
import Derived.RangeFuncBound
import Derived.RangeFuncBox
import Derived.RangeFuncCalls
import Derived.RangeFuncLeaves
import Derived.RangeFuncNested
import Derived.Scope
import Derived.Shelf.Abstract
import Derived.Shelf.RegionOpen
import Derived.TacticsInMore
import Derived.WideKeyArr
namespace Go.Proofs.Ytdljnhdhigbefaa
open Go Go.RowKit Go.Shelf
set_option maxRecDepth 100000

/-! from Vw -/
/-- Below B, but for block s, the world w' is as w was. -/
structure Bel (B s : Nat) (w w' : World) : Prop where
  os : w'.os = w.os
  tape : w'.tape = w.tape
  output : w'.output = w.output
  size : w.heap.size ≤ w'.heap.size
  block : ∀ k, k < B → k ≠ s → w'.heap[k]? = w.heap[k]?
theorem Bel.of {B s : Nat} {w w' : World} (h : Below B w w') : Bel B s w w' := ⟨h.os, h.tape, h.output, h.size, fun k hk _ => h.block k hk⟩
theorem Bel.refl (B s : Nat) (w : World) : Bel B s w w := Bel.of (Below.refl B w)
theorem Bel.trans {B s : Nat} {a b c : World} (h : Bel B s a b) (k : Bel B s b c) : Bel B s a c :=
  ⟨k.os.trans h.os, k.tape.trans h.tape, k.output.trans h.output, Nat.le_trans h.size k.size, fun i hi hs => (k.block i hi hs).trans (h.block i hi hs)⟩
theorem Bel.mono {B B' s : Nat} {w w' : World} (h : Bel B s w w') (hB : B' ≤ B) : Bel B' s w w' := ⟨h.os, h.tape, h.output, h.size, fun k hk => h.block k (Nat.lt_of_lt_of_le hk hB)⟩
theorem Bel.set {B s : Nat} {a w : World} (h : Bel B s a w) (o : Nat) (u : Value) : Bel B s a (w.setCell ⟨s, o, none⟩ u) :=
  h.trans ⟨rfl, rfl, rfl, by simp [World.setCell], fun k _ hs => Below.heap_setCell _ _ _ _ hs⟩
/-- The block was made later. -/
theorem Bel.below {B s : Nat} {w w' : World} (h : Bel B s w w') (hs : B ≤ s) : Below B w w' := ⟨h.os, h.tape, h.output, h.size, fun k hk => h.block k hk (by omega)⟩
theorem bel_step {W w1 w2 : World} {B s : Nat} (h : Bel B s W w1) (hB : B ≤ w1.heap.size) (k : Bel w1.heap.size s w1 w2) : Bel B s W w2 := h.trans (k.mono hB)
theorem Box.bel {w w' : World} {n s : Nat} {cs : List Value} (h : Box w n cs) (hs : n ≠ s) (hb : Bel w.heap.size s w w') : Box w' n cs := by
  have hl := h.lt
  obtain ⟨T, h⟩ := h
  exact ⟨T, by rw [hb.block n hl hs]; exact h⟩

theorem Box.inj {w : World} {n : Nat} {xs ys : List Value} (h : Box w n xs) (k : Box w n ys) : xs = ys := by
  obtain ⟨T, h⟩ := h
  obtain ⟨T', k⟩ := k
  rw [h] at k
  simp only [Option.some.injEq, Obj.cells.injEq] at k
  have := congrArg Array.toList k.1
  simpa using this
def PlF (k : Nat) (_ : FuncId) (_ : Array Value) (v : Value) : Prop := v = .int .i64 k


/-! from Vw2 -/
theorem Box.newA (w : World) (cs : List Value) (T : TypeId) {n : Nat} (h : w.heap.size = n) : Box (w.alloc (.cells cs.toArray T)) n cs := by subst h; exact Box.new w cs T
theorem Box.put6 {w : World} {n : Nat} {a0 a1 a2 a3 a4 a5 : Value} (h : Box w n [a0, a1, a2, a3, a4, a5]) (v0 v1 v2 v3 v4 v5 : Value) :
    Box ((((((w.setCell ⟨n, 0, none⟩ v0).setCell ⟨n, 1, none⟩ v1).setCell ⟨n, 2, none⟩ v2).setCell ⟨n, 3, none⟩ v3).setCell ⟨n, 4, none⟩ v4).setCell ⟨n, 5, none⟩ v5) n [v0, v1, v2, v3, v4, v5] :=
  (((((h.set 0 v0).set 1 v1).set 2 v2).set 3 v3).set 4 v4).set 5 v5
theorem below_set {B n : Nat} {a w : World} (h : Below B a w) (hn : B ≤ n) (o : Nat) (u : Value) : Below B a (w.setCell ⟨n, o, none⟩ u) := h.setCell hn u
theorem below_put6 {B n : Nat} {a w : World} (h : Below B a w) (hn : B ≤ n) (v0 v1 v2 v3 v4 v5 : Value) :
    Below B a ((((((w.setCell ⟨n, 0, none⟩ v0).setCell ⟨n, 1, none⟩ v1).setCell ⟨n, 2, none⟩ v2).setCell ⟨n, 3, none⟩ v3).setCell ⟨n, 4, none⟩ v4).setCell ⟨n, 5, none⟩ v5) :=
  below_set (below_set (below_set (below_set (below_set (below_set h hn _ _) hn _ _) hn _ _) hn _ _) hn _ _) hn _ _

theorem place_bnd {o d u i j n : Nat} (hi : i ≤ 512) (hj : j ≤ 512) (hd : d + u ≤ 2 ^ (10 + n)) (ho : o ≤ 2 ^ (20 + n)) : o + i * d + j * u ≤ 2 ^ (20 + (n + 1)) := by
  have h1 : i * d ≤ 512 * d := Nat.mul_le_mul_right _ hi
  have h2 : j * u ≤ 512 * u := Nat.mul_le_mul_right _ hj
  have h3 : 512 * (d + u) ≤ 512 * 2 ^ (10 + n) := Nat.mul_le_mul_left _ hd
  have h4 : 512 * 2 ^ (10 + n) ≤ 2 ^ (20 + n) := by
    rw [show 20 + n = 10 + (10 + n) by omega, Nat.pow_add 2 10 (10 + n)]
    exact Nat.mul_le_mul_right _ (by decide)
  rw [show 20 + (n + 1) = (20 + n) + 1 by omega, Nat.pow_succ]
  omega
theorem pow_small {n : Nat} (h : n ≤ 40) : 2 ^ (20 + (n + 1)) ≤ 9223372036854775807 :=
  Nat.le_trans (Nat.pow_le_pow_right (by decide) (show 20 + (n + 1) ≤ 61 by omega)) (by decide)

/-! from Vw3 -/
theorem run_New (r c : Nat) (h : r * c ≤ 262144) (w : World) : (Instr.makeSlice 22 (.int .i64 ((r : Int) * (c : Int))) (.int .i64 ((r : Int) * (c : Int)))).run Try.prog w = .ok (.slice (some ⟨w.heap.size, 0, none⟩) (r * c) (r * c)) (w.alloc (.cells (List.replicate (r * c) (Value.float .f64 0)).toArray 40)) := by
  have h0 : (Try.prog.info? 40).map (fun i => (i.zero, i.size, i.bytes)) = some (some (.float .f64 0), 1, 8) := by kernel_rfl
  obtain ⟨i, hi, h1⟩ := Option.map_eq_some_iff.1 h0
  simp only [Prod.mk.injEq] at h1
  obtain ⟨hz, hs, hb⟩ := h1
  have e : (r : Int) * (c : Int) = ((r * c : Nat) : Int) := (Int.natCast_mul _ _).symm
  rw [e]
  generalize r * c = n at h
  have hr := run_make (P := Try.prog) w 22 40 i (.float .f64 0) Try.underlying22 hi hz .i64 .i64 n n (by omega) (Int.le_refl _) (by rw [hb]; omega) (by omega)
  rw [hs] at hr
  simp only [Int.toNat_natCast, Nat.mul_one] at hr
  rw [hr]
  have e2 : madeCells (Value.float .f64 0).cells n = (List.replicate n (Value.float .f64 0)).toArray := by
    apply Array.ext'
    have := toList_madeCells_one (.float .f64 0) n
    simpa [Value.cells] using this
  rw [e2]

theorem Box.other6 {w : World} {n m : Nat} {cs : List Value} (h : Box w n cs) (hne : n ≠ m) (v0 v1 v2 v3 v4 v5 : Value) :
    Box ((((((w.setCell ⟨m, 0, none⟩ v0).setCell ⟨m, 1, none⟩ v1).setCell ⟨m, 2, none⟩ v2).setCell ⟨m, 3, none⟩ v3).setCell ⟨m, 4, none⟩ v4).setCell ⟨m, 5, none⟩ v5) n cs :=
  (((((h.set_other hne 0 v0).set_other hne 1 v1).set_other hne 2 v2).set_other hne 3 v3).set_other hne 4 v4).set_other hne 5 v5
/-- Cells hold just these floats. -/
def Cel (w : World) (a : Option Addr) (zs : List Nat) : Prop := zs ≠ [] → ∃ b off, a = some ⟨b, off, none⟩ ∧ b < w.heap.size ∧ ∀ i v, zs[i]? = some v → w.cell? ⟨b, off + i, none⟩ = some (.float .f64 v)
theorem Cel.below {w w' : World} {a : Option Addr} {zs : List Nat} (h : Cel w a zs) (hb : Below w.heap.size w w') : Cel w' a zs := fun hz => by
  obtain ⟨b, off, rfl, hlt, hc⟩ := h hz
  exact ⟨b, off, rfl, Nat.lt_of_lt_of_le hlt hb.size, fun i v hi => by rw [hb.cell (p := ⟨b, off + i, none⟩) hlt]; exact hc i v hi⟩
/-- A store made new: all of another slice copied into it. -/
theorem wpList_copy_box {P : Program} {w : World} {ops : Array Oper} {rest : List Oper} {o : Oper} {a : Act} {Q : Exit → Act → World → Prop} (hgd : o.guard = none) (d s : Operand) (dT sT : TypeId)
    (ho : o.op = .call { callee := .builtin .copy, args := #[d, s], argTypes := #[dT, sT] }) (elem : TypeId) (hu : P.underlying dT = some (.slice elem)) (hsz : (P.info? elem).map (·.size) = some 1)
    (g dCap sCap n m : Nat) (sp : Option Addr) (cs : List Nat) (hd : a.eval d = .slice (some ⟨g, 0, none⟩) n dCap) (hs : a.eval s = .slice sp m sCap) (hn : n = cs.length) (hm : m = cs.length)
    (cur : List Value) (hg : Box w g cur) (hcur : cur.length = cs.length) (hsrc : Cel w sp cs)
    (h : ∀ w', Box w' g (cs.map (Value.float .f64)) → (∀ B, Bel B g w w') → wpList P ops Q rest (a.put o.dst (goInt cs.length)) w') : wpList P ops Q (o :: rest) a w := by
  subst hn hm
  by_cases h0 : cs = []
  · subst h0
    refine wpList_copy_nothing hgd d s dT sT ho elem hu hsz _ sp _ _ _ _ hd hs (by rfl) ?_
    have : cur = [] := List.eq_nil_of_length_eq_zero hcur
    subst this
    exact h w hg (fun B => Bel.refl _ _ _)
  · obtain ⟨b, off, rfl, hlt, hc⟩ := hsrc h0
    obtain ⟨T, hT⟩ := hg
    refine wpList_copy_own hgd d s dT sT ho elem hu hsz g 0 _ _ ⟨b, off, none⟩ _ _ hd hs cur.toArray T hT (cs.map (Value.float .f64)) (by simp) ?_ (by simp [hcur]) (by intro v hv; simp at hv; obtain ⟨x, _, rfl⟩ := hv; rfl) ?_
    · intro j v hj
      simp only [List.getElem?_map, Option.map_eq_some_iff] at hj
      obtain ⟨x, hx, rfl⟩ := hj
      have ha : (Addr.add ⟨b, off, none⟩ j) = ⟨b, off + j, none⟩ := by
        unfold Addr.add
        split
        · subst_vars; rfl
        · rfl
      rw [ha]; exact hc j x hx
    · have e : (List.take 0 cur.toArray.toList ++ (cs.map (Value.float .f64) ++ List.drop (0 + (cs.map (Value.float .f64)).length) cur.toArray.toList)) = cs.map (Value.float .f64) := by
        simp [hcur]
      rw [e, List.length_map]
      refine h _ ⟨T, ?_⟩ (fun B => ⟨rfl, rfl, rfl, by simp [World.setRow], fun k _ hk => setRow_other w g k _ (by omega)⟩)
      exact setRow_heap w g _ _ _ _ hT

theorem below_other {B s : Nat} {w w' : World} (h : ∀ B, Bel B s w w') (hB : B ≤ s) : Below B w w' := (h B).below hB
/-- Are two floats the same, bit by bit? -/
def sameF (x y : Nat) : Bool := decide (x = y) || (isnan x && isnan y)

/-! from Vw4 -/
attribute [local go_sem] Oper.semAt_some
set_option maxRecDepth 100000

theorem grown_of_below {w w' : World} (h : Below w.heap.size w w') : w.grownBy w' none := ⟨h.os, h.tape, h.output, h.size, fun k hk _ => h.block k hk⟩

/-- From b on only what is no cells has turned. -/
def StillC (b : Nat) (A B : World) : Prop := Below b A B ∧ ∀ (k : Nat) (o : Obj), A.heap[k]? = some o → o.isCells = true → B.heap[k]? = some o
theorem StillC.of_grown {b : Nat} {A B : World} {row : Option Nat} (hb : b ≤ A.heap.size) (hg : A.grownBy B row) (hr : ∀ r, row = some r → b ≤ r ∧ ∃ o : Obj, A.heap[r]? = some o ∧ o.isCells = false) : StillC b A B := by
  refine ⟨⟨hg.os, hg.tape, hg.output, hg.size, fun k hk => hg.block k (by omega) ?_⟩, fun k (o : Obj) ho hc => ?_⟩
  · intro e
    have := (hr k e.symm).1
    omega
  · rw [hg.block k (Array.getElem?_eq_some_iff.1 ho).1, ho]
    intro e
    obtain ⟨_, o', ho', hc'⟩ := hr k e.symm
    rw [ho] at ho'
    cases ho'
    rw [hc] at hc'
    cases hc'
theorem StillC.put {b l : Nat} {W : World} {o o' : Obj} (hl : b ≤ l) (h : W.heap[l]? = some o) (hc : o.isCells = false) : StillC b W (W.putObj l o') :=
  StillC.of_grown (by have := (Array.getElem?_eq_some_iff.1 h).1; omega) (grownBy_putObj' W l o') (fun r e => by cases e; exact ⟨hl, o, h, hc⟩)
theorem Box.grown {n : Nat} {A B : World} {cs : List Value} {row : Option Nat} (h : Box A n cs) (hg : A.grownBy B row) (hne : ∀ r, row = some r → n ≠ r) : Box B n cs := by
  have hl := h.lt
  obtain ⟨T, hT⟩ := h
  exact ⟨T, by rw [hg.block n hl (fun e => hne n e.symm rfl)]; exact hT⟩
theorem Box.belB {w w' : World} {n s B : Nat} {cs : List Value} (h : Box w n cs) (hB : n < B) (hs : n ≠ s) (hb : Bel B s w w') : Box w' n cs := by
  obtain ⟨T, h⟩ := h
  exact ⟨T, by rw [hb.block n hB hs]; exact h⟩
theorem Box.still {b n : Nat} {A B : World} {cs : List Value} (h : Box A n cs) (hs : StillC b A B) : Box B n cs := by
  obtain ⟨T, hT⟩ := h
  exact ⟨T, hs.2 _ _ hT rfl⟩
theorem ownsRow_still {b base size : Nat} {e : TypeId} {A B : World} {v : Value} {n : Nat} {xs : List Value} (h : A.ownsRow base e size v n xs) (hs : StillC b A B) : B.ownsRow base e size v n xs := by
  refine ⟨h.1, ?_⟩
  rcases h.2 with h0 | ⟨g, cap, cur, h1, h2, h3, h4⟩
  · exact .inl h0
  · exact .inr ⟨g, cap, cur, h1, h2, hs.2 _ _ h3 rfl, h4⟩
theorem below_still {b : Nat} {W A B : World} (h : Below W.heap.size W A) (hs : StillC b A B) (hb : W.heap.size ≤ b) : Below W.heap.size W B := h.trans (hs.1.mono hb)
theorem ownFrom_still {β : Type} {b : Nat} {I : β → World → Prop} (hb : ∀ s A, I s A → b ≤ A.heap.size) (h : ∀ s A B, I s A → StillC b A B → I s B) : OwnFrom b I :=
  fun s A B _ hs hg hr => h s A B hs (StillC.of_grown (hb s A hs) hg hr)
theorem keeps_below {W W' : World} (h : Below W.heap.size W W') (b : Nat) : KeepsFrom b W W' :=
  ⟨h.size, fun k o _ hk _ => by rw [h.block k (Array.getElem?_eq_some_iff.1 hk).1]; exact hk⟩
theorem keeps_bel {W W' : World} {s : Nat} {cs : List Value} (h : Bel W.heap.size s W W') (hx : Box W s cs) (b : Nat) : KeepsFrom b W W' :=
  ⟨h.size, fun k o _ hk ho => by
    rw [h.block k (Array.getElem?_eq_some_iff.1 hk).1]
    · exact hk
    · rintro rfl
      obtain ⟨T, hT⟩ := hx
      rw [hk] at hT
      cases hT
      cases ho⟩
theorem ownsRow_slice {W : World} {base size n : Nat} {e : TypeId} {v : Value} {xs : List Value} (h : W.ownsRow base e size v n xs) : ∃ a cap, v = .slice a n cap := by
  rcases h.2 with ⟨rfl, rfl⟩ | ⟨g, cap, cur, rfl, _⟩
  · exact ⟨_, _, rfl⟩
  · exact ⟨_, _, rfl⟩
theorem ownsRow_bel {A B : World} {base size n s : Nat} {e : TypeId} {v : Value} {xs : List Value} (h : A.ownsRow base e size v n xs) (hb : Bel A.heap.size s A B) (hs : s < base) : B.ownsRow base e size v n xs := by
  refine ⟨h.1, ?_⟩
  rcases h.2 with h0 | ⟨g, cap, cur, h1, h2, h3, h4⟩
  · exact .inl h0
  · exact .inr ⟨g, cap, cur, h1, h2, by rw [hb.block g (Array.getElem?_eq_some_iff.1 h3).1 (by omega)]; exact h3, h4⟩
/-- Behind an append, and a store of the slice into a variable's own block: what has stayed. -/
theorem app_step {W w1 : World} {base bm size k m j : Nat} {e T : TypeId} {sv v' u : Value} {xs ys cs' : List Value} {cs : Array Value} (hrow : W.ownsRow base e size sv k xs) (hgrow : (W.alloc (.cells cs T)).grownBy w1 sv.ownBlock)
    (hown' : w1.ownsRow base e size v' m ys) (hbm : bm < base) (hW : base ≤ W.heap.size) (hbx : Box w1 bm cs') :
    (w1.setCell ⟨bm, j, none⟩ u).ownsRow base e size v' m ys ∧ Bel base bm W (w1.setCell ⟨bm, j, none⟩ u) ∧ ∀ b, KeepsFrom b W (w1.setCell ⟨bm, j, none⟩ u) := by
  have hset : w1.grownBy (w1.setCell ⟨bm, j, none⟩ u) (some bm) := ⟨rfl, rfl, rfl, by simp [World.setCell], fun k _ hk => Below.heap_setCell _ _ _ k (fun e => hk (by rw [e]))⟩
  refine ⟨hown'.kept hset (.inr fun e => ?_), ?_, fun b => ?_⟩
  · have := (hown'.lt _ e).1
    omega
  · exact (Bel.of ((((Below.refl base W).alloc hW _)).grown hgrow (by simp; omega) fun q eq => (hrow.lt q eq).1)).set _ _
  · refine (((KeepsOthers.alloc W _).trans (KeepsOthers.of_grownBy hgrow fun q o ej hj => ?_)).trans (KeepsOthers.setCell _ _ _)).from b
    rcases (hrow.alloc (.cells cs T)).2 with ⟨rfl, _⟩ | ⟨g, cap, cur, rfl, _, hgb, _⟩
    · simp [Value.ownBlock] at ej
    · obtain rfl : g = q := by simpa [Value.ownBlock] using ej
      rw [hgb] at hj; cases hj; rfl
def ImpK (R : World → Prop) (A B : World) : Prop := R A → R B
theorem ImpK.t {R : World → Prop} {A B C : World} (h : ImpK R A B) (k : ImpK R B C) : ImpK R A C := fun x => k (h x)
theorem info_f64 : (Try.prog.info? 40).map (fun i => (i.zero, i.size, i.bytes)) = some (some (.float .f64 0), 1, 8) := by kernel_rfl


/-! from Vw5 -/
attribute [local go_sem] Oper.semAt_some
set_option maxRecDepth 100000

theorem StillC.alloc {b : Nat} {W : World} (hb : b ≤ W.heap.size) (o : Obj) : StillC b W (W.alloc o) :=
  StillC.of_grown hb (World.grownBy_alloc W o none) (fun r e => by cases e)

theorem rv_bool {P : Program} {w : World} {tmps : Array Value} {p : Tmp} {ty : TypeId} {g : Nat} {v : Value} (hp : tmps.getD p undef = .pointer (some ⟨g, 0, none⟩)) (hb : Box w g [v]) (hu : P.underlying ty = some .bool) :
    (rvSem tmps (.cell p ty)).run P w = .ok v w := by
  have hc : w.cell? ⟨g, 0, none⟩ = some v := by rw [hb.cell]; rfl
  show (do loadVar ty (← asAddr (tmps.getD p undef)) : Sem Value).run P w = _
  rw [hp]
  simp [asAddr, loadVar, isAgg, run_underlying hu, hc, go_sem]

/-! from Vw6 -/
attribute [local go_sem] Oper.semAt_some
set_option maxRecDepth 100000

theorem cel_of_row {W : World} {base n : Nat} {v : Value} {zs : List Nat} (h : W.ownsRow base 40 1 v n (zs.map (Value.float .f64))) : ∃ a cap, v = .slice a zs.length cap ∧ Cel W a zs := by
  have hl : zs.length = n := by have := h.1; simpa using this
  rcases h.2 with ⟨rfl, h0⟩ | ⟨g, cap, cur, rfl, hb, hg, hn, hm, hs, ht⟩
  · refine ⟨none, 0, by rw [hl, h0], fun hz => ?_⟩
    subst h0
    exact absurd (List.eq_nil_of_length_eq_zero hl) hz
  · refine ⟨_, cap, by rw [hl], fun _ => ⟨g, 0, rfl, (Array.getElem?_eq_some_iff.1 hg).1, fun i x hi => ?_⟩⟩
    unfold World.cell?
    rw [hg]
    simp only [Option.isSome_none, Bool.false_eq_true, if_false, Nat.zero_add]
    have h1 : (cur.toList.take (n * 1))[i]? = some (.float .f64 x) := by rw [ht]; simp [hi]
    have hil : i < n := by
      rw [← hl]
      exact (List.getElem?_eq_some_iff.1 hi).1
    rw [List.getElem?_take] at h1
    rw [if_pos (by omega)] at h1
    simpa using h1


/-! from Vw7 -/
attribute [local go_sem] Oper.semAt_some
set_option maxRecDepth 100000

theorem ownsMap_still {H : Type} {P : Program} {k : TypeId} {R : Value → Option (DataW H × List MemPlace)} {A B : World} {b n base : Nat} {D : DataW H} (h : A.ownsMap P k R b n D) (hs : StillC base A B) (hb : b < base) : B.ownsMap P k R b n D := by
  obtain ⟨es, clock, h1, h2⟩ := h
  exact ⟨es, clock, by rw [hs.1.block b hb]; exact h1, h2⟩
theorem ownsMap_below {H : Type} {P : Program} {k : TypeId} {R : Value → Option (DataW H × List MemPlace)} {A B : World} {b n : Nat} {D : DataW H} (h : A.ownsMap P k R b n D) (hb : Below A.heap.size A B) : B.ownsMap P k R b n D := by
  have hl := h.lt
  obtain ⟨es, clock, h1, h2⟩ := h
  exact ⟨es, clock, by rw [hb.block b hl]; exact h1, h2⟩
theorem noGoto_ret {Q : Exit → Act → World → Prop} {a : Act} {w : World} (h : Q .ret a w) : Exit.noGoto Q .ret a w := h

/-! from Vr -/
def clsW (x : Nat) : Int := if x / 4503599627370496 % 2048 = 2047 then (if x % 4503599627370496 = 0 then 4 else 5) else if 0 < x / 4503599627370496 % 2048 then 3 else if 0 < x % 4503599627370496 then 2 else 1
theorem bits_exp {x : Nat} (hx : x < 18446744073709551616) : bits .and .u64 ((x : Int) / 4503599627370496) 2047 = ((x / 4503599627370496 % 2048 : Nat) : Int) := by
  have e : (x : Int) / 4503599627370496 = ((x / 4503599627370496 : Nat) : Int) := by omega
  rw [e]
  have hl : x / 4503599627370496 < 4096 := by omega
  generalize x / 4503599627370496 = y at hl
  have h1 : (y &&& 2047) = y % 2048 := Nat.and_two_pow_sub_one_eq_mod y 11
  rw [show (2047 : Int) = ((2047 : Nat) : Int) from rfl, u64_and_nat y _ (by omega) (by decide), h1]
theorem bits_frac {x : Nat} (hx : x < 18446744073709551616) : bits .and .u64 (x : Int) 4503599627370495 = ((x % 4503599627370496 : Nat) : Int) := by
  have h1 : (x &&& 4503599627370495) = x % 4503599627370496 := Nat.and_two_pow_sub_one_eq_mod x 52
  rw [show (4503599627370495 : Int) = ((4503599627370495 : Nat) : Int) from rfl, u64_and_nat x _ hx (by decide), h1]
set_option maxHeartbeats 2000000 in
theorem Class_any (x : Nat) (hx : x < 18446744073709551616) (w : World) : Calls Try.prog 126 #[.int .u64 x] w fun e w' => e = .returned (.int .i64 (clsW x)) ∧ w = w' := by
  have h1 := bits_exp hx
  have h2 := bits_frac hx
  have e0 : clsW x = if x / 4503599627370496 % 2048 = 2047 then (if x % 4503599627370496 = 0 then 4 else 5) else if 0 < x / 4503599627370496 % 2048 then 3 else if 0 < x % 4503599627370496 then 2 else 1 := rfl
  rw [e0]
  clear e0
  generalize x / 4503599627370496 % 2048 = e at *
  generalize x % 4503599627370496 = f at *
  by_cases k1 : e = 2047
  · subst k1
    by_cases k2 : f = 0
    · subst k2
      go_enter Try.func126, Try.ntmps126
      go_wp2
      go_ret
      exact ⟨rfl, rfl⟩
    · rw [if_pos rfl, if_neg k2]
      have t2 : ((f : Int) == 0) = false := by simp; exact k2
      clear k2
      go_enter Try.func126, Try.ntmps126
      go_wp2
      go_ret
      exact ⟨rfl, rfl⟩
  · rw [if_neg k1]
    have t1 : ((e : Int) == 2047) = false := by simp; omega
    clear k1
    by_cases k3 : 0 < e
    · rw [if_pos k3]
      go_enter Try.func126, Try.ntmps126
      go_wp2
      go_ret
      exact ⟨rfl, rfl⟩
    · rw [if_neg k3]
      obtain rfl : e = 0 := by omega
      by_cases k4 : 0 < f
      · rw [if_pos k4]
        go_enter Try.func126, Try.ntmps126
        go_wp2
        go_ret
        exact ⟨rfl, rfl⟩
      · rw [if_neg k4]
        obtain rfl : f = 0 := by omega
        go_enter Try.func126, Try.ntmps126
        go_wp2
        go_ret
        exact ⟨rfl, rfl⟩
theorem cls_nan {x : Nat} (_hx : x < 18446744073709551616) : (clsW x == 5) = isnan x := by
  unfold clsW isnan
  rw [Bool.eq_iff_iff]
  simp only [beq_iff_eq, decide_eq_true_eq]
  have h1 : x / 4503599627370496 % 2048 = x % 9223372036854775808 / 4503599627370496 := by omega
  have h2 : x % 4503599627370496 = x % 9223372036854775808 % 4503599627370496 := by omega
  rw [h1, h2]
  have h3 : x % 9223372036854775808 < 9223372036854775808 := Nat.mod_lt _ (by decide)
  generalize x % 9223372036854775808 = y at *
  by_cases k1 : y / 4503599627370496 = 2047
  · rw [if_pos k1]
    by_cases k2 : y % 4503599627370496 = 0
    · rw [if_pos k2]; omega
    · rw [if_neg k2]; omega
  · rw [if_neg k1]
    by_cases k3 : 0 < y / 4503599627370496
    · rw [if_pos k3]; omega
    · rw [if_neg k3]
      by_cases k4 : 0 < y % 4503599627370496
      · rw [if_pos k4]; omega
      · rw [if_neg k4]; omega
set_option maxHeartbeats 2000000 in
theorem One_any (x : Nat) (hx : x < 18446744073709551616) (w : World) : Calls Try.prog 118 #[.int .u64 x] w fun e w' => e = .returned (.int .u64 (nm x)) ∧ w = w' := by
  have hc := cls_nan hx
  have e0 : nm x = if isnan x then qnan else x := by unfold nm; rfl
  rw [e0]
  clear e0
  cases hn : isnan x
  all_goals
    rw [hn] at hc
    go_enter Try.func118, Try.ntmps118
    go_wp2_with (go_at_call 126; refine (Class_any x hx _).mono ?_; rintro e w' ⟨rfl, rfl⟩)
    go_ret
    exact ⟨by simp [qnan], rfl⟩
set_option maxHeartbeats 2000000 in
/-- A float's word, all NaNs being one. -/
theorem Bits_any (x : Nat) (hx : x < 18446744073709551616) (w : World) : Calls Try.prog 97 #[.float .f64 x] w fun e w' => e = .returned (.int .u64 (nm x)) ∧ w = w' := by
  go_enter Try.func97, Try.ntmps97
  go_wp2_with (go_at_call 118; refine (One_any x hx _).mono ?_; rintro e w' ⟨rfl, rfl⟩)
  go_ret
  exact ⟨rfl, rfl⟩
theorem nm_same (x y : Nat) : (nm x = nm y) ↔ sameF x y = true := by
  unfold nm sameF
  cases hx : isnan x
  all_goals cases hy : isnan y
  · simp
  · simp only [Bool.false_eq_true, if_false, if_true, Bool.false_and, Bool.or_false, decide_eq_true_eq]
    constructor
    · intro e; rw [e, isnan_qnan] at hx; cases hx
    · intro e; rw [e, hy] at hx; cases hx
  · simp only [Bool.false_eq_true, if_false, if_true, Bool.and_false, Bool.or_false, decide_eq_true_eq]
    constructor
    · intro e; rw [← e, isnan_qnan] at hy; cases hy
    · intro e; rw [← e, hx] at hy; cases hy
  · simp

/-- The first n floats of two lists are the same. -/
def sameN (xs ys : List Nat) : Nat → Bool
  | 0 => true
  | n + 1 => sameN xs ys n && sameF (xs.getD n 0) (ys.getD n 0)
def sameFs (xs ys : List Nat) : Bool := decide (xs.length = ys.length) && sameN xs ys xs.length
def BitsF (f : FuncId) (args : Array Value) (v : Value) : Prop := f = 97 → ∀ x, args = #[.float .f64 x] → v = .int .u64 (nm x)
theorem sameN_false {xs ys : List Nat} {k : Nat} (h : sameF (xs.getD k 0) (ys.getD k 0) = false) : ∀ n, k < n → sameN xs ys n = false
  | 0, hk => absurd hk (Nat.not_lt_zero _)
  | n + 1, hk => by
    unfold sameN
    rcases Nat.lt_or_eq_of_le (Nat.le_of_lt_succ hk) with h1 | h1
    · rw [sameN_false h n h1]; rfl
    · rw [← h1, h]; simp
set_option maxHeartbeats 2000000 in
theorem SameFloats_any (w : World) (a b : Option Addr) (xs ys : List Nat) (ca cb : Nat) (hX : Cel w a xs) (hY : Cel w b ys) (hwx : Words xs) (hwy : Words ys) (hlx : xs.length ≤ maxLen) (_hly : ys.length ≤ maxLen) :
    Calls Try.prog 69 #[.slice a xs.length ca, .slice b ys.length cb] w fun e w' => e = .returned (.bool (sameFs xs ys)) ∧ Below w.heap.size w w' := by
  unfold maxLen at hlx _hly
  by_cases hl : xs.length = ys.length
  case neg =>
    have e0 : sameFs xs ys = false := by unfold sameFs; rw [decide_eq_false hl]; rfl
    have t1 : ((xs.length : Int) != (ys.length : Int)) = true := by simp; omega
    rw [e0]
    clear e0 hl
    go_enter Try.func69, Try.ntmps69
    go_wp2
    go_ret
    exact ⟨rfl, Below.refl _ _⟩
  case pos =>
    have e0 : sameFs xs ys = sameN xs ys xs.length := by unfold sameFs; rw [decide_eq_true hl]; rfl
    have t1 : ((xs.length : Int) != (ys.length : Int)) = false := by simp; omega
    have HL := Lib.hid hl
    rw [e0]
    clear e0 hl
    go_enter Try.func69, Try.ntmps69
    go_wp2
    go_loopw [5] (fun i wr => ∃ k : Nat, k ≤ xs.length ∧ i = .int .i64 k ∧ sameN xs ys k = true ∧ Below w.heap.size w wr) (fun i _ => xs.length - (intOf i).toNat)
    case atStart => exact ⟨0, Nat.zero_le _, rfl, rfl, Below.refl _ _⟩
    case round =>
      obtain ⟨k, hk, rfl, hs, hB⟩ := hrel
      by_cases hlt : k < xs.length
      · have hlt2 : k < ys.length := by have := HL.out; omega
        have nx : xs ≠ [] := by intro e; rw [e] at hlt; exact absurd hlt (Nat.not_lt_zero _)
        have ny : ys ≠ [] := by intro e; rw [e] at hlt2; exact absurd hlt2 (Nat.not_lt_zero _)
        obtain ⟨bx, ox, rfl, hbx, hcx⟩ := (hX.below hB) nx
        obtain ⟨by', oy, rfl, hby, hcy⟩ := (hY.below hB) ny
        have ex : xs[k]? = some (xs.getD k 0) := by simp [hlt]
        have ey : ys[k]? = some (ys.getD k 0) := by simp [hlt2]
        have c1 := hcx k _ ex
        have c2 := hcy k _ ey
        have wx := hwx.at k
        have wy := hwy.at k
        have HS : Hid (sameN xs ys (k + 1) = sameF (xs.getD k 0) (ys.getD k 0)) := by unfold Hid; rw [sameN, hs]; rfl
        have HF := Lib.hid (fun h => sameN_false (xs := xs) (ys := ys) (k := k) h xs.length hlt)
        have HN := Lib.hid (nm_same (xs.getD k 0) (ys.getD k 0))
        generalize xs.getD k 0 = x at *
        generalize ys.getD k 0 = y at *
        clear hs ex ey hcx hcy nx ny
        go_wp2
        refine wp_region_nqb 11 BitsF (by kernel_rfl) (by kernel_rfl) ?_
        intro C R hc hb' hb2 hd hR
        simp only [List.take_succ_cons, List.take_zero]
        repeat (
          first
            | (refine nqW_plain (fun K hK => ?_))
            | (refine nqW_step (fun K hK => ?_); go_simp)
          first
            | (refine nq_move rfl ?_; go_simp; refine hK _ ?_; clear hK K)
            | (refine nq_assign rfl ?_; go_simp; refine hK _ ?_; clear hK K)
            | (refine nq_flt rfl rfl rfl rfl hd ?_; intro _; go_frame; refine hK _ ?_; clear hK K)
            | (refine nq_in ?_; intro w' hw'; go_simp; refine ⟨?_, ?_⟩; (next => (intro w2 hw2; go_at_call 97; refine (Bits_any _ (by assumption) w2).mono ?_; (intro e w3 ⟨he, hb⟩; subst hb; exact ⟨_, he, (fun _ x' hx' => by simp at hx'; subst hx'; rfl), hw2⟩))); intro v hv; obtain rfl := hv rfl _ rfl; go_simp; refine hK _ ?_; clear hv hK K hw' w')
            | (refine nq_same ?_; intro w' hw'; go_simp; (try go_bits); refine hK _ ?_; clear hK K hw' w')
            | (refine nq_same ?_; intro w' hw'; go_simp; rw [if_pos (by omega)]; go_simp; (try go_bits); refine hK _ ?_; clear hK K hw' w')
            | (go_simp; refine hK _ ?_; clear hK K))
        refine nqW_nil (hR _ ?_)
        clear hc hb' hb2 hd hR
        intro w' hw'
        simp only [List.drop]
        cases hsm : sameF x y
        · have hne : ((nm x : Int) != (nm y : Int)) = true := by
            simp
            intro e
            have := HN.out.1 (by omega)
            rw [hsm] at this; cases this
          go_wp2
          go_ret
          exact ⟨by rw [HF.out hsm]; rfl, below_step hB hB.size hw'⟩
        · have hne : ((nm x : Int) != (nm y : Int)) = false := by
            have := HN.out.2 hsm
            simp; omega
          go_wp2
          go_roundw
          case rel => exact ⟨k + 1, by omega, by go_num, by rw [HS.out, hsm], below_step hB hB.size hw'⟩
          case measure => simp [intOf]; omega
      · obtain rfl : k = xs.length := by omega
        have HS := Lib.hid hs
        clear hs
        go_wp2
        go_ret
        exact ⟨by rw [HS.out]; rfl, hB⟩

/-- Are two matrices the same? -/
def sameM (r c : Int) (xs : List Nat) (r' c' : Int) (ys : List Nat) : Bool := decide (r = r') && decide (c = c') && sameFs xs ys
set_option maxHeartbeats 2000000 in
theorem SameMatrix_any (w : World) (r c r' c' : Int) (a b : Option Addr) (xs ys : List Nat) (ca cb : Nat) (hX : Cel w a xs) (hY : Cel w b ys) (hwx : Words xs) (hwy : Words ys) (hlx : xs.length ≤ maxLen) (hly : ys.length ≤ maxLen) :
    Calls Try.prog 46 #[.agg #[.int .i64 r, .int .i64 c, .slice a xs.length ca], .agg #[.int .i64 r', .int .i64 c', .slice b ys.length cb]] w fun e w' => e = .returned (.bool (sameM r c xs r' c' ys)) ∧ Below w.heap.size w w' := by
  have HS := Lib.hid (fun (W : World) (hB : Below w.heap.size w W) => SameFloats_any W a b xs ys ca cb (hX.below hB) (hY.below hB) hwx hwy hlx hly)
  have e0 : sameM r c xs r' c' ys = (decide (r = r') && decide (c = c') && sameFs xs ys) := rfl
  have t1 : (r == r') = decide (r = r') := by rw [Bool.eq_iff_iff]; simp
  have t2 : (c == c') = decide (c = c') := by rw [Bool.eq_iff_iff]; simp
  have hB0 : Below w.heap.size w ((w.alloc (.cells #[.int .i64 r, .int .i64 c, .slice a xs.length ca] 26)).alloc (.cells #[.int .i64 r', .int .i64 c', .slice b ys.length cb] 26)) := ((Below.refl _ _).alloc (Nat.le_refl _) _).alloc (by simp) _
  rw [e0]
  clear e0 hX hY
  cases d1 : decide (r = r')
  case false =>
    rw [d1] at t1
    clear d1 t2
    go_enter Try.func46, Try.ntmps46
    go_wp2
    go_ret
    exact ⟨rfl, hB0⟩
  case true =>
  cases d2 : decide (c = c')
  case false =>
    rw [d1] at t1
    rw [d2] at t2
    clear d1 d2
    go_enter Try.func46, Try.ntmps46
    go_wp2
    go_ret
    exact ⟨rfl, hB0⟩
  case true =>
    rw [d1] at t1
    rw [d2] at t2
    clear d1 d2
    go_enter Try.func46, Try.ntmps46
    go_wp2_with fail
    refine (HS.out _ hB0).mono ?_
    rintro e w1 ⟨rfl, hb1⟩
    go_wp2
    go_ret
    exact ⟨by simp, below_step hB0 hB0.size hb1⟩
theorem Cel.ofBox {w : World} {n : Nat} {zs : List Nat} (h : Box w n (zs.map (Value.float .f64))) : Cel w (some ⟨n, 0, none⟩) zs := fun _ => by
  refine ⟨n, 0, rfl, h.lt, fun i v hv => ?_⟩
  rw [h.cell]
  simp [hv]
end Go.Proofs.Ytdljnhdhigbefaa

/- Layer 12, plainly: lengths, bounds, what hangs on what. No condition. -/
namespace Go.Proofs.Ytdljnhdhigbefaa
open Go Go.RowKit
set_option maxRecDepth 100000

theorem hypP_lt {p q : Nat} (hp : p < 18446744073709551616) : hypP p q < 18446744073709551616 := by unfold hypP; split; exact hp; exact fmul_lt _ _
theorem fabs_ltq (x : Nat) : fabs x < 18446744073709551616 := by unfold fabs; omega
theorem hypW_lt (x y : Nat) : hypW x y < 18446744073709551616 := by unfold hypW; split <;> exact hypP_lt (fabs_ltq _)
theorem turnR_len (z : List Nat) (n i c s r : Nat) : (turnR z n i c s r).length = z.length := by unfold turnR; simp
theorem turnL_len (z : List Nat) (n i c s : Nat) : ∀ k, (turnL z n i c s k).length = z.length
  | 0 => rfl
  | k + 1 => by rw [turnL, turnR_len, turnL_len z n i c s k]
theorem endL_bnd (d e : List Nat) : ∀ (f m : Nat), m ≤ endL d e f m ∧ (m < d.length → endL d e f m < d.length)
  | 0, m => ⟨Nat.le_refl _, fun h => h⟩
  | f + 1, m => by
    rw [endL]
    split
    · rename_i h
      split
      · exact ⟨Nat.le_refl _, fun h => h⟩
      · obtain ⟨h1, h2⟩ := endL_bnd d e f (m + 1)
        exact ⟨by omega, fun _ => h2 h⟩
    · exact ⟨Nat.le_refl _, fun h => h⟩
/-- More fuel does not matter. -/
theorem endL_more (d e : List Nat) : ∀ (f m : Nat), d.length ≤ m + f + 1 → ∀ g, endL d e (f + g) m = endL d e f m
  | 0, m, h, g => by
    rw [Nat.zero_add]
    cases g with
    | zero => rfl
    | succ g =>
      show (if m + 1 < d.length then _ else m) = m
      rw [if_neg (by omega)]
  | f + 1, m, h, g => by
    rw [show f + 1 + g = (f + g) + 1 by omega, endL, endL]
    rw [endL_more d e f (m + 1) (by omega) g]
/-- One step of the search for a block's end. -/
theorem endL_step (d e : List Nat) {m : Nat} : endL d e d.length m = if m + 1 < d.length then (if endB d e m then m else endL d e d.length (m + 1)) else m := by
  cases hn : d.length with
  | zero => rw [endL, if_neg (by omega)]
  | succ n =>
    rw [endL, hn]
    have := endL_more d e n (m + 1) (by omega) 1
    rw [this]
theorem swN_len (n rows : Nat) (x : SwS) (i : Nat) : (swN n rows x i).d.length = x.d.length ∧ (swN n rows x i).e.length = x.e.length ∧ (swN n rows x i).z.length = x.z.length := by
  unfold swN
  exact ⟨by simp, by simp, turnL_len _ _ _ _ _ _⟩
theorem swL_len (n rows l m : Nat) : ∀ (k : Nat) (x : SwS), (swL n rows l m k x).1.d.length = x.d.length ∧ (swL n rows l m k x).1.e.length = x.e.length ∧ (swL n rows l m k x).1.z.length = x.z.length
  | 0, x => ⟨rfl, rfl, rfl⟩
  | k + 1, x => by
    rw [swL]
    split
    · unfold swX; exact ⟨by simp, by simp, rfl⟩
    · obtain ⟨h1, h2, h3⟩ := swL_len n rows l m k (swN n rows x (l + k))
      obtain ⟨j1, j2, j3⟩ := swN_len n rows x (l + k)
      exact ⟨h1.trans j1, h2.trans j2, h3.trans j3⟩
theorem sweepL_len (n rows : Nat) (x : QlS) (l m : Nat) : (sweepL n rows x l m).d.length = x.d.length ∧ (sweepL n rows x l m).e.length = x.e.length ∧ (sweepL n rows x l m).z.length = x.z.length := by
  obtain ⟨h1, h2, h3⟩ := swL_len n rows l m (m - l) (sw0 x.d x.e x.z l m)
  unfold sweepL swE
  split
  · exact ⟨h1, h2, h3⟩
  · exact ⟨by simp; exact h1, by simp; exact h2, h3⟩
theorem valQ_len (n rows l : Nat) : ∀ (f : Nat) (x : QlS), (valQ n rows l f x).1.d.length = x.d.length ∧ (valQ n rows l f x).1.e.length = x.e.length ∧ (valQ n rows l f x).1.z.length = x.z.length
  | 0, x => by
    rw [valQ]
    split <;> exact ⟨rfl, rfl, rfl⟩
  | f + 1, x => by
    rw [valQ]
    split
    · exact ⟨rfl, rfl, rfl⟩
    · obtain ⟨h1, h2, h3⟩ := valQ_len n rows l f (sweepL n rows x l (endL x.d x.e x.d.length l))
      obtain ⟨j1, j2, j3⟩ := sweepL_len n rows x l (endL x.d x.e x.d.length l)
      exact ⟨h1.trans j1, h2.trans j2, h3.trans j3⟩
theorem valQ_many (n rows l : Nat) : ∀ (f : Nat) (x : QlS), (valQ n rows l f x).2.1 ≤ f
  | 0, x => by
    rw [valQ]
    split <;> exact Nat.le_refl _
  | f + 1, x => by
    rw [valQ]
    split
    · exact Nat.zero_le _
    · exact Nat.succ_le_succ (valQ_many n rows l f _)
theorem solQ_len (n rows : Nat) : ∀ (k : Nat) (x : QlS) (s : Nat), (solQ n rows k x s).1.d.length = x.d.length ∧ (solQ n rows k x s).1.e.length = x.e.length ∧ (solQ n rows k x s).1.z.length = x.z.length ∧ (solQ n rows k x s).2.1 ≤ s + 30 * k
  | 0, x, s => ⟨rfl, rfl, rfl, Nat.le_refl _⟩
  | k + 1, x, s => by
    rw [solQ]
    obtain ⟨j1, j2, j3⟩ := valQ_len n rows (n - (k + 1)) 30 x
    have j4 := valQ_many n rows (n - (k + 1)) 30 x
    split
    · obtain ⟨h1, h2, h3, h4⟩ := solQ_len n rows k (valQ n rows (n - (k + 1)) 30 x).1 (s + (valQ n rows (n - (k + 1)) 30 x).2.1)
      exact ⟨h1.trans j1, h2.trans j2, h3.trans j3, by omega⟩
    · exact ⟨j1, j2, j3, by show _ + _ ≤ _; omega⟩
theorem place_ltq {n r R c : Nat} (hr : r < R) (hc : c < n) : r * n + c < R * n := by
  have : (r + 1) * n ≤ R * n := Nat.mul_le_mul_right _ hr
  rw [Nat.succ_mul] at this
  omega
theorem minL_bnd (w : List Nat) : ∀ (f j k : Nat), k < w.length → minL w f j k < w.length
  | 0, _, _, h => h
  | f + 1, j, k, h => by
    rw [minL]
    split
    · rename_i hj
      refine minL_bnd w f (j + 1) _ ?_
      split
      · exact hj
      · exact h
    · exact h
theorem swapL_len (l : List Nat) (i k : Nat) : (swapL l i k).length = l.length := by unfold swapL; simp
theorem swapC_len (z : List Nat) (n i k : Nat) : ∀ r, (swapC z n i k r).length = z.length
  | 0 => rfl
  | r + 1 => by rw [swapC, swapL_len, swapC_len z n i k r]
theorem sortQ_len (n rows : Nat) (w z : List Nat) : ∀ i, (sortQ n rows w z i).1.length = w.length ∧ (sortQ n rows w z i).2.length = z.length
  | 0 => ⟨rfl, rfl⟩
  | i + 1 => by
    obtain ⟨h1, h2⟩ := sortQ_len n rows w z i
    rw [sortQ]
    exact ⟨(swapL_len _ _ _).trans h1, (swapC_len _ _ _ _ _).trans h2⟩

/-! ### Values and sweeps do not hang on the matrix -/
def same2 (x y : SwS) : Prop := x.d = y.d ∧ x.e = y.e ∧ x.g = y.g ∧ x.s = y.s ∧ x.c = y.c ∧ x.p = y.p
theorem swN_same {n rows n' rows' : Nat} {x y : SwS} (h : same2 x y) (i : Nat) : same2 (swN n rows x i) (swN n' rows' y i) := by
  obtain ⟨h1, h2, h3, h4, h5, h6⟩ := h
  unfold swN swR swF swB
  rw [h1, h2, h3, h4, h5, h6]
  exact ⟨rfl, rfl, rfl, rfl, rfl, rfl⟩
theorem swL_same {n rows n' rows' l m : Nat} : ∀ (k : Nat) {x y : SwS}, same2 x y → same2 (swL n rows l m k x).1 (swL n' rows' l m k y).1 ∧ (swL n rows l m k x).2 = (swL n' rows' l m k y).2
  | 0, x, y, h => ⟨h, rfl⟩
  | k + 1, x, y, h => by
    have hr : swR x (l + k) = swR y (l + k) := by
      obtain ⟨h1, h2, h3, h4, h5, h6⟩ := h
      unfold swR swF
      rw [h2, h3, h4]
    rw [swL, swL, hr]
    split
    · refine ⟨?_, rfl⟩
      obtain ⟨h1, h2, h3, h4, h5, h6⟩ := h
      unfold swX
      rw [hr, h1, h2, h6]
      exact ⟨rfl, rfl, h3, h4, h5, rfl⟩
    · exact swL_same k (swN_same h (l + k))
def sameQ (x y : QlS) : Prop := x.d = y.d ∧ x.e = y.e
theorem sweepL_same {n rows n' rows' : Nat} {x y : QlS} (h : sameQ x y) (l m : Nat) : sameQ (sweepL n rows x l m) (sweepL n' rows' y l m) := by
  obtain ⟨hd, he⟩ := h
  have h0 : same2 (sw0 x.d x.e x.z l m) (sw0 y.d y.e y.z l m) := by
    unfold sw0
    rw [hd, he]
    exact ⟨rfl, rfl, rfl, rfl, rfl, rfl⟩
  obtain ⟨⟨h1, h2, h3, h4, h5, h6⟩, h7⟩ := swL_same (n := n) (rows := rows) (n' := n') (rows' := rows') (l := l) (m := m) (m - l) h0
  unfold sweepL swE
  rw [← h7]
  split
  · exact ⟨h1, h2⟩
  · exact ⟨by simp only; rw [h1, h6], by simp only; rw [h2, h3]⟩
theorem valQ_same {n rows n' rows' l : Nat} : ∀ (f : Nat) {x y : QlS}, sameQ x y → sameQ (valQ n rows l f x).1 (valQ n' rows' l f y).1 ∧ (valQ n rows l f x).2 = (valQ n' rows' l f y).2
  | 0, x, y, h => by
    rw [valQ, valQ, h.1, h.2]
    split
    · exact ⟨h, rfl⟩
    · exact ⟨h, rfl⟩
  | f + 1, x, y, h => by
    rw [valQ, valQ, h.1, h.2]
    split
    · exact ⟨h, rfl⟩
    · obtain ⟨h1, h2⟩ := valQ_same f (sweepL_same (n := n) (rows := rows) (n' := n') (rows' := rows') h l (endL y.d y.e y.d.length l))
      exact ⟨h1, by dsimp only; rw [h2]⟩
theorem solQ_same {n rows rows' : Nat} : ∀ (k : Nat) {x y : QlS} (s : Nat), sameQ x y → sameQ (solQ n rows k x s).1 (solQ n rows' k y s).1 ∧ (solQ n rows k x s).2 = (solQ n rows' k y s).2
  | 0, x, y, s, h => ⟨h, rfl⟩
  | k + 1, x, y, s, h => by
    obtain ⟨h1, h2⟩ := valQ_same (n := n) (rows := rows) (n' := n) (rows' := rows') (l := n - (k + 1)) 30 h
    rw [solQ, solQ, ← h2]
    split
    · exact solQ_same k _ h1
    · exact ⟨h1, rfl⟩
theorem sortQ_same (n rows n' rows' : Nat) (w z z' : List Nat) : ∀ i, (sortQ n rows w z i).1 = (sortQ n' rows' w z' i).1
  | 0 => rfl
  | i + 1 => by
    rw [sortQ, sortQ]
    dsimp only
    rw [sortQ_same n rows n' rows' w z z' i]
end Go.Proofs.Ytdljnhdhigbefaa

/- Drawn regions, walked in the text's order: a call is known as one ahead of the walk's own steps. No condition. -/
namespace Go.Proofs.Ytdljnhdhigbefaa
open Go Go.RowKit
section
variable {P : Program} {ops : Array Oper} {C : World → Prop} {F : FuncId → Array Value → Value → Prop} {R : Act → Prop} {K : Act → Prop} {o : Oper} {a : Act}
def isCallOp (o : Oper) : Bool := match o.op with | .call _ => true | _ => false
theorem nq_inC (_ : isCallOp o = true) (h : ∀ w, C w → nqUpon P C F (fun v => K (a.put o.dst v)) ((execOp a.eval o).run P w)) : nq P C F o a K := nq_in h
end
end Go.Proofs.Ytdljnhdhigbefaa
