/- Layer 14: factors in memory; what a drawn region makes of them, in whatever order. No condition but on lengths. -/
import Derived.Test.YtdljnhdhigbefaaZz20
import Derived.Test.YtdljnhdhigbefaaZz21
import Derived.Test.YtdljnhdhigbefaaZz13
namespace Go.Proofs.Ytdljnhdhigbefaa
open Go Go.RowKit
set_option maxRecDepth 1000000
set_option linter.unusedSimpArgs false
set_option linter.unusedVariables false

/-- Factors in memory: a box of five slices, and their blocks. -/
structure FaM (w W : World) (X : Nat) (aa : Option Addr) (ca ba bb bc bl bk n m : Nat) (f : FaS) : Prop where
  box : Box W X [.slice aa n ca, .slice (some ⟨bb, 0, none⟩) n n, .slice (some ⟨bc, 0, none⟩) n n, .slice (some ⟨bl, 0, none⟩) m m, .slice (some ⟨bk, 0, none⟩) m m]
  a : FS W aa ba f.a
  b : Flb W bb f.b
  c : Flb W bc f.c
  l : Flb W bl f.l
  s : Box W bk (f.s.map Value.bool)
  len : f.a.length = n ∧ f.b.length = n ∧ f.c.length = n ∧ f.l.length = m ∧ f.s.length = m
  ne : [X, ba, bb, bc, bl, bk].Nodup
  lo : w.heap.size ≤ X ∧ (n ≠ 0 → w.heap.size ≤ ba) ∧ w.heap.size ≤ bb ∧ w.heap.size ≤ bc ∧ w.heap.size ≤ bl ∧ w.heap.size ≤ bk
  bel : Below w.heap.size w W
  wd : Words f.a ∧ Words f.b ∧ Words f.c ∧ Words f.l
section
variable {w W W' : World} {X ca ba bb bc bl bk n m : Nat} {aa : Option Addr} {f : FaS}
theorem FaM.step (h : FaM w W X aa ca ba bb bc bl bk n m f) (hb : Below W.heap.size W W') : FaM w W' X aa ca ba bb bc bl bk n m f :=
  ⟨h.box.below hb, h.a.below hb, h.b.below hb, h.c.below hb, h.l.below hb, h.s.below hb, h.len, h.ne, h.lo, below_step h.bel h.bel.size hb, h.wd⟩
theorem nodup6 {X a b c l k : Nat} (h : [X, a, b, c, l, k].Nodup) : (X ≠ a ∧ X ≠ b ∧ X ≠ c ∧ X ≠ l ∧ X ≠ k) ∧ (a ≠ b ∧ a ≠ c ∧ a ≠ l ∧ a ≠ k) ∧ (b ≠ c ∧ b ≠ l ∧ b ≠ k) ∧ (c ≠ l ∧ c ≠ k) ∧ l ≠ k := by
  simpa using h
theorem FaM.setA (h : FaM w W X aa ca ba bb bc bl bk n m f) (h0 : n ≠ 0) (i v s : Nat) (hv : v < 18446744073709551616) : FaM w (W.setCell ⟨ba, i, none⟩ (.float .f64 (raw v s))) X aa ca ba bb bc bl bk n m { f with a := f.a.set i v } := by
  obtain ⟨⟨n1, n2, n3, n4, n5⟩, ⟨n6, n7, n8, n9⟩, ⟨n10, n11, n12⟩, ⟨n13, n14⟩, n15⟩ := nodup6 h.ne
  exact ⟨h.box.set_other n1 _ _, h.a.imp (fun e => by show f.a.set i v = []; rw [e]; rfl) (fun ⟨e1, e2⟩ => ⟨e1, e2.set i v s⟩), h.b.other n6.symm _ _, h.c.other n7.symm _ _, h.l.other n8.symm _ _, h.s.set_other n9.symm _ _, ⟨by show (f.a.set i v).length = n; rw [List.length_set]; exact h.len.1, h.len.2⟩, h.ne, h.lo, h.bel.setCell (h.lo.2.1 h0) _, ⟨words_setG h.wd.1 hv, h.wd.2⟩⟩
theorem FaM.setB (h : FaM w W X aa ca ba bb bc bl bk n m f) (i v s : Nat) (hv : v < 18446744073709551616) : FaM w (W.setCell ⟨bb, i, none⟩ (.float .f64 (raw v s))) X aa ca ba bb bc bl bk n m { f with b := f.b.set i v } := by
  obtain ⟨⟨n1, n2, n3, n4, n5⟩, ⟨n6, n7, n8, n9⟩, ⟨n10, n11, n12⟩, ⟨n13, n14⟩, n15⟩ := nodup6 h.ne
  exact ⟨h.box.set_other n2 _ _, h.a.otherU n6 _ _, h.b.set i v s, h.c.other n10.symm _ _, h.l.other n11.symm _ _, h.s.set_other n12.symm _ _, ⟨h.len.1, by show (f.b.set i v).length = n; rw [List.length_set]; exact h.len.2.1, h.len.2.2⟩, h.ne, h.lo, h.bel.setCell h.lo.2.2.1 _, ⟨h.wd.1, words_setG h.wd.2.1 hv, h.wd.2.2⟩⟩
theorem FaM.setC (h : FaM w W X aa ca ba bb bc bl bk n m f) (i v s : Nat) (hv : v < 18446744073709551616) : FaM w (W.setCell ⟨bc, i, none⟩ (.float .f64 (raw v s))) X aa ca ba bb bc bl bk n m { f with c := f.c.set i v } := by
  obtain ⟨⟨n1, n2, n3, n4, n5⟩, ⟨n6, n7, n8, n9⟩, ⟨n10, n11, n12⟩, ⟨n13, n14⟩, n15⟩ := nodup6 h.ne
  exact ⟨h.box.set_other n3 _ _, h.a.otherU n7 _ _, h.b.other n10 _ _, h.c.set i v s, h.l.other n13.symm _ _, h.s.set_other n14.symm _ _, ⟨h.len.1, h.len.2.1, by show (f.c.set i v).length = n; rw [List.length_set]; exact h.len.2.2.1, h.len.2.2.2⟩, h.ne, h.lo, h.bel.setCell h.lo.2.2.2.1 _, ⟨h.wd.1, h.wd.2.1, words_setG h.wd.2.2.1 hv, h.wd.2.2.2⟩⟩
theorem FaM.setL (h : FaM w W X aa ca ba bb bc bl bk n m f) (i v s : Nat) (hv : v < 18446744073709551616) : FaM w (W.setCell ⟨bl, i, none⟩ (.float .f64 (raw v s))) X aa ca ba bb bc bl bk n m { f with l := f.l.set i v } := by
  obtain ⟨⟨n1, n2, n3, n4, n5⟩, ⟨n6, n7, n8, n9⟩, ⟨n10, n11, n12⟩, ⟨n13, n14⟩, n15⟩ := nodup6 h.ne
  exact ⟨h.box.set_other n4 _ _, h.a.otherU n8 _ _, h.b.other n11 _ _, h.c.other n13 _ _, h.l.set i v s, h.s.set_other n15.symm _ _, ⟨h.len.1, h.len.2.1, h.len.2.2.1, by show (f.l.set i v).length = m; rw [List.length_set]; exact h.len.2.2.2.1, h.len.2.2.2.2⟩, h.ne, h.lo, h.bel.setCell h.lo.2.2.2.2.1 _, ⟨h.wd.1, h.wd.2.1, h.wd.2.2.1, words_setG h.wd.2.2.2 hv⟩⟩
theorem FaM.setS (h : FaM w W X aa ca ba bb bc bl bk n m f) (i : Nat) (v : Bool) : FaM w (W.setCell ⟨bk, i, none⟩ (.bool v)) X aa ca ba bb bc bl bk n m { f with s := f.s.set i v } := by
  obtain ⟨⟨n1, n2, n3, n4, n5⟩, ⟨n6, n7, n8, n9⟩, ⟨n10, n11, n12⟩, ⟨n13, n14⟩, n15⟩ := nodup6 h.ne
  exact ⟨h.box.set_other n5 _ _, h.a.otherU n9 _ _, h.b.other n12 _ _, h.c.other n14 _ _, h.l.other n15 _ _, by show Box _ _ ((f.s.set i v).map Value.bool); rw [List.map_set]; exact h.s.set i _, ⟨h.len.1, h.len.2.1, h.len.2.2.1, h.len.2.2.2.1, by show (f.s.set i v).length = m; rw [List.length_set]; exact h.len.2.2.2.2⟩, h.ne, h.lo, h.bel.setCell h.lo.2.2.2.2.2 _, h.wd⟩
theorem FaM.addr (h : FaM w W X aa ca ba bb bc bl bk n m f) (h0 : n ≠ 0) : aa = some ⟨ba, 0, none⟩ ∧ Flb W ba f.a := h.a.resolve_left (fun e => h0 (by rw [← h.len.1, e]; rfl))
theorem FaM.atA (h : FaM w W X aa ca ba bb bc bl bk n m f) {i : Nat} (hi : i < n) : ∃ s, W.cell? ⟨ba, i, none⟩ = some (.float .f64 (raw (f.a.getD i 0) s)) := (h.addr (by omega)).2.at (by rw [h.len.1]; exact hi)
theorem FaM.atB (h : FaM w W X aa ca ba bb bc bl bk n m f) {i : Nat} (hi : i < n) : ∃ s, W.cell? ⟨bb, i, none⟩ = some (.float .f64 (raw (f.b.getD i 0) s)) := h.b.at (by rw [h.len.2.1]; exact hi)
theorem FaM.atC (h : FaM w W X aa ca ba bb bc bl bk n m f) {i : Nat} (hi : i < n) : ∃ s, W.cell? ⟨bc, i, none⟩ = some (.float .f64 (raw (f.c.getD i 0) s)) := h.c.at (by rw [h.len.2.2.1]; exact hi)
theorem FaM.atL (h : FaM w W X aa ca ba bb bc bl bk n m f) {i : Nat} (hi : i < m) : ∃ s, W.cell? ⟨bl, i, none⟩ = some (.float .f64 (raw (f.l.getD i 0) s)) := h.l.at (by rw [h.len.2.2.2.1]; exact hi)
theorem FaM.atS (h : FaM w W X aa ca ba bb bc bl bk n m f) {i : Nat} (hi : i < m) : W.cell? ⟨bk, i, none⟩ = some (.bool (f.s.getD i false)) := by
  rw [h.s.cell, List.getElem?_map, List.getD_eq_getElem?_getD, List.getElem?_eq_getElem (by rw [h.len.2.2.2.2]; exact hi)]
  rfl
/-- What a caller keeps of factors. -/
theorem Bos.ofBox {b : Nat} {l : List Bool} (h : Box W b (l.map Value.bool)) : Bos W (some ⟨b, 0, none⟩) l := fun _ => ⟨b, 0, rfl, h.lt, fun i v hi => by rw [Nat.zero_add, h.cell, List.getElem?_map, hi]; rfl⟩
end
/-- A value's list of positions, changed at one. -/
def updI {α : Type} (f : Nat → α) (k : Nat) (x : α) : Nat → α := fun i => if i = k then x else f i
theorem updI_same {α : Type} (f : Nat → α) (k : Nat) (x : α) : updI f k x k = x := by unfold updI; rw [if_pos rfl]
theorem updI_ne {α : Type} (f : Nat → α) {k i : Nat} (x : α) (h : i ≠ k) : updI f k x i = f i := by unfold updI; rw [if_neg h]
/-- What is made, while it is made: of each operation of 'ids' that is not pending a value in a block of its own (the block of 'c0' may be an old one). -/
structure FamI (w W : World) (Φ : Nat → World → Value → Nat → Prop) (c0 : Nat) (ids pd : List Nat) (s : Nat → Value) (K : Nat → Nat) : Prop where
  below : Below w.heap.size w W
  fact : ∀ i ∈ ids, i ∉ pd → Φ i W (s i) (K i)
  lo : ∀ i ∈ ids, i ∉ pd → (i ≠ c0 → w.heap.size ≤ K i) ∧ K i < W.heap.size
  ne : ∀ i ∈ ids, ∀ j ∈ ids, i ∉ pd → j ∉ pd → i ≠ j → K i ≠ K j
section
variable {w W W' : World} {Φ : Nat → World → Value → Nat → Prop} {c0 : Nat} {ids pd : List Nat} {s : Nat → Value} {K : Nat → Nat}
theorem FamI.start (w : World) (Φ : Nat → World → Value → Nat → Prop) (c0 : Nat) (no : ∀ i ∈ ids, i ∉ pd → False) (s : Nat → Value) (K : Nat → Nat) : FamI w w Φ c0 ids pd s K :=
  ⟨Below.refl _ _, fun i hi h1 => (no i hi h1).elim, fun i hi h1 => (no i hi h1).elim, fun i hi _ _ h1 => (no i hi h1).elim⟩
theorem FamI.step (h : FamI w W Φ c0 ids pd s K) (hΦ : ∀ i W W' v a, Φ i W v a → Below W.heap.size W W' → Φ i W' v a) (c : Nat) {v : Value} {k : Nat} (h0 : (c ≠ c0 ∧ W.heap.size ≤ k) ∨ (c = c0 ∧ (k < w.heap.size ∨ W.heap.size ≤ k))) (g0 : k < W'.heap.size) (hf : Φ c W' v k) (hb : Below W.heap.size W W') :
    FamI w W' Φ c0 ids (pd.erase c) (updI s c v) (updI K c k) := by
  have hsz := hb.size
  have hwz := h.below.size
  have hx : ∀ i, i ≠ c → i ∉ pd.erase c → i ∉ pd := fun i e h1 h2 => h1 ((List.mem_erase_of_ne e).2 h2)
  refine ⟨below_step h.below h.below.size hb, fun i hi hp => ?_, fun i hi hp => ?_, fun i hi j hj hp hp' hij => ?_⟩
  · by_cases e : i = c
    · subst e
      simp only [updI_same]
      exact hf
    · simp only [updI_ne _ _ e]
      exact hΦ _ _ _ _ _ (h.fact i hi (hx i e hp)) hb
  · by_cases e : i = c
    · subst e
      simp only [updI_same]
      exact ⟨fun e => by rcases h0 with h0 | h0 <;> omega, g0⟩
    · simp only [updI_ne _ _ e]
      have := h.lo i hi (hx i e hp)
      exact ⟨this.1, by omega⟩
  · by_cases e : i = c
    · subst e
      have e2 : j ≠ i := fun h => hij h.symm
      simp only [updI_same, updI_ne _ _ e2]
      have h1 := h.lo j hj (hx j e2 hp')
      rcases h0 with h0 | h0
      · omega
      · have := h1.1 (fun e => e2 (e.trans h0.1.symm))
        omega
    · by_cases e2 : j = c
      · subst e2
        simp only [updI_same, updI_ne _ _ e]
        have h1 := h.lo i hi (hx i e hp)
        rcases h0 with h0 | h0
        · omega
        · have := h1.1 (fun e3 => e (e3.trans h0.1.symm))
          omega
      · simp only [updI_ne _ _ e, updI_ne _ _ e2]
        exact h.ne i hi j hj (hx i e hp) (hx j e2 hp') hij
end
/-- What an operation makes: 0 a clone, 1 floats, 2 fewer floats, 3 bools, else the box. -/
def FkP (B n m : Nat) (ds : List Nat) (k : Nat) (W : World) (v : Value) (K : Nat) : Prop :=
  match k with
  | 0 => ∃ a cap, v = .slice a n cap ∧ FS W a K ds ∧ (ds ≠ [] → B ≤ K)
  | 1 => v = .slice (some ⟨K, 0, none⟩) n n ∧ Flb W K (List.replicate n 0)
  | 2 => v = .slice (some ⟨K, 0, none⟩) m m ∧ Flb W K (List.replicate m 0)
  | 3 => v = .slice (some ⟨K, 0, none⟩) m m ∧ Box W K ((List.replicate m false).map Value.bool)
  | _ => v = .pointer (some ⟨K, 0, none⟩) ∧ Box W K [.slice none 0 0, .slice none 0 0, .slice none 0 0, .slice none 0 0, .slice none 0 0]
theorem FkP.below (B n m : Nat) (ds : List Nat) (kd : Nat → Nat) (i : Nat) (W W' : World) (v : Value) (a : Nat) (h : FkP B n m ds (kd i) W v a) (hb : Below W.heap.size W W') : FkP B n m ds (kd i) W' v a := by
  revert h
  generalize kd i = k
  intro h
  rcases k with _ | _ | _ | _ | k
  · obtain ⟨x, c, e, hf, h0⟩ := h
    exact ⟨x, c, e, hf.below hb, h0⟩
  · exact ⟨h.1, h.2.below hb⟩
  · exact ⟨h.1, h.2.below hb⟩
  · exact ⟨h.1, h.2.below hb⟩
  · exact ⟨h.1, h.2.below hb⟩
theorem run_mkF (n : Nat) (h : n ≤ 262144) (w : World) : (Instr.makeSlice 22 (.int .i64 (n : Int)) (.int .i64 (n : Int))).run Try.prog w = .ok (.slice (some ⟨w.heap.size, 0, none⟩) n n) (w.alloc (.cells (List.replicate n (Value.float .f64 0)).toArray 40)) := by
  have := run_New n 1 (by omega) w
  simpa using this
theorem run_mkB (n : Nat) (h : n ≤ 262144) (w : World) : (Instr.makeSlice 43 (.int .i64 (n : Int)) (.int .i64 (n : Int))).run Try.prog w = .ok (.slice (some ⟨w.heap.size, 0, none⟩) n n) (w.alloc (.cells (List.replicate n (Value.bool false)).toArray 4)) := by
  have h0 : (Try.prog.info? 4).map (fun i => (i.zero, i.size, i.bytes)) = some (some (.bool false), 1, 1) := by kernel_rfl
  obtain ⟨i, hi, h1⟩ := Option.map_eq_some_iff.1 h0
  simp only [Prod.mk.injEq] at h1
  obtain ⟨hz, hs, hb⟩ := h1
  have hr := run_make (P := Try.prog) w 43 4 i (.bool false) Try.underlying43 hi hz .i64 .i64 n n (by omega) (Int.le_refl _) (by rw [hb]; omega) (by omega)
  rw [hs] at hr
  simp only [Int.toNat_natCast, Nat.mul_one] at hr
  rw [hr]
  have e2 : madeCells (Value.bool false).cells n = (List.replicate n (Value.bool false)).toArray := by
    apply Array.ext'
    have := toList_madeCells_one (.bool false) n
    simpa [Value.cells] using this
  rw [e2]
theorem flb_mk (w : World) (n : Nat) : Flb (w.alloc (.cells (List.replicate n (Value.float .f64 0)).toArray 40)) w.heap.size (List.replicate n 0) :=
  Flb.ofBox (zs := List.replicate n 0) (by rw [List.map_replicate]; exact Box.newA w _ _ rfl) (fun x hx => by rw [(List.mem_replicate.1 hx).2]; kernel_rfl)
theorem words_app_rep {es : List Nat} (h : Words es) (n m : Nat) : Words (es ++ List.drop m (List.replicate n 0)) := fun x hx => by
  rcases List.mem_append.1 hx with h1 | h1
  · exact h x h1
  · rw [(List.mem_replicate.1 (List.mem_of_mem_drop h1)).2]
    decide
theorem lowI_lt (ds es : List Nat) : lowI ds es < 18446744073709551616 := by
  unfold lowI mxW
  split
  · decide
  · exact fmul_lt _ _
/-- The floor of a size is a number, not below 0. -/
theorem fmul_numI {x c : Nat} (hx : isnan x = false) (s : Bool) (m : Nat) (e : Int) (hm : m ≠ 0) (hc : Ieee.double.read c = .number s m e) : isnan (fmul x c) = false := by
  unfold fmul Ieee.Format.mul
  rw [hc]
  have h := read_nan x
  rw [hx] at h
  cases hr : Ieee.double.read x with
  | nan s t => rw [hr] at h; simp [Ieee.Datum.isNaN] at h
  | number s' m' e' =>
    cases hp : (Ieee.Datum.number s' m' e').product (Ieee.Datum.number s m e) with
    | none => simp [Ieee.Datum.product] at hp
    | some d =>
      simp only [Option.map_some, Option.getD_some]
      exact write_not_nan d (product_some hp)
  | infinity s' =>
    cases hp : (Ieee.Datum.infinity s').product (Ieee.Datum.number s m e) with
    | none => simp [Ieee.Datum.product, hm] at hp
    | some d =>
      simp only [Option.map_some, Option.getD_some]
      exact write_not_nan d (product_some hp)
theorem lowI_max {s : Nat} (hs : isnan s = false) (hl : s < 9223372036854775808) : isnan (fmul s 4372995238176751616) = false ∧ ∀ (W : World) (ts : Array TypeId) (t : TypeId), (Builtin.max_ ts t #[.float .f64 (fmul s 4372995238176751616), .float .f64 103582791429521408]).run Try.prog W = .ok (.float .f64 (mxW (fmul s 4372995238176751616) 103582791429521408)) W := by
  have h1 : isnan (fmul s 4372995238176751616) = false := fmul_numI hs false 4503599627370496 (-104) (by decide) (by kernel_rfl)
  have h2 := fmul_sgn h1
  have h3 := fmul_lt s 4372995238176751616
  refine ⟨h1, fun W ts t => run_max_num h1 (by kernel_rfl) ?_ W ts t⟩
  unfold fsgn at h2
  have e : (4372995238176751616 / 9223372036854775808 % 2 == 1) = false := by decide
  have e' : (s / 9223372036854775808 % 2 == 1) = false := by
    rw [Nat.div_eq_of_lt hl]
    decide
  rw [e, e'] at h2
  generalize fmul s 4372995238176751616 = z at *
  have h4 : z / 9223372036854775808 % 2 ≠ 1 := by simpa using h2
  omega
def kdP (i : Nat) : Nat := if i = 2 then 0 else if i = 4 ∨ i = 6 then 1 else if i = 10 then 2 else if i = 14 then 3 else 4
theorem box_mkB (w : World) (n : Nat) : Box (w.alloc (.cells (List.replicate n (Value.bool false)).toArray 4)) w.heap.size ((List.replicate n false).map Value.bool) := by
  rw [List.map_replicate]
  exact Box.newA w _ _ rfl
theorem Box.put5n {w : World} {n k : Nat} {cs : List Value} (h : Box w n cs) (hne : n ≠ k) (v0 v1 v2 v3 v4 : Value) : Box (((((w.setCell ⟨k, 0, none⟩ v0).setCell ⟨k, 1, none⟩ v1).setCell ⟨k, 2, none⟩ v2).setCell ⟨k, 3, none⟩ v3).setCell ⟨k, 4, none⟩ v4) n cs :=
  ((((h.set_other hne 0 v0).set_other hne 1 v1).set_other hne 2 v2).set_other hne 3 v3).set_other hne 4 v4
theorem Box.put5s {w : World} {n : Nat} {a0 a1 a2 a3 a4 : Value} (h : Box w n [a0, a1, a2, a3, a4]) (v0 v1 v2 v3 v4 : Value) : Box (((((w.setCell ⟨n, 0, none⟩ v0).setCell ⟨n, 1, none⟩ v1).setCell ⟨n, 2, none⟩ v2).setCell ⟨n, 3, none⟩ v3).setCell ⟨n, 4, none⟩ v4) n [v0, v1, v2, v3, v4] :=
  ((((h.set 0 v0).set 1 v1).set 2 v2).set 3 v3).set 4 v4
theorem below5 {w W : World} {B k : Nat} (h : Below B w W) (hk : B ≤ k) (v0 v1 v2 v3 v4 : Value) : Below B w (((((W.setCell ⟨k, 0, none⟩ v0).setCell ⟨k, 1, none⟩ v1).setCell ⟨k, 2, none⟩ v2).setCell ⟨k, 3, none⟩ v3).setCell ⟨k, 4, none⟩ v4) :=
  ((((h.setCell hk _).setCell hk _).setCell hk _).setCell hk _).setCell hk _
theorem Flb.put5n {w : World} {n k : Nat} {cs : List Nat} (h : Flb w n cs) (hne : n ≠ k) (v0 v1 v2 v3 v4 : Value) : Flb (((((w.setCell ⟨k, 0, none⟩ v0).setCell ⟨k, 1, none⟩ v1).setCell ⟨k, 2, none⟩ v2).setCell ⟨k, 3, none⟩ v3).setCell ⟨k, 4, none⟩ v4) n cs :=
  ((((h.other hne 0 v0).other hne 1 v1).other hne 2 v2).other hne 3 v3).other hne 4 v4
theorem rep_words (r : Nat) : Words (List.replicate r 0) := fun x hx => by
  rw [(List.mem_replicate.1 hx).2]
  decide
/-- A drawn region's end: the factors as they are made. -/
theorem fam_done {w D W : World} {n m : Nat} {ds : List Nat} {s : Nat → Value} {K : Nat → Nat} (hdl : ds.length = n) (hb : Below w.heap.size w D) (hwd : Words ds) (h : FamI D W (fun i => FkP w.heap.size n m ds (kdP i)) 2 [2, 4, 6, 10, 14, 16] [] s K) :
    ∃ aa ca, s 2 = .slice aa n ca ∧ s 4 = .slice (some ⟨K 4, 0, none⟩) n n ∧ s 6 = .slice (some ⟨K 6, 0, none⟩) n n ∧ s 10 = .slice (some ⟨K 10, 0, none⟩) m m ∧ s 14 = .slice (some ⟨K 14, 0, none⟩) m m ∧ s 16 = .pointer (some ⟨K 16, 0, none⟩) ∧
      FaM w (((((W.setCell ⟨K 16, 0, none⟩ (.slice aa n ca)).setCell ⟨K 16, 1, none⟩ (.slice (some ⟨K 4, 0, none⟩) n n)).setCell ⟨K 16, 2, none⟩ (.slice (some ⟨K 6, 0, none⟩) n n)).setCell ⟨K 16, 3, none⟩ (.slice (some ⟨K 10, 0, none⟩) m m)).setCell ⟨K 16, 4, none⟩ (.slice (some ⟨K 14, 0, none⟩) m m)) (K 16) aa ca (K 2) (K 4) (K 6) (K 10) (K 14) n m ⟨ds, List.replicate n 0, List.replicate n 0, List.replicate m 0, List.replicate m false⟩ := by
  obtain ⟨aa, ca, e2, f2, g2⟩ : FkP w.heap.size n m ds 0 W (s 2) (K 2) := h.fact 2 (by decide) (by decide)
  obtain ⟨e4, f4⟩ : FkP w.heap.size n m ds 1 W (s 4) (K 4) := h.fact 4 (by decide) (by decide)
  obtain ⟨e6, f6⟩ : FkP w.heap.size n m ds 1 W (s 6) (K 6) := h.fact 6 (by decide) (by decide)
  obtain ⟨e10, f10⟩ : FkP w.heap.size n m ds 2 W (s 10) (K 10) := h.fact 10 (by decide) (by decide)
  obtain ⟨e14, f14⟩ : FkP w.heap.size n m ds 3 W (s 14) (K 14) := h.fact 14 (by decide) (by decide)
  obtain ⟨e16, f16⟩ : FkP w.heap.size n m ds 4 W (s 16) (K 16) := h.fact 16 (by decide) (by decide)
  have ne := fun i (hi : i ∈ [2, 4, 6, 10, 14, 16]) j (hj : j ∈ [2, 4, 6, 10, 14, 16]) (hij : i ≠ j) => h.ne i hi j hj (by simp) (by simp) hij
  have lo := fun i (hi : i ∈ [2, 4, 6, 10, 14, 16]) (h2 : i ≠ 2) => (h.lo i hi (by simp)).1 h2
  have hs := hb.size
  have l2 : n ≠ 0 → w.heap.size ≤ K 2 := fun h0 => g2 (fun e => h0 (by rw [← hdl, e]; rfl))
  have g4 := lo 4 (by decide) (by decide)
  have g6 := lo 6 (by decide) (by decide)
  have g10 := lo 10 (by decide) (by decide)
  have g14 := lo 14 (by decide) (by decide)
  have g16 := lo 16 (by decide) (by decide)
  refine ⟨aa, ca, e2, e4, e6, e10, e14, e16, f16.put5s _ _ _ _ _, ?_, f4.put5n (ne 4 (by decide) 16 (by decide) (by decide)) _ _ _ _ _, f6.put5n (ne 6 (by decide) 16 (by decide) (by decide)) _ _ _ _ _, f10.put5n (ne 10 (by decide) 16 (by decide) (by decide)) _ _ _ _ _, f14.put5n (ne 14 (by decide) 16 (by decide) (by decide)) _ _ _ _ _, ⟨hdl, by simp, by simp, by simp, by simp⟩, ?_, ⟨by omega, l2, by omega, by omega, by omega, by omega⟩, below5 (below_step hb hb.size h.below) (by omega) _ _ _ _ _, ⟨hwd, rep_words _, rep_words _, rep_words _⟩⟩
  · have n2 := ne 2 (by decide) 16 (by decide) (by decide)
    exact (((((f2.otherU n2 _ _).otherU n2 _ _).otherU n2 _ _).otherU n2 _ _).otherU n2 _ _)
  · simp only [List.nodup_cons, List.mem_cons, List.not_mem_nil, or_false, not_or, List.nodup_nil, and_true, not_false_eq_true]
    exact ⟨⟨ne 16 (by decide) 2 (by decide) (by decide), ne 16 (by decide) 4 (by decide) (by decide), ne 16 (by decide) 6 (by decide) (by decide), ne 16 (by decide) 10 (by decide) (by decide), ne 16 (by decide) 14 (by decide) (by decide)⟩,
      ⟨ne 2 (by decide) 4 (by decide) (by decide), ne 2 (by decide) 6 (by decide) (by decide), ne 2 (by decide) 10 (by decide) (by decide), ne 2 (by decide) 14 (by decide) (by decide)⟩,
      ⟨ne 4 (by decide) 6 (by decide) (by decide), ne 4 (by decide) 10 (by decide) (by decide), ne 4 (by decide) 14 (by decide) (by decide)⟩,
      ⟨ne 6 (by decide) 10 (by decide) (by decide), ne 6 (by decide) 14 (by decide) (by decide)⟩, ne 10 (by decide) 14 (by decide) (by decide)⟩
theorem faL_zero {ds es : List Nat} {x low n m : Nat} (hn : ds.length = n) (hm : es.length = m) : faL ds es x low 0 = ⟨stL (fun _ v => fsub v x) ds n, es ++ List.replicate (n - m) 0, List.replicate n 0, List.replicate m 0, List.replicate m false⟩ := by
  subst hn hm
  rfl
theorem gsame {l : List Nat} {i : Nat} (h : i < l.length) (v : Nat) : (l.set i v).getD i 0 = v := by
  rw [List.getD_eq_getElem?_getD, List.getElem?_set_self h]
  rfl
theorem gne (l : List Nat) {i j : Nat} (h : i ≠ j) (v : Nat) : (l.set i v).getD j 0 = l.getD j 0 := by
  rw [List.getD_eq_getElem?_getD, List.getElem?_set_ne h, ← List.getD_eq_getElem?_getD]
set_option maxHeartbeats 4000000 in
theorem lift_any (w0 w : World) (X Lo ca ba bb bc bl bk n m i low : Nat) (aa : Option Addr) (f : FaS) (h : FaM w0 w X aa ca ba bb bc bl bk n m f) (hL : Box w Lo [.float .f64 low]) (hne : Lo ≠ ba) (hi : i < n) (hn : n ≤ 512) (hlo : low < 18446744073709551616) :
    Calls Try.prog 73 #[.int .i64 i, .pointer (some ⟨X, 0, none⟩), .pointer (some ⟨Lo, 0, none⟩)] w fun e w' => e = .returned (.tuple #[]) ∧ FaM w0 w' X aa ca ba bb bc bl bk n m { f with a := liftF low f.a i } ∧ Box w' Lo [.float .f64 low] := by
  obtain ⟨rfl, hfa⟩ := h.addr (by omega)
  have hi9 : i < 1000 := by omega
  obtain ⟨a, ha⟩ : ∃ a, a = f.a.getD i 0 := ⟨_, rfl⟩
  have hal : a < 18446744073709551616 := by rw [ha]; exact h.wd.1.at i
  have HN := Lib.hid (show liftF low f.a i = if flt (fabs a) low then f.a.set i low else f.a by rw [ha]; rfl)
  have HA := Lib.hid (fun s W => AbsF a s hal W)
  have S := Lib.hid h
  have SL := Lib.hid hL
  clear h hL hfa hal
  go_enter Try.func73, Try.ntmps73
  have hdr := below_drewN 1 (Below.refl w.heap.size w)
  replace S := Lib.hid (show FaM w0 w.drew X _ ca ba bb bc bl bk n m f from S.out.step hdr)
  replace SL := Lib.hid (show Box w.drew Lo _ from SL.out.below hdr)
  go_upto_region 0 with (fail)
  clear hdr
  obtain ⟨s1, c1⟩ := S.out.atA hi
  rw [← ha] at c1
  refine wp_region_items 7 [(true, 0), (true, 1), (true, 2), (true, 3), (true, 4), (true, 6), (false, 5)] (fun W => W = w.drew) (by kernel_rfl) (by kernel_rfl) rfl ?_
  generalize w.drew = q0 at *
  obtain ⟨f1, f2, f3⟩ := S.out.box.facts
  obtain ⟨l1, l2, l3⟩ := SL.out.facts
  clear ha
  iterate 6 (refine iW_take (v := ?_) rfl rfl ?_ ?_; rotate_left; (next => (intro w' hSw; (try dsimp only at hSw); go_simp; (try (rw [if_pos (by omega)]; go_simp)); (try with_reducible rfl))); (simp only [Act.put, List.setIfInBounds_toArray, List.set_cons_zero, List.set_cons_succ]))
  refine iW_mid rfl rfl ?_
  go_simp
  refine (HA.out _ _).mono ?_
  rintro e w1 ⟨⟨s2, rfl⟩, rfl⟩
  refine ⟨rfl, ?_⟩
  refine iW_nil ?_
  go_simp
  go_wp2_with fail
  refine NoPanic.normal ?_
  obtain ⟨c, hc⟩ : ∃ c, c = flt (fabs a) low := ⟨_, rfl⟩
  try simp only [flt_rawl]
  rw [← hc] at HN ⊢
  clear hc
  cases c
  · have e := Lib.hid (show f = { f with a := liftF low f.a i } by rw [HN.out]; rfl)
    clear HN
    go_wp2_with fail
    exact bodyPost_end (results_none rfl _ _ _) rfl ⟨rfl, e.out ▸ S.out, SL.out⟩
  · have e := Lib.hid (show liftF low f.a i = f.a.set i low by rw [HN.out]; rfl)
    clear HN
    have g1 := (S.out.addr (by omega)).2.lt
    have g2 := (S.out.addr (by omega)).2.frozen
    go_wp2_with fail
    obtain ⟨k, hk⟩ := raw_self hlo
    have h := S.out.setA (by omega) i low k hlo
    rw [← hk, ← e.out] at h
    exact bodyPost_end (results_none rfl _ _ _) rfl ⟨rfl, h, SL.out.set_other hne _ _⟩
/-- Floats copied over the beginning of a block. -/
theorem wpList_copy_flb {P : Program} {w : World} {ops : Array Oper} {rest : List Oper} {o : Oper} {a : Act} {Q : Exit → Act → World → Prop} (hgd : o.guard = none) (d s : Operand) (dT sT : TypeId)
    (ho : o.op = .call { callee := .builtin .copy, args := #[d, s], argTypes := #[dT, sT] }) (elem : TypeId) (hu : P.underlying dT = some (.slice elem)) (hsz : (P.info? elem).map (·.size) = some 1)
    (g dCap sCap n m : Nat) (sp : Option Addr) (cur es : List Nat) (hd : a.eval d = .slice (some ⟨g, 0, none⟩) n dCap) (hs : a.eval s = .slice sp m sCap) (hn : cur.length = n) (hm : es.length = m) (hmn : m ≤ n)
    (hg : Flb w g cur) (hsrc : Fls w sp es)
    (h : ∀ w', Flb w' g (es ++ cur.drop m) → (∀ B, Bel B g w w') → wpList P ops Q rest (a.put o.dst (goInt m)) w') : wpList P ops Q (o :: rest) a w := by
  subst hm
  by_cases h0 : es = []
  · subst h0
    refine wpList_copy_nothing hgd d s dT sT ho elem hu hsz _ sp _ _ _ _ hd hs (by simp) ?_
    exact h w (by simpa using hg) (fun B => Bel.refl _ _ _)
  · obtain ⟨b, off, rfl, hlt, hc⟩ := hsrc h0
    obtain ⟨cs, ⟨T, hT⟩, hcs⟩ := hg
    obtain ⟨src, hsr⟩ : ∃ src : List Value, src = (List.range es.length).map (fun j => (w.cell? ⟨b, off + j, none⟩).getD undef) := ⟨_, rfl⟩
    have hsl : src.length = es.length := by rw [hsr]; simp
    have hsv : ∀ j v, src[j]? = some v → ∃ x s, es[j]? = some x ∧ v = .float .f64 (raw x s) ∧ w.cell? ⟨b, off + j, none⟩ = some v := fun j v hj => by
      have hjl : j < es.length := by rw [← hsl]; exact (List.getElem?_eq_some_iff.1 hj).1
      obtain ⟨s, hs⟩ := hc j es[j] (List.getElem?_eq_getElem hjl)
      rw [hsr, List.getElem?_map, List.getElem?_range hjl] at hj
      simp only [Option.map_some, Option.some.injEq] at hj
      rw [hs] at hj
      exact ⟨es[j], s, List.getElem?_eq_getElem hjl, hj.symm, by rw [hs, ← hj]; rfl⟩
    have hcl : cur.length ≤ cs.length := by
      by_cases hcz : cur.length = 0
      · omega
      · obtain ⟨s, hs⟩ := hcs (cur.length - 1) (cur[cur.length - 1]) (List.getElem?_eq_getElem (by omega))
        have := (List.getElem?_eq_some_iff.1 hs).1
        omega
    refine wpList_copy_own hgd d s dT sT ho elem hu hsz g 0 _ _ ⟨b, off, none⟩ _ _ hd hs cs.toArray T hT src (by rw [hsl]; exact (Nat.min_eq_left (by omega)).symm) ?_ (by simp; omega) (fun v hv => ?_) ?_
    · intro j v hj
      have ha : (Addr.add ⟨b, off, none⟩ j) = ⟨b, off + j, none⟩ := by
        unfold Addr.add
        split
        · subst_vars; rfl
        · rfl
      rw [ha]
      obtain ⟨_, _, _, _, h1⟩ := hsv j v hj
      exact h1
    · obtain ⟨j, hj⟩ := List.getElem?_of_mem hv
      obtain ⟨_, _, _, rfl, _⟩ := hsv j v hj
      rfl
    · rw [hsl]
      refine h _ ⟨src ++ cs.drop es.length, ⟨T, ?_⟩, fun i v hi => ?_⟩ (fun B => ⟨rfl, rfl, rfl, by simp [World.setRow], fun k _ hk => setRow_other w g k _ (by omega)⟩)
      · have e : (List.take 0 cs.toArray.toList ++ (src ++ List.drop (0 + es.length) cs.toArray.toList)) = src ++ cs.drop es.length := by simp
        rw [e]
        exact setRow_heap w g _ _ _ _ hT
      · by_cases hil : i < es.length
        · rw [List.getElem?_append_left hil] at hi
          rw [List.getElem?_append_left (by omega)]
          obtain ⟨x, s, h1, h2, _⟩ := hsv i src[i] (List.getElem?_eq_getElem (by omega))
          rw [hi] at h1
          simp only [Option.some.injEq] at h1
          subst h1
          exact ⟨s, by rw [List.getElem?_eq_getElem (by omega), h2]⟩
        · rw [List.getElem?_append_right (by omega), List.getElem?_drop] at hi
          rw [List.getElem?_append_right (by omega), List.getElem?_drop, hsl]
          exact hcs _ _ hi
section
variable {w w1 W W' : World} {X ca ba bb bc bl bk n m : Nat} {aa : Option Addr} {f : FaS}
theorem FaM.putB (h : FaM w W X aa ca ba bb bc bl bk n m f) {b : List Nat} (hf : Flb W' bb b) (hb : ∀ B, Bel B bb W W') (hl : b.length = n) (hw : Words b) : FaM w W' X aa ca ba bb bc bl bk n m { f with b := b } := by
  obtain ⟨⟨n1, n2, n3, n4, n5⟩, ⟨n6, n7, n8, n9⟩, ⟨n10, n11, n12⟩, ⟨n13, n14⟩, n15⟩ := nodup6 h.ne
  exact ⟨h.box.bel n2 (hb _), h.a.belU n6 (hb _), hf, h.c.bel n10.symm (hb _), h.l.bel n11.symm (hb _), h.s.bel n12.symm (hb _), ⟨h.len.1, hl, h.len.2.2⟩, h.ne, h.lo, h.bel.trans ((hb w.heap.size).below h.lo.2.2.1), ⟨h.wd.1, hw, h.wd.2.2⟩⟩
theorem FaM.base (h : FaM w1 W X aa ca ba bb bc bl bk n m f) (hb : Below w.heap.size w w1) : FaM w W X aa ca ba bb bc bl bk n m f := by
  have hs := hb.size
  exact ⟨h.box, h.a, h.b, h.c, h.l, h.s, h.len, h.ne, ⟨by have := h.lo.1; omega, fun e => by have := h.lo.2.1 e; omega, by have := h.lo.2.2.1; omega, by have := h.lo.2.2.2.1; omega, by have := h.lo.2.2.2.2.1; omega, by have := h.lo.2.2.2.2.2; omega⟩, hb.trans (h.bel.mono hs), h.wd⟩
theorem FaM.fin (h : FaM w1 W X aa ca ba bb bc bl bk n m f) (hb : Below w.heap.size w w1) {k : Nat} (hk : w.heap.size ≤ k) (hk1 : k < w1.heap.size) (v0 v1 v2 v3 v4 : Value) :
    FaM w (((((W.setCell ⟨k, 0, none⟩ v0).setCell ⟨k, 1, none⟩ v1).setCell ⟨k, 2, none⟩ v2).setCell ⟨k, 3, none⟩ v3).setCell ⟨k, 4, none⟩ v4) X aa ca ba bb bc bl bk n m f := by
  have g := h.base hb
  have hX : X ≠ k := by have := h.lo.1; omega
  have hbb : bb ≠ k := by have := h.lo.2.2.1; omega
  have hbc : bc ≠ k := by have := h.lo.2.2.2.1; omega
  have hbl : bl ≠ k := by have := h.lo.2.2.2.2.1; omega
  have hbk : bk ≠ k := by have := h.lo.2.2.2.2.2; omega
  refine ⟨g.box.put5n hX _ _ _ _ _, ?_, g.b.put5n hbb _ _ _ _ _, g.c.put5n hbc _ _ _ _ _, g.l.put5n hbl _ _ _ _ _, g.s.put5n hbk _ _ _ _ _, g.len, g.ne, g.lo, below5 g.bel hk _ _ _ _ _, g.wd⟩
  by_cases h0 : n = 0
  · exact .inl (List.eq_nil_of_length_eq_zero (by rw [g.len.1, h0]))
  · have hba : ba ≠ k := by have := h.lo.2.1 h0; omega
    exact ((((g.a.otherU hba _ _).otherU hba _ _).otherU hba _ _).otherU hba _ _).otherU hba _ _
variable {Lo low : Nat}
/-- Factors, and the box of the floor. -/
structure LoM (w W : World) (X Lo : Nat) (aa : Option Addr) (ca ba bb bc bl bk n m low : Nat) (f : FaS) : Prop where
  fa : FaM w W X aa ca ba bb bc bl bk n m f
  bx : Box W Lo [.float .f64 low]
  ne : Lo ≠ X ∧ (n ≠ 0 → Lo ≠ ba) ∧ Lo ≠ bb ∧ Lo ≠ bc ∧ Lo ≠ bl ∧ Lo ≠ bk
theorem LoM.make (h : FaM w W X aa ca ba bb bc bl bk n m f) (low : Nat) (T : TypeId) : LoM w (W.alloc (.cells #[.float .f64 low] T)) X W.heap.size aa ca ba bb bc bl bk n m low f :=
  ⟨h.step ((Below.refl _ _).alloc (Nat.le_refl _) _), Box.newA W [_] _ rfl, fun e => by have := h.box.lt; omega, fun h0 e => by have := (h.addr h0).2.lt; omega, fun e => by have := h.b.lt; omega, fun e => by have := h.c.lt; omega, fun e => by have := h.l.lt; omega, fun e => by have := h.s.lt; omega⟩
theorem LoM.step (h : LoM w W X Lo aa ca ba bb bc bl bk n m low f) (hb : Below W.heap.size W W') : LoM w W' X Lo aa ca ba bb bc bl bk n m low f := ⟨h.fa.step hb, h.bx.below hb, h.ne⟩
theorem LoM.setA (h : LoM w W X Lo aa ca ba bb bc bl bk n m low f) (h0 : n ≠ 0) (i v s : Nat) (hv : v < 18446744073709551616) : LoM w (W.setCell ⟨ba, i, none⟩ (.float .f64 (raw v s))) X Lo aa ca ba bb bc bl bk n m low { f with a := f.a.set i v } := ⟨h.fa.setA h0 i v s hv, h.bx.set_other (h.ne.2.1 h0) _ _, h.ne⟩
theorem LoM.setB (h : LoM w W X Lo aa ca ba bb bc bl bk n m low f) (i v s : Nat) (hv : v < 18446744073709551616) : LoM w (W.setCell ⟨bb, i, none⟩ (.float .f64 (raw v s))) X Lo aa ca ba bb bc bl bk n m low { f with b := f.b.set i v } := ⟨h.fa.setB i v s hv, h.bx.set_other h.ne.2.2.1 _ _, h.ne⟩
theorem LoM.setC (h : LoM w W X Lo aa ca ba bb bc bl bk n m low f) (i v s : Nat) (hv : v < 18446744073709551616) : LoM w (W.setCell ⟨bc, i, none⟩ (.float .f64 (raw v s))) X Lo aa ca ba bb bc bl bk n m low { f with c := f.c.set i v } := ⟨h.fa.setC i v s hv, h.bx.set_other h.ne.2.2.2.1 _ _, h.ne⟩
theorem LoM.setL (h : LoM w W X Lo aa ca ba bb bc bl bk n m low f) (i v s : Nat) (hv : v < 18446744073709551616) : LoM w (W.setCell ⟨bl, i, none⟩ (.float .f64 (raw v s))) X Lo aa ca ba bb bc bl bk n m low { f with l := f.l.set i v } := ⟨h.fa.setL i v s hv, h.bx.set_other h.ne.2.2.2.2.1 _ _, h.ne⟩
theorem LoM.setS (h : LoM w W X Lo aa ca ba bb bc bl bk n m low f) (i : Nat) (v : Bool) : LoM w (W.setCell ⟨bk, i, none⟩ (.bool v)) X Lo aa ca ba bb bc bl bk n m low { f with s := f.s.set i v } := ⟨h.fa.setS i v, h.bx.set_other h.ne.2.2.2.2.2 _ _, h.ne⟩
theorem LoM.lift (h : LoM w W X Lo aa ca ba bb bc bl bk n m low f) {i : Nat} (hi : i < n) (hn : n ≤ 512) (hlo : low < 18446744073709551616) :
    Calls Try.prog 73 #[.int .i64 i, .pointer (some ⟨X, 0, none⟩), .pointer (some ⟨Lo, 0, none⟩)] W fun e w' => e = .returned (.tuple #[]) ∧ LoM w w' X Lo aa ca ba bb bc bl bk n m low { f with a := liftF low f.a i } :=
  (lift_any w W X Lo ca ba bb bc bl bk n m i low aa f h.fa h.bx (h.ne.2.1 (by omega)) hi hn hlo).mono fun e w' ⟨h1, h2, h3⟩ => ⟨h1, h2, h3, h.ne⟩
end
end Go.Proofs.Ytdljnhdhigbefaa
