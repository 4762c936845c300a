/- What a round holds on to that appends. No condition. -/
import Derived.Test.YtogkmddhgfenkaaGen
import Derived.Deep.RegionHeld3
import Derived.Deep.AppendLies
namespace Go.Proofs.Ytogkmddhgfenkaa
open Go Go.RowKit
set_option maxRecDepth 100000
/-- What a round holds on to that appends: the blocks below B are as they were. -/
def SB (B : Nat) (w0 W : World) : Prop := Below B w0 W ∧ B ≤ W.heap.size ∧ ∀ b o, b < B → W.cell? ⟨b, o, none⟩ = w0.cell? ⟨b, o, none⟩
theorem SB.of {B : Nat} {w0 W : World} (hb : Below B w0 W) (h : B ≤ W.heap.size) : SB B w0 W := ⟨hb, h, fun b o h => (below_cells hb).1 b o h⟩
abbrev SBS (B : Nat) (w0 W : World) : Prop := SB B w0 W ∧ ∀ b o, b < B → W.cell? ⟨b, o, none⟩ = w0.cell? ⟨b, o, none⟩
theorem SB.S {B : Nat} {w0 W : World} (h : SB B w0 W) : SBS B w0 W := ⟨h, h.2.2⟩
theorem SB.refl {B : Nat} {w0 : World} (h : B ≤ w0.heap.size) : SB B w0 w0 := SB.of (Below.refl _ _) h
theorem SB.drew {B : Nat} {w0 W : World} (h : SB B w0 W) : SB B w0 W.drew := SB.of (below_drewN 1 h.1) h.2.1
theorem SB.alloc {B : Nat} {w0 W : World} {o : Obj} (h : SB B w0 W) : SB B w0 (W.alloc o) := SB.of (h.1.alloc h.2.1 o) (by have := h.2.1; simp; omega)
theorem SBS.drew {B : Nat} {w0 W : World} (h : SBS B w0 W) : SBS B w0 W.drew := (SB.drew h.1).S
theorem SBS.alloc {B : Nat} {w0 W : World} {o : Obj} (h : SBS B w0 W) : SBS B w0 (W.alloc o) := (SB.alloc h.1).S
theorem SB.grown {B : Nat} {w0 W W' : World} {row : Option Nat} (h : SB B w0 W) (hg : W.grownBy W' row) (hr : ∀ r, row = some r → B ≤ r) : SB B w0 W' :=
  SB.of (h.1.grown hg h.2.1 hr) (Nat.le_trans h.2.1 hg.size)
theorem ownsRow_mono {W : World} {base base' size n : Nat} {e : TypeId} {v : Value} {xs : List Value} (h : W.ownsRow base e size v n xs) (hb : base' ≤ base) : W.ownsRow base' e size v n xs := by
  refine ⟨h.1, ?_⟩
  rcases h.2 with h0 | ⟨g, cap, cur, h1, h2, h3⟩
  · exact .inl h0
  · exact .inr ⟨g, cap, cur, h1, by omega, h3⟩
theorem SBS.grown {B : Nat} {w0 W W' : World} {row : Option Nat} (h : SBS B w0 W) (hg : W.grownBy W' row) (hr : ∀ r, row = some r → B ≤ r) : SBS B w0 W' := (SB.grown h.1 hg hr).S
theorem take_get {α : Type} {l : List α} {k : Nat} {x : α} (h : l[k]? = some x) : l.take (k + 1) = l.take k ++ [x] := by
  rw [List.take_add_one, h]; rfl


/-- Block bm holds three cells, of which the last one is a slice that grows. -/
structure OM (W0 : World) (bm base : Nat) (a b : Value) (e : TypeId) (xs : List Value) (k : Nat) (W : World) : Prop where
  ex : ∃ sv, Box W bm [a, b, sv] ∧ W.ownsRow base e 1 sv k (xs.take k)
  bel : Bel base bm W0 W
  sz : base ≤ W.heap.size
theorem OM.app {W0 W w1 : World} {bm base k : Nat} {a b sv v' x : Value} {xs : List Value} {e T : TypeId} (hbx : Box W bm [a, b, sv]) (hrow : W.ownsRow base e 1 sv k (xs.take k)) (hbel : Bel base bm W0 W) (hs : base ≤ W.heap.size) (hbm : bm < base)
    (hx : xs.take (k + 1) = xs.take k ++ [x]) (hgrow : (W.alloc (.cells #[x] T)).grownBy w1 sv.ownBlock) (hown : w1.ownsRow base e 1 v' (k + 1) (xs.take k ++ [x])) : OM W0 bm base a b e xs (k + 1) (w1.setCell ⟨bm, 2, none⟩ v') := by
  have hbx1 := Box.grown (Box.alloc hbx (.cells #[x] T)) hgrow (fun q eq => by have := (hrow.lt q eq).1; omega)
  obtain ⟨h1, h2, _⟩ := app_step (j := 2) (u := v') hrow hgrow hown hbm hs hbx1
  refine ⟨⟨v', hbx1.set 2 v', by rw [hx]; exact h1⟩, hbel.trans h2, ?_⟩
  have := h2.size
  omega
end Go.Proofs.Ytogkmddhgfenkaa
