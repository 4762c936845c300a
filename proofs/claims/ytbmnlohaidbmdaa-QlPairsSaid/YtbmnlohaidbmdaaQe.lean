/- Layer 12: blocks that are written, a list of them; the matrix that is turned along, or has no rows. No condition. -/
import Derived.Test.YtbmnlohaidbmdaaQd
namespace Go.Proofs.Ytbmnlohaidbmdaa
open Go Go.RowKit
set_option maxRecDepth 100000

/-- Below B all blocks but those of L are as they were. -/
structure Bls (L : List Nat) (B : Nat) (w w' : World) : Prop where
  os : w'.os = w.os
  tape : w'.tape = w.tape
  output : w'.output = w.output
  size : w.heap.size ≤ w'.heap.size
  block : ∀ k, k < B → k ∉ L → w'.heap[k]? = w.heap[k]?
section
variable {L : List Nat} {B : Nat} {a b c w w' : World}
theorem Bls.refl (L : List Nat) (B : Nat) (w : World) : Bls L B w w := ⟨rfl, rfl, rfl, Nat.le_refl _, fun _ _ _ => rfl⟩
theorem Bls.of (h : Below B w w') : Bls L B w w' := ⟨h.os, h.tape, h.output, h.size, fun k hk _ => h.block k hk⟩
theorem Bls.ofBel {s : Nat} (h : Bel B s w w') (hs : s ∈ L) : Bls L B w w' := ⟨h.os, h.tape, h.output, h.size, fun k hk hn => h.block k hk (fun e => hn (e ▸ hs))⟩
theorem Bls.trans (h : Bls L B a b) (k : Bls L B b c) : Bls L B a c :=
  ⟨k.os.trans h.os, k.tape.trans h.tape, k.output.trans h.output, Nat.le_trans h.size k.size, fun i hi hn => (k.block i hi hn).trans (h.block i hi hn)⟩
theorem Bls.mono {B' : Nat} (h : Bls L B w w') (hB : B' ≤ B) : Bls L B' w w' := ⟨h.os, h.tape, h.output, h.size, fun k hk => h.block k (Nat.lt_of_lt_of_le hk hB)⟩
theorem Bls.step (h : Bls L B a b) (hB : B ≤ b.heap.size) (k : Bls L b.heap.size b c) : Bls L B a c := h.trans (k.mono hB)
theorem Bls.set {s : Nat} (h : Bls L B a w) (hs : s ∈ L) (o : Nat) (u : Value) : Bls L B a (w.setCell ⟨s, o, none⟩ u) :=
  h.trans (Bls.ofBel ((Bel.refl B s w).set o u) hs)
theorem Bls.sub {L' : List Nat} (h : Bls L B w w') (hL : ∀ k, k ∈ L → k ∈ L') : Bls L' B w w' := ⟨h.os, h.tape, h.output, h.size, fun k hk hn => h.block k hk (fun e => hn (hL k e))⟩
theorem Bls.below (h : Bls L B w w') (hL : ∀ k, k ∈ L → B ≤ k) : Below B w w' := ⟨h.os, h.tape, h.output, h.size, fun k hk => h.block k hk (fun e => absurd (hL k e) (by omega))⟩
theorem Box.bls {n : Nat} {cs : List Value} (h : Box w n cs) (hb : Bls L B w w') (hB : n < B) (hn : n ∉ L) : Box w' n cs := by
  obtain ⟨T, hT⟩ := h
  exact ⟨T, by rw [hb.block n hB hn]; exact hT⟩
theorem Flb.bls {n : Nat} {l : List Nat} (h : Flb w n l) (hb : Bls L B w w') (hB : n < B) (hn : n ∉ L) : Flb w' n l := by
  obtain ⟨cs, h1, hc⟩ := h
  exact ⟨cs, h1.bls hb hB hn, hc⟩
end

/-- A matrix's floats, in block zb; or it has no rows. -/
def Zf (W : World) (rows cols : Nat) (za : Option Addr) (zc zb : Nat) (z : List Nat) : Prop := z.length = rows * cols ∧ (rows = 0 ∨ za = some ⟨zb, 0, none⟩ ∧ Flb W zb z ∧ z.length ≤ zc ∧ zc ≤ maxLen)
section
variable {W W' : World} {rows cols zc zb : Nat} {za : Option Addr} {z : List Nat}
theorem Zf.below (h : Zf W rows cols za zc zb z) (hb : Below W.heap.size W W') : Zf W' rows cols za zc zb z :=
  ⟨h.1, h.2.imp id (fun ⟨h1, h2, h3, h4⟩ => ⟨h1, h2.below hb, h3, h4⟩)⟩
theorem Zf.other (h : Zf W rows cols za zc zb z) {s : Nat} (hs : zb ≠ s) (o : Nat) (u : Value) : Zf (W.setCell ⟨s, o, none⟩ u) rows cols za zc zb z :=
  ⟨h.1, h.2.imp id (fun ⟨h1, h2, h3, h4⟩ => ⟨h1, h2.other hs o u, h3, h4⟩)⟩
theorem turnL_zero (z : List Nat) (n i c s : Nat) : turnL z n i c s 0 = z := rfl
theorem turnZ (w : World) (X i c sc s ss : Nat) (dv ev : Value) (hX : Box w X [dv, ev, .int .i64 rows, .int .i64 cols, .slice za z.length zc]) (hz : Zf w rows cols za zc zb z) (hi : i + 1 < cols) (hne : X ≠ zb) (hr : rows ≤ 512) (hc : cols ≤ 512) :
    Calls Try.prog 40 #[.pointer (some ⟨X, 0, none⟩), .int .i64 i, .float .f64 (raw c sc), .float .f64 (raw s ss)] w fun e w' => e = .returned (.tuple #[]) ∧ Zf w' rows cols za zc zb (turnL z cols i c s rows) ∧ Bel w.heap.size zb w w' := by
  obtain ⟨hl, h0 | ⟨rfl, hF, h1, h2⟩⟩ := hz
  · subst h0
    refine (turn_none w X cols i c sc s ss dv ev _ hX).mono ?_
    rintro e w' ⟨rfl, rfl⟩
    exact ⟨rfl, ⟨hl, .inl rfl⟩, Bel.refl _ _ _⟩
  · refine (turn_any w X zb rows cols i c sc s ss zc dv ev z hX hF hl h1 h2 hi hne hr hc).mono ?_
    rintro e w' ⟨rfl, hF', hb⟩
    have hlen := turnL_len z cols i c s rows
    exact ⟨rfl, ⟨by rw [hlen]; exact hl, .inr ⟨rfl, hF', by rw [hlen]; exact h1, h2⟩⟩, hb⟩
end
end Go.Proofs.Ytbmnlohaidbmdaa
