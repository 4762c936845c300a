/- Package sturm: how many pivots are below nought. -/
import Derived.Test.YtogkmddhgfenkaaSt3
import Derived.Test.YtogkmddhgfenkaaGen
namespace Go.Proofs.Ytogkmddhgfenkaa
open Go Go.RowKit Go.Shelf
attribute [local go_sem] Oper.semAt_some
set_option maxRecDepth 100000

theorem piv_loop {g : Operand} {ps : Array Tmp} {assign body : Code} {Q : Exit → Act → World → Prop} {T : Array Value} {dd : List Deferred} {w : World} (n : Nat) (hn : 3 ≤ n) {ds es : List Nat} {x sx : Nat} {da ea : Option Addr} {dc ec Bt Bx : Nat} {R : World → Prop}
    (hA : PivR ds es x sx da ea dc ec Bt Bx R (ImpK R)) (hl : ds.length ≤ maxLen) (hl' : es.length ≤ maxLen) (hRw : R w) (hRs : ∀ A B, R A → StillC w.heap.size A B → R B)
    (hg : (Act.mk T dd).eval g = .func (.func 98) #[] #[.pointer (some ⟨Bt, 0, none⟩), .pointer (some ⟨Bx, 0, none⟩)]) (hps : ps.size = 2)
    (I : List (Nat × Nat) → World → Prop) (Ix : Code → List (Nat × Nat) → World → Prop)
    (hI : ∀ pre A, I pre A → w.heap.size ≤ A.heap.size) (hIs : ∀ pre A B, I pre A → StillC w.heap.size A B → I pre B)
    (hIx : ∀ c pre A, Ix c pre A → w.heap.size ≤ A.heap.size) (hIxs : ∀ c pre A B, Ix c pre A → StillC w.heap.size A B → Ix c pre B) (h0 : I [] w)
    (upd : Array Value → Nat × Nat → Array Value)
    (hassign : ∀ (l : Nat) (y : Nat × Nat) (W : World) (K : Act → World → Prop), K ⟨upd T y, []⟩ W →
      assign.wpIn (Fence.wide.inRound l) (n - 1 - 1) Try.prog (Exit.then K (fun _ _ _ => False)) { tmps := (ps.zip (pelV ds es x y)).foldl (fun t (p, v) => t.setIfInBounds p v) T, defers := [] } W)
    (hbody : ∀ (l : Nat) (pre : List (Nat × Nat)) (y : Nat × Nat) (W : World), I pre W → pre.length < ds.length →
      body.wpIn (Fence.wide.inRound l) (n - 1 - 1) Try.prog (ownPostG w.heap.size (ImpK R) I Ix (pre ++ [y]) W) ⟨upd T y, []⟩ W)
    (hdone : ∀ (D : Nat) (xs : List (Nat × Nat)) (W : World), w.heap.size ≤ D → (xs.map Prod.fst = if askS ds es [x] = 0 then List.range ds.length else []) → I xs W → W.heap[D]? = some (.deferred (some [])) → Q .normal ⟨T, { target := .collected D, args := #[] } :: dd⟩ W)
    (hstop : ∀ (D : Nat) (c : Code) (pre : List (Nat × Nat)) (W : World), w.heap.size ≤ D → (askS ds es [x] = 0 ∧ ∃ k, pre.map Prod.fst = List.range k) → Ix c pre W → W.heap[D]? = some (.deferred (some [])) → c.wpIn Fence.wide n Try.prog Q ⟨T, { target := .collected D, args := #[] } :: dd⟩ W) :
    (Code.rangeFunc g ps assign body).wpIn Fence.wide n Try.prog Q ⟨T, dd⟩ w :=
  wpIn_rangeFunc_ownG rfl (by omega) hg trivial (enters_of Try.func98 (by kernel_rfl) rfl)
    (Piv_stops (n - 1) (by omega) ds es x sx da ea dc ec Bt Bx R (ImpK R) hA hl hl' w hRw) (fun h k => h.t k) (fun W l o o' hl ho hc _ => fun hR => hRs _ _ hR (StillC.put hl ho hc)) (Below.refl _ _) (fun _ => by rw [hps]; rfl)
    I Ix (ownFrom_still hI hIs) (fun c => ownFrom_still (hIx c) (hIxs c)) h0 (fun y => ⟨upd T y, []⟩) hassign hbody hdone hstop

/-- All cells of W1 are as they were, but for one block. -/
structure CR (W1 : World) (nb : Nat) (W : World) : Prop where
  keep : ∀ (k : Nat) (o : Obj), W1.heap[k]? = some o → o.isCells = true → k ≠ nb → W.heap[k]? = some o
  size : W1.heap.size ≤ W.heap.size
section
variable {W1 A B : World} {nb : Nat}
theorem CR.refl : CR W1 nb W1 := ⟨fun _ _ h _ _ => h, Nat.le_refl _⟩
theorem CR.below (h : CR W1 nb A) (hb : Below A.heap.size A B) : CR W1 nb B := ⟨fun k o h1 h2 h3 => by have := h.keep k o h1 h2 h3; rw [hb.block k (Array.getElem?_eq_some_iff.1 this).1]; exact this, Nat.le_trans h.size hb.size⟩
theorem CR.still {b : Nat} (h : CR W1 nb A) (hs : StillC b A B) : CR W1 nb B := ⟨fun k o h1 h2 h3 => hs.2 k o (h.keep k o h1 h2 h3) h2, Nat.le_trans h.size hs.1.size⟩
theorem CR.bel (h : CR W1 nb A) (hb : Bel A.heap.size nb A B) : CR W1 nb B := ⟨fun k o h1 h2 h3 => by have := h.keep k o h1 h2 h3; rw [hb.block k (Array.getElem?_eq_some_iff.1 this).1 h3]; exact this, Nat.le_trans h.size hb.size⟩
theorem CR.box (h : CR W1 nb A) {n : Nat} {cs : List Value} (hb : Box W1 n cs) (hn : n ≠ nb) : Box A n cs := by
  obtain ⟨T, hT⟩ := hb
  exact ⟨T, h.keep _ _ hT rfl hn⟩
theorem CR.cell (h : CR W1 nb A) {b o : Nat} {v : Value} (hc : W1.cell? ⟨b, o, none⟩ = some v) (hn : b ≠ nb) : A.cell? ⟨b, o, none⟩ = some v := by
  unfold World.cell? at hc ⊢
  cases ho : W1.heap[b]? with
  | none => rw [show W1.heap[(⟨b, o, none⟩ : Addr).block]? = W1.heap[b]? from rfl, ho] at hc; cases hc
  | some ob =>
    rw [show W1.heap[(⟨b, o, none⟩ : Addr).block]? = W1.heap[b]? from rfl, ho] at hc
    cases ob with
    | cells cs t fz =>
      rw [show A.heap[(⟨b, o, none⟩ : Addr).block]? = A.heap[b]? from rfl, h.keep b _ ho rfl hn]
      exact hc
    | _ => cases hc
theorem CR.fls (h : CR W1 nb A) {da : Option Addr} {ds : List Nat} (hf : Fls W1 da ds) (hn : ds ≠ [] → ∀ b o, da = some ⟨b, o, none⟩ → b ≠ nb) : Fls A da ds := fun hz => by
  obtain ⟨b, o, e, hb, hc⟩ := hf hz
  refine ⟨b, o, e, Nat.lt_of_lt_of_le hb h.size, fun i v hi => ?_⟩
  obtain ⟨s, h1⟩ := hc i v hi
  exact ⟨s, h.cell h1 (hn hz b o e)⟩
end
end Go.Proofs.Ytogkmddhgfenkaa
