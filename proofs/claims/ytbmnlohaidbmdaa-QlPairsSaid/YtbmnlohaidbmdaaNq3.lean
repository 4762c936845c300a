/- Drawn regions: what a call gives need not be told ahead: two contracts on one call speak of one end. No condition. -/
import Derived.Test.YtbmnlohaidbmdaaNq2
import Derived.Test.YtbmnlohaidbmdaaNqI
namespace Go.Proofs.Ytbmnlohaidbmdaa
open Go Go.RowKit
section
variable {P : Program} {C : World → Prop}
theorem calls_one {f : FuncId} {args : Array Value} {w : World} {R R' : World → Prop} {V V' : Value}
    (h : Calls P f args w fun e w' => e = .returned V ∧ R w') (h' : Calls P f args w fun e w' => e = .returned V' ∧ R' w') (hi : P.inits.idxOf? f = none) : V = V' := by
  obtain ⟨n, v, w1, e1, r1⟩ := (h.mono (R' := fun | .returned v, w' => v = V ∧ R w' | _, _ => False) (fun e w' ⟨he, q⟩ => by subst he; exact ⟨rfl, q⟩)).done hi
  obtain ⟨m, v', w2, e2, r2⟩ := (h'.mono (R' := fun | .returned v, w' => v = V' ∧ R' w' | _, _ => False) (fun e w' ⟨he, q⟩ => by subst he; exact ⟨rfl, q⟩)).done hi
  have a := runN_ended e1 m
  have b := runN_ended e2 n
  rw [Nat.add_comm, a] at b
  injection b with ho hw
  injection ho with hv
  rw [← r1.1, ← r2.1, hv]
/-- A value that every contract on the call tells. -/
def FD (P : Program) (C : World → Prop) (f : FuncId) (args : Array Value) (v : Value) : Prop :=
  ∀ V, (∀ w1, C w1 → Calls P f args w1 fun e w2 => e = .returned V ∧ C w2) → v = V
theorem fd_both {f : FuncId} {args : Array Value} {K : Value → Prop} {V : Value} (hi : P.inits.idxOf? f = none)
    (c : ∀ w1, C w1 → Calls P f args w1 fun e w2 => e = .returned V ∧ C w2) (hK : K V) :
    (∀ w1, C w1 → Calls P f args w1 (fun e w2 => ∃ v, e = .returned v ∧ FD P C f args v ∧ C w2)) ∧ ∀ v, FD P C f args v → K v :=
  ⟨fun w1 h1 => (c w1 h1).mono fun _ _ ⟨he, hc⟩ => ⟨V, he, fun _ c' => calls_one (c w1 h1) (c' w1 h1) hi, hc⟩, fun v hv => by rw [hv V c]; exact hK⟩
theorem wp_region_nqd {id : Nat} {Q : Exit → Act → World → Prop} {a : Act} {w : World} {l : List Oper} (n : Nat)
    (hm : P.follows .mixedOrders = true) (hB : nqB l n = true)
    (h : ∀ (C : World → Prop) (R : Act → Prop), (∀ w', Cls C w' → ∀ b o, b < w.heap.size → w'.cell? ⟨b, o, none⟩ = w.cell? ⟨b, o, none⟩) → (∀ w', Cls C w' → Below w.heap.size w w') →
      (∀ w' w'', Cls C w' → Below w'.heap.size w' w'' → Cls C w'') → (∀ w' n, Cls C w' → Cls C (w'.drewN n)) →
      (∀ a', (∀ w', Below w.heap.size w w' → wpList P l.toArray Q (l.drop n) a' w') → R a') → nqW P l.toArray (Cls C) (FD P (Cls C)) R (l.take n) a) : (Code.region id l.toArray true).wp P Q a w :=
  wp_region_nq n (FD P (Cls (Below w.heap.size w))) (Below w.heap.size w) hm hB (below_drewN 1 (Below.refl _ _))
    (h (Below w.heap.size w) (fun a' => ∀ w', Below w.heap.size w w' → wpList P l.toArray Q (l.drop n) a' w') (fun _ hw' => (below_cells hw').1) (fun _ h => h)
      (fun _ _ h1 h2 => h1.trans (h2.mono h1.size)) (fun _ n h => below_drewN n h) (fun _ h => h))
end
section
variable {P : Program} {l0 : Nat} {nf : Nat}
theorem wpIn_region_nqd {id : Nat} {Q : Exit → Act → World → Prop} {a : Act} {w : World} {l : List Oper} (n : Nat)
    (hm : P.follows .mixedOrders = true) (hB : (nqB l n && noDefer l) = true)
    (h : ∀ (C : World → Prop) (R : Act → Prop), (∀ w', Cls C w' → ∀ b o, b < w.heap.size → w'.cell? ⟨b, o, none⟩ = w.cell? ⟨b, o, none⟩) → (∀ w', Cls C w' → Below w.heap.size w w') →
      (∀ w' w'', Cls C w' → Below w'.heap.size w' w'' → Cls C w'') → (∀ w' n, Cls C w' → Cls C (w'.drewN n)) →
      (∀ a', (∀ w', Below w.heap.size w w' → wpListIn (Fence.wide.inRound l0) nf P l.toArray Q (l.drop n) a' w') → R a') → nqW P l.toArray (Cls C) (FD P (Cls C)) R (l.take n) a) : (Code.region id l.toArray true).wpIn (Fence.wide.inRound l0) nf P Q a w :=
  wpIn_region_nq n (FD P (Cls (Below w.heap.size w))) (Below w.heap.size w) hm hB (below_drewN 1 (Below.refl _ _))
    (h (Below w.heap.size w) (fun a' => ∀ w', Below w.heap.size w w' → wpListIn (Fence.wide.inRound l0) nf P l.toArray Q (l.drop n) a' w') (fun _ hw' => (below_cells hw').1) (fun _ h => h)
      (fun _ _ h1 h2 => h1.trans (h2.mono h1.size)) (fun _ n h => below_drewN n h) (fun _ h => h))
end
end Go.Proofs.Ytbmnlohaidbmdaa
