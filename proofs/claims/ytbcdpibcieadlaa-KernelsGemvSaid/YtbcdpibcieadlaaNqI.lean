/- Regions that draw their order, within a round of a range over a function. No condition. -/
import Derived.Test.YtbcdpibcieadlaaWk
import Derived.RangeFuncNested
import Derived.RangeFuncCalls
import Derived.OrdersIn
import Derived.TacticsIn
import Derived.StillTail
namespace Go.Proofs.Ytbcdpibcieadlaa
open Go Go.RowKit
section
variable {P : Program} {md : Region.Mode} {ops : Array Oper} {C : World → Prop} {F : FuncId → Array Value → Value → Prop} {l0 nf : Nat}

def noDefer (l : List Oper) : Bool := l.all fun o => match o.op with | .defer _ => false | _ => true
theorem noDefer_at {l : List Oper} (h : noDefer l = true) {i : Nat} {o : Oper} (ho : l.toArray[i]? = some o) : ∀ c, o.op ≠ .defer c := by
  intro c hc
  unfold noDefer at h
  rw [List.all_eq_true] at h
  have := h o (by have h2 : l[i]? = some o := by simpa using ho
                  exact List.mem_of_getElem? h2)
  rw [hc] at this
  cases this
theorem wide_fn (l0 : Nat) (f : FuncId) : (Fence.wide.inRound l0).fn f := trivial
theorem wide_depth (l0 : Nat) : (Fence.wide.inRound l0).depth.isSome = true → 1 ≤ nf := fun h => by cases h

theorem wpOpIn_of_nqOp {i : Nat} {a : Act} {K : Act → Prop} {K' : Act → World → Prop} {Q' : Exit → Act → World → Prop} {w : World} (hd : ∀ (i : Nat) (o : Oper) c, ops[i]? = some o → o.op ≠ .defer c) (hw : C w) (h : ∀ a w', C w' → K a → K' a w') (hh : nqOp P ops C F i K a) : wpOpIn (Fence.wide.inRound l0) nf P ops Q' i K' a w := by
  unfold nqOp at hh
  unfold wpOpIn
  split
  · rename_i ho; simp only [ho] at hh; exact h _ _ hw hh
  · rename_i o ho
    simp only [ho] at hh
    split
    · rename_i hwt; simp only [hwt, if_true] at hh
      unfold nq at hh
      have hh := hh w hw
      refine ⟨fun f _ => wide_fn l0 f, ?_⟩
      have hs : o.semAt (Fence.wide.inRound l0).round a.eval = execOp a.eval o := Oper.semAt_some _ _ _ (fun c => hd i o c ho)
      rw [hs]
      generalize (execOp a.eval o).run P w = r at *
      cases r with
      | ok n w' =>
        cases n <;> simp only [nqUpon] at hh <;> simp only [Oper.uponIn]
        case value u => exact h _ _ hh.1 hh.2
        case skip => exact h _ _ hh.1 hh.2
        case enter f args =>
          refine ⟨wide_depth l0, CallsIn.inRound l0 (callsIn_wide.2 ((hh.2.1 _ hh.1).mono fun e w'' ⟨v, he, hv, hc⟩ => ?_))⟩
          subst he; exact h _ _ hc (hh.2.2 v hv)
      | halt x w' => simp only [nqUpon] at hh
    · rename_i hwt; simp only [hwt] at hh; exact ⟨fun f _ => wide_fn l0 f, h _ _ hw hh⟩

theorem wpAnyIn_of_nqAny {n g : Nat} {L : Array Bool → Act → Prop} {Q' : Exit → Act → World → Prop} (hd : ∀ (i : Nat) (o : Oper) c, ops[i]? = some o → o.op ≠ .defer c) (hL : ∀ listed a w, C w → L listed a → wpAnyIn (Fence.wide.inRound l0) nf P md ops Q' g listed a w) :
    ∀ (f : Nat) (listed : Array Bool) (a : Act) (w : World), C w → nqAny P md ops C F n L f listed a → wpAnyIn (Fence.wide.inRound l0) nf P md ops Q' (f + g) listed a w
  | 0, listed, a, w, hw, h => by rw [Nat.zero_add]; exact hL _ _ _ hw h
  | f + 1, listed, a, w, hw, h => by
    rw [show f + 1 + g = (f + g) + 1 by omega]
    exact ⟨fun h0 => absurd h0 h.1, fun i hi => wpOpIn_of_nqOp hd hw (fun a' w' hw' h' => wpAnyIn_of_nqAny hd hL f _ a' w' hw' h') (h.2 i hi).2⟩

theorem wpAnyIn_of_seq {FF : Fence} {Q' : Exit → Act → World → Prop} : ∀ (l : List Oper) (k : Nat) (listed : Array Bool) (a : Act) (w : World), (∀ j, l[j]? = ops[k + j]?) →
    Region.seqB md ops l.length k listed = true → wpListIn FF nf P ops Q' l a w → wpAnyIn FF nf P md ops Q' l.length listed a w
  | [], _, _, _, _, _, hB, h => ⟨by simpa [Region.seqB] using hB, h⟩
  | o :: l, k, listed, a, w, hl, hB, h => by
    have h0 : ops[k]? = some o := by simpa using (hl 0).symm
    simp only [List.length_cons, Region.seqB, Bool.and_eq_true, decide_eq_true_eq] at hB
    refine ⟨fun h1 => (by rw [hB.1] at h1; cases h1), fun i hi => ?_⟩
    rw [hB.1] at hi
    have hik : i = k := by simpa using hi
    subst hik
    have hw : wpOpIn FF nf P ops Q' i (wpListIn FF nf P ops Q' l) a w := by unfold wpOpIn; simp only [h0]; exact h
    exact wpOpIn_mono (fun a' w' h' => wpAnyIn_of_seq l (i + 1) _ a' w' (fun j => by have := hl (j + 1); simpa [Nat.add_assoc, Nat.add_comm 1 j] using this) hB.2 h') hw

theorem wpIn_region_nq {id : Nat} {Q : Exit → Act → World → Prop} {a : Act} {w : World} {l : List Oper} (n : Nat) (F : FuncId → Array Value → Value → Prop) (C : World → Prop)
    (hm : P.follows .mixedOrders = true) (hB : (nqB l n && noDefer l) = true) (hC : C { w with drawn := w.drawn + 1 })
    (h : nqW P l.toArray C F (fun a' => ∀ w', C w' → wpListIn (Fence.wide.inRound l0) nf P l.toArray Q (l.drop n) a' w') (l.take n) a) : (Code.region id l.toArray true).wpIn (Fence.wide.inRound l0) nf P Q a w := by
  rw [Bool.and_eq_true] at hB
  have hd : ∀ (i : Nat) (o : Oper) c, l.toArray[i]? = some o → o.op ≠ .defer c := fun i o c ho => noDefer_at hB.2 ho c
  have hB := hB.1
  simp only [nqB, Bool.and_eq_true, Bool.or_eq_true, decide_eq_true_eq] at hB
  obtain ⟨⟨⟨hsel, hsc⟩, hn⟩, hlex⟩ := hB
  have htl : (l.take n).length = n := by simp; omega
  have hdl : (l.drop n).length = l.toArray.size - n := by simp
  have inv0 : HeadInv .any l.toArray n (Array.replicate l.toArray.size false) :=
    ⟨by simp, fun j oj _ hl => (by rw [getD_replicate_false] at hl; cases hl), fun t _ ht => getD_in (by simpa using ht) (getD_replicate_false _ _)⟩
  have hs : Region.sinkB .any l.toArray n = true ∨ l.toArray.size ≤ n := hsc.elim (fun h => .inr h) (fun h => .inl h.1)
  have hc : Region.chainB .any l.toArray n = true ∨ l.toArray.size ≤ n := hsc.elim (fun h => .inr h) (fun h => .inl h.2)
  have H := nqAny_lex (md := .any) (g := l.toArray.size - n) ⟨_, hC⟩ hsel hs hc (l.take n) 0 _ a (fun j hj => by
    have hj' : j < n := by rw [htl] at hj; exact hj
    simp [hj']) (by simpa using htl) inv0 (by rw [htl]; exact hlex) h
  refine wpIn_region_any hm ?_
  have := wpAnyIn_of_nqAny (l0 := l0) (nf := nf) (Q' := Q) (g := l.toArray.size - n) hd (fun listed a' w' hw' hL => by
    have := wpAnyIn_of_seq (FF := Fence.wide.inRound l0) (nf := nf) (md := .any) (Q' := Q) (l.drop n) n listed a' w' (fun j => by simp [List.getElem?_drop]) (by rw [hdl]; exact hL.1) (hL.2 w' hw')
    rwa [hdl] at this) _ _ _ _ hC H
  rw [htl, show n + (l.toArray.size - n) = l.toArray.size by simp; omega] at this
  exact this

/-- The region that draws, in the class of the worlds that have all that was there. -/
theorem wpIn_region_nqb {id : Nat} {Q : Exit → Act → World → Prop} {a : Act} {w : World} {l : List Oper} (n : Nat) (F : FuncId → Array Value → Value → Prop)
    (hm : P.follows .mixedOrders = true) (hB : (nqB l n && noDefer l) = true)
    (h : ∀ (C : World → Prop) (R : Act → Prop), (∀ w', Cls C w' → ∀ b o, b < w.heap.size → w'.cell? ⟨b, o, none⟩ = w.cell? ⟨b, o, none⟩) → (∀ w', Cls C w' → Below w.heap.size w w') →
      (∀ w' w'', Cls C w' → Below w'.heap.size w' w'' → Cls C w'') → (∀ w' n, Cls C w' → Cls C (w'.drewN n)) →
      (∀ a', (∀ w', Below w.heap.size w w' → wpListIn (Fence.wide.inRound l0) nf P l.toArray Q (l.drop n) a' w') → R a') → nqW P l.toArray (Cls C) F R (l.take n) a) : (Code.region id l.toArray true).wpIn (Fence.wide.inRound l0) nf P Q a w :=
  wpIn_region_nq n F (Below w.heap.size w) hm hB (below_drewN 1 (Below.refl _ _))
    (h (Below w.heap.size w) (fun a' => ∀ w', Below w.heap.size w w' → wpListIn (Fence.wide.inRound l0) nf P l.toArray Q (l.drop n) a' w') (fun _ hw' => (below_cells hw').1) (fun _ h => h)
      (fun _ _ h1 h2 => h1.trans (h2.mono h1.size)) (fun _ n h => below_drewN n h) (fun _ h => h))
end
end Go.Proofs.Ytbcdpibcieadlaa
