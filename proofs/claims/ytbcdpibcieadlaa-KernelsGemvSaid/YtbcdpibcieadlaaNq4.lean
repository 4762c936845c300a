/- Regions that draw their order: operations that yield the same in every world of a class are taken first, in an order told; then others, one by one, that may change the world within the class; then a tail in one order. Conditions: none of the region's own; the class is kept by the operations that are carried out ahead of the tail. -/
import Derived.OrdersHeld
import Derived.StillTail
import Derived.Tactics
import Derived.Deep.RegionHeld3
import Derived.Test.YtbcdpibcieadlaaWk
namespace Go.Proofs.Ytbcdpibcieadlaa
open Go Go.RowKit
section
variable {P : Program} {ops : Array Oper} {Q : Exit → Act → World → Prop} {md : Region.Mode} {S : World → Prop} {n : Nat} {L : Array Bool → Act → World → Prop}

def wpAnyS (P : Program) (md : Region.Mode) (ops : Array Oper) (Q : Exit → Act → World → Prop) (S : World → Prop) (n : Nat) (L : Array Bool → Act → World → Prop) : Nat → Array Bool → Act → World → Prop
  | 0, listed, a, w => L listed a w
  | f + 1, listed, a, w =>
    Region.ready md ops listed ≠ [] ∧ ∀ i ∈ Region.ready md ops listed, i < n ∧ wpOp P ops Q i (fun a' w' => S w' ∧ wpAnyS P md ops Q S n L f (listed.setIfInBounds i true) a' w') a w

theorem wpAny_of_S {g : Nat} (hL : ∀ listed a w, L listed a w → wpAny P md ops Q g listed a w) :
    ∀ (f : Nat) (listed : Array Bool) (a : Act) (w : World), wpAnyS P md ops Q S n L f listed a w → wpAny P md ops Q (f + g) listed a w
  | 0, listed, a, w, h => by rw [Nat.zero_add]; exact hL _ _ _ h
  | f + 1, listed, a, w, h => by
    rw [show f + 1 + g = (f + g) + 1 by omega]
    exact ⟨fun h0 => absurd h0 h.1, fun i hi => wpOp_mono (fun a' w' h' => wpAny_of_S hL f _ a' w' h'.2) (h.2 i hi).2⟩

theorem wpAnyS_first {i : Nat} {oi : Oper} {v : Value} (hi : ops[i]? = some oi) (hsel : ∀ (j : Nat) (o : Oper) cs b, ops[j]? = some o → o.op ≠ .select cs b)
    (hQ : ∀ c a w, Q (.panic c) (a.put oi.dst v) w → Q (.panic c) a w)
    (hs : Region.sinkB md ops n = true) (hc : Region.chainB md ops n = true) (hn : n < ops.size) (hin : i < n)
    (hdone : ∀ listed a w, L listed a w → ∀ j ∈ Region.ready md ops listed, n ≤ j) :
    ∀ (f : Nat) (listed : Array Bool) (a : Act) (w : World), HeadInv md ops n listed →
      (∀ j oj, ops[j]? = some oj → j ≠ i → listed.getD j true = false → (∀ e ∈ oj.after, Region.binds md e = true → e.on ≠ i) → oi.apart ops oj = true) →
      i ∈ Region.ready md ops listed → YieldsIf P ops S oi v a → S w →
      wpAnyS P md ops Q S n L f (listed.setIfInBounds i true) (a.put oi.dst v) w → wpAnyS P md ops Q S n L (f + 1) listed a w := by
  intro f
  induction f with
  | zero =>
    intro listed a w inv _ hr hy hS H
    have hun := (mem_ready.1 hr).1
    refine ⟨fun h => (by rw [h] at hr; cases hr), fun j hj => ?_⟩
    have hjn : j < n := by
      rcases Nat.lt_or_ge j n with h | h
      · exact h
      · exact absurd hj (tail_waits hs hc hn inv _ i rfl hin hun j h)
    refine ⟨hjn, ?_⟩
    by_cases hji : j = i
    · subst hji; exact hy.wpOp hi hS ⟨hS, H⟩
    · have := hdone _ _ _ H j (ready_mono hj hji)
      omega
  | succ f ih =>
    intro listed a w inv hfree hr hy hS H
    have hun := (mem_ready.1 hr).1
    refine ⟨fun h => (by rw [h] at hr; cases hr), fun j hj => ?_⟩
    have hjn : j < n := by
      rcases Nat.lt_or_ge j n with h | h
      · exact h
      · exact absurd hj (tail_waits hs hc hn inv _ i rfl hin hun j h)
    refine ⟨hjn, ?_⟩
    by_cases hji : j = i
    · subst hji; exact hy.wpOp hi hS ⟨hS, H⟩
    · have h1 := (H.2 j (ready_mono hj hji)).2
      obtain ⟨hjun, oj, hoj, hall⟩ := mem_ready.1 hj
      have hnot : ∀ e ∈ oj.after, Region.binds md e = true → e.on ≠ i := fun e he hb heq => by
        have h1 := hall e he hb
        rw [heq, getD_both hun] at h1
        cases h1
      have h2 := wpOp_putIf hoj (hfree j oj hoj hji hjun hnot) (fun cs b => hsel i oi cs b hi) (fun cs b => hsel j oj cs b hoj) hQ hy h1
      have hfree' : ∀ k ok, ops[k]? = some ok → k ≠ i → (listed.setIfInBounds j true).getD k true = false →
          (∀ e ∈ ok.after, Region.binds md e = true → e.on ≠ i) → oi.apart ops ok = true := fun k ok hk hki hun hno => by
        refine hfree k ok hk hki ?_ hno
        by_cases hjk : j = k
        · subst hjk; exact hjun
        · rw [getD_set_ne true hjk] at hun; exact hun
      refine wpOp_mono (fun a' w' h3 => ⟨h3.2.1, ih (listed.setIfInBounds j true) a' w' (inv.set hj hjn) hfree' (ready_mono hr (Ne.symm hji)) h3.1 h3.2.1 ?_⟩) h2
      rw [Array.setIfInBounds_comm _ _ hji]
      exact h3.2.2

/-- The operations taken first; those that follow one by one; the tail. -/
def midB (md : Region.Mode) (ops : Array Oper) (n : Nat) : List Nat → Array Bool → Bool
  | [], listed => Region.seqB md ops (ops.size - n) n listed
  | m :: ms, listed => decide (Region.ready md ops listed = [m]) && decide (m < n) && midB md ops n ms (listed.setIfInBounds m true)
def headB (md : Region.Mode) (ops : Array Oper) (n : Nat) (ms : List Nat) : List Nat → Array Bool → Bool
  | [], listed => midB md ops n ms listed
  | p :: ps, listed => (Region.ready md ops listed).contains p && Region.free md ops listed p && decide (p < n) && headB md ops n ms ps (listed.setIfInBounds p true)

def pW (P : Program) (ops : Array Oper) (S : World → Prop) (K : Act → Prop) : List Nat → Act → Prop
  | [], a => K a
  | i :: l, a => ∃ o, ops.toList[i]? = some o ∧ ∃ v, YieldsIf P ops S o v a ∧ pW P ops S K l (a.put o.dst v)
def mW (P : Program) (ops : Array Oper) (Q : Exit → Act → World → Prop) (S : World → Prop) (K : Act → World → Prop) : List Nat → Act → World → Prop
  | [], a, w => K a w
  | i :: l, a, w => ∃ o, ops.toList[i]? = some o ∧ Region.wanted o (yielded ops a.tmps) = true ∧ Oper.wp P o a w (fun a' w' => S w' ∧ mW P ops Q S K l a' w') Q

theorem pW_take {K : Act → Prop} {i : Nat} {l : List Nat} {a : Act} {o : Oper} {v : Value} (ho : ops.toList[i]? = some o) (hw : Region.wanted o (yielded ops a.tmps) = true) (hv : ∀ w, S w → (execOp a.eval o).run P w = .ok (.value v) w)
    (h : pW P ops S K l (a.put o.dst v)) : pW P ops S K (i :: l) a := ⟨o, ho, v, .inl ⟨hw, hv⟩, h⟩
theorem pW_skip {K : Act → Prop} {i : Nat} {l : List Nat} {a : Act} {o : Oper} (ho : ops.toList[i]? = some o) (hw : Region.wanted o (yielded ops a.tmps) = false) (h : pW P ops S K l (a.put o.dst undef)) : pW P ops S K (i :: l) a := ⟨o, ho, undef, .inr ⟨hw, rfl⟩, h⟩
theorem pW_nil {K : Act → Prop} {a : Act} (h : K a) : pW P ops S K [] a := h
theorem mW_take {K : Act → World → Prop} {i : Nat} {l : List Nat} {a : Act} {w : World} {o : Oper} (ho : ops.toList[i]? = some o) (hg : Region.wanted o (yielded ops a.tmps) = true) (h : Oper.wp P o a w (fun a' w' => S w' ∧ mW P ops Q S K l a' w') Q) : mW P ops Q S K (i :: l) a w := ⟨o, ho, hg, h⟩
theorem mW_nil {K : Act → World → Prop} {a : Act} {w : World} (h : K a w) : mW P ops Q S K [] a w := h
theorem wpAnyS_mid {K : Act → World → Prop} : ∀ (ms : List Nat) (listed : Array Bool) (a : Act) (w : World), midB md ops n ms listed = true →
    mW P ops Q S K ms a w → wpAnyS P md ops Q S n (fun listed a w => Region.seqB md ops (ops.size - n) n listed = true ∧ K a w) ms.length listed a w
  | [], listed, a, w, hB, h => ⟨by simpa only [midB] using hB, h⟩
  | m :: ms, listed, a, w, hB, h => by
    simp only [midB, Bool.and_eq_true, decide_eq_true_eq] at hB
    obtain ⟨⟨hr, hmn⟩, hB⟩ := hB
    obtain ⟨o, ho', hg, hw⟩ := h
    have ho : ops[m]? = some o := by simpa using ho'
    refine ⟨by rw [hr]; simp, fun i hi => ?_⟩
    rw [hr] at hi
    obtain rfl : i = m := by simpa using hi
    refine ⟨hmn, ?_⟩
    unfold wpOp
    simp only [ho]
    rw [if_pos hg]
    exact .inl (Oper.wp_mono (fun a' w' h' => ⟨h'.1, wpAnyS_mid ms _ a' w' hB h'.2⟩) hw)

theorem wpAnyS_walk {K : Act → World → Prop} {w : World} (hsel : Region.noSelect ops = true) (hQ : ∀ c a d v w, Q (.panic c) (Act.put a d v) w → Q (.panic c) a w)
    (hs : Region.sinkB md ops n = true) (hc : Region.chainB md ops n = true) (hn : n < ops.size) (hS : S w) (ms : List Nat) :
    ∀ (ps : List Nat) (listed : Array Bool) (a : Act), HeadInv md ops n listed → headB md ops n ms ps listed = true →
    pW P ops S (fun a' => mW P ops Q S K ms a' w) ps a → wpAnyS P md ops Q S n (fun listed a w => Region.seqB md ops (ops.size - n) n listed = true ∧ K a w) (ps.length + ms.length) listed a w
  | [], listed, a, inv, hB, h => by
    rw [List.length_nil, Nat.zero_add]
    exact wpAnyS_mid ms listed a w hB h
  | p :: ps, listed, a, inv, hB, h => by
    simp only [headB, Bool.and_eq_true, decide_eq_true_eq] at hB
    obtain ⟨⟨⟨hr, hf⟩, hpn⟩, hB⟩ := hB
    obtain ⟨o, ho', v, hy, hK⟩ := h
    have ho : ops[p]? = some o := by simpa using ho'
    have hr' : p ∈ Region.ready md ops listed := by simpa using hr
    rw [show (p :: ps).length + ms.length = (ps.length + ms.length) + 1 by simp; omega]
    exact wpAnyS_first ho (Region.noSelect_spec hsel) (fun c a w => hQ c a _ _ w) hs hc hn hpn (fun listed' a' w' hL => seqB_ready hL.1) _ listed a w inv (Region.free_spec ho hf) hr' hy hS
      (wpAnyS_walk hsel hQ hs hc hn hS ms ps _ _ (inv.set hr' hpn) hB hK)

def firstB (l : List Oper) (n : Nat) (ps ms : List Nat) : Bool :=
  Region.noSelect l.toArray && decide (n < l.toArray.size) && decide (n = ps.length + ms.length) && Region.sinkB .any l.toArray n && Region.chainB .any l.toArray n && headB .any l.toArray n ms ps (Array.replicate l.toArray.size false)

theorem wp_region_first0 {id : Nat} {a : Act} {w : World} {l : List Oper} (n : Nat) (ps ms : List Nat) (S : World → Prop) (hm : P.follows .mixedOrders = true) (hB : firstB l n ps ms = true)
    (hQ : ∀ c a d v w, Q (.panic c) (Act.put a d v) w → Q (.panic c) a w) (hS : S w.drew)
    (h : pW P l.toArray S (fun a' => mW P l.toArray Q S (fun a'' w'' => wpList P l.toArray Q (l.drop n) a'' w'') ms a' w.drew) ps a) : (Code.region id l.toArray true).wp P Q a w := by
  simp only [firstB, Bool.and_eq_true, decide_eq_true_eq] at hB
  obtain ⟨⟨⟨⟨⟨hsel, hn⟩, hlen⟩, hs⟩, hc⟩, hH⟩ := hB
  refine wp_region_any hm ?_
  have hsz : l.toArray.size = (ps.length + ms.length) + (l.toArray.size - n) := by omega
  have inv : HeadInv .any l.toArray n (Array.replicate l.toArray.size false) :=
    ⟨by simp, fun j oj _ hl => (by rw [getD_replicate_false] at hl; cases hl), fun t _ ht => getD_in (by rw [Array.size_replicate]; exact ht) (getD_replicate_false _ _)⟩
  have hW := wpAnyS_walk hsel hQ hs hc hn hS ms ps _ a inv hH h
  refine (congrArg (fun k => wpAny P .any l.toArray Q k (Array.replicate l.toArray.size false) a w.drew) hsz).mpr ?_
  refine wpAny_of_S (fun listed a w hL => ?_) _ _ _ _ hW
  have hd : (l.drop n).length = l.toArray.size - n := by simp
  have := wpAny_of_seq (Q' := Q) (l.drop n) n listed a w (fun j => by simp) (by rw [hd]; exact hL.1) hL.2
  rw [hd] at this
  exact this
/-- **THE REGION.** -/
theorem wp_region_first {id : Nat} {a : Act} {w : World} {l : List Oper} (n : Nat) (ps ms : List Nat) (S : World → Prop) (hm : P.follows .mixedOrders = true) (hB : firstB l n ps ms = true) (hS : S w.drew)
    (h : pW P l.toArray S (fun a' => mW P l.toArray (NoPanic Q) S (fun a'' w'' => wpList P l.toArray (NoPanic Q) (l.drop n) a'' w'') ms a' w.drew) ps a) : (Code.region id l.toArray true).wp P Q a w :=
  wp_region_noPanic (wp_region_first0 n ps ms S hm hB (fun _ _ _ _ _ h => h) hS h)
end
end Go.Proofs.Ytbcdpibcieadlaa
