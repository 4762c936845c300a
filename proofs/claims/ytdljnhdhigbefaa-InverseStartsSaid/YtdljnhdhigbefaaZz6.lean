/- Regions that draw their order: operations that yield the same in every world of a class are taken first, in an order told; then others, one by one, that may change the world within the class; then a tail in one order. Conditions: none of the region's own; the class is kept by the operations that are carried out ahead of the tail. -/
import Derived.OrdersHeld
import Derived.StillTail
import Derived.Tactics
import Derived.Deep.RegionHeld3
import Derived.Test.YtdljnhdhigbefaaZz2
namespace Go.Proofs.Ytdljnhdhigbefaa
open Go Go.RowKit
section
variable {P : Program} {ops : Array Oper} {Q : Exit → Act → World → Prop} {md : Region.Mode} {S : World → Prop} {n : Nat} {L : Array Bool → Act → World → Prop}

def wpAnyS (P : Program) (md : Region.Mode) (ops : Array Oper) (Q : Exit → Act → World → Prop) (S : World → Prop) (n : Nat) (L : Array Bool → Act → World → Prop) : Nat → Array Bool → Act → World → Prop
  | 0, listed, a, w => L listed a w
  | f + 1, listed, a, w =>
    Region.ready md ops listed ≠ [] ∧ ∀ i ∈ Region.ready md ops listed, i < n ∧ wpOp P ops Q i (fun a' w' => S w' ∧ wpAnyS P md ops Q S n L f (listed.setIfInBounds i true) a' w') a w

theorem wpAny_of_S {g : Nat} (hL : ∀ listed a w, L listed a w → wpAny P md ops Q g listed a w) :
    ∀ (f : Nat) (listed : Array Bool) (a : Act) (w : World), wpAnyS P md ops Q S n L f listed a w → wpAny P md ops Q (f + g) listed a w
  | 0, listed, a, w, h => by rw [Nat.zero_add]; exact hL _ _ _ h
  | f + 1, listed, a, w, h => by
    rw [show f + 1 + g = (f + g) + 1 by omega]
    exact ⟨fun h0 => absurd h0 h.1, fun i hi => wpOp_mono (fun a' w' h' => wpAny_of_S hL f _ a' w' h'.2) (h.2 i hi).2⟩

theorem wpAnyS_first {i : Nat} {oi : Oper} {v : Value} (hi : ops[i]? = some oi) (hsel : ∀ (j : Nat) (o : Oper) cs b, ops[j]? = some o → o.op ≠ .select cs b)
    (hQ : ∀ c a w, Q (.panic c) (a.put oi.dst v) w → Q (.panic c) a w)
    (hs : Region.sinkB md ops n = true) (hc : Region.chainB md ops n = true) (hn : n < ops.size) (hin : i < n)
    (hdone : ∀ listed a w, L listed a w → ∀ j ∈ Region.ready md ops listed, n ≤ j) :
    ∀ (f : Nat) (listed : Array Bool) (a : Act) (w : World), HeadInv md ops n listed →
      (∀ j oj, ops[j]? = some oj → j ≠ i → listed.getD j true = false → (∀ e ∈ oj.after, Region.binds md e = true → e.on ≠ i) → oi.apart ops oj = true) →
      i ∈ Region.ready md ops listed → YieldsIf P ops S oi v a → S w →
      wpAnyS P md ops Q S n L f (listed.setIfInBounds i true) (a.put oi.dst v) w → wpAnyS P md ops Q S n L (f + 1) listed a w := by
  intro f
  induction f with
  | zero =>
    intro listed a w inv _ hr hy hS H
    have hun := (mem_ready.1 hr).1
    refine ⟨fun h => (by rw [h] at hr; cases hr), fun j hj => ?_⟩
    have hjn : j < n := by
      rcases Nat.lt_or_ge j n with h | h
      · exact h
      · exact absurd hj (tail_waits hs hc hn inv _ i rfl hin hun j h)
    refine ⟨hjn, ?_⟩
    by_cases hji : j = i
    · subst hji; exact hy.wpOp hi hS ⟨hS, H⟩
    · have := hdone _ _ _ H j (ready_mono hj hji)
      omega
  | succ f ih =>
    intro listed a w inv hfree hr hy hS H
    have hun := (mem_ready.1 hr).1
    refine ⟨fun h => (by rw [h] at hr; cases hr), fun j hj => ?_⟩
    have hjn : j < n := by
      rcases Nat.lt_or_ge j n with h | h
      · exact h
      · exact absurd hj (tail_waits hs hc hn inv _ i rfl hin hun j h)
    refine ⟨hjn, ?_⟩
    by_cases hji : j = i
    · subst hji; exact hy.wpOp hi hS ⟨hS, H⟩
    · have h1 := (H.2 j (ready_mono hj hji)).2
      obtain ⟨hjun, oj, hoj, hall⟩ := mem_ready.1 hj
      have hnot : ∀ e ∈ oj.after, Region.binds md e = true → e.on ≠ i := fun e he hb heq => by
        have h1 := hall e he hb
        rw [heq, getD_both hun] at h1
        cases h1
      have h2 := wpOp_putIf hoj (hfree j oj hoj hji hjun hnot) (fun cs b => hsel i oi cs b hi) (fun cs b => hsel j oj cs b hoj) hQ hy h1
      have hfree' : ∀ k ok, ops[k]? = some ok → k ≠ i → (listed.setIfInBounds j true).getD k true = false →
          (∀ e ∈ ok.after, Region.binds md e = true → e.on ≠ i) → oi.apart ops ok = true := fun k ok hk hki hun hno => by
        refine hfree k ok hk hki ?_ hno
        by_cases hjk : j = k
        · subst hjk; exact hjun
        · rw [getD_set_ne true hjk] at hun; exact hun
      refine wpOp_mono (fun a' w' h3 => ⟨h3.2.1, ih (listed.setIfInBounds j true) a' w' (inv.set hj hjn) hfree' (ready_mono hr (Ne.symm hji)) h3.1 h3.2.1 ?_⟩) h2
      rw [Array.setIfInBounds_comm _ _ hji]
      exact h3.2.2

/-- The operations taken first; those that follow one by one; the tail. -/
def midB (md : Region.Mode) (ops : Array Oper) (n : Nat) : List Nat → Array Bool → Bool
  | [], listed => Region.seqB md ops (ops.size - n) n listed
  | m :: ms, listed => decide (Region.ready md ops listed = [m]) && decide (m < n) && midB md ops n ms (listed.setIfInBounds m true)
def headB (md : Region.Mode) (ops : Array Oper) (n : Nat) (ms : List Nat) : List Nat → Array Bool → Bool
  | [], listed => midB md ops n ms listed
  | p :: ps, listed => (Region.ready md ops listed).contains p && Region.free md ops listed p && decide (p < n) && headB md ops n ms ps (listed.setIfInBounds p true)

def pW (P : Program) (ops : Array Oper) (S : World → Prop) (K : Act → Prop) : List Nat → Act → Prop
  | [], a => K a
  | i :: l, a => ∃ o, ops.toList[i]? = some o ∧ ∃ v, YieldsIf P ops S o v a ∧ pW P ops S K l (a.put o.dst v)
def mW (P : Program) (ops : Array Oper) (Q : Exit → Act → World → Prop) (S : World → Prop) (K : Act → World → Prop) : List Nat → Act → World → Prop
  | [], a, w => K a w
  | i :: l, a, w => ∃ o, ops.toList[i]? = some o ∧ Region.wanted o (yielded ops a.tmps) = true ∧ Oper.wp P o a w (fun a' w' => S w' ∧ mW P ops Q S K l a' w') Q

theorem pW_take {K : Act → Prop} {i : Nat} {l : List Nat} {a : Act} {o : Oper} {v : Value} (ho : ops.toList[i]? = some o) (hw : Region.wanted o (yielded ops a.tmps) = true) (hv : ∀ w, S w → (execOp a.eval o).run P w = .ok (.value v) w)
    (h : pW P ops S K l (a.put o.dst v)) : pW P ops S K (i :: l) a := ⟨o, ho, v, .inl ⟨hw, hv⟩, h⟩
theorem pW_skip {K : Act → Prop} {i : Nat} {l : List Nat} {a : Act} {o : Oper} (ho : ops.toList[i]? = some o) (hw : Region.wanted o (yielded ops a.tmps) = false) (h : pW P ops S K l (a.put o.dst undef)) : pW P ops S K (i :: l) a := ⟨o, ho, undef, .inr ⟨hw, rfl⟩, h⟩
theorem pW_nil {K : Act → Prop} {a : Act} (h : K a) : pW P ops S K [] a := h
theorem mW_take {K : Act → World → Prop} {i : Nat} {l : List Nat} {a : Act} {w : World} {o : Oper} (ho : ops.toList[i]? = some o) (hg : Region.wanted o (yielded ops a.tmps) = true) (h : Oper.wp P o a w (fun a' w' => S w' ∧ mW P ops Q S K l a' w') Q) : mW P ops Q S K (i :: l) a w := ⟨o, ho, hg, h⟩
theorem mW_nil {K : Act → World → Prop} {a : Act} {w : World} (h : K a w) : mW P ops Q S K [] a w := h
theorem wpAnyS_mid {K : Act → World → Prop} : ∀ (ms : List Nat) (listed : Array Bool) (a : Act) (w : World), midB md ops n ms listed = true →
    mW P ops Q S K ms a w → wpAnyS P md ops Q S n (fun listed a w => Region.seqB md ops (ops.size - n) n listed = true ∧ K a w) ms.length listed a w
  | [], listed, a, w, hB, h => ⟨by simpa only [midB] using hB, h⟩
  | m :: ms, listed, a, w, hB, h => by
    simp only [midB, Bool.and_eq_true, decide_eq_true_eq] at hB
    obtain ⟨⟨hr, hmn⟩, hB⟩ := hB
    obtain ⟨o, ho', hg, hw⟩ := h
    have ho : ops[m]? = some o := by simpa using ho'
    refine ⟨by rw [hr]; simp, fun i hi => ?_⟩
    rw [hr] at hi
    obtain rfl : i = m := by simpa using hi
    refine ⟨hmn, ?_⟩
    unfold wpOp
    simp only [ho]
    rw [if_pos hg]
    exact .inl (Oper.wp_mono (fun a' w' h' => ⟨h'.1, wpAnyS_mid ms _ a' w' hB h'.2⟩) hw)

theorem wpAnyS_walk {K : Act → World → Prop} {w : World} (hsel : Region.noSelect ops = true) (hQ : ∀ c a d v w, Q (.panic c) (Act.put a d v) w → Q (.panic c) a w)
    (hs : Region.sinkB md ops n = true) (hc : Region.chainB md ops n = true) (hn : n < ops.size) (hS : S w) (ms : List Nat) :
    ∀ (ps : List Nat) (listed : Array Bool) (a : Act), HeadInv md ops n listed → headB md ops n ms ps listed = true →
    pW P ops S (fun a' => mW P ops Q S K ms a' w) ps a → wpAnyS P md ops Q S n (fun listed a w => Region.seqB md ops (ops.size - n) n listed = true ∧ K a w) (ps.length + ms.length) listed a w
  | [], listed, a, inv, hB, h => by
    rw [List.length_nil, Nat.zero_add]
    exact wpAnyS_mid ms listed a w hB h
  | p :: ps, listed, a, inv, hB, h => by
    simp only [headB, Bool.and_eq_true, decide_eq_true_eq] at hB
    obtain ⟨⟨⟨hr, hf⟩, hpn⟩, hB⟩ := hB
    obtain ⟨o, ho', v, hy, hK⟩ := h
    have ho : ops[p]? = some o := by simpa using ho'
    have hr' : p ∈ Region.ready md ops listed := by simpa using hr
    rw [show (p :: ps).length + ms.length = (ps.length + ms.length) + 1 by simp; omega]
    exact wpAnyS_first ho (Region.noSelect_spec hsel) (fun c a w => hQ c a _ _ w) hs hc hn hpn (fun listed' a' w' hL => seqB_ready hL.1) _ listed a w inv (Region.free_spec ho hf) hr' hy hS
      (wpAnyS_walk hsel hQ hs hc hn hS ms ps _ _ (inv.set hr' hpn) hB hK)

def firstB (l : List Oper) (n : Nat) (ps ms : List Nat) : Bool :=
  Region.noSelect l.toArray && decide (n < l.toArray.size) && decide (n = ps.length + ms.length) && Region.sinkB .any l.toArray n && Region.chainB .any l.toArray n && headB .any l.toArray n ms ps (Array.replicate l.toArray.size false)

theorem wp_region_first0 {id : Nat} {a : Act} {w : World} {l : List Oper} (n : Nat) (ps ms : List Nat) (S : World → Prop) (hm : P.follows .mixedOrders = true) (hB : firstB l n ps ms = true)
    (hQ : ∀ c a d v w, Q (.panic c) (Act.put a d v) w → Q (.panic c) a w) (hS : S w.drew)
    (h : pW P l.toArray S (fun a' => mW P l.toArray Q S (fun a'' w'' => wpList P l.toArray Q (l.drop n) a'' w'') ms a' w.drew) ps a) : (Code.region id l.toArray true).wp P Q a w := by
  simp only [firstB, Bool.and_eq_true, decide_eq_true_eq] at hB
  obtain ⟨⟨⟨⟨⟨hsel, hn⟩, hlen⟩, hs⟩, hc⟩, hH⟩ := hB
  refine wp_region_any hm ?_
  have hsz : l.toArray.size = (ps.length + ms.length) + (l.toArray.size - n) := by omega
  have inv : HeadInv .any l.toArray n (Array.replicate l.toArray.size false) :=
    ⟨by simp, fun j oj _ hl => (by rw [getD_replicate_false] at hl; cases hl), fun t _ ht => getD_in (by rw [Array.size_replicate]; exact ht) (getD_replicate_false _ _)⟩
  have hW := wpAnyS_walk hsel hQ hs hc hn hS ms ps _ a inv hH h
  refine (congrArg (fun k => wpAny P .any l.toArray Q k (Array.replicate l.toArray.size false) a w.drew) hsz).mpr ?_
  refine wpAny_of_S (fun listed a w hL => ?_) _ _ _ _ hW
  have hd : (l.drop n).length = l.toArray.size - n := by simp
  have := wpAny_of_seq (Q' := Q) (l.drop n) n listed a w (fun j => by simp) (by rw [hd]; exact hL.1) hL.2
  rw [hd] at this
  exact this
/-- **THE REGION.** -/
theorem wp_region_first {id : Nat} {a : Act} {w : World} {l : List Oper} (n : Nat) (ps ms : List Nat) (S : World → Prop) (hm : P.follows .mixedOrders = true) (hB : firstB l n ps ms = true) (hS : S w.drew)
    (h : pW P l.toArray S (fun a' => mW P l.toArray (NoPanic Q) S (fun a'' w'' => wpList P l.toArray (NoPanic Q) (l.drop n) a'' w'') ms a' w.drew) ps a) : (Code.region id l.toArray true).wp P Q a w :=
  wp_region_noPanic (wp_region_first0 n ps ms S hm hB (fun _ _ _ _ _ h => h) hS h)
end
end Go.Proofs.Ytdljnhdhigbefaa

/- Regions that draw their order: operations taken first and operations carried out one by one, in turns. No condition. -/
namespace Go.Proofs.Ytdljnhdhigbefaa
open Go Go.RowKit
section
variable {P : Program} {ops : Array Oper} {Q : Exit → Act → World → Prop} {md : Region.Mode} {S : World → Prop} {n : Nat} {L : Array Bool → Act → World → Prop}
/-- true: taken first; false: the only one that may come. -/
def itemsB (md : Region.Mode) (ops : Array Oper) (n : Nat) : List (Bool × Nat) → Array Bool → Bool
  | [], listed => Region.seqB md ops (ops.size - n) n listed
  | (b, i) :: l, listed => (if b then (Region.ready md ops listed).contains i && Region.free md ops listed i else decide (Region.ready md ops listed = [i])) && decide (i < n) && itemsB md ops n l (listed.setIfInBounds i true)
def iW (P : Program) (ops : Array Oper) (Q : Exit → Act → World → Prop) (S : World → Prop) (K : Act → World → Prop) : List (Bool × Nat) → Act → World → Prop
  | [], a, w => K a w
  | (true, i) :: l, a, w => ∃ o, ops.toList[i]? = some o ∧ ∃ v, YieldsIf P ops S o v a ∧ iW P ops Q S K l (a.put o.dst v) w
  | (false, i) :: l, a, w => ∃ o, ops.toList[i]? = some o ∧ Region.wanted o (yielded ops a.tmps) = true ∧ Oper.wp P o a w (fun a' w' => S w' ∧ iW P ops Q S K l a' w') Q
theorem iW_take {K : Act → World → Prop} {i : Nat} {l : List (Bool × Nat)} {a : Act} {w : World} {o : Oper} {v : Value} (ho : ops.toList[i]? = some o) (hw : Region.wanted o (yielded ops a.tmps) = true) (hv : ∀ w, S w → (execOp a.eval o).run P w = .ok (.value v) w)
    (h : iW P ops Q S K l (a.put o.dst v) w) : iW P ops Q S K ((true, i) :: l) a w := ⟨o, ho, v, .inl ⟨hw, hv⟩, h⟩
theorem iW_skip {K : Act → World → Prop} {i : Nat} {l : List (Bool × Nat)} {a : Act} {w : World} {o : Oper} (ho : ops.toList[i]? = some o) (hw : Region.wanted o (yielded ops a.tmps) = false) (h : iW P ops Q S K l (a.put o.dst undef) w) : iW P ops Q S K ((true, i) :: l) a w := ⟨o, ho, undef, .inr ⟨hw, rfl⟩, h⟩
theorem iW_mid {K : Act → World → Prop} {i : Nat} {l : List (Bool × Nat)} {a : Act} {w : World} {o : Oper} (ho : ops.toList[i]? = some o) (hw : Region.wanted o (yielded ops a.tmps) = true) (h : Oper.wp P o a w (fun a' w' => S w' ∧ iW P ops Q S K l a' w') Q) : iW P ops Q S K ((false, i) :: l) a w := ⟨o, ho, hw, h⟩
theorem iW_nil {K : Act → World → Prop} {a : Act} {w : World} (h : K a w) : iW P ops Q S K [] a w := h

theorem wpAnyS_items {K : Act → World → Prop} (hsel : Region.noSelect ops = true) (hQ : ∀ c a d v w, Q (.panic c) (Act.put a d v) w → Q (.panic c) a w)
    (hs : Region.sinkB md ops n = true) (hc : Region.chainB md ops n = true) (hn : n < ops.size) :
    ∀ (l : List (Bool × Nat)) (listed : Array Bool) (a : Act) (w : World), HeadInv md ops n listed → itemsB md ops n l listed = true → S w →
    iW P ops Q S K l a w → wpAnyS P md ops Q S n (fun listed a w => Region.seqB md ops (ops.size - n) n listed = true ∧ K a w) l.length listed a w
  | [], listed, a, w, _, hB, _, h => ⟨by simpa only [itemsB] using hB, h⟩
  | (true, p) :: l, listed, a, w, inv, hB, hS, h => by
    simp only [itemsB, if_true, Bool.and_eq_true, decide_eq_true_eq] at hB
    obtain ⟨⟨⟨hr, hf⟩, hpn⟩, hB⟩ := hB
    obtain ⟨o, ho', v, hy, hK⟩ := h
    have ho : ops[p]? = some o := by simpa using ho'
    have hr' : p ∈ Region.ready md ops listed := by simpa using hr
    exact wpAnyS_first ho (Region.noSelect_spec hsel) (fun c a w => hQ c a _ _ w) hs hc hn hpn (fun listed' a' w' hL => seqB_ready hL.1) _ listed a w inv (Region.free_spec ho hf) hr' hy hS
      (wpAnyS_items hsel hQ hs hc hn l _ _ w (inv.set hr' hpn) hB hS hK)
  | (false, m) :: l, listed, a, w, inv, hB, hS, h => by
    simp only [itemsB, Bool.false_eq_true, if_false, Bool.and_eq_true, decide_eq_true_eq] at hB
    obtain ⟨⟨hr, hmn⟩, hB⟩ := hB
    obtain ⟨o, ho', hg, hw⟩ := h
    have ho : ops[m]? = some o := by simpa using ho'
    have hr' : m ∈ Region.ready md ops listed := by rw [hr]; simp
    refine ⟨by rw [hr]; simp, fun i hi => ?_⟩
    rw [hr] at hi
    obtain rfl : i = m := by simpa using hi
    refine ⟨hmn, ?_⟩
    unfold wpOp
    simp only [ho]
    rw [if_pos hg]
    exact .inl (Oper.wp_mono (fun a' w' h' => ⟨h'.1, wpAnyS_items hsel hQ hs hc hn l _ a' w' (inv.set hr' hmn) hB h'.1 h'.2⟩) hw)

def itemsR (l : List Oper) (n : Nat) (is : List (Bool × Nat)) : Bool :=
  Region.noSelect l.toArray && decide (n < l.toArray.size) && decide (n = is.length) && Region.sinkB .any l.toArray n && Region.chainB .any l.toArray n && itemsB .any l.toArray n is (Array.replicate l.toArray.size false)
/-- **THE REGION.** -/
theorem wp_region_items {id : Nat} {a : Act} {w : World} {l : List Oper} (n : Nat) (is : List (Bool × Nat)) (S : World → Prop) (hm : P.follows .mixedOrders = true) (hB : itemsR l n is = true) (hS : S w.drew)
    (h : iW P l.toArray (NoPanic Q) S (fun a'' w'' => wpList P l.toArray (NoPanic Q) (l.drop n) a'' w'') is a w.drew) : (Code.region id l.toArray true).wp P Q a w := by
  refine wp_region_noPanic ?_
  simp only [itemsR, Bool.and_eq_true, decide_eq_true_eq] at hB
  obtain ⟨⟨⟨⟨⟨hsel, hn⟩, hlen⟩, hs⟩, hc⟩, hH⟩ := hB
  refine wp_region_any hm ?_
  have hsz : l.toArray.size = is.length + (l.toArray.size - n) := by omega
  have inv : HeadInv .any l.toArray n (Array.replicate l.toArray.size false) :=
    ⟨by simp, fun j oj _ hl => (by rw [getD_replicate_false] at hl; cases hl), fun t _ ht => getD_in (by rw [Array.size_replicate]; exact ht) (getD_replicate_false _ _)⟩
  have hW := wpAnyS_items hsel (fun _ _ _ _ _ h => h) hs hc hn is _ a w.drew inv hH hS h
  refine (congrArg (fun k => wpAny P .any l.toArray (NoPanic Q) k (Array.replicate l.toArray.size false) a w.drew) hsz).mpr ?_
  refine wpAny_of_S (fun listed a w hL => ?_) _ _ _ _ hW
  have hd : (l.drop n).length = l.toArray.size - n := by simp
  have := wpAny_of_seq (Q' := NoPanic Q) (l.drop n) n listed a w (fun j => by simp) (by rw [hd]; exact hL.1) hL.2
  rw [hd] at this
  exact this
end
end Go.Proofs.Ytdljnhdhigbefaa

/- Regions that draw their order: as Nq6, with one operation that makes memory and may come at any time ahead of its place. No condition. -/
namespace Go.Proofs.Ytdljnhdhigbefaa
open Go Go.RowKit
section
variable {P : Program} {ops : Array Oper} {Q : Exit → Act → World → Prop} {md : Region.Mode} {S : World → Prop} {n : Nat} {L : Array Bool → Act → World → Prop}
/-- An operation is carried out. -/
def opW (P : Program) (ops : Array Oper) (Q : Exit → Act → World → Prop) (S : World → Prop) (m : Nat) (K : Act → World → Prop) (a : Act) (w : World) : Prop :=
  ∃ o, ops.toList[m]? = some o ∧ Region.wanted o (yielded ops a.tmps) = true ∧ Oper.wp P o a w (fun a' w' => S w' ∧ K a' w') Q
theorem opW_take {K : Act → World → Prop} {m : Nat} {a : Act} {w : World} {o : Oper} (ho : ops.toList[m]? = some o) (hg : Region.wanted o (yielded ops a.tmps) = true) (h : Oper.wp P o a w (fun a' w' => S w' ∧ K a' w') Q) : opW P ops Q S m K a w := ⟨o, ho, hg, h⟩
theorem opW_mono {K K' : Act → World → Prop} {m : Nat} {a : Act} {w : World} (hk : ∀ a w, S w → K a w → K' a w) (h : opW P ops Q S m K a w) : opW P ops Q S m K' a w := by
  obtain ⟨o, h1, h2, h3⟩ := h
  exact ⟨o, h1, h2, Oper.wp_mono (fun a w h => ⟨h.1, hk a w h.1 h.2⟩) h3⟩
/-- 0: taken first; 1: the only one that may come; 2: this one, or q; 3: q's place at the latest. true: q is still to come. -/
def flB (md : Region.Mode) (ops : Array Oper) (n q : Nat) : List (Nat × Nat) → Bool → Array Bool → Bool
  | [], pd, listed => !pd && Region.seqB md ops (ops.size - n) n listed
  | (0, i) :: l, pd, listed => (Region.ready md ops listed).contains i && Region.free md ops listed i && decide (i < n) && flB md ops n q l pd (listed.setIfInBounds i true)
  | (1, i) :: l, pd, listed => decide (Region.ready md ops listed = [i]) && decide (i < n) && flB md ops n q l pd (listed.setIfInBounds i true)
  | (2, i) :: l, false, listed => decide (Region.ready md ops listed = [i]) && decide (i < n) && flB md ops n q l false (listed.setIfInBounds i true)
  | (2, i) :: l, true, listed => (decide (Region.ready md ops listed = [i, q]) || decide (Region.ready md ops listed = [q, i])) && decide (i < n) && decide (q < n) && flB md ops n q l true (listed.setIfInBounds i true) &&
      decide (Region.ready md ops (listed.setIfInBounds q true) = [i]) && flB md ops n q l false ((listed.setIfInBounds q true).setIfInBounds i true)
  | (_ + 3, _) :: l, false, listed => flB md ops n q l false listed
  | (_ + 3, _) :: l, true, listed => decide (Region.ready md ops listed = [q]) && decide (q < n) && flB md ops n q l false (listed.setIfInBounds q true)
def flN : List (Nat × Nat) → Bool → Nat
  | [], pd => if pd then 1 else 0
  | (0, _) :: l, pd => flN l pd + 1
  | (1, _) :: l, pd => flN l pd + 1
  | (2, _) :: l, pd => flN l pd + 1
  | (_ + 3, _) :: l, pd => flN l pd
theorem flN_true : ∀ l : List (Nat × Nat), flN l true = flN l false + 1
  | [] => rfl
  | (0, _) :: l => by simp only [flN]; rw [flN_true l]
  | (1, _) :: l => by simp only [flN]; rw [flN_true l]
  | (2, _) :: l => by simp only [flN]; rw [flN_true l]
  | (_ + 3, _) :: l => by simp only [flN]; rw [flN_true l]
def flW (P : Program) (ops : Array Oper) (Q : Exit → Act → World → Prop) (S : World → Prop) (q : Nat) (K : Act → World → Prop) : List (Nat × Nat) → Bool → Act → World → Prop
  | [], _, a, w => K a w
  | (0, i) :: l, pd, a, w => ∃ o, ops.toList[i]? = some o ∧ ∃ v, YieldsIf P ops S o v a ∧ flW P ops Q S q K l pd (a.put o.dst v) w
  | (1, i) :: l, pd, a, w => opW P ops Q S i (flW P ops Q S q K l pd) a w
  | (2, i) :: l, false, a, w => opW P ops Q S i (flW P ops Q S q K l false) a w
  | (2, i) :: l, true, a, w => opW P ops Q S i (flW P ops Q S q K l true) a w ∧ opW P ops Q S q (opW P ops Q S i (flW P ops Q S q K l false)) a w
  | (_ + 3, _) :: l, false, a, w => flW P ops Q S q K l false a w
  | (_ + 3, _) :: l, true, a, w => opW P ops Q S q (flW P ops Q S q K l false) a w
variable {q : Nat} {K : Act → World → Prop}
theorem fl_take {i : Nat} {l : List (Nat × Nat)} {pd : Bool} {a : Act} {w : World} {o : Oper} {v : Value} (ho : ops.toList[i]? = some o) (hw : Region.wanted o (yielded ops a.tmps) = true) (hv : ∀ w, S w → (execOp a.eval o).run P w = .ok (.value v) w)
    (h : flW P ops Q S q K l pd (a.put o.dst v) w) : flW P ops Q S q K ((0, i) :: l) pd a w := ⟨o, ho, v, .inl ⟨hw, hv⟩, h⟩
theorem fl_one {i : Nat} {l : List (Nat × Nat)} {pd : Bool} {a : Act} {w : World} (h : opW P ops Q S i (flW P ops Q S q K l pd) a w) : flW P ops Q S q K ((1, i) :: l) pd a w := h
theorem fl_two {i : Nat} {l : List (Nat × Nat)} {a : Act} {w : World} (h : opW P ops Q S i (flW P ops Q S q K l true) a w) (h' : opW P ops Q S q (opW P ops Q S i (flW P ops Q S q K l false)) a w) : flW P ops Q S q K ((2, i) :: l) true a w := ⟨h, h'⟩
theorem fl_twoN {i : Nat} {l : List (Nat × Nat)} {a : Act} {w : World} (h : opW P ops Q S i (flW P ops Q S q K l false) a w) : flW P ops Q S q K ((2, i) :: l) false a w := h
theorem fl_three {i : Nat} {l : List (Nat × Nat)} {a : Act} {w : World} (h : opW P ops Q S q (flW P ops Q S q K l false) a w) : flW P ops Q S q K ((3, i) :: l) true a w := h
theorem fl_threeN {i : Nat} {l : List (Nat × Nat)} {a : Act} {w : World} (h : flW P ops Q S q K l false a w) : flW P ops Q S q K ((3, i) :: l) false a w := h
theorem fl_nil {pd : Bool} {a : Act} {w : World} (h : K a w) : flW P ops Q S q K [] pd a w := h

/-- One operation, the others to follow. -/
theorem wpOp_opW {m : Nat} {K : Act → World → Prop} {K' : Act → World → Prop} {a : Act} {w : World} (hk : ∀ a w, S w → K a w → K' a w) (h : opW P ops Q S m K a w) : wpOp P ops Q m (fun a' w' => S w' ∧ K' a' w') a w := by
  obtain ⟨o, ho', hg, hw⟩ := h
  have ho : ops[m]? = some o := by simpa using ho'
  unfold wpOp
  simp only [ho]
  rw [if_pos hg]
  exact .inl (Oper.wp_mono (fun a' w' h' => ⟨h'.1, hk a' w' h'.1 h'.2⟩) hw)
theorem wpAnyS_fl (hsel : Region.noSelect ops = true) (hQ : ∀ c a d v w, Q (.panic c) (Act.put a d v) w → Q (.panic c) a w)
    (hs : Region.sinkB md ops n = true) (hc : Region.chainB md ops n = true) (hn : n < ops.size) :
    ∀ (l : List (Nat × Nat)) (pd : Bool) (listed : Array Bool) (a : Act) (w : World), HeadInv md ops n listed → flB md ops n q l pd listed = true → S w →
    flW P ops Q S q K l pd a w → wpAnyS P md ops Q S n (fun listed a w => Region.seqB md ops (ops.size - n) n listed = true ∧ K a w) (flN l pd) listed a w
  | [], true, listed, a, w, _, hB, _, h => by simp [flB] at hB
  | [], false, listed, a, w, _, hB, _, h => ⟨by simpa [flB] using hB, h⟩
  | (0, p) :: l, pd, listed, a, w, inv, hB, hS, h => by
    simp only [flB, Bool.and_eq_true, decide_eq_true_eq] at hB
    obtain ⟨⟨⟨hr, hf⟩, hpn⟩, hB⟩ := hB
    obtain ⟨o, ho', v, hy, hK⟩ := h
    have ho : ops[p]? = some o := by simpa using ho'
    have hr' : p ∈ Region.ready md ops listed := by simpa using hr
    exact wpAnyS_first ho (Region.noSelect_spec hsel) (fun c a w => hQ c a _ _ w) hs hc hn hpn (fun listed' a' w' hL => seqB_ready hL.1) _ listed a w inv (Region.free_spec ho hf) hr' hy hS
      (wpAnyS_fl hsel hQ hs hc hn l pd _ _ w (inv.set hr' hpn) hB hS hK)
  | (1, m) :: l, pd, listed, a, w, inv, hB, hS, h => by
    simp only [flB, Bool.and_eq_true, decide_eq_true_eq] at hB
    obtain ⟨⟨hr, hmn⟩, hB⟩ := hB
    have hr' : m ∈ Region.ready md ops listed := by rw [hr]; simp
    refine ⟨by rw [hr]; simp, fun i hi => ?_⟩
    rw [hr] at hi
    obtain rfl : i = m := by simpa using hi
    exact ⟨hmn, wpOp_opW (fun a' w' hS' hk => wpAnyS_fl hsel hQ hs hc hn l pd _ a' w' (inv.set hr' hmn) hB hS' hk) h⟩
  | (2, m) :: l, false, listed, a, w, inv, hB, hS, h => by
    simp only [flB, Bool.and_eq_true, decide_eq_true_eq] at hB
    obtain ⟨⟨hr, hmn⟩, hB⟩ := hB
    have hr' : m ∈ Region.ready md ops listed := by rw [hr]; simp
    refine ⟨by rw [hr]; simp, fun i hi => ?_⟩
    rw [hr] at hi
    obtain rfl : i = m := by simpa using hi
    exact ⟨hmn, wpOp_opW (fun a' w' hS' hk => wpAnyS_fl hsel hQ hs hc hn l false _ a' w' (inv.set hr' hmn) hB hS' hk) h⟩
  | (2, m) :: l, true, listed, a, w, inv, hB, hS, h => by
    simp only [flB, Bool.and_eq_true, Bool.or_eq_true, decide_eq_true_eq] at hB
    obtain ⟨⟨⟨⟨⟨hr, hmn⟩, hqn⟩, hB1⟩, hr2⟩, hB2⟩ := hB
    have hrm : m ∈ Region.ready md ops listed := by rcases hr with hr | hr <;> rw [hr] <;> simp
    have hrq : q ∈ Region.ready md ops listed := by rcases hr with hr | hr <;> rw [hr] <;> simp
    refine ⟨by rcases hr with hr | hr <;> rw [hr] <;> simp, fun i hi => ?_⟩
    have hi' : i = m ∨ i = q := by
      rcases hr with hr | hr <;> rw [hr] at hi <;> simp at hi
      · exact hi
      · exact hi.symm
    rcases hi' with hi' | hi' <;> rw [hi']
    · exact ⟨hmn, wpOp_opW (fun a' w' hS' hk => wpAnyS_fl hsel hQ hs hc hn l true _ a' w' (inv.set hrm hmn) hB1 hS' hk) h.1⟩
    · refine ⟨hqn, wpOp_opW (fun a' w' hS' hk => ?_) h.2⟩
      have hrm2 : m ∈ Region.ready md ops (listed.setIfInBounds q true) := by rw [hr2]; simp
      have e1 : flN l true = flN l false + 1 := flN_true l
      show wpAnyS P md ops Q S n _ (flN l true) _ _ _
      rw [e1]
      refine ⟨by rw [hr2]; simp, fun j hj => ?_⟩
      rw [hr2] at hj
      obtain rfl : j = m := by simpa using hj
      exact ⟨hmn, wpOp_opW (fun a2 w2 hS2 hk2 => wpAnyS_fl hsel hQ hs hc hn l false _ a2 w2 ((inv.set hrq hqn).set hrm2 hmn) hB2 hS2 hk2) hk⟩
  | (k + 3, _) :: l, false, listed, a, w, inv, hB, hS, h => wpAnyS_fl hsel hQ hs hc hn l false listed a w inv hB hS h
  | (k + 3, _) :: l, true, listed, a, w, inv, hB, hS, h => by
    simp only [flB, Bool.and_eq_true, decide_eq_true_eq] at hB
    obtain ⟨⟨hr, hqn⟩, hB⟩ := hB
    have hrq : q ∈ Region.ready md ops listed := by rw [hr]; simp
    show wpAnyS P md ops Q S n _ (flN l true) _ _ _
    rw [flN_true l]
    refine ⟨by rw [hr]; simp, fun i hi => ?_⟩
    rw [hr] at hi
    have hi' : i = q := by simpa using hi
    rw [hi']
    exact ⟨hqn, wpOp_opW (fun a' w' hS' hk => wpAnyS_fl hsel hQ hs hc hn l false _ a' w' (inv.set hrq hqn) hB hS' hk) h⟩
/-- The region's items; q floats. -/
def itemsF (l : List Oper) (n q : Nat) (is : List (Nat × Nat)) : Bool :=
  Region.noSelect l.toArray && decide (n < l.toArray.size) && decide (n = flN is true) && Region.sinkB .any l.toArray n && Region.chainB .any l.toArray n && flB .any l.toArray n q is true (Array.replicate l.toArray.size false)
/-- **THE REGION.** -/
theorem wp_region_float {id : Nat} {a : Act} {w : World} {l : List Oper} (n q : Nat) (is : List (Nat × Nat)) (S : World → Prop) (hm : P.follows .mixedOrders = true) (hB : itemsF l n q is = true) (hS : S w.drew)
    (h : flW P l.toArray (NoPanic Q) S q (fun a'' w'' => wpList P l.toArray (NoPanic Q) (l.drop n) a'' w'') is true a w.drew) : (Code.region id l.toArray true).wp P Q a w := by
  refine wp_region_noPanic ?_
  simp only [itemsF, Bool.and_eq_true, decide_eq_true_eq] at hB
  obtain ⟨⟨⟨⟨⟨hsel, hn⟩, hlen⟩, hs⟩, hc⟩, hH⟩ := hB
  refine wp_region_any hm ?_
  have hsz : l.toArray.size = flN is true + (l.toArray.size - n) := by omega
  have inv : HeadInv .any l.toArray n (Array.replicate l.toArray.size false) :=
    ⟨by simp, fun j oj _ hl => (by rw [getD_replicate_false] at hl; cases hl), fun t _ ht => getD_in (by rw [Array.size_replicate]; exact ht) (getD_replicate_false _ _)⟩
  have hW := wpAnyS_fl hsel (fun _ _ _ _ _ h => h) hs hc hn is true _ a w.drew inv hH hS h
  refine (congrArg (fun k => wpAny P .any l.toArray (NoPanic Q) k (Array.replicate l.toArray.size false) a w.drew) hsz).mpr ?_
  refine wpAny_of_S (fun listed a w hL => ?_) _ _ _ _ hW
  have hd : (l.drop n).length = l.toArray.size - n := by simp
  have := wpAny_of_seq (Q' := NoPanic Q) (l.drop n) n listed a w (fun j => by simp) (by rw [hd]; exact hL.1) hL.2
  rw [hd] at this
  exact this
end
end Go.Proofs.Ytdljnhdhigbefaa

/- Regions that draw their order: as Nq10, with several operations that make memory and may come at any time ahead of their places. No condition. -/
namespace Go.Proofs.Ytdljnhdhigbefaa
open Go Go.RowKit
section
variable {P : Program} {ops : Array Oper} {Q : Exit → Act → World → Prop} {md : Region.Mode} {S : World → Prop} {n : Nat}
def permL (l l' : List Nat) : Bool := l.length == l'.length && l.all l'.contains && l'.all l.contains
theorem permL_mem {l l' : List Nat} (h : permL l l' = true) (i : Nat) : i ∈ l ↔ i ∈ l' := by
  simp only [permL, Bool.and_eq_true, List.all_eq_true] at h
  exact ⟨fun hi => by simpa using h.1.2 i hi, fun hi => by simpa using h.2 i hi⟩
/-- 0: taken first; 1: this one, or a pending one; 2: its place at the latest; 3: pending from here on. pd: what is pending. -/
def fmB (md : Region.Mode) (ops : Array Oper) (n : Nat) : Nat → List (Nat × Nat) → List Nat → Array Bool → Bool
  | _, [], pd, listed => pd.isEmpty && Region.seqB md ops (ops.size - n) n listed
  | 0, _ :: _, _, _ => false
  | f + 1, (0, i) :: l, pd, listed => (Region.ready md ops listed).contains i && Region.free md ops listed i && decide (i < n) && fmB md ops n f l pd (listed.setIfInBounds i true)
  | f + 1, (1, i) :: l, pd, listed => permL (Region.ready md ops listed) (i :: pd) && decide (i < n) && fmB md ops n f l pd (listed.setIfInBounds i true) && pd.all fun q => decide (q < n) && fmB md ops n f ((1, i) :: l) (pd.erase q) (listed.setIfInBounds q true)
  | f + 1, (2, q) :: l, pd, listed => if pd.contains q then permL (Region.ready md ops listed) pd && pd.all fun r => decide (r < n) && fmB md ops n f ((2, q) :: l) (pd.erase r) (listed.setIfInBounds r true) else fmB md ops n f l pd listed
  | f + 1, (_ + 3, q) :: l, pd, listed => fmB md ops n f l (q :: pd) listed
def fmN : List (Nat × Nat) → Nat
  | [] => 0
  | (2, _) :: l => fmN l
  | (_, _) :: l => fmN l + 1
def fmW (P : Program) (ops : Array Oper) (Q : Exit → Act → World → Prop) (S : World → Prop) (K : Act → World → Prop) : Nat → List (Nat × Nat) → List Nat → Act → World → Prop
  | _, [], _, a, w => K a w
  | 0, _ :: _, _, _, _ => False
  | f + 1, (0, i) :: l, pd, a, w => ∃ o, ops.toList[i]? = some o ∧ ∃ v, YieldsIf P ops S o v a ∧ fmW P ops Q S K f l pd (a.put o.dst v) w
  | f + 1, (1, i) :: l, pd, a, w => opW P ops Q S i (fmW P ops Q S K f l pd) a w ∧ ∀ q, q ∈ pd → opW P ops Q S q (fmW P ops Q S K f ((1, i) :: l) (pd.erase q)) a w
  | f + 1, (2, q) :: l, pd, a, w => if pd.contains q then ∀ r, r ∈ pd → opW P ops Q S r (fmW P ops Q S K f ((2, q) :: l) (pd.erase r)) a w else fmW P ops Q S K f l pd a w
  | f + 1, (_ + 3, q) :: l, pd, a, w => fmW P ops Q S K f l (q :: pd) a w
variable {q : Nat} {K : Act → World → Prop} {f : Nat} {l : List (Nat × Nat)} {pd : List Nat} {a : Act} {w : World}
theorem fm_take {i : Nat} {o : Oper} {v : Value} (ho : ops.toList[i]? = some o) (hw : Region.wanted o (yielded ops a.tmps) = true) (hv : ∀ w, S w → (execOp a.eval o).run P w = .ok (.value v) w)
    (h : fmW P ops Q S K f l pd (a.put o.dst v) w) : fmW P ops Q S K (f + 1) ((0, i) :: l) pd a w := ⟨o, ho, v, .inl ⟨hw, hv⟩, h⟩
theorem fm_out {i : Nat} {o : Oper} (ho : ops.toList[i]? = some o) (hw : Region.wanted o (yielded ops a.tmps) = false)
    (h : fmW P ops Q S K f l pd (a.put o.dst undef) w) : fmW P ops Q S K (f + 1) ((0, i) :: l) pd a w := ⟨o, ho, undef, .inr ⟨hw, rfl⟩, h⟩
theorem fm_nil (h : K a w) : fmW P ops Q S K f [] pd a w := by cases f <;> exact h
theorem fm_one {i : Nat} (h : opW P ops Q S i (fmW P ops Q S K f l []) a w) : fmW P ops Q S K (f + 1) ((1, i) :: l) [] a w := ⟨h, fun q hq => by cases hq⟩
theorem fm_one1 {i p : Nat} (h : opW P ops Q S i (fmW P ops Q S K f l [p]) a w) (h1 : opW P ops Q S p (fmW P ops Q S K f ((1, i) :: l) []) a w) : fmW P ops Q S K (f + 1) ((1, i) :: l) [p] a w :=
  ⟨h, fun q hq => by rw [List.mem_singleton] at hq; subst hq; simpa using h1⟩
theorem fm_one2 {i p r : Nat} (hpr : (p == r) = false) (h : opW P ops Q S i (fmW P ops Q S K f l [p, r]) a w) (h1 : opW P ops Q S p (fmW P ops Q S K f ((1, i) :: l) [r]) a w) (h2 : opW P ops Q S r (fmW P ops Q S K f ((1, i) :: l) [p]) a w) : fmW P ops Q S K (f + 1) ((1, i) :: l) [p, r] a w :=
  ⟨h, fun q hq => by
    simp only [List.mem_cons, List.not_mem_nil, or_false] at hq
    rcases hq with rfl | rfl
    · simpa using h1
    · rw [List.erase_cons, hpr]; simpa using h2⟩
theorem fm_skip (hq : pd.contains q = false) (h : fmW P ops Q S K f l pd a w) : fmW P ops Q S K (f + 1) ((2, q) :: l) pd a w := by
  show if pd.contains q then _ else _
  rw [if_neg (by rw [hq]; decide)]; exact h
theorem fm_now (h : opW P ops Q S q (fmW P ops Q S K f ((2, q) :: l) []) a w) : fmW P ops Q S K (f + 1) ((2, q) :: l) [q] a w := by
  show if [q].contains q then _ else _
  rw [if_pos (by simp)]
  intro r hr
  rw [List.mem_singleton] at hr; subst hr; simpa using h
theorem fm_now2 {p r : Nat} (hpr : (p == r) = false) (hq : [p, r].contains q = true) (h1 : opW P ops Q S p (fmW P ops Q S K f ((2, q) :: l) [r]) a w) (h2 : opW P ops Q S r (fmW P ops Q S K f ((2, q) :: l) [p]) a w) : fmW P ops Q S K (f + 1) ((2, q) :: l) [p, r] a w := by
  show if [p, r].contains q then _ else _
  rw [if_pos hq]
  intro r' hq
  simp only [List.mem_cons, List.not_mem_nil, or_false] at hq
  rcases hq with rfl | rfl
  · simpa using h1
  · rw [List.erase_cons, hpr]; simpa using h2
theorem fm_from (h : fmW P ops Q S K f l (q :: pd) a w) : fmW P ops Q S K (f + 1) ((3, q) :: l) pd a w := h
theorem wpAnyS_fm (hsel : Region.noSelect ops = true) (hQ : ∀ c a d v w, Q (.panic c) (Act.put a d v) w → Q (.panic c) a w)
    (hs : Region.sinkB md ops n = true) (hc : Region.chainB md ops n = true) (hn : n < ops.size) :
    ∀ (f : Nat) (l : List (Nat × Nat)) (pd : List Nat) (listed : Array Bool) (a : Act) (w : World), HeadInv md ops n listed → fmB md ops n f l pd listed = true → S w →
    fmW P ops Q S K f l pd a w → wpAnyS P md ops Q S n (fun listed a w => Region.seqB md ops (ops.size - n) n listed = true ∧ K a w) (fmN l + pd.length) listed a w := by
  intro f
  induction f with
  | zero =>
    intro l pd listed a w inv hB hS h
    cases l with
    | nil =>
      simp only [fmB, Bool.and_eq_true] at hB
      obtain rfl : pd = [] := by simpa using hB.1
      exact ⟨hB.2, h⟩
    | cons x l => simp [fmB] at hB
  | succ f ih =>
    intro l pd listed a w inv hB hS h
    cases l with
    | nil =>
      simp only [fmB, Bool.and_eq_true] at hB
      obtain rfl : pd = [] := by simpa using hB.1
      exact ⟨hB.2, h⟩
    | cons x l =>
      obtain ⟨k, i⟩ := x
      match k with
      | 0 =>
        simp only [fmB, Bool.and_eq_true, decide_eq_true_eq] at hB
        obtain ⟨⟨⟨hr, hf⟩, hpn⟩, hB⟩ := hB
        obtain ⟨o, ho', v, hy, hK⟩ := h
        have ho : ops[i]? = some o := by simpa using ho'
        have hr' : i ∈ Region.ready md ops listed := by simpa using hr
        have := wpAnyS_first ho (Region.noSelect_spec hsel) (fun c a w => hQ c a _ _ w) hs hc hn hpn (fun listed' a' w' hL => seqB_ready hL.1) _ listed a w inv (Region.free_spec ho hf) hr' hy hS
          (ih l pd _ _ w (inv.set hr' hpn) hB hS hK)
        rw [show fmN ((0, i) :: l) + pd.length = fmN l + pd.length + 1 by simp [fmN]; omega]
        exact this
      | 1 =>
        simp only [fmB, Bool.and_eq_true, decide_eq_true_eq, List.all_eq_true] at hB
        obtain ⟨⟨⟨hr, hmn⟩, hB1⟩, hB2⟩ := hB
        have hmem := permL_mem hr
        rw [show fmN ((1, i) :: l) + pd.length = fmN l + pd.length + 1 by simp [fmN]; omega]
        refine ⟨fun h0 => (by have := (hmem i).2 (by simp); rw [h0] at this; cases this), fun j hj => ?_⟩
        have hj' := (hmem j).1 hj
        rw [List.mem_cons] at hj'
        by_cases e : j ∈ pd
        · have := hB2 j e
          refine ⟨this.1, wpOp_opW (fun a' w' hS' hk => ?_) (h.2 j e)⟩
          have h3 := ih _ _ _ a' w' (inv.set hj this.1) this.2 hS' hk
          have hlen : (pd.erase j).length = pd.length - 1 := by rw [List.length_erase, if_pos e]
          have hpos : 0 < pd.length := List.length_pos_of_mem e
          rw [hlen, show fmN ((1, i) :: l) + (pd.length - 1) = fmN l + pd.length by simp [fmN]; omega] at h3
          exact h3
        · obtain rfl : j = i := hj'.resolve_right e
          exact ⟨hmn, wpOp_opW (fun a' w' hS' hk => ih l pd _ a' w' (inv.set hj hmn) hB1 hS' hk) h.1⟩
      | 2 =>
        simp only [fmB] at hB
        by_cases hq : pd.contains i = true
        · rw [if_pos hq] at hB
          have h : if pd.contains i then ∀ r, r ∈ pd → opW P ops Q S r (fmW P ops Q S K f ((2, i) :: l) (pd.erase r)) a w else fmW P ops Q S K f l pd a w := h
          rw [if_pos hq] at h
          simp only [Bool.and_eq_true, decide_eq_true_eq, List.all_eq_true] at hB
          obtain ⟨hr, hB2⟩ := hB
          have hmem := permL_mem hr
          have hi : i ∈ pd := by simpa using hq
          have hpos : 0 < pd.length := List.length_pos_of_mem hi
          rw [show fmN ((2, i) :: l) + pd.length = fmN l + (pd.length - 1) + 1 by simp [fmN]; omega]
          refine ⟨fun h0 => (by have := (hmem i).2 hi; rw [h0] at this; cases this), fun j hj => ?_⟩
          have e := (hmem j).1 hj
          have := hB2 j e
          refine ⟨this.1, wpOp_opW (fun a' w' hS' hk => ?_) (h j e)⟩
          have h3 := ih _ _ _ a' w' (inv.set hj this.1) this.2 hS' hk
          have hlen : (pd.erase j).length = pd.length - 1 := by rw [List.length_erase, if_pos e]
          rw [hlen, show fmN ((2, i) :: l) = fmN l by simp [fmN]] at h3
          exact h3
        · rw [if_neg hq] at hB
          have h : if pd.contains i then ∀ r, r ∈ pd → opW P ops Q S r (fmW P ops Q S K f ((2, i) :: l) (pd.erase r)) a w else fmW P ops Q S K f l pd a w := h
          rw [if_neg hq] at h
          rw [show fmN ((2, i) :: l) = fmN l by simp [fmN]]
          exact ih l pd listed a w inv hB hS h
      | k + 3 =>
        have := ih l (i :: pd) listed a w inv (by simpa only [fmB] using hB) hS h
        rw [List.length_cons] at this
        rw [show fmN ((k + 3, i) :: l) + pd.length = fmN l + (pd.length + 1) by simp [fmN]; omega]
        exact this
/-- The region's items. -/
def itemsM (l : List Oper) (n f : Nat) (is : List (Nat × Nat)) : Bool :=
  Region.noSelect l.toArray && decide (n < l.toArray.size) && decide (n = fmN is) && Region.sinkB .any l.toArray n && Region.chainB .any l.toArray n && fmB .any l.toArray n f is [] (Array.replicate l.toArray.size false)
/-- **THE REGION.** -/
theorem wp_region_many {id : Nat} {l : List Oper} (n f : Nat) (is : List (Nat × Nat)) (S : World → Prop) (hm : P.follows .mixedOrders = true) (hB : itemsM l n f is = true) (hS : S w.drew)
    (h : fmW P l.toArray (NoPanic Q) S (fun a'' w'' => wpList P l.toArray (NoPanic Q) (l.drop n) a'' w'') f is [] a w.drew) : (Code.region id l.toArray true).wp P Q a w := by
  refine wp_region_noPanic ?_
  simp only [itemsM, Bool.and_eq_true, decide_eq_true_eq] at hB
  obtain ⟨⟨⟨⟨⟨hsel, hn⟩, hlen⟩, hs⟩, hc⟩, hH⟩ := hB
  refine wp_region_any hm ?_
  have hsz : l.toArray.size = (fmN is + ([] : List Nat).length) + (l.toArray.size - n) := by simp only [List.length_nil]; omega
  have inv : HeadInv .any l.toArray n (Array.replicate l.toArray.size false) :=
    ⟨by simp, fun j oj _ hl => (by rw [getD_replicate_false] at hl; cases hl), fun t _ ht => getD_in (by rw [Array.size_replicate]; exact ht) (getD_replicate_false _ _)⟩
  have hW := wpAnyS_fm hsel (fun _ _ _ _ _ h => h) hs hc hn f is [] _ a w.drew inv hH hS h
  refine (congrArg (fun k => wpAny P .any l.toArray (NoPanic Q) k (Array.replicate l.toArray.size false) a w.drew) hsz).mpr ?_
  refine wpAny_of_S (fun listed a w hL => ?_) _ _ _ _ hW
  have hd : (l.drop n).length = l.toArray.size - n := by simp
  have := wpAny_of_seq (Q' := NoPanic Q) (l.drop n) n listed a w (fun j => by simp) (by rw [hd]; exact hL.1) hL.2
  rw [hd] at this
  exact this
end
end Go.Proofs.Ytdljnhdhigbefaa
