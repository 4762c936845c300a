/- Regions that draw their order: operations taken first and operations carried out one by one, in turns. No condition. -/
import Derived.Test.YtbcdpibcieadlaaNq4
namespace Go.Proofs.Ytbcdpibcieadlaa
open Go Go.RowKit
section
variable {P : Program} {ops : Array Oper} {Q : Exit → Act → World → Prop} {md : Region.Mode} {S : World → Prop} {n : Nat} {L : Array Bool → Act → World → Prop}
/-- true: taken first; false: the only one that may come. -/
def itemsB (md : Region.Mode) (ops : Array Oper) (n : Nat) : List (Bool × Nat) → Array Bool → Bool
  | [], listed => Region.seqB md ops (ops.size - n) n listed
  | (b, i) :: l, listed => (if b then (Region.ready md ops listed).contains i && Region.free md ops listed i else decide (Region.ready md ops listed = [i])) && decide (i < n) && itemsB md ops n l (listed.setIfInBounds i true)
def iW (P : Program) (ops : Array Oper) (Q : Exit → Act → World → Prop) (S : World → Prop) (K : Act → World → Prop) : List (Bool × Nat) → Act → World → Prop
  | [], a, w => K a w
  | (true, i) :: l, a, w => ∃ o, ops.toList[i]? = some o ∧ ∃ v, YieldsIf P ops S o v a ∧ iW P ops Q S K l (a.put o.dst v) w
  | (false, i) :: l, a, w => ∃ o, ops.toList[i]? = some o ∧ Region.wanted o (yielded ops a.tmps) = true ∧ Oper.wp P o a w (fun a' w' => S w' ∧ iW P ops Q S K l a' w') Q
theorem iW_take {K : Act → World → Prop} {i : Nat} {l : List (Bool × Nat)} {a : Act} {w : World} {o : Oper} {v : Value} (ho : ops.toList[i]? = some o) (hw : Region.wanted o (yielded ops a.tmps) = true) (hv : ∀ w, S w → (execOp a.eval o).run P w = .ok (.value v) w)
    (h : iW P ops Q S K l (a.put o.dst v) w) : iW P ops Q S K ((true, i) :: l) a w := ⟨o, ho, v, .inl ⟨hw, hv⟩, h⟩
theorem iW_skip {K : Act → World → Prop} {i : Nat} {l : List (Bool × Nat)} {a : Act} {w : World} {o : Oper} (ho : ops.toList[i]? = some o) (hw : Region.wanted o (yielded ops a.tmps) = false) (h : iW P ops Q S K l (a.put o.dst undef) w) : iW P ops Q S K ((true, i) :: l) a w := ⟨o, ho, undef, .inr ⟨hw, rfl⟩, h⟩
theorem iW_mid {K : Act → World → Prop} {i : Nat} {l : List (Bool × Nat)} {a : Act} {w : World} {o : Oper} (ho : ops.toList[i]? = some o) (hw : Region.wanted o (yielded ops a.tmps) = true) (h : Oper.wp P o a w (fun a' w' => S w' ∧ iW P ops Q S K l a' w') Q) : iW P ops Q S K ((false, i) :: l) a w := ⟨o, ho, hw, h⟩
theorem iW_nil {K : Act → World → Prop} {a : Act} {w : World} (h : K a w) : iW P ops Q S K [] a w := h

theorem wpAnyS_items {K : Act → World → Prop} (hsel : Region.noSelect ops = true) (hQ : ∀ c a d v w, Q (.panic c) (Act.put a d v) w → Q (.panic c) a w)
    (hs : Region.sinkB md ops n = true) (hc : Region.chainB md ops n = true) (hn : n < ops.size) :
    ∀ (l : List (Bool × Nat)) (listed : Array Bool) (a : Act) (w : World), HeadInv md ops n listed → itemsB md ops n l listed = true → S w →
    iW P ops Q S K l a w → wpAnyS P md ops Q S n (fun listed a w => Region.seqB md ops (ops.size - n) n listed = true ∧ K a w) l.length listed a w
  | [], listed, a, w, _, hB, _, h => ⟨by simpa only [itemsB] using hB, h⟩
  | (true, p) :: l, listed, a, w, inv, hB, hS, h => by
    simp only [itemsB, if_true, Bool.and_eq_true, decide_eq_true_eq] at hB
    obtain ⟨⟨⟨hr, hf⟩, hpn⟩, hB⟩ := hB
    obtain ⟨o, ho', v, hy, hK⟩ := h
    have ho : ops[p]? = some o := by simpa using ho'
    have hr' : p ∈ Region.ready md ops listed := by simpa using hr
    exact wpAnyS_first ho (Region.noSelect_spec hsel) (fun c a w => hQ c a _ _ w) hs hc hn hpn (fun listed' a' w' hL => seqB_ready hL.1) _ listed a w inv (Region.free_spec ho hf) hr' hy hS
      (wpAnyS_items hsel hQ hs hc hn l _ _ w (inv.set hr' hpn) hB hS hK)
  | (false, m) :: l, listed, a, w, inv, hB, hS, h => by
    simp only [itemsB, Bool.false_eq_true, if_false, Bool.and_eq_true, decide_eq_true_eq] at hB
    obtain ⟨⟨hr, hmn⟩, hB⟩ := hB
    obtain ⟨o, ho', hg, hw⟩ := h
    have ho : ops[m]? = some o := by simpa using ho'
    have hr' : m ∈ Region.ready md ops listed := by rw [hr]; simp
    refine ⟨by rw [hr]; simp, fun i hi => ?_⟩
    rw [hr] at hi
    obtain rfl : i = m := by simpa using hi
    refine ⟨hmn, ?_⟩
    unfold wpOp
    simp only [ho]
    rw [if_pos hg]
    exact .inl (Oper.wp_mono (fun a' w' h' => ⟨h'.1, wpAnyS_items hsel hQ hs hc hn l _ a' w' (inv.set hr' hmn) hB h'.1 h'.2⟩) hw)

def itemsR (l : List Oper) (n : Nat) (is : List (Bool × Nat)) : Bool :=
  Region.noSelect l.toArray && decide (n < l.toArray.size) && decide (n = is.length) && Region.sinkB .any l.toArray n && Region.chainB .any l.toArray n && itemsB .any l.toArray n is (Array.replicate l.toArray.size false)
/-- **THE REGION.** -/
theorem wp_region_items {id : Nat} {a : Act} {w : World} {l : List Oper} (n : Nat) (is : List (Bool × Nat)) (S : World → Prop) (hm : P.follows .mixedOrders = true) (hB : itemsR l n is = true) (hS : S w.drew)
    (h : iW P l.toArray (NoPanic Q) S (fun a'' w'' => wpList P l.toArray (NoPanic Q) (l.drop n) a'' w'') is a w.drew) : (Code.region id l.toArray true).wp P Q a w := by
  refine wp_region_noPanic ?_
  simp only [itemsR, Bool.and_eq_true, decide_eq_true_eq] at hB
  obtain ⟨⟨⟨⟨⟨hsel, hn⟩, hlen⟩, hs⟩, hc⟩, hH⟩ := hB
  refine wp_region_any hm ?_
  have hsz : l.toArray.size = is.length + (l.toArray.size - n) := by omega
  have inv : HeadInv .any l.toArray n (Array.replicate l.toArray.size false) :=
    ⟨by simp, fun j oj _ hl => (by rw [getD_replicate_false] at hl; cases hl), fun t _ ht => getD_in (by rw [Array.size_replicate]; exact ht) (getD_replicate_false _ _)⟩
  have hW := wpAnyS_items hsel (fun _ _ _ _ _ h => h) hs hc hn is _ a w.drew inv hH hS h
  refine (congrArg (fun k => wpAny P .any l.toArray (NoPanic Q) k (Array.replicate l.toArray.size false) a w.drew) hsz).mpr ?_
  refine wpAny_of_S (fun listed a w hL => ?_) _ _ _ _ hW
  have hd : (l.drop n).length = l.toArray.size - n := by simp
  have := wpAny_of_seq (Q' := NoPanic Q) (l.drop n) n listed a w (fun j => by simp) (by rw [hd]; exact hL.1) hL.2
  rw [hd] at this
  exact this
end
end Go.Proofs.Ytbcdpibcieadlaa
