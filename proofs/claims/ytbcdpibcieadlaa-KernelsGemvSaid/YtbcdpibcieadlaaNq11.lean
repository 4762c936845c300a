/- Regions that draw their order: as Nq10, with several operations that make memory and may come at any time ahead of their places. No condition. -/
import Derived.Test.YtbcdpibcieadlaaNq10
namespace Go.Proofs.Ytbcdpibcieadlaa
open Go Go.RowKit
section
variable {P : Program} {ops : Array Oper} {Q : Exit → Act → World → Prop} {md : Region.Mode} {S : World → Prop} {n : Nat}
def permL (l l' : List Nat) : Bool := l.length == l'.length && l.all l'.contains && l'.all l.contains
theorem permL_mem {l l' : List Nat} (h : permL l l' = true) (i : Nat) : i ∈ l ↔ i ∈ l' := by
  simp only [permL, Bool.and_eq_true, List.all_eq_true] at h
  exact ⟨fun hi => by simpa using h.1.2 i hi, fun hi => by simpa using h.2 i hi⟩
/-- 0: taken first; 1: this one, or a pending one; 2: its place at the latest; 3: pending from here on. pd: what is pending. -/
def fmB (md : Region.Mode) (ops : Array Oper) (n : Nat) : Nat → List (Nat × Nat) → List Nat → Array Bool → Bool
  | _, [], pd, listed => pd.isEmpty && Region.seqB md ops (ops.size - n) n listed
  | 0, _ :: _, _, _ => false
  | f + 1, (0, i) :: l, pd, listed => (Region.ready md ops listed).contains i && Region.free md ops listed i && decide (i < n) && fmB md ops n f l pd (listed.setIfInBounds i true)
  | f + 1, (1, i) :: l, pd, listed => permL (Region.ready md ops listed) (i :: pd) && decide (i < n) && fmB md ops n f l pd (listed.setIfInBounds i true) && pd.all fun q => decide (q < n) && fmB md ops n f ((1, i) :: l) (pd.erase q) (listed.setIfInBounds q true)
  | f + 1, (2, q) :: l, pd, listed => if pd.contains q then permL (Region.ready md ops listed) pd && pd.all fun r => decide (r < n) && fmB md ops n f ((2, q) :: l) (pd.erase r) (listed.setIfInBounds r true) else fmB md ops n f l pd listed
  | f + 1, (_ + 3, q) :: l, pd, listed => fmB md ops n f l (q :: pd) listed
def fmN : List (Nat × Nat) → Nat
  | [] => 0
  | (2, _) :: l => fmN l
  | (_, _) :: l => fmN l + 1
def fmW (P : Program) (ops : Array Oper) (Q : Exit → Act → World → Prop) (S : World → Prop) (K : Act → World → Prop) : Nat → List (Nat × Nat) → List Nat → Act → World → Prop
  | _, [], _, a, w => K a w
  | 0, _ :: _, _, _, _ => False
  | f + 1, (0, i) :: l, pd, a, w => ∃ o, ops.toList[i]? = some o ∧ ∃ v, YieldsIf P ops S o v a ∧ fmW P ops Q S K f l pd (a.put o.dst v) w
  | f + 1, (1, i) :: l, pd, a, w => opW P ops Q S i (fmW P ops Q S K f l pd) a w ∧ ∀ q, q ∈ pd → opW P ops Q S q (fmW P ops Q S K f ((1, i) :: l) (pd.erase q)) a w
  | f + 1, (2, q) :: l, pd, a, w => if pd.contains q then ∀ r, r ∈ pd → opW P ops Q S r (fmW P ops Q S K f ((2, q) :: l) (pd.erase r)) a w else fmW P ops Q S K f l pd a w
  | f + 1, (_ + 3, q) :: l, pd, a, w => fmW P ops Q S K f l (q :: pd) a w
variable {q : Nat} {K : Act → World → Prop} {f : Nat} {l : List (Nat × Nat)} {pd : List Nat} {a : Act} {w : World}
theorem fm_take {i : Nat} {o : Oper} {v : Value} (ho : ops.toList[i]? = some o) (hw : Region.wanted o (yielded ops a.tmps) = true) (hv : ∀ w, S w → (execOp a.eval o).run P w = .ok (.value v) w)
    (h : fmW P ops Q S K f l pd (a.put o.dst v) w) : fmW P ops Q S K (f + 1) ((0, i) :: l) pd a w := ⟨o, ho, v, .inl ⟨hw, hv⟩, h⟩
theorem fm_out {i : Nat} {o : Oper} (ho : ops.toList[i]? = some o) (hw : Region.wanted o (yielded ops a.tmps) = false)
    (h : fmW P ops Q S K f l pd (a.put o.dst undef) w) : fmW P ops Q S K (f + 1) ((0, i) :: l) pd a w := ⟨o, ho, undef, .inr ⟨hw, rfl⟩, h⟩
theorem fm_nil (h : K a w) : fmW P ops Q S K f [] pd a w := by cases f <;> exact h
theorem fm_one {i : Nat} (h : opW P ops Q S i (fmW P ops Q S K f l []) a w) : fmW P ops Q S K (f + 1) ((1, i) :: l) [] a w := ⟨h, fun q hq => by cases hq⟩
theorem fm_one1 {i p : Nat} (h : opW P ops Q S i (fmW P ops Q S K f l [p]) a w) (h1 : opW P ops Q S p (fmW P ops Q S K f ((1, i) :: l) []) a w) : fmW P ops Q S K (f + 1) ((1, i) :: l) [p] a w :=
  ⟨h, fun q hq => by rw [List.mem_singleton] at hq; subst hq; simpa using h1⟩
theorem fm_one2 {i p r : Nat} (hpr : (p == r) = false) (h : opW P ops Q S i (fmW P ops Q S K f l [p, r]) a w) (h1 : opW P ops Q S p (fmW P ops Q S K f ((1, i) :: l) [r]) a w) (h2 : opW P ops Q S r (fmW P ops Q S K f ((1, i) :: l) [p]) a w) : fmW P ops Q S K (f + 1) ((1, i) :: l) [p, r] a w :=
  ⟨h, fun q hq => by
    simp only [List.mem_cons, List.not_mem_nil, or_false] at hq
    rcases hq with rfl | rfl
    · simpa using h1
    · rw [List.erase_cons, hpr]; simpa using h2⟩
theorem fm_skip (hq : pd.contains q = false) (h : fmW P ops Q S K f l pd a w) : fmW P ops Q S K (f + 1) ((2, q) :: l) pd a w := by
  show if pd.contains q then _ else _
  rw [if_neg (by rw [hq]; decide)]; exact h
theorem fm_now (h : opW P ops Q S q (fmW P ops Q S K f ((2, q) :: l) []) a w) : fmW P ops Q S K (f + 1) ((2, q) :: l) [q] a w := by
  show if [q].contains q then _ else _
  rw [if_pos (by simp)]
  intro r hr
  rw [List.mem_singleton] at hr; subst hr; simpa using h
theorem fm_now2 {p r : Nat} (hpr : (p == r) = false) (hq : [p, r].contains q = true) (h1 : opW P ops Q S p (fmW P ops Q S K f ((2, q) :: l) [r]) a w) (h2 : opW P ops Q S r (fmW P ops Q S K f ((2, q) :: l) [p]) a w) : fmW P ops Q S K (f + 1) ((2, q) :: l) [p, r] a w := by
  show if [p, r].contains q then _ else _
  rw [if_pos hq]
  intro r' hq
  simp only [List.mem_cons, List.not_mem_nil, or_false] at hq
  rcases hq with rfl | rfl
  · simpa using h1
  · rw [List.erase_cons, hpr]; simpa using h2
theorem fm_from (h : fmW P ops Q S K f l (q :: pd) a w) : fmW P ops Q S K (f + 1) ((3, q) :: l) pd a w := h
theorem wpAnyS_fm (hsel : Region.noSelect ops = true) (hQ : ∀ c a d v w, Q (.panic c) (Act.put a d v) w → Q (.panic c) a w)
    (hs : Region.sinkB md ops n = true) (hc : Region.chainB md ops n = true) (hn : n < ops.size) :
    ∀ (f : Nat) (l : List (Nat × Nat)) (pd : List Nat) (listed : Array Bool) (a : Act) (w : World), HeadInv md ops n listed → fmB md ops n f l pd listed = true → S w →
    fmW P ops Q S K f l pd a w → wpAnyS P md ops Q S n (fun listed a w => Region.seqB md ops (ops.size - n) n listed = true ∧ K a w) (fmN l + pd.length) listed a w := by
  intro f
  induction f with
  | zero =>
    intro l pd listed a w inv hB hS h
    cases l with
    | nil =>
      simp only [fmB, Bool.and_eq_true] at hB
      obtain rfl : pd = [] := by simpa using hB.1
      exact ⟨hB.2, h⟩
    | cons x l => simp [fmB] at hB
  | succ f ih =>
    intro l pd listed a w inv hB hS h
    cases l with
    | nil =>
      simp only [fmB, Bool.and_eq_true] at hB
      obtain rfl : pd = [] := by simpa using hB.1
      exact ⟨hB.2, h⟩
    | cons x l =>
      obtain ⟨k, i⟩ := x
      match k with
      | 0 =>
        simp only [fmB, Bool.and_eq_true, decide_eq_true_eq] at hB
        obtain ⟨⟨⟨hr, hf⟩, hpn⟩, hB⟩ := hB
        obtain ⟨o, ho', v, hy, hK⟩ := h
        have ho : ops[i]? = some o := by simpa using ho'
        have hr' : i ∈ Region.ready md ops listed := by simpa using hr
        have := wpAnyS_first ho (Region.noSelect_spec hsel) (fun c a w => hQ c a _ _ w) hs hc hn hpn (fun listed' a' w' hL => seqB_ready hL.1) _ listed a w inv (Region.free_spec ho hf) hr' hy hS
          (ih l pd _ _ w (inv.set hr' hpn) hB hS hK)
        rw [show fmN ((0, i) :: l) + pd.length = fmN l + pd.length + 1 by simp [fmN]; omega]
        exact this
      | 1 =>
        simp only [fmB, Bool.and_eq_true, decide_eq_true_eq, List.all_eq_true] at hB
        obtain ⟨⟨⟨hr, hmn⟩, hB1⟩, hB2⟩ := hB
        have hmem := permL_mem hr
        rw [show fmN ((1, i) :: l) + pd.length = fmN l + pd.length + 1 by simp [fmN]; omega]
        refine ⟨fun h0 => (by have := (hmem i).2 (by simp); rw [h0] at this; cases this), fun j hj => ?_⟩
        have hj' := (hmem j).1 hj
        rw [List.mem_cons] at hj'
        by_cases e : j ∈ pd
        · have := hB2 j e
          refine ⟨this.1, wpOp_opW (fun a' w' hS' hk => ?_) (h.2 j e)⟩
          have h3 := ih _ _ _ a' w' (inv.set hj this.1) this.2 hS' hk
          have hlen : (pd.erase j).length = pd.length - 1 := by rw [List.length_erase, if_pos e]
          have hpos : 0 < pd.length := List.length_pos_of_mem e
          rw [hlen, show fmN ((1, i) :: l) + (pd.length - 1) = fmN l + pd.length by simp [fmN]; omega] at h3
          exact h3
        · obtain rfl : j = i := hj'.resolve_right e
          exact ⟨hmn, wpOp_opW (fun a' w' hS' hk => ih l pd _ a' w' (inv.set hj hmn) hB1 hS' hk) h.1⟩
      | 2 =>
        simp only [fmB] at hB
        by_cases hq : pd.contains i = true
        · rw [if_pos hq] at hB
          have h : if pd.contains i then ∀ r, r ∈ pd → opW P ops Q S r (fmW P ops Q S K f ((2, i) :: l) (pd.erase r)) a w else fmW P ops Q S K f l pd a w := h
          rw [if_pos hq] at h
          simp only [Bool.and_eq_true, decide_eq_true_eq, List.all_eq_true] at hB
          obtain ⟨hr, hB2⟩ := hB
          have hmem := permL_mem hr
          have hi : i ∈ pd := by simpa using hq
          have hpos : 0 < pd.length := List.length_pos_of_mem hi
          rw [show fmN ((2, i) :: l) + pd.length = fmN l + (pd.length - 1) + 1 by simp [fmN]; omega]
          refine ⟨fun h0 => (by have := (hmem i).2 hi; rw [h0] at this; cases this), fun j hj => ?_⟩
          have e := (hmem j).1 hj
          have := hB2 j e
          refine ⟨this.1, wpOp_opW (fun a' w' hS' hk => ?_) (h j e)⟩
          have h3 := ih _ _ _ a' w' (inv.set hj this.1) this.2 hS' hk
          have hlen : (pd.erase j).length = pd.length - 1 := by rw [List.length_erase, if_pos e]
          rw [hlen, show fmN ((2, i) :: l) = fmN l by simp [fmN]] at h3
          exact h3
        · rw [if_neg hq] at hB
          have h : if pd.contains i then ∀ r, r ∈ pd → opW P ops Q S r (fmW P ops Q S K f ((2, i) :: l) (pd.erase r)) a w else fmW P ops Q S K f l pd a w := h
          rw [if_neg hq] at h
          rw [show fmN ((2, i) :: l) = fmN l by simp [fmN]]
          exact ih l pd listed a w inv hB hS h
      | k + 3 =>
        have := ih l (i :: pd) listed a w inv (by simpa only [fmB] using hB) hS h
        rw [List.length_cons] at this
        rw [show fmN ((k + 3, i) :: l) + pd.length = fmN l + (pd.length + 1) by simp [fmN]; omega]
        exact this
/-- The region's items. -/
def itemsM (l : List Oper) (n f : Nat) (is : List (Nat × Nat)) : Bool :=
  Region.noSelect l.toArray && decide (n < l.toArray.size) && decide (n = fmN is) && Region.sinkB .any l.toArray n && Region.chainB .any l.toArray n && fmB .any l.toArray n f is [] (Array.replicate l.toArray.size false)
/-- **THE REGION.** -/
theorem wp_region_many {id : Nat} {l : List Oper} (n f : Nat) (is : List (Nat × Nat)) (S : World → Prop) (hm : P.follows .mixedOrders = true) (hB : itemsM l n f is = true) (hS : S w.drew)
    (h : fmW P l.toArray (NoPanic Q) S (fun a'' w'' => wpList P l.toArray (NoPanic Q) (l.drop n) a'' w'') f is [] a w.drew) : (Code.region id l.toArray true).wp P Q a w := by
  refine wp_region_noPanic ?_
  simp only [itemsM, Bool.and_eq_true, decide_eq_true_eq] at hB
  obtain ⟨⟨⟨⟨⟨hsel, hn⟩, hlen⟩, hs⟩, hc⟩, hH⟩ := hB
  refine wp_region_any hm ?_
  have hsz : l.toArray.size = (fmN is + ([] : List Nat).length) + (l.toArray.size - n) := by simp only [List.length_nil]; omega
  have inv : HeadInv .any l.toArray n (Array.replicate l.toArray.size false) :=
    ⟨by simp, fun j oj _ hl => (by rw [getD_replicate_false] at hl; cases hl), fun t _ ht => getD_in (by rw [Array.size_replicate]; exact ht) (getD_replicate_false _ _)⟩
  have hW := wpAnyS_fm hsel (fun _ _ _ _ _ h => h) hs hc hn f is [] _ a w.drew inv hH hS h
  refine (congrArg (fun k => wpAny P .any l.toArray (NoPanic Q) k (Array.replicate l.toArray.size false) a w.drew) hsz).mpr ?_
  refine wpAny_of_S (fun listed a w hL => ?_) _ _ _ _ hW
  have hd : (l.drop n).length = l.toArray.size - n := by simp
  have := wpAny_of_seq (Q' := NoPanic Q) (l.drop n) n listed a w (fun j => by simp) (by rw [hd]; exact hL.1) hL.2
  rw [hd] at this
  exact this
end
end Go.Proofs.Ytbcdpibcieadlaa
