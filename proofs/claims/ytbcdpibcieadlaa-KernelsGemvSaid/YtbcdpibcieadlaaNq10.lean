/- Regions that draw their order: as Nq6, with one operation that makes memory and may come at any time ahead of its place. No condition. -/
import Derived.Test.YtbcdpibcieadlaaNq6
namespace Go.Proofs.Ytbcdpibcieadlaa
open Go Go.RowKit
section
variable {P : Program} {ops : Array Oper} {Q : Exit → Act → World → Prop} {md : Region.Mode} {S : World → Prop} {n : Nat} {L : Array Bool → Act → World → Prop}
/-- An operation is carried out. -/
def opW (P : Program) (ops : Array Oper) (Q : Exit → Act → World → Prop) (S : World → Prop) (m : Nat) (K : Act → World → Prop) (a : Act) (w : World) : Prop :=
  ∃ o, ops.toList[m]? = some o ∧ Region.wanted o (yielded ops a.tmps) = true ∧ Oper.wp P o a w (fun a' w' => S w' ∧ K a' w') Q
theorem opW_take {K : Act → World → Prop} {m : Nat} {a : Act} {w : World} {o : Oper} (ho : ops.toList[m]? = some o) (hg : Region.wanted o (yielded ops a.tmps) = true) (h : Oper.wp P o a w (fun a' w' => S w' ∧ K a' w') Q) : opW P ops Q S m K a w := ⟨o, ho, hg, h⟩
theorem opW_mono {K K' : Act → World → Prop} {m : Nat} {a : Act} {w : World} (hk : ∀ a w, S w → K a w → K' a w) (h : opW P ops Q S m K a w) : opW P ops Q S m K' a w := by
  obtain ⟨o, h1, h2, h3⟩ := h
  exact ⟨o, h1, h2, Oper.wp_mono (fun a w h => ⟨h.1, hk a w h.1 h.2⟩) h3⟩
/-- 0: taken first; 1: the only one that may come; 2: this one, or q; 3: q's place at the latest. true: q is still to come. -/
def flB (md : Region.Mode) (ops : Array Oper) (n q : Nat) : List (Nat × Nat) → Bool → Array Bool → Bool
  | [], pd, listed => !pd && Region.seqB md ops (ops.size - n) n listed
  | (0, i) :: l, pd, listed => (Region.ready md ops listed).contains i && Region.free md ops listed i && decide (i < n) && flB md ops n q l pd (listed.setIfInBounds i true)
  | (1, i) :: l, pd, listed => decide (Region.ready md ops listed = [i]) && decide (i < n) && flB md ops n q l pd (listed.setIfInBounds i true)
  | (2, i) :: l, false, listed => decide (Region.ready md ops listed = [i]) && decide (i < n) && flB md ops n q l false (listed.setIfInBounds i true)
  | (2, i) :: l, true, listed => (decide (Region.ready md ops listed = [i, q]) || decide (Region.ready md ops listed = [q, i])) && decide (i < n) && decide (q < n) && flB md ops n q l true (listed.setIfInBounds i true) &&
      decide (Region.ready md ops (listed.setIfInBounds q true) = [i]) && flB md ops n q l false ((listed.setIfInBounds q true).setIfInBounds i true)
  | (_ + 3, _) :: l, false, listed => flB md ops n q l false listed
  | (_ + 3, _) :: l, true, listed => decide (Region.ready md ops listed = [q]) && decide (q < n) && flB md ops n q l false (listed.setIfInBounds q true)
def flN : List (Nat × Nat) → Bool → Nat
  | [], pd => if pd then 1 else 0
  | (0, _) :: l, pd => flN l pd + 1
  | (1, _) :: l, pd => flN l pd + 1
  | (2, _) :: l, pd => flN l pd + 1
  | (_ + 3, _) :: l, pd => flN l pd
theorem flN_true : ∀ l : List (Nat × Nat), flN l true = flN l false + 1
  | [] => rfl
  | (0, _) :: l => by simp only [flN]; rw [flN_true l]
  | (1, _) :: l => by simp only [flN]; rw [flN_true l]
  | (2, _) :: l => by simp only [flN]; rw [flN_true l]
  | (_ + 3, _) :: l => by simp only [flN]; rw [flN_true l]
def flW (P : Program) (ops : Array Oper) (Q : Exit → Act → World → Prop) (S : World → Prop) (q : Nat) (K : Act → World → Prop) : List (Nat × Nat) → Bool → Act → World → Prop
  | [], _, a, w => K a w
  | (0, i) :: l, pd, a, w => ∃ o, ops.toList[i]? = some o ∧ ∃ v, YieldsIf P ops S o v a ∧ flW P ops Q S q K l pd (a.put o.dst v) w
  | (1, i) :: l, pd, a, w => opW P ops Q S i (flW P ops Q S q K l pd) a w
  | (2, i) :: l, false, a, w => opW P ops Q S i (flW P ops Q S q K l false) a w
  | (2, i) :: l, true, a, w => opW P ops Q S i (flW P ops Q S q K l true) a w ∧ opW P ops Q S q (opW P ops Q S i (flW P ops Q S q K l false)) a w
  | (_ + 3, _) :: l, false, a, w => flW P ops Q S q K l false a w
  | (_ + 3, _) :: l, true, a, w => opW P ops Q S q (flW P ops Q S q K l false) a w
variable {q : Nat} {K : Act → World → Prop}
theorem fl_take {i : Nat} {l : List (Nat × Nat)} {pd : Bool} {a : Act} {w : World} {o : Oper} {v : Value} (ho : ops.toList[i]? = some o) (hw : Region.wanted o (yielded ops a.tmps) = true) (hv : ∀ w, S w → (execOp a.eval o).run P w = .ok (.value v) w)
    (h : flW P ops Q S q K l pd (a.put o.dst v) w) : flW P ops Q S q K ((0, i) :: l) pd a w := ⟨o, ho, v, .inl ⟨hw, hv⟩, h⟩
theorem fl_one {i : Nat} {l : List (Nat × Nat)} {pd : Bool} {a : Act} {w : World} (h : opW P ops Q S i (flW P ops Q S q K l pd) a w) : flW P ops Q S q K ((1, i) :: l) pd a w := h
theorem fl_two {i : Nat} {l : List (Nat × Nat)} {a : Act} {w : World} (h : opW P ops Q S i (flW P ops Q S q K l true) a w) (h' : opW P ops Q S q (opW P ops Q S i (flW P ops Q S q K l false)) a w) : flW P ops Q S q K ((2, i) :: l) true a w := ⟨h, h'⟩
theorem fl_twoN {i : Nat} {l : List (Nat × Nat)} {a : Act} {w : World} (h : opW P ops Q S i (flW P ops Q S q K l false) a w) : flW P ops Q S q K ((2, i) :: l) false a w := h
theorem fl_three {i : Nat} {l : List (Nat × Nat)} {a : Act} {w : World} (h : opW P ops Q S q (flW P ops Q S q K l false) a w) : flW P ops Q S q K ((3, i) :: l) true a w := h
theorem fl_threeN {i : Nat} {l : List (Nat × Nat)} {a : Act} {w : World} (h : flW P ops Q S q K l false a w) : flW P ops Q S q K ((3, i) :: l) false a w := h
theorem fl_nil {pd : Bool} {a : Act} {w : World} (h : K a w) : flW P ops Q S q K [] pd a w := h

/-- One operation, the others to follow. -/
theorem wpOp_opW {m : Nat} {K : Act → World → Prop} {K' : Act → World → Prop} {a : Act} {w : World} (hk : ∀ a w, S w → K a w → K' a w) (h : opW P ops Q S m K a w) : wpOp P ops Q m (fun a' w' => S w' ∧ K' a' w') a w := by
  obtain ⟨o, ho', hg, hw⟩ := h
  have ho : ops[m]? = some o := by simpa using ho'
  unfold wpOp
  simp only [ho]
  rw [if_pos hg]
  exact .inl (Oper.wp_mono (fun a' w' h' => ⟨h'.1, hk a' w' h'.1 h'.2⟩) hw)
theorem wpAnyS_fl (hsel : Region.noSelect ops = true) (hQ : ∀ c a d v w, Q (.panic c) (Act.put a d v) w → Q (.panic c) a w)
    (hs : Region.sinkB md ops n = true) (hc : Region.chainB md ops n = true) (hn : n < ops.size) :
    ∀ (l : List (Nat × Nat)) (pd : Bool) (listed : Array Bool) (a : Act) (w : World), HeadInv md ops n listed → flB md ops n q l pd listed = true → S w →
    flW P ops Q S q K l pd a w → wpAnyS P md ops Q S n (fun listed a w => Region.seqB md ops (ops.size - n) n listed = true ∧ K a w) (flN l pd) listed a w
  | [], true, listed, a, w, _, hB, _, h => by simp [flB] at hB
  | [], false, listed, a, w, _, hB, _, h => ⟨by simpa [flB] using hB, h⟩
  | (0, p) :: l, pd, listed, a, w, inv, hB, hS, h => by
    simp only [flB, Bool.and_eq_true, decide_eq_true_eq] at hB
    obtain ⟨⟨⟨hr, hf⟩, hpn⟩, hB⟩ := hB
    obtain ⟨o, ho', v, hy, hK⟩ := h
    have ho : ops[p]? = some o := by simpa using ho'
    have hr' : p ∈ Region.ready md ops listed := by simpa using hr
    exact wpAnyS_first ho (Region.noSelect_spec hsel) (fun c a w => hQ c a _ _ w) hs hc hn hpn (fun listed' a' w' hL => seqB_ready hL.1) _ listed a w inv (Region.free_spec ho hf) hr' hy hS
      (wpAnyS_fl hsel hQ hs hc hn l pd _ _ w (inv.set hr' hpn) hB hS hK)
  | (1, m) :: l, pd, listed, a, w, inv, hB, hS, h => by
    simp only [flB, Bool.and_eq_true, decide_eq_true_eq] at hB
    obtain ⟨⟨hr, hmn⟩, hB⟩ := hB
    have hr' : m ∈ Region.ready md ops listed := by rw [hr]; simp
    refine ⟨by rw [hr]; simp, fun i hi => ?_⟩
    rw [hr] at hi
    obtain rfl : i = m := by simpa using hi
    exact ⟨hmn, wpOp_opW (fun a' w' hS' hk => wpAnyS_fl hsel hQ hs hc hn l pd _ a' w' (inv.set hr' hmn) hB hS' hk) h⟩
  | (2, m) :: l, false, listed, a, w, inv, hB, hS, h => by
    simp only [flB, Bool.and_eq_true, decide_eq_true_eq] at hB
    obtain ⟨⟨hr, hmn⟩, hB⟩ := hB
    have hr' : m ∈ Region.ready md ops listed := by rw [hr]; simp
    refine ⟨by rw [hr]; simp, fun i hi => ?_⟩
    rw [hr] at hi
    obtain rfl : i = m := by simpa using hi
    exact ⟨hmn, wpOp_opW (fun a' w' hS' hk => wpAnyS_fl hsel hQ hs hc hn l false _ a' w' (inv.set hr' hmn) hB hS' hk) h⟩
  | (2, m) :: l, true, listed, a, w, inv, hB, hS, h => by
    simp only [flB, Bool.and_eq_true, Bool.or_eq_true, decide_eq_true_eq] at hB
    obtain ⟨⟨⟨⟨⟨hr, hmn⟩, hqn⟩, hB1⟩, hr2⟩, hB2⟩ := hB
    have hrm : m ∈ Region.ready md ops listed := by rcases hr with hr | hr <;> rw [hr] <;> simp
    have hrq : q ∈ Region.ready md ops listed := by rcases hr with hr | hr <;> rw [hr] <;> simp
    refine ⟨by rcases hr with hr | hr <;> rw [hr] <;> simp, fun i hi => ?_⟩
    have hi' : i = m ∨ i = q := by
      rcases hr with hr | hr <;> rw [hr] at hi <;> simp at hi
      · exact hi
      · exact hi.symm
    rcases hi' with hi' | hi' <;> rw [hi']
    · exact ⟨hmn, wpOp_opW (fun a' w' hS' hk => wpAnyS_fl hsel hQ hs hc hn l true _ a' w' (inv.set hrm hmn) hB1 hS' hk) h.1⟩
    · refine ⟨hqn, wpOp_opW (fun a' w' hS' hk => ?_) h.2⟩
      have hrm2 : m ∈ Region.ready md ops (listed.setIfInBounds q true) := by rw [hr2]; simp
      have e1 : flN l true = flN l false + 1 := flN_true l
      show wpAnyS P md ops Q S n _ (flN l true) _ _ _
      rw [e1]
      refine ⟨by rw [hr2]; simp, fun j hj => ?_⟩
      rw [hr2] at hj
      obtain rfl : j = m := by simpa using hj
      exact ⟨hmn, wpOp_opW (fun a2 w2 hS2 hk2 => wpAnyS_fl hsel hQ hs hc hn l false _ a2 w2 ((inv.set hrq hqn).set hrm2 hmn) hB2 hS2 hk2) hk⟩
  | (k + 3, _) :: l, false, listed, a, w, inv, hB, hS, h => wpAnyS_fl hsel hQ hs hc hn l false listed a w inv hB hS h
  | (k + 3, _) :: l, true, listed, a, w, inv, hB, hS, h => by
    simp only [flB, Bool.and_eq_true, decide_eq_true_eq] at hB
    obtain ⟨⟨hr, hqn⟩, hB⟩ := hB
    have hrq : q ∈ Region.ready md ops listed := by rw [hr]; simp
    show wpAnyS P md ops Q S n _ (flN l true) _ _ _
    rw [flN_true l]
    refine ⟨by rw [hr]; simp, fun i hi => ?_⟩
    rw [hr] at hi
    have hi' : i = q := by simpa using hi
    rw [hi']
    exact ⟨hqn, wpOp_opW (fun a' w' hS' hk => wpAnyS_fl hsel hQ hs hc hn l false _ a' w' (inv.set hrq hqn) hB hS' hk) h⟩
/-- The region's items; q floats. -/
def itemsF (l : List Oper) (n q : Nat) (is : List (Nat × Nat)) : Bool :=
  Region.noSelect l.toArray && decide (n < l.toArray.size) && decide (n = flN is true) && Region.sinkB .any l.toArray n && Region.chainB .any l.toArray n && flB .any l.toArray n q is true (Array.replicate l.toArray.size false)
/-- **THE REGION.** -/
theorem wp_region_float {id : Nat} {a : Act} {w : World} {l : List Oper} (n q : Nat) (is : List (Nat × Nat)) (S : World → Prop) (hm : P.follows .mixedOrders = true) (hB : itemsF l n q is = true) (hS : S w.drew)
    (h : flW P l.toArray (NoPanic Q) S q (fun a'' w'' => wpList P l.toArray (NoPanic Q) (l.drop n) a'' w'') is true a w.drew) : (Code.region id l.toArray true).wp P Q a w := by
  refine wp_region_noPanic ?_
  simp only [itemsF, Bool.and_eq_true, decide_eq_true_eq] at hB
  obtain ⟨⟨⟨⟨⟨hsel, hn⟩, hlen⟩, hs⟩, hc⟩, hH⟩ := hB
  refine wp_region_any hm ?_
  have hsz : l.toArray.size = flN is true + (l.toArray.size - n) := by omega
  have inv : HeadInv .any l.toArray n (Array.replicate l.toArray.size false) :=
    ⟨by simp, fun j oj _ hl => (by rw [getD_replicate_false] at hl; cases hl), fun t _ ht => getD_in (by rw [Array.size_replicate]; exact ht) (getD_replicate_false _ _)⟩
  have hW := wpAnyS_fl hsel (fun _ _ _ _ _ h => h) hs hc hn is true _ a w.drew inv hH hS h
  refine (congrArg (fun k => wpAny P .any l.toArray (NoPanic Q) k (Array.replicate l.toArray.size false) a w.drew) hsz).mpr ?_
  refine wpAny_of_S (fun listed a w hL => ?_) _ _ _ _ hW
  have hd : (l.drop n).length = l.toArray.size - n := by simp
  have := wpAny_of_seq (Q' := NoPanic Q) (l.drop n) n listed a w (fun j => by simp) (by rw [hd]; exact hL.1) hL.2
  rw [hd] at this
  exact this
end
end Go.Proofs.Ytbcdpibcieadlaa
