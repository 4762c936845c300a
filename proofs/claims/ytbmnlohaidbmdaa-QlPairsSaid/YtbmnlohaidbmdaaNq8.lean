/- Regions that draw their order, with one operation that turns the world (a store) in their midst, and another at their end: what is read ahead of it is read in the world as it was; what is only moved may be moved whenever. No condition. -/
import Derived.Test.YtbmnlohaidbmdaaNq4
namespace Go.Proofs.Ytbmnlohaidbmdaa
open Go Go.RowKit
section
variable {P : Program} {ops : Array Oper} {Q : Exit → Act → World → Prop} {md : Region.Mode} {F : World → Prop} {n e : Nat} {L : Array Bool → Act → World → Prop}
/-- Until operation e is carried out the world meets F. -/
def tS (F : World → Prop) (e : Nat) (listed : Array Bool) (w : World) : Prop := listed.getD e false = false → F w
theorem tS_set {i : Nat} {listed : Array Bool} {w : World} (h : i ≠ e) : tS F e (listed.setIfInBounds i true) w ↔ tS F e listed w := by
  unfold tS
  rw [getD_set_ne false h]
def wpAnyT (P : Program) (md : Region.Mode) (ops : Array Oper) (Q : Exit → Act → World → Prop) (F : World → Prop) (n e : Nat) (L : Array Bool → Act → World → Prop) : Nat → Array Bool → Act → World → Prop
  | 0, listed, a, w => L listed a w
  | f + 1, listed, a, w =>
    Region.ready md ops listed ≠ [] ∧ ∀ i ∈ Region.ready md ops listed, i < n ∧ wpOp P ops Q i (fun a' w' => tS F e (listed.setIfInBounds i true) w' ∧ wpAnyT P md ops Q F n e L f (listed.setIfInBounds i true) a' w') a w
theorem wpAny_of_T {g : Nat} (hL : ∀ listed a w, L listed a w → wpAny P md ops Q g listed a w) :
    ∀ (f : Nat) (listed : Array Bool) (a : Act) (w : World), wpAnyT P md ops Q F n e L f listed a w → wpAny P md ops Q (f + g) listed a w
  | 0, listed, a, w, h => by rw [Nat.zero_add]; exact hL _ _ _ h
  | f + 1, listed, a, w, h => by
    rw [show f + 1 + g = (f + g) + 1 by omega]
    exact ⟨fun h0 => absurd h0 h.1, fun i hi => wpOp_mono (fun a' w' h' => wpAny_of_T hL f _ a' w' h'.2) (h.2 i hi).2⟩

theorem wpAnyT_first {i : Nat} {oi : Oper} {v : Value} {C : World → Prop} (hi : ops[i]? = some oi) (hie : i ≠ e) (hC : ∀ listed w, HeadInv md ops n listed → listed.getD i false = false → tS F e listed w → C w) (hsel : ∀ (j : Nat) (o : Oper) cs b, ops[j]? = some o → o.op ≠ .select cs b)
    (hQ : ∀ c a w, Q (.panic c) (a.put oi.dst v) w → Q (.panic c) a w)
    (hs : Region.sinkB md ops n = true) (hc : Region.chainB md ops n = true) (hn : n < ops.size) (hin : i < n)
    (hdone : ∀ listed a w, L listed a w → ∀ j ∈ Region.ready md ops listed, n ≤ j) :
    ∀ (f : Nat) (listed : Array Bool) (a : Act) (w : World), HeadInv md ops n listed →
      (∀ j oj, ops[j]? = some oj → j ≠ i → listed.getD j true = false → (∀ e ∈ oj.after, Region.binds md e = true → e.on ≠ i) → oi.apart ops oj = true) →
      i ∈ Region.ready md ops listed → YieldsIf P ops C oi v a → tS F e listed w →
      wpAnyT P md ops Q F n e L f (listed.setIfInBounds i true) (a.put oi.dst v) w → wpAnyT P md ops Q F n e L (f + 1) listed a w := by
  intro f
  induction f with
  | zero =>
    intro listed a w inv _ hr hy hS H
    have hun := (mem_ready.1 hr).1
    refine ⟨fun h => (by rw [h] at hr; cases hr), fun j hj => ?_⟩
    have hjn : j < n := by
      rcases Nat.lt_or_ge j n with h | h
      · exact h
      · exact absurd hj (tail_waits hs hc hn inv _ i rfl hin hun j h)
    refine ⟨hjn, ?_⟩
    by_cases hji : j = i
    · subst hji; exact hy.wpOp hi (hC _ _ inv (getD_both hun) hS) ⟨(tS_set hie).2 hS, H⟩
    · have := hdone _ _ _ H j (ready_mono hj hji)
      omega
  | succ f ih =>
    intro listed a w inv hfree hr hy hS H
    have hun := (mem_ready.1 hr).1
    refine ⟨fun h => (by rw [h] at hr; cases hr), fun j hj => ?_⟩
    have hjn : j < n := by
      rcases Nat.lt_or_ge j n with h | h
      · exact h
      · exact absurd hj (tail_waits hs hc hn inv _ i rfl hin hun j h)
    refine ⟨hjn, ?_⟩
    by_cases hji : j = i
    · subst hji; exact hy.wpOp hi (hC _ _ inv (getD_both hun) hS) ⟨(tS_set hie).2 hS, H⟩
    · have h1 := (H.2 j (ready_mono hj hji)).2
      obtain ⟨hjun, oj, hoj, hall⟩ := mem_ready.1 hj
      have hnot : ∀ e ∈ oj.after, Region.binds md e = true → e.on ≠ i := fun e he hb heq => by
        have h1 := hall e he hb
        rw [heq, getD_both hun] at h1
        cases h1
      have h2 := wpOp_putIf hoj (hfree j oj hoj hji hjun hnot) (fun cs b => hsel i oi cs b hi) (fun cs b => hsel j oj cs b hoj) hQ hy h1
      have hfree' : ∀ k ok, ops[k]? = some ok → k ≠ i → (listed.setIfInBounds j true).getD k true = false →
          (∀ e ∈ ok.after, Region.binds md e = true → e.on ≠ i) → oi.apart ops ok = true := fun k ok hk hki hun hno => by
        refine hfree k ok hk hki ?_ hno
        by_cases hjk : j = k
        · subst hjk; exact hjun
        · rw [getD_set_ne true hjk] at hun; exact hun
      refine wpOp_mono (fun a' w' h3 => ?_) h2
      have h5 := h3.2.1
      rw [Array.setIfInBounds_comm _ _ (Ne.symm hji)] at h5
      have h4 : tS F e (listed.setIfInBounds j true) w' := (tS_set hie).1 h5
      refine ⟨h4, ih (listed.setIfInBounds j true) a' w' (inv.set hj hjn) hfree' (ready_mono hr (Ne.symm hji)) h3.1 h4 ?_⟩
      rw [Array.setIfInBounds_comm _ _ hji]
      exact h3.2.2

/-- Does operation e wait for operation i? -/
def waitsB (md : Region.Mode) (ops : Array Oper) (e i : Nat) : Bool := match ops.toList[e]? with | some o => o.after.toList.any (fun x => Region.binds md x && decide (x.on = i)) | none => false
/-- The second operations. -/
def tlB (md : Region.Mode) (ops : Array Oper) (n e : Nat) : List Nat → Array Bool → Bool
  | [], listed => Region.seqB md ops (ops.size - n) n listed
  | i :: l, listed => (Region.ready md ops listed).contains i && Region.free md ops listed i && decide (i < n) && decide (i ≠ e) && tlB md ops n e l (listed.setIfInBounds i true)
/-- The first ones (true: read in the world as it is), and operation e. -/
def thB (md : Region.Mode) (ops : Array Oper) (n e : Nat) (l2 : List Nat) : List (Bool × Nat) → Array Bool → Bool
  | [], listed => decide (Region.ready md ops listed = [e]) && decide (e < n) && tlB md ops n e l2 (listed.setIfInBounds e true)
  | (b, i) :: l, listed => (Region.ready md ops listed).contains i && Region.free md ops listed i && decide (i < n) && decide (i ≠ e) && (!b || waitsB md ops e i) && thB md ops n e l2 l (listed.setIfInBounds i true)
def tlW (P : Program) (ops : Array Oper) (K : Act → Prop) : List Nat → Act → Prop
  | [], a => K a
  | i :: l, a => ∃ o, ops.toList[i]? = some o ∧ ∃ v, YieldsIf P ops (fun _ => True) o v a ∧ tlW P ops K l (a.put o.dst v)
def thW (P : Program) (ops : Array Oper) (F : World → Prop) (K : Act → Prop) : List (Bool × Nat) → Act → Prop
  | [], a => K a
  | (b, i) :: l, a => ∃ o, ops.toList[i]? = some o ∧ ∃ v, YieldsIf P ops (fun w => b = true → F w) o v a ∧ thW P ops F K l (a.put o.dst v)
theorem tlW_take {K : Act → Prop} {i : Nat} {l : List Nat} {a : Act} {o : Oper} {v : Value} (ho : ops.toList[i]? = some o) (hw : Region.wanted o (yielded ops a.tmps) = true) (hv : ∀ w, (execOp a.eval o).run P w = .ok (.value v) w)
    (h : tlW P ops K l (a.put o.dst v)) : tlW P ops K (i :: l) a := ⟨o, ho, v, .inl ⟨hw, fun w _ => hv w⟩, h⟩
theorem tlW_nil {K : Act → Prop} {a : Act} (h : K a) : tlW P ops K [] a := h
theorem thW_take {K : Act → Prop} {i : Nat} {l : List (Bool × Nat)} {a : Act} {o : Oper} {v : Value} (ho : ops.toList[i]? = some o) (hw : Region.wanted o (yielded ops a.tmps) = true) (hv : ∀ w, F w → (execOp a.eval o).run P w = .ok (.value v) w)
    (h : thW P ops F K l (a.put o.dst v)) : thW P ops F K ((true, i) :: l) a := ⟨o, ho, v, .inl ⟨hw, fun w hw => hv w (hw rfl)⟩, h⟩
theorem thW_any {K : Act → Prop} {i : Nat} {l : List (Bool × Nat)} {a : Act} {o : Oper} {v : Value} (ho : ops.toList[i]? = some o) (hw : Region.wanted o (yielded ops a.tmps) = true) (hv : ∀ w, (execOp a.eval o).run P w = .ok (.value v) w)
    (h : thW P ops F K l (a.put o.dst v)) : thW P ops F K ((false, i) :: l) a := ⟨o, ho, v, .inl ⟨hw, fun w _ => hv w⟩, h⟩
theorem thW_nil {K : Act → Prop} {a : Act} (h : K a) : thW P ops F K [] a := h

theorem waitsB_spec {i : Nat} {listed : Array Bool} (h : waitsB md ops e i = true) (inv : HeadInv md ops n listed) (hun : listed.getD i false = false) : listed.getD e false = false := by
  unfold waitsB at h
  cases ho : ops.toList[e]? with
  | none => rw [ho] at h; cases h
  | some o =>
    rw [ho] at h
    simp only [List.any_eq_true, Bool.and_eq_true, decide_eq_true_eq] at h
    obtain ⟨x, hx, hb, rfl⟩ := h
    cases hl : listed.getD e false
    · rfl
    · have := inv.closed e o (by simpa using ho) hl x (by simpa using hx) hb
      rw [this] at hun
      cases hun
theorem wpAnyT_tl {K : Act → World → Prop} (hsel : Region.noSelect ops = true) (hQ : ∀ c a d v w, Q (.panic c) (Act.put a d v) w → Q (.panic c) a w)
    (hs : Region.sinkB md ops n = true) (hc : Region.chainB md ops n = true) (hn : n < ops.size) (w : World) :
    ∀ (l : List Nat) (listed : Array Bool) (a : Act), HeadInv md ops n listed → tlB md ops n e l listed = true → tS F e listed w →
    tlW P ops (fun a' => K a' w) l a → wpAnyT P md ops Q F n e (fun listed a w => Region.seqB md ops (ops.size - n) n listed = true ∧ K a w) l.length listed a w
  | [], listed, a, _, hB, _, h => ⟨by simpa only [tlB] using hB, h⟩
  | p :: l, listed, a, inv, hB, hS, h => by
    simp only [tlB, Bool.and_eq_true, decide_eq_true_eq] at hB
    obtain ⟨⟨⟨⟨hr, hf⟩, hpn⟩, hpe⟩, hB⟩ := hB
    obtain ⟨o, ho', v, hy, hK⟩ := h
    have ho : ops[p]? = some o := by simpa using ho'
    have hr' : p ∈ Region.ready md ops listed := by simpa using hr
    exact wpAnyT_first ho hpe (fun _ _ _ _ _ => trivial) (Region.noSelect_spec hsel) (fun c a w => hQ c a _ _ w) hs hc hn hpn (fun listed' a' w' hL => seqB_ready hL.1) _ listed a w inv (Region.free_spec ho hf) hr' hy hS
      (wpAnyT_tl hsel hQ hs hc hn w l _ _ (inv.set hr' hpn) hB ((tS_set hpe).2 hS) hK)
theorem wpAnyT_th {K : Act → World → Prop} (hsel : Region.noSelect ops = true) (hQ : ∀ c a d v w, Q (.panic c) (Act.put a d v) w → Q (.panic c) a w)
    (hs : Region.sinkB md ops n = true) (hc : Region.chainB md ops n = true) (hn : n < ops.size) (l2 : List Nat) {oe : Oper} (hoe : ops[e]? = some oe) (w : World) :
    ∀ (l : List (Bool × Nat)) (listed : Array Bool) (a : Act), HeadInv md ops n listed → thB md ops n e l2 l listed = true → tS F e listed w →
    thW P ops F (fun a' => Region.wanted oe (yielded ops a'.tmps) = true ∧ Oper.wp P oe a' w (fun a'' w'' => tlW P ops (fun a3 => K a3 w'') l2 a'') Q) l a → wpAnyT P md ops Q F n e (fun listed a w => Region.seqB md ops (ops.size - n) n listed = true ∧ K a w) (l.length + (l2.length + 1)) listed a w
  | [], listed, a, inv, hB, hS, h => by
    simp only [thB, Bool.and_eq_true, decide_eq_true_eq] at hB
    obtain ⟨⟨hr, hen⟩, hB⟩ := hB
    rw [List.length_nil, Nat.zero_add]
    have hr' : e ∈ Region.ready md ops listed := by rw [hr]; simp
    refine ⟨by rw [hr]; simp, fun i hi => ?_⟩
    rw [hr] at hi
    obtain rfl : i = e := by simpa using hi
    refine ⟨hen, ?_⟩
    unfold wpOp
    simp only [hoe]
    rw [if_pos h.1]
    refine .inl (Oper.wp_mono (fun a' w' h' => ?_) h.2)
    have hsz : i < listed.size := by rw [inv.size]; exact (Array.getElem?_eq_some_iff.1 hoe).1
    have hS' : tS F i (listed.setIfInBounds i true) w' := fun h0 => by
      simp [hsz] at h0
    exact ⟨hS', wpAnyT_tl hsel hQ hs hc hn w' l2 _ _ (inv.set hr' hen) hB hS' h'⟩
  | (b, p) :: l, listed, a, inv, hB, hS, h => by
    simp only [thB, Bool.and_eq_true, decide_eq_true_eq] at hB
    obtain ⟨⟨⟨⟨⟨hr, hf⟩, hpn⟩, hpe⟩, hw⟩, hB⟩ := hB
    obtain ⟨o, ho', v, hy, hK⟩ := h
    have ho : ops[p]? = some o := by simpa using ho'
    have hr' : p ∈ Region.ready md ops listed := by simpa using hr
    have hC : ∀ listed w, HeadInv md ops n listed → listed.getD p false = false → tS F e listed w → (b = true → F w) := fun listed w inv hun hS hb => by
      subst hb
      exact hS (waitsB_spec (by simpa using hw) inv hun)
    rw [show (((b, p) :: l).length + (l2.length + 1)) = (l.length + (l2.length + 1)) + 1 by simp; omega]
    exact wpAnyT_first ho hpe hC (Region.noSelect_spec hsel) (fun c a w => hQ c a _ _ w) hs hc hn hpn (fun listed' a' w' hL => seqB_ready hL.1) _ listed a w inv (Region.free_spec ho hf) hr' hy hS
      (wpAnyT_th hsel hQ hs hc hn l2 hoe w l _ _ (inv.set hr' hpn) hB ((tS_set hpe).2 hS) hK)

def swapR (l : List Oper) (n e : Nat) (l1 : List (Bool × Nat)) (l2 : List Nat) : Bool :=
  Region.noSelect l.toArray && decide (n < l.toArray.size) && decide (n = l1.length + (l2.length + 1)) && Region.sinkB .any l.toArray n && Region.chainB .any l.toArray n && thB .any l.toArray n e l2 l1 (Array.replicate l.toArray.size false)
/-- **THE REGION.** -/
theorem wp_region_swap {id : Nat} {a : Act} {w : World} {l : List Oper} (n e : Nat) (l1 : List (Bool × Nat)) (l2 : List Nat) (F : World → Prop) {oe : Oper} (hoe : l[e]? = some oe) (hm : P.follows .mixedOrders = true) (hB : swapR l n e l1 l2 = true) (hF : F w.drew)
    (h : thW P l.toArray F (fun a' => Region.wanted oe (yielded l.toArray a'.tmps) = true ∧ Oper.wp P oe a' w.drew (fun a'' w'' => tlW P l.toArray (fun a3 => wpList P l.toArray (NoPanic Q) (l.drop n) a3 w'') l2 a'') (NoPanic Q)) l1 a) : (Code.region id l.toArray true).wp P Q a w := by
  refine wp_region_noPanic ?_
  simp only [swapR, Bool.and_eq_true, decide_eq_true_eq] at hB
  obtain ⟨⟨⟨⟨⟨hsel, hn⟩, hlen⟩, hs⟩, hc⟩, hH⟩ := hB
  refine wp_region_any hm ?_
  have hsz : l.toArray.size = (l1.length + (l2.length + 1)) + (l.toArray.size - n) := by omega
  have inv : HeadInv .any l.toArray n (Array.replicate l.toArray.size false) :=
    ⟨by simp, fun j oj _ hl => (by rw [getD_replicate_false] at hl; cases hl), fun t _ ht => getD_in (by rw [Array.size_replicate]; exact ht) (getD_replicate_false _ _)⟩
  have hW := wpAnyT_th (K := fun a'' w'' => wpList P l.toArray (NoPanic Q) (l.drop n) a'' w'') hsel (fun _ _ _ _ _ h => h) hs hc hn l2 (by simpa using hoe) w.drew l1 _ a inv hH (fun _ => hF) h
  refine (congrArg (fun k => wpAny P .any l.toArray (NoPanic Q) k (Array.replicate l.toArray.size false) a w.drew) hsz).mpr ?_
  refine wpAny_of_T (fun listed a w hL => ?_) _ _ _ _ hW
  have hd : (l.drop n).length = l.toArray.size - n := by simp
  have := wpAny_of_seq (Q' := NoPanic Q) (l.drop n) n listed a w (fun j => by simp) (by rw [hd]; exact hL.1) hL.2
  rw [hd] at this
  exact this
end
end Go.Proofs.Ytbmnlohaidbmdaa
