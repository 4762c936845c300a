/- Regions that draw their order, with one operation that turns the world (a store) in their midst, and another at their end: what is read ahead of it is read in the world as it was; what is only moved may be moved whenever. No condition. -/
import Derived.Test.YtogkmddhgfenkaaZz8
import Derived.Test.YtogkmddhgfenkaaZz17
import Derived.Test.YtogkmddhgfenkaaZz6
import Derived.Test.YtogkmddhgfenkaaZz15
import Derived.Test.YtogkmddhgfenkaaZz16
namespace Go.Proofs.Ytogkmddhgfenkaa
open Go Go.RowKit
section
variable {P : Program} {ops : Array Oper} {Q : Exit → Act → World → Prop} {md : Region.Mode} {F : World → Prop} {n e : Nat} {L : Array Bool → Act → World → Prop}
/-- Until operation e is carried out the world meets F. -/
def tS (F : World → Prop) (e : Nat) (listed : Array Bool) (w : World) : Prop := listed.getD e false = false → F w
theorem tS_set {i : Nat} {listed : Array Bool} {w : World} (h : i ≠ e) : tS F e (listed.setIfInBounds i true) w ↔ tS F e listed w := by
  unfold tS
  rw [getD_set_ne false h]
def wpAnyT (P : Program) (md : Region.Mode) (ops : Array Oper) (Q : Exit → Act → World → Prop) (F : World → Prop) (n e : Nat) (L : Array Bool → Act → World → Prop) : Nat → Array Bool → Act → World → Prop
  | 0, listed, a, w => L listed a w
  | f + 1, listed, a, w =>
    Region.ready md ops listed ≠ [] ∧ ∀ i ∈ Region.ready md ops listed, i < n ∧ wpOp P ops Q i (fun a' w' => tS F e (listed.setIfInBounds i true) w' ∧ wpAnyT P md ops Q F n e L f (listed.setIfInBounds i true) a' w') a w
theorem wpAny_of_T {g : Nat} (hL : ∀ listed a w, L listed a w → wpAny P md ops Q g listed a w) :
    ∀ (f : Nat) (listed : Array Bool) (a : Act) (w : World), wpAnyT P md ops Q F n e L f listed a w → wpAny P md ops Q (f + g) listed a w
  | 0, listed, a, w, h => by rw [Nat.zero_add]; exact hL _ _ _ h
  | f + 1, listed, a, w, h => by
    rw [show f + 1 + g = (f + g) + 1 by omega]
    exact ⟨fun h0 => absurd h0 h.1, fun i hi => wpOp_mono (fun a' w' h' => wpAny_of_T hL f _ a' w' h'.2) (h.2 i hi).2⟩

theorem wpAnyT_first {i : Nat} {oi : Oper} {v : Value} {C : World → Prop} (hi : ops[i]? = some oi) (hie : i ≠ e) (hC : ∀ listed w, HeadInv md ops n listed → listed.getD i false = false → tS F e listed w → C w) (hsel : ∀ (j : Nat) (o : Oper) cs b, ops[j]? = some o → o.op ≠ .select cs b)
    (hQ : ∀ c a w, Q (.panic c) (a.put oi.dst v) w → Q (.panic c) a w)
    (hs : Region.sinkB md ops n = true) (hc : Region.chainB md ops n = true) (hn : n < ops.size) (hin : i < n)
    (hdone : ∀ listed a w, L listed a w → ∀ j ∈ Region.ready md ops listed, n ≤ j) :
    ∀ (f : Nat) (listed : Array Bool) (a : Act) (w : World), HeadInv md ops n listed →
      (∀ j oj, ops[j]? = some oj → j ≠ i → listed.getD j true = false → (∀ e ∈ oj.after, Region.binds md e = true → e.on ≠ i) → oi.apart ops oj = true) →
      i ∈ Region.ready md ops listed → YieldsIf P ops C oi v a → tS F e listed w →
      wpAnyT P md ops Q F n e L f (listed.setIfInBounds i true) (a.put oi.dst v) w → wpAnyT P md ops Q F n e L (f + 1) listed a w := by
  intro f
  induction f with
  | zero =>
    intro listed a w inv _ hr hy hS H
    have hun := (mem_ready.1 hr).1
    refine ⟨fun h => (by rw [h] at hr; cases hr), fun j hj => ?_⟩
    have hjn : j < n := by
      rcases Nat.lt_or_ge j n with h | h
      · exact h
      · exact absurd hj (tail_waits hs hc hn inv _ i rfl hin hun j h)
    refine ⟨hjn, ?_⟩
    by_cases hji : j = i
    · subst hji; exact hy.wpOp hi (hC _ _ inv (getD_both hun) hS) ⟨(tS_set hie).2 hS, H⟩
    · have := hdone _ _ _ H j (ready_mono hj hji)
      omega
  | succ f ih =>
    intro listed a w inv hfree hr hy hS H
    have hun := (mem_ready.1 hr).1
    refine ⟨fun h => (by rw [h] at hr; cases hr), fun j hj => ?_⟩
    have hjn : j < n := by
      rcases Nat.lt_or_ge j n with h | h
      · exact h
      · exact absurd hj (tail_waits hs hc hn inv _ i rfl hin hun j h)
    refine ⟨hjn, ?_⟩
    by_cases hji : j = i
    · subst hji; exact hy.wpOp hi (hC _ _ inv (getD_both hun) hS) ⟨(tS_set hie).2 hS, H⟩
    · have h1 := (H.2 j (ready_mono hj hji)).2
      obtain ⟨hjun, oj, hoj, hall⟩ := mem_ready.1 hj
      have hnot : ∀ e ∈ oj.after, Region.binds md e = true → e.on ≠ i := fun e he hb heq => by
        have h1 := hall e he hb
        rw [heq, getD_both hun] at h1
        cases h1
      have h2 := wpOp_putIf hoj (hfree j oj hoj hji hjun hnot) (fun cs b => hsel i oi cs b hi) (fun cs b => hsel j oj cs b hoj) hQ hy h1
      have hfree' : ∀ k ok, ops[k]? = some ok → k ≠ i → (listed.setIfInBounds j true).getD k true = false →
          (∀ e ∈ ok.after, Region.binds md e = true → e.on ≠ i) → oi.apart ops ok = true := fun k ok hk hki hun hno => by
        refine hfree k ok hk hki ?_ hno
        by_cases hjk : j = k
        · subst hjk; exact hjun
        · rw [getD_set_ne true hjk] at hun; exact hun
      refine wpOp_mono (fun a' w' h3 => ?_) h2
      have h5 := h3.2.1
      rw [Array.setIfInBounds_comm _ _ (Ne.symm hji)] at h5
      have h4 : tS F e (listed.setIfInBounds j true) w' := (tS_set hie).1 h5
      refine ⟨h4, ih (listed.setIfInBounds j true) a' w' (inv.set hj hjn) hfree' (ready_mono hr (Ne.symm hji)) h3.1 h4 ?_⟩
      rw [Array.setIfInBounds_comm _ _ hji]
      exact h3.2.2

/-- Does operation e wait for operation i? -/
def waitsB (md : Region.Mode) (ops : Array Oper) (e i : Nat) : Bool := match ops.toList[e]? with | some o => o.after.toList.any (fun x => Region.binds md x && decide (x.on = i)) | none => false
/-- The second operations. -/
def tlB (md : Region.Mode) (ops : Array Oper) (n e : Nat) : List Nat → Array Bool → Bool
  | [], listed => Region.seqB md ops (ops.size - n) n listed
  | i :: l, listed => (Region.ready md ops listed).contains i && Region.free md ops listed i && decide (i < n) && decide (i ≠ e) && tlB md ops n e l (listed.setIfInBounds i true)
/-- The first ones (true: read in the world as it is), and operation e. -/
def thB (md : Region.Mode) (ops : Array Oper) (n e : Nat) (l2 : List Nat) : List (Bool × Nat) → Array Bool → Bool
  | [], listed => decide (Region.ready md ops listed = [e]) && decide (e < n) && tlB md ops n e l2 (listed.setIfInBounds e true)
  | (b, i) :: l, listed => (Region.ready md ops listed).contains i && Region.free md ops listed i && decide (i < n) && decide (i ≠ e) && (!b || waitsB md ops e i) && thB md ops n e l2 l (listed.setIfInBounds i true)
def tlW (P : Program) (ops : Array Oper) (K : Act → Prop) : List Nat → Act → Prop
  | [], a => K a
  | i :: l, a => ∃ o, ops.toList[i]? = some o ∧ ∃ v, YieldsIf P ops (fun _ => True) o v a ∧ tlW P ops K l (a.put o.dst v)
def thW (P : Program) (ops : Array Oper) (F : World → Prop) (K : Act → Prop) : List (Bool × Nat) → Act → Prop
  | [], a => K a
  | (b, i) :: l, a => ∃ o, ops.toList[i]? = some o ∧ ∃ v, YieldsIf P ops (fun w => b = true → F w) o v a ∧ thW P ops F K l (a.put o.dst v)
theorem tlW_take {K : Act → Prop} {i : Nat} {l : List Nat} {a : Act} {o : Oper} {v : Value} (ho : ops.toList[i]? = some o) (hw : Region.wanted o (yielded ops a.tmps) = true) (hv : ∀ w, (execOp a.eval o).run P w = .ok (.value v) w)
    (h : tlW P ops K l (a.put o.dst v)) : tlW P ops K (i :: l) a := ⟨o, ho, v, .inl ⟨hw, fun w _ => hv w⟩, h⟩
theorem tlW_nil {K : Act → Prop} {a : Act} (h : K a) : tlW P ops K [] a := h
theorem thW_take {K : Act → Prop} {i : Nat} {l : List (Bool × Nat)} {a : Act} {o : Oper} {v : Value} (ho : ops.toList[i]? = some o) (hw : Region.wanted o (yielded ops a.tmps) = true) (hv : ∀ w, F w → (execOp a.eval o).run P w = .ok (.value v) w)
    (h : thW P ops F K l (a.put o.dst v)) : thW P ops F K ((true, i) :: l) a := ⟨o, ho, v, .inl ⟨hw, fun w hw => hv w (hw rfl)⟩, h⟩
theorem thW_any {K : Act → Prop} {i : Nat} {l : List (Bool × Nat)} {a : Act} {o : Oper} {v : Value} (ho : ops.toList[i]? = some o) (hw : Region.wanted o (yielded ops a.tmps) = true) (hv : ∀ w, (execOp a.eval o).run P w = .ok (.value v) w)
    (h : thW P ops F K l (a.put o.dst v)) : thW P ops F K ((false, i) :: l) a := ⟨o, ho, v, .inl ⟨hw, fun w _ => hv w⟩, h⟩
theorem thW_nil {K : Act → Prop} {a : Act} (h : K a) : thW P ops F K [] a := h

theorem waitsB_spec {i : Nat} {listed : Array Bool} (h : waitsB md ops e i = true) (inv : HeadInv md ops n listed) (hun : listed.getD i false = false) : listed.getD e false = false := by
  unfold waitsB at h
  cases ho : ops.toList[e]? with
  | none => rw [ho] at h; cases h
  | some o =>
    rw [ho] at h
    simp only [List.any_eq_true, Bool.and_eq_true, decide_eq_true_eq] at h
    obtain ⟨x, hx, hb, rfl⟩ := h
    cases hl : listed.getD e false
    · rfl
    · have := inv.closed e o (by simpa using ho) hl x (by simpa using hx) hb
      rw [this] at hun
      cases hun
theorem wpAnyT_tl {K : Act → World → Prop} (hsel : Region.noSelect ops = true) (hQ : ∀ c a d v w, Q (.panic c) (Act.put a d v) w → Q (.panic c) a w)
    (hs : Region.sinkB md ops n = true) (hc : Region.chainB md ops n = true) (hn : n < ops.size) (w : World) :
    ∀ (l : List Nat) (listed : Array Bool) (a : Act), HeadInv md ops n listed → tlB md ops n e l listed = true → tS F e listed w →
    tlW P ops (fun a' => K a' w) l a → wpAnyT P md ops Q F n e (fun listed a w => Region.seqB md ops (ops.size - n) n listed = true ∧ K a w) l.length listed a w
  | [], listed, a, _, hB, _, h => ⟨by simpa only [tlB] using hB, h⟩
  | p :: l, listed, a, inv, hB, hS, h => by
    simp only [tlB, Bool.and_eq_true, decide_eq_true_eq] at hB
    obtain ⟨⟨⟨⟨hr, hf⟩, hpn⟩, hpe⟩, hB⟩ := hB
    obtain ⟨o, ho', v, hy, hK⟩ := h
    have ho : ops[p]? = some o := by simpa using ho'
    have hr' : p ∈ Region.ready md ops listed := by simpa using hr
    exact wpAnyT_first ho hpe (fun _ _ _ _ _ => trivial) (Region.noSelect_spec hsel) (fun c a w => hQ c a _ _ w) hs hc hn hpn (fun listed' a' w' hL => seqB_ready hL.1) _ listed a w inv (Region.free_spec ho hf) hr' hy hS
      (wpAnyT_tl hsel hQ hs hc hn w l _ _ (inv.set hr' hpn) hB ((tS_set hpe).2 hS) hK)
theorem wpAnyT_th {K : Act → World → Prop} (hsel : Region.noSelect ops = true) (hQ : ∀ c a d v w, Q (.panic c) (Act.put a d v) w → Q (.panic c) a w)
    (hs : Region.sinkB md ops n = true) (hc : Region.chainB md ops n = true) (hn : n < ops.size) (l2 : List Nat) {oe : Oper} (hoe : ops[e]? = some oe) (w : World) :
    ∀ (l : List (Bool × Nat)) (listed : Array Bool) (a : Act), HeadInv md ops n listed → thB md ops n e l2 l listed = true → tS F e listed w →
    thW P ops F (fun a' => Region.wanted oe (yielded ops a'.tmps) = true ∧ Oper.wp P oe a' w (fun a'' w'' => tlW P ops (fun a3 => K a3 w'') l2 a'') Q) l a → wpAnyT P md ops Q F n e (fun listed a w => Region.seqB md ops (ops.size - n) n listed = true ∧ K a w) (l.length + (l2.length + 1)) listed a w
  | [], listed, a, inv, hB, hS, h => by
    simp only [thB, Bool.and_eq_true, decide_eq_true_eq] at hB
    obtain ⟨⟨hr, hen⟩, hB⟩ := hB
    rw [List.length_nil, Nat.zero_add]
    have hr' : e ∈ Region.ready md ops listed := by rw [hr]; simp
    refine ⟨by rw [hr]; simp, fun i hi => ?_⟩
    rw [hr] at hi
    obtain rfl : i = e := by simpa using hi
    refine ⟨hen, ?_⟩
    unfold wpOp
    simp only [hoe]
    rw [if_pos h.1]
    refine .inl (Oper.wp_mono (fun a' w' h' => ?_) h.2)
    have hsz : i < listed.size := by rw [inv.size]; exact (Array.getElem?_eq_some_iff.1 hoe).1
    have hS' : tS F i (listed.setIfInBounds i true) w' := fun h0 => by
      simp [hsz] at h0
    exact ⟨hS', wpAnyT_tl hsel hQ hs hc hn w' l2 _ _ (inv.set hr' hen) hB hS' h'⟩
  | (b, p) :: l, listed, a, inv, hB, hS, h => by
    simp only [thB, Bool.and_eq_true, decide_eq_true_eq] at hB
    obtain ⟨⟨⟨⟨⟨hr, hf⟩, hpn⟩, hpe⟩, hw⟩, hB⟩ := hB
    obtain ⟨o, ho', v, hy, hK⟩ := h
    have ho : ops[p]? = some o := by simpa using ho'
    have hr' : p ∈ Region.ready md ops listed := by simpa using hr
    have hC : ∀ listed w, HeadInv md ops n listed → listed.getD p false = false → tS F e listed w → (b = true → F w) := fun listed w inv hun hS hb => by
      subst hb
      exact hS (waitsB_spec (by simpa using hw) inv hun)
    rw [show (((b, p) :: l).length + (l2.length + 1)) = (l.length + (l2.length + 1)) + 1 by simp; omega]
    exact wpAnyT_first ho hpe hC (Region.noSelect_spec hsel) (fun c a w => hQ c a _ _ w) hs hc hn hpn (fun listed' a' w' hL => seqB_ready hL.1) _ listed a w inv (Region.free_spec ho hf) hr' hy hS
      (wpAnyT_th hsel hQ hs hc hn l2 hoe w l _ _ (inv.set hr' hpn) hB ((tS_set hpe).2 hS) hK)

def swapR (l : List Oper) (n e : Nat) (l1 : List (Bool × Nat)) (l2 : List Nat) : Bool :=
  Region.noSelect l.toArray && decide (n < l.toArray.size) && decide (n = l1.length + (l2.length + 1)) && Region.sinkB .any l.toArray n && Region.chainB .any l.toArray n && thB .any l.toArray n e l2 l1 (Array.replicate l.toArray.size false)
/-- **THE REGION.** -/
theorem wp_region_swap {id : Nat} {a : Act} {w : World} {l : List Oper} (n e : Nat) (l1 : List (Bool × Nat)) (l2 : List Nat) (F : World → Prop) {oe : Oper} (hoe : l[e]? = some oe) (hm : P.follows .mixedOrders = true) (hB : swapR l n e l1 l2 = true) (hF : F w.drew)
    (h : thW P l.toArray F (fun a' => Region.wanted oe (yielded l.toArray a'.tmps) = true ∧ Oper.wp P oe a' w.drew (fun a'' w'' => tlW P l.toArray (fun a3 => wpList P l.toArray (NoPanic Q) (l.drop n) a3 w'') l2 a'') (NoPanic Q)) l1 a) : (Code.region id l.toArray true).wp P Q a w := by
  refine wp_region_noPanic ?_
  simp only [swapR, Bool.and_eq_true, decide_eq_true_eq] at hB
  obtain ⟨⟨⟨⟨⟨hsel, hn⟩, hlen⟩, hs⟩, hc⟩, hH⟩ := hB
  refine wp_region_any hm ?_
  have hsz : l.toArray.size = (l1.length + (l2.length + 1)) + (l.toArray.size - n) := by omega
  have inv : HeadInv .any l.toArray n (Array.replicate l.toArray.size false) :=
    ⟨by simp, fun j oj _ hl => (by rw [getD_replicate_false] at hl; cases hl), fun t _ ht => getD_in (by rw [Array.size_replicate]; exact ht) (getD_replicate_false _ _)⟩
  have hW := wpAnyT_th (K := fun a'' w'' => wpList P l.toArray (NoPanic Q) (l.drop n) a'' w'') hsel (fun _ _ _ _ _ h => h) hs hc hn l2 (by simpa using hoe) w.drew l1 _ a inv hH (fun _ => hF) h
  refine (congrArg (fun k => wpAny P .any l.toArray (NoPanic Q) k (Array.replicate l.toArray.size false) a w.drew) hsz).mpr ?_
  refine wpAny_of_T (fun listed a w hL => ?_) _ _ _ _ hW
  have hd : (l.drop n).length = l.toArray.size - n := by simp
  have := wpAny_of_seq (Q' := NoPanic Q) (l.drop n) n listed a w (fun j => by simp) (by rw [hd]; exact hL.1) hL.2
  rw [hd] at this
  exact this
end
end Go.Proofs.Ytogkmddhgfenkaa

/- The sturm law's sorted: a rising list of the same floats. No condition but that they are finite, and at most 1000. -/
namespace Go.Proofs.Ytogkmddhgfenkaa
open Go Go.RowKit
set_option maxRecDepth 100000

theorem perm_swp : ∀ (l : List Nat) (k : Nat), k + 1 < l.length → ((l.set (k + 1) (l.getD k 0)).set k (l.getD (k + 1) 0)).Perm l
  | [], k, h => by simp at h
  | [a], k, h => by simp at h
  | a :: b :: t, 0, _ => by simpa using List.Perm.swap a b t
  | a :: t, k + 1, h => by
    have := perm_swp t k (by simpa using h)
    simpa using this.cons a
/-- Rising up to place i, but for the float at place k, which is below those behind it. -/
def SI (l : List Nat) (i k : Nat) : Prop := (∀ p q, p < q → q ≤ i → p ≠ k → q ≠ k → fkey (l.getD p 0) ≤ fkey (l.getD q 0)) ∧ ∀ q, k < q → q ≤ i → fkey (l.getD k 0) ≤ fkey (l.getD q 0)
/-- Rising ahead of place i. -/
def SU (l : List Nat) (i : Nat) : Prop := ∀ p q, p < q → q < i → fkey (l.getD p 0) ≤ fkey (l.getD q 0)
theorem SI.start {l : List Nat} {i : Nat} (h : SU l i) : SI l i i := ⟨fun p q h1 h2 h3 h4 => h p q h1 (by omega), fun q h1 h2 => by omega⟩
theorem SI.done {l : List Nat} {i k : Nat} (h : SI l i k) (hk : k = 0 ∨ fkey (l.getD (k - 1) 0) ≤ fkey (l.getD k 0)) : SU l (i + 1) := fun p q h1 h2 => by
  by_cases hp : p = k
  · subst hp; exact h.2 q h1 (by omega)
  · by_cases hq : q = k
    · subst hq
      have hk' : fkey (l.getD (q - 1) 0) ≤ fkey (l.getD q 0) := by
        rcases hk with hk | hk
        · omega
        · exact hk
      by_cases hpq : p = q - 1
      · rw [hpq]; exact hk'
      · exact Int.le_trans (h.1 p (q - 1) (by omega) (by omega) hp (by omega)) hk'
    · exact h.1 p q h1 (by omega) hp hq
theorem swp_getD {l : List Nat} {k : Nat} (h : k + 1 < l.length) (j : Nat) : ((l.set (k + 1) (l.getD k 0)).set k (l.getD (k + 1) 0)).getD j 0 = if j = k then l.getD (k + 1) 0 else if j = k + 1 then l.getD k 0 else l.getD j 0 := by
  rw [List.getD_eq_getElem?_getD]
  by_cases h1 : j = k
  · subst h1
    rw [if_pos rfl, List.getElem?_set_self (by simp; omega)]; rfl
  · rw [if_neg h1, List.getElem?_set_ne (by omega)]
    by_cases h2 : j = k + 1
    · subst h2
      rw [if_pos rfl, List.getElem?_set_self (by omega)]; rfl
    · rw [if_neg h2, List.getElem?_set_ne (by omega), ← List.getD_eq_getElem?_getD]
theorem SI.swp {l : List Nat} {i k : Nat} (h : SI l i (k + 1)) (hi : i < l.length) (hk : k + 1 ≤ i) (hlt : fkey (l.getD (k + 1) 0) < fkey (l.getD k 0)) : SI ((l.set (k + 1) (l.getD k 0)).set k (l.getD (k + 1) 0)) i k := by
  constructor
  · intro p q h1 h2 h3 h4
    rw [swp_getD (by omega), swp_getD (by omega), if_neg h3, if_neg h4]
    by_cases hp : p = k + 1
    · rw [if_pos hp, if_neg (by omega)]
      exact h.1 k q (by omega) h2 (by omega) (by omega)
    · rw [if_neg hp]
      by_cases hq : q = k + 1
      · rw [if_pos hq]
        exact h.1 p k (by omega) (by omega) hp (by omega)
      · rw [if_neg hq]
        exact h.1 p q h1 h2 hp hq
  · intro q h1 h2
    rw [swp_getD (by omega), swp_getD (by omega), if_pos rfl, if_neg (by omega)]
    by_cases hq : q = k + 1
    · rw [if_pos hq]; omega
    · rw [if_neg hq]
      exact h.2 q (by omega) h2

set_option maxHeartbeats 8000000 in
theorem sorted13_any (w : World) (da : Option Addr) (ds : List Nat) (dc : Nat) (hD : Fls w da ds) (h0 : ds ≠ []) (hl : ds.length ≤ 1000) (hn : ∀ v ∈ ds, isnan v = false) :
    Calls Try.prog 42 #[.slice da ds.length dc] w fun e w' => (∃ g c' L, e = .returned (.slice (some ⟨g, 0, none⟩) ds.length c') ∧ L.Perm ds ∧ (∀ i j, i < j → j < L.length → fkey (L.getD i 0) ≤ fkey (L.getD j 0)) ∧ Flb w' g L) ∧ Below w.heap.size w w' := by
  have hl2 : ds.length ≤ 262144 := by omega
  have hpos := List.length_pos_iff.2 h0
  go_enter Try.func42, Try.ntmps42
  go_wp2_with (at_builtin; refine wpList_append_fls rfl _ _ rfl da ds dc rfl rfl hD hl2 h0 ?_; intro g c' w1 hg hF hb1)
  have HN := Lib.hid (show (∀ v ∈ ds, isnan v = false) ∧ w.heap.size ≤ g from ⟨hn, hg⟩)
  have hs1 := hb1.size
  have hln : ds.length ≤ 9223372036854775807 := by omega
  clear hD h0 hn hg
  go_loopw [4, 5] (fun s4 s5 wr => ∃ (i : Nat) (L : List Nat), s4 = .int .i64 i ∧ i ≤ ds.length ∧ L.length = ds.length ∧ L.Perm ds ∧ SU L i ∧ Flb wr g L ∧ Below w.heap.size w wr) (fun s4 _ _ => ds.length - (intOf s4).toNat)
  case atStart => exact ⟨0, ds, rfl, Nat.zero_le _, rfl, List.Perm.refl _, fun p q h1 h2 => by omega, hF, hb1⟩
  case round =>
    obtain ⟨i, L, rfl, hi, hL, hP, hS, hFr, hB⟩ := hrel
    by_cases hlt : i < ds.length
    · have HO := Lib.hid (show _ ∧ _ ∧ _ from ⟨hP, hB, hS⟩)
      have hSI := SI.start hS
      clear hP hB hS
      go_wp2_with fail
      go_loopw [5] (fun s5 wk => ∃ (k : Nat) (M : List Nat), s5 = .int .i64 k ∧ k ≤ i ∧ M.length = ds.length ∧ M.Perm ds ∧ SI M i k ∧ Flb wk g M ∧ Below w.heap.size w wk) (fun s5 _ => (intOf s5).toNat)
      case atStart => exact ⟨i, L, rfl, Nat.le_refl _, hL, HO.out.1, hSI, hFr, HO.out.2.1⟩
      case round =>
        obtain ⟨k, M, rfl, hk, hM, hPM, hSM, hFM, hBM⟩ := hrel
        clear hFr hSI hL
        have hkm : k < M.length := by omega
        have hglt := hFM.lt
        have hfz := hFM.frozen
        obtain ⟨sa, ca⟩ := hFM.at hkm
        have na : isnan (M.getD k 0) = false := HN.out.1 _ (hPM.mem_iff.1 (by rw [List.getD_eq_getElem?_getD, List.getElem?_eq_getElem hkm]; exact List.getElem_mem _))
        cases k with
        | zero =>
          have HI := Lib.hid (show _ ∧ _ ∧ _ ∧ _ from ⟨hPM, hSM, hBM, hFM⟩)
          clear hPM hSM hBM hFM
          go_wp2_with fail
          refine wp_region_nqb 14 (fun _ _ _ => False) (by kernel_rfl) (by kernel_rfl) ?_
          intro Cw Rw hc hb' hb2 hd hRw
          simp only [List.take_succ_cons, List.take_zero]
          repeat (
            first
              | (refine nqW_skip rfl (fun K hK => ?_); go_frame; refine hK _ ?_; clear hK K)
              | ((first | (refine nqW_plain (fun K hK => ?_)) | (refine nqW_want rfl (fun K hK => ?_)) | (refine nqW_step (fun K hK => ?_); go_simp))
                 first
                   | (refine nq_move rfl ?_; go_simp; refine hK _ ?_; clear hK K)
                   | (refine nq_assign rfl ?_; go_simp; refine hK _ ?_; clear hK K)
                   | (refine nq_flt rfl rfl rfl rfl hd ?_; intro _; go_frame; refine hK _ ?_; clear hK K)
                   | (refine nq_same ?_; intro w' hw'; go_simp; (try go_bits); refine hK _ ?_; clear hK K hw' w')
                   | (refine nq_same ?_; intro w' hw'; go_simp; rw [if_pos (by omega)]; go_simp; (try go_bits); refine hK _ ?_; clear hK K hw' w')
                   | (go_simp; refine hK _ ?_; clear hK K)))
          refine nqW_nil (hRw _ ?_)
          clear hc hb' hb2 hd hRw
          intro w' hw'
          simp only [List.drop]
          go_wp2_with fail
          go_roundw
          case rel => exact ⟨i + 1, M, by go_num, by omega, hM, HI.out.1, SI.done HI.out.2.1 (.inl rfl), HI.out.2.2.2.below hw', below_step HI.out.2.2.1 HI.out.2.2.1.size hw'⟩
          case measure => simp [intOf]; omega
        | succ k =>
          obtain ⟨sb, cb⟩ := hFM.at (i := k) (by omega)
          have nb : isnan (M.getD k 0) = false := HN.out.1 _ (hPM.mem_iff.1 (by rw [List.getD_eq_getElem?_getD, List.getElem?_eq_getElem (by omega)]; exact List.getElem_mem _))
          rw [raw_of_not na] at ca
          rw [raw_of_not nb] at cb
          have hcmp := flt_key na nb
          have HI := Lib.hid (show _ ∧ _ ∧ _ ∧ _ from ⟨hPM, hSM, hBM, hFM⟩)
          have hkk : ((k + 1 : Nat) : Int) - 1 = k := by omega
          clear hPM hSM hBM hFM
          by_cases hq : fkey (M.getD (k + 1) 0) < fkey (M.getD k 0)
          · have t1 : flt (M.getD (k + 1) 0) (M.getD k 0) = true := by rw [hcmp, decide_eq_true hq]
            have HQ := Lib.hid hq
            clear hcmp hq
            generalize hva : M.getD (k + 1) 0 = va at *
            generalize hvb : M.getD k 0 = vb at *
            have HV := Lib.hid (And.intro hva hvb)
            clear hva hvb
            go_wp2_with fail
            refine wp_region_nqb 14 (fun _ _ _ => False) (by kernel_rfl) (by kernel_rfl) ?_
            intro Cw Rw hc hb' hb2 hd hRw
            simp only [List.take_succ_cons, List.take_zero]
            repeat (
              first
                | (refine nqW_skip rfl (fun K hK => ?_); go_frame; refine hK _ ?_; clear hK K)
                | ((first | (refine nqW_plain (fun K hK => ?_)) | (refine nqW_want rfl (fun K hK => ?_)) | (refine nqW_step (fun K hK => ?_); go_simp))
                   first
                     | (refine nq_move rfl ?_; go_simp; refine hK _ ?_; clear hK K)
                     | (refine nq_assign rfl ?_; go_simp; refine hK _ ?_; clear hK K)
                     | (refine nq_flt rfl rfl rfl rfl hd ?_; intro _; go_frame; refine hK _ ?_; clear hK K)
                     | (refine nq_same ?_; intro w' hw'; go_simp; (try go_bits); refine hK _ ?_; clear hK K hw' w')
                     | (refine nq_same ?_; intro w' hw'; go_simp; rw [if_pos (by omega)]; go_simp; (try go_bits); refine hK _ ?_; clear hK K hw' w')
                     | (go_simp; refine hK _ ?_; clear hK K)))
            refine nqW_nil (hRw _ ?_)
            clear hc hb' hb2 hd hRw
            intro w' hw'
            simp only [List.drop]
            go_wp2_with fail
            have hF2 := HI.out.2.2.2.below hw'
            have hB2 := below_step HI.out.2.2.1 HI.out.2.2.1.size hw'
            clear hw' ca cb hglt hfz
            obtain ⟨w2, hw2⟩ : ∃ w2, w2 = w'.drew := ⟨_, rfl⟩
            have hF3 : Flb w2 g M := hw2 ▸ hF2.below (below_drewN 1 (Below.refl _ _))
            have hB3 : Below w.heap.size w w2 := hw2 ▸ below_drewN 1 hB2
            obtain ⟨sa2, ca2⟩ := hF3.at hkm
            obtain ⟨sb2, cb2⟩ := hF3.at (i := k) (by omega)
            rw [HV.out.1, raw_of_not na] at ca2
            rw [HV.out.2, raw_of_not nb] at cb2
            have hglt2 := hF3.lt
            have hfz2 := hF3.frozen
            have HF2 := Lib.hid (show _ ∧ _ from ⟨hF3, hB3⟩)
            clear hF2 hB2 hF3 hB3
            have hwk : IntKind.i64.wrap (k : Int) = (k : Int) := by rw [IntKind.wrap_i64]; omega
            have i1 : k < ds.length := by omega
            have i2 : (k : Int) + 1 < (ds.length : Int) := by omega
            have i3 : 0 ≤ (k : Int) + 1 := by omega
            refine wp_region_swap 17 15 [(false, 0), (false, 1), (false, 2), (false, 3), (false, 4), (false, 5), (false, 6), (false, 7), (false, 8), (true, 9), (false, 10), (false, 11), (false, 12), (true, 13), (false, 14)] [16] (fun W => W.cell? ⟨g, k + 1, none⟩ = some (.float .f64 va) ∧ W.cell? ⟨g, k, none⟩ = some (.float .f64 vb)) rfl (by kernel_rfl) (by kernel_rfl) (hw2 ▸ ⟨ca2, cb2⟩) ?_
            refine thW_any (v := ?_) rfl rfl ?_ ?_; rotate_left; (next => (intro w'; go_simp; (try (rw [if_pos (by omega)]; go_simp)); (try with_reducible rfl))); (simp only [Act.put, List.setIfInBounds_toArray, List.set_cons_zero, List.set_cons_succ])
            refine thW_any (v := ?_) rfl rfl ?_ ?_; rotate_left; (next => (intro w'; go_simp; (try (rw [if_pos (by omega)]; go_simp)); (try with_reducible rfl))); (simp only [Act.put, List.setIfInBounds_toArray, List.set_cons_zero, List.set_cons_succ])
            refine thW_any (v := ?_) rfl rfl ?_ ?_; rotate_left; (next => (intro w'; go_simp; (try (rw [if_pos (by omega)]; go_simp)); (try with_reducible rfl))); (simp only [Act.put, List.setIfInBounds_toArray, List.set_cons_zero, List.set_cons_succ])
            refine thW_any (v := ?_) rfl rfl ?_ ?_; rotate_left; (next => (intro w'; go_simp; (try (rw [if_pos (by omega)]; go_simp)); (try with_reducible rfl))); (simp only [Act.put, List.setIfInBounds_toArray, List.set_cons_zero, List.set_cons_succ])
            refine thW_any (v := ?_) rfl rfl ?_ ?_; rotate_left; (next => (intro w'; go_simp; (try (rw [if_pos (by omega)]; go_simp)); (try with_reducible rfl))); (simp only [Act.put, List.setIfInBounds_toArray, List.set_cons_zero, List.set_cons_succ])
            refine thW_any (v := ?_) rfl rfl ?_ ?_; rotate_left; (next => (intro w'; go_simp; (try (rw [if_pos (by omega)]; go_simp)); (try with_reducible rfl))); (simp only [Act.put, List.setIfInBounds_toArray, List.set_cons_zero, List.set_cons_succ])
            refine thW_any (v := ?_) rfl rfl ?_ ?_; rotate_left; (next => (intro w'; go_simp; (try (rw [if_pos (by omega)]; go_simp)); (try with_reducible rfl))); (simp only [Act.put, List.setIfInBounds_toArray, List.set_cons_zero, List.set_cons_succ])
            refine thW_any (v := ?_) rfl rfl ?_ ?_; rotate_left; (next => (intro w'; go_simp; (try (rw [if_pos (by omega)]; go_simp)); (try with_reducible rfl))); (simp only [Act.put, List.setIfInBounds_toArray, List.set_cons_zero, List.set_cons_succ])
            refine thW_any (v := ?_) rfl rfl ?_ ?_; rotate_left; (next => (intro w'; go_simp; (try (rw [if_pos (by omega)]; go_simp)); (try with_reducible rfl))); (simp only [Act.put, List.setIfInBounds_toArray, List.set_cons_zero, List.set_cons_succ])
            refine thW_take (v := ?_) rfl rfl ?_ ?_; rotate_left; (next => (intro w' hSw; (try dsimp only at hSw); go_simp; (try (rw [if_pos (by omega)]; go_simp)); (try with_reducible rfl))); (simp only [Act.put, List.setIfInBounds_toArray, List.set_cons_zero, List.set_cons_succ])
            refine thW_any (v := ?_) rfl rfl ?_ ?_; rotate_left; (next => (intro w'; go_simp; (try (rw [if_pos (by omega)]; go_simp)); (try with_reducible rfl))); (simp only [Act.put, List.setIfInBounds_toArray, List.set_cons_zero, List.set_cons_succ])
            refine thW_any (v := ?_) rfl rfl ?_ ?_; rotate_left; (next => (intro w'; go_simp; (try (rw [if_pos (by omega)]; go_simp)); (try with_reducible rfl))); (simp only [Act.put, List.setIfInBounds_toArray, List.set_cons_zero, List.set_cons_succ])
            refine thW_any (v := ?_) rfl rfl ?_ ?_; rotate_left; (next => (intro w'; go_simp; (try (rw [if_pos (by omega)]; go_simp)); (try with_reducible rfl))); (simp only [Act.put, List.setIfInBounds_toArray, List.set_cons_zero, List.set_cons_succ])
            refine thW_take (v := ?_) rfl rfl ?_ ?_; rotate_left; (next => (intro w' hSw; (try dsimp only at hSw); go_simp; (try (rw [if_pos (by omega)]; go_simp)); (try with_reducible rfl))); (simp only [Act.put, List.setIfInBounds_toArray, List.set_cons_zero, List.set_cons_succ])
            refine thW_any (v := ?_) rfl rfl ?_ ?_; rotate_left; (next => (intro w'; go_simp; (try (rw [if_pos (by omega)]; go_simp)); (try with_reducible rfl))); (simp only [Act.put, List.setIfInBounds_toArray, List.set_cons_zero, List.set_cons_succ])
            refine thW_nil ?_
            refine ⟨rfl, ?_⟩
            unfold Oper.wp
            rw [← hw2]
            clear hw2
            go_simp
            refine tlW_take (v := ?_) rfl rfl ?_ ?_; rotate_left; (next => (intro w'; go_simp; (try (rw [if_pos (by omega)]; go_simp)); (try with_reducible rfl))); (simp only [Act.put, List.setIfInBounds_toArray, List.set_cons_zero, List.set_cons_succ])
            refine tlW_nil ?_
            (try simp only [List.drop])
            go_wp2
            refine NoPanic.normal ?_
            go_wp2
            go_roundw
            case rel =>
              have f1 := (HF2.out.1.set (k + 1) vb 0).set k va 0
              rw [raw_of_not na, raw_of_not nb] at f1
              have hv := HV.out
              refine ⟨k, (M.set (k + 1) vb).set k va, by go_num, by omega, by simp [hM], ?_, ?_, f1, below_set (below_set HF2.out.2 HN.out.2 _ _) HN.out.2 _ _⟩
              · rw [← hv.1, ← hv.2]; exact (perm_swp M k hkm).trans HI.out.1
              · rw [← hv.1, ← hv.2]; exact SI.swp HI.out.2.1 (by omega) hk (by rw [hv.1, hv.2]; exact HQ.out)
            case measure => simp [intOf]
          · have t1 : flt (M.getD (k + 1) 0) (M.getD k 0) = false := by rw [hcmp, decide_eq_false hq]
            have HQ := Lib.hid hq
            clear hcmp hq
            generalize hva : M.getD (k + 1) 0 = va at *
            generalize hvb : M.getD k 0 = vb at *
            have HV := Lib.hid (And.intro hva hvb)
            clear hva hvb
            go_wp2_with fail
            refine wp_region_nqb 14 (fun _ _ _ => False) (by kernel_rfl) (by kernel_rfl) ?_
            intro Cw Rw hc hb' hb2 hd hRw
            simp only [List.take_succ_cons, List.take_zero]
            repeat (
              first
                | (refine nqW_skip rfl (fun K hK => ?_); go_frame; refine hK _ ?_; clear hK K)
                | ((first | (refine nqW_plain (fun K hK => ?_)) | (refine nqW_want rfl (fun K hK => ?_)) | (refine nqW_step (fun K hK => ?_); go_simp))
                   first
                     | (refine nq_move rfl ?_; go_simp; refine hK _ ?_; clear hK K)
                     | (refine nq_assign rfl ?_; go_simp; refine hK _ ?_; clear hK K)
                     | (refine nq_flt rfl rfl rfl rfl hd ?_; intro _; go_frame; refine hK _ ?_; clear hK K)
                     | (refine nq_same ?_; intro w' hw'; go_simp; (try go_bits); refine hK _ ?_; clear hK K hw' w')
                     | (refine nq_same ?_; intro w' hw'; go_simp; rw [if_pos (by omega)]; go_simp; (try go_bits); refine hK _ ?_; clear hK K hw' w')
                     | (go_simp; refine hK _ ?_; clear hK K)))
            refine nqW_nil (hRw _ ?_)
            clear hc hb' hb2 hd hRw
            intro w' hw'
            simp only [List.drop]
            go_wp2_with fail
            go_roundw
            case rel =>
              refine ⟨i + 1, M, by go_num, by omega, hM, HI.out.1, SI.done HI.out.2.1 (.inr ?_), HI.out.2.2.2.below hw', below_step HI.out.2.2.1 HI.out.2.2.1.size hw'⟩
              have := HQ.out
              rw [Nat.add_sub_cancel, HV.out.1, HV.out.2]
              omega
            case measure => simp [intOf]; omega
    · obtain rfl : i = ds.length := by omega
      go_wp2
      go_ret
      exact ⟨⟨g, c', L, rfl, hP, fun p q h1 h2 => hS p q h1 (by omega), hFr⟩, hB⟩
end Go.Proofs.Ytogkmddhgfenkaa

/- Package sturm: Within, where there are none; the document's All. -/
namespace Go.Proofs.Ytogkmddhgfenkaa
open Go Go.RowKit
set_option maxRecDepth 100000

theorem allE_bnd {ds es : List Nat} (h : allE ds es ≠ 0) : bndE ds es ≠ 0 := by
  intro hb
  obtain ⟨h1, h2, _⟩ := bndE_zero hb
  unfold allE at h
  rw [if_pos ⟨h1, h2⟩] at h
  exact h hb
set_option maxHeartbeats 4000000 in
theorem Within_err (w : World) (da ea : Option Addr) (ds es : List Nat) (dc ec x y : Nat) (hD : Fls w da ds) (hE : Fls w ea es) (hW : Words es) (hl : ds.length ≤ 1000) (hl' : es.length ≤ 1000) (hz : allE ds es ≠ 0) :
    Calls Try.prog 58 #[.agg #[.slice da ds.length dc, .slice ea es.length ec], .float .f64 x, .float .f64 y] w fun e w' => e = .returned (.tuple #[.slice none 0 0, .int .i64 0, .int .i64 (allE ds es)]) ∧ Below w.heap.size w w' := by
  have x0 : Box (w.alloc (.cells #[.slice da ds.length dc, .slice ea es.length ec] 51)) w.heap.size [.slice da ds.length dc, .slice ea es.length ec] := Box.newA w [_, _] _ rfl
  have hB0 : Below w.heap.size w (w.alloc (.cells #[.slice da ds.length dc, .slice ea es.length ec] 51)) := (Below.refl _ _).alloc (Nat.le_refl _) _
  have HA := Lib.hid (All_err _ da ea ds es dc ec (hD.below hB0) (hE.below hB0) hW hl hl' (allE_bnd hz))
  have t1 : (allE ds es != 0) = true := by simp [hz]
  generalize allE ds es = aE at *
  clear hD hE hW hl hl' hz
  go_enter Try.func58, Try.ntmps58
  go_wp2_with fail
  refine HA.out.mono ?_
  rintro e w1 ⟨rfl, hb1⟩
  have hB1 := below_step hB0 hB0.size hb1
  go_wp2
  exact bodyPost_ret (results_tmp3 rfl _ _ _) rfl ⟨rfl, hB1⟩
set_option maxHeartbeats 4000000 in
theorem Within_inf (w : World) (da ea : Option Addr) (ds es : List Nat) (dc ec lo sl hi sh : Nat) (hD : Fls w da ds) (hE : Fls w ea es) (hW : Words es) (hl : ds.length ≤ 1000) (hl' : es.length ≤ 1000) (hz : allE ds es = 0) (hf : (ffin lo && ffin hi) = false) :
    Calls Try.prog 58 #[.agg #[.slice da ds.length dc, .slice ea es.length ec], .float .f64 (raw lo sl), .float .f64 (raw hi sh)] w fun e w' => e = .returned (.tuple #[.slice none 0 0, .int .i64 0, .int .i64 10]) ∧ Below w.heap.size w w' := by
  have x0 : Box (w.alloc (.cells #[.slice da ds.length dc, .slice ea es.length ec] 51)) w.heap.size [.slice da ds.length dc, .slice ea es.length ec] := Box.newA w [_, _] _ rfl
  have hB0 : Below w.heap.size w (w.alloc (.cells #[.slice da ds.length dc, .slice ea es.length ec] 51)) := (Below.refl _ _).alloc (Nat.le_refl _) _
  have HA := Lib.hid (All_ok _ da ea ds es dc ec (hD.below hB0) (hE.below hB0) hW hl hl' hz)
  have HF := Lib.hid (fun (W : World) => fin_any (W.alloc (.cells #[.float .f64 (raw lo sl), .float .f64 (raw hi sh)] 35)) (some ⟨W.heap.size, 0, none⟩) [lo, hi] 2 (fls_two W 35 lo sl hi sh) (by unfold maxLen; simp))
  have ef : [lo, hi].all fnS = false := by
    rw [all_fnS]
    rw [Bool.and_eq_false_iff] at hf
    rcases hf with h | h <;> simp [h]
  rw [ef] at HF
  clear hD hE hW hl hl' hz hf ef
  go_enter Try.func58, Try.ntmps58
  go_wp2_with fail
  refine HA.out.mono ?_
  rintro e w1 ⟨sv, rfl, hr, hb1⟩
  have hB1 := below_step hB0 hB0.size hb1
  have hA1 := (Below.refl w1.heap.size w1).alloc (Nat.le_refl _) (.cells #[.float .f64 (raw lo sl), .float .f64 (raw hi sh)] 35)
  have HF1 := Lib.hid (HF.out w1)
  have hB2 := below_step hB1 hB1.size hA1
  clear x0 hB0 hb1 HF hr hB1 HA hA1
  go_wp2_with fail
  refine HF1.out.mono ?_
  rintro e w2 ⟨rfl, hb2⟩
  have hB3 := below_step hB2 hB2.size hb2
  go_wp2
  exact bodyPost_ret (results_tmp3 rfl _ _ _) rfl ⟨rfl, hB3⟩
set_option maxHeartbeats 4000000 in
theorem RAll_no (w : World) (da ea : Option Addr) (ds es : List Nat) (dc ec : Nat) (hD : Fls w da ds) (hE : Fls w ea es) (hW : Words es) (hl : ds.length ≤ 1000) (hask : askS ds es [] = 0) (hn : ds.length ≠ 0) (hb : bndE ds es ≠ 0) :
    Calls Try.prog 59 #[.agg #[.slice da ds.length dc, .slice ea es.length ec]] w fun e w' => e = .returned (.tuple #[.slice none 0 0, .int .i64 0, .bool false]) ∧ Below w.heap.size w w' := by
  have x0 : Box (w.alloc (.cells #[.slice da ds.length dc, .slice ea es.length ec] 51)) w.heap.size [.slice da ds.length dc, .slice ea es.length ec] := Box.newA w [_, _] _ rfl
  have hB0 : Below w.heap.size w (w.alloc (.cells #[.slice da ds.length dc, .slice ea es.length ec] 51)) := (Below.refl _ _).alloc (Nat.le_refl _) _
  have hf : (ffin (bndL ds es ds.length).1 && ffin (bndL ds es ds.length).2) = false := by
    unfold bndE at hb
    rw [if_pos hask, if_neg hn, fnS_ffin, fnS_ffin] at hb
    cases h : (ffin (bndL ds es ds.length).1 && ffin (bndL ds es ds.length).2)
    · rfl
    · rw [h] at hb; exact absurd rfl hb
  have HF := Lib.hid (RFind_no _ da ea ds es dc ec 0 (hD.below hB0) (hE.below hB0) hW hl hask hf)
  have hn1 : 0 < ds.length := by omega
  have t0 : decide ((0 : Int) < (ds.length : Int)) = true := decide_eq_true (by omega)
  have t0' : decide (0 < ds.length) = true := decide_eq_true hn1
  obtain ⟨q1, q2, q3⟩ := x0.facts
  clear hD hE hW hl hask hn hb hf
  go_enter Try.func59, Try.ntmps59
  go_wp2_with fail
  generalize w.alloc (.cells #[.slice da ds.length dc, .slice ea es.length ec] 51) = w0 at *
  go_loopw [5, 6, 7] (fun s5 s6 s7 wr => s7 = .int .i64 0 ∧ w0 = wr) (fun _ _ _ _ => 0)
  case atStart => exact ⟨rfl, rfl⟩
  case round =>
    obtain ⟨rfl, rfl⟩ := hrel
    go_wp2_with fail
    refine HF.out.mono ?_
    rintro e w1 ⟨rfl, hb1⟩
    have hB1 := below_step hB0 hB0.size hb1
    go_wp2
    exact bodyPost_ret (results_tmp3 rfl _ _ _) rfl ⟨rfl, hB1⟩
end Go.Proofs.Ytogkmddhgfenkaa
