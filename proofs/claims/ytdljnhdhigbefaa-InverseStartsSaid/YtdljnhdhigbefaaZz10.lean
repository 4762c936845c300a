/- Regions that draw their order, with one operation that turns the world (a store) in their midst, and another at their end: what is read ahead of it is read in the world as it was; what is only moved may be moved whenever. No condition. -/
import Derived.Test.YtdljnhdhigbefaaZz6
import Derived.Test.YtdljnhdhigbefaaZz4
import Derived.Test.YtdljnhdhigbefaaZz5
namespace Go.Proofs.Ytdljnhdhigbefaa
open Go Go.RowKit
section
variable {P : Program} {ops : Array Oper} {Q : Exit → Act → World → Prop} {md : Region.Mode} {F : World → Prop} {n e : Nat} {L : Array Bool → Act → World → Prop}
/-- Until operation e is carried out the world meets F. -/
def tS (F : World → Prop) (e : Nat) (listed : Array Bool) (w : World) : Prop := listed.getD e false = false → F w
theorem tS_set {i : Nat} {listed : Array Bool} {w : World} (h : i ≠ e) : tS F e (listed.setIfInBounds i true) w ↔ tS F e listed w := by
  unfold tS
  rw [getD_set_ne false h]
def wpAnyT (P : Program) (md : Region.Mode) (ops : Array Oper) (Q : Exit → Act → World → Prop) (F : World → Prop) (n e : Nat) (L : Array Bool → Act → World → Prop) : Nat → Array Bool → Act → World → Prop
  | 0, listed, a, w => L listed a w
  | f + 1, listed, a, w =>
    Region.ready md ops listed ≠ [] ∧ ∀ i ∈ Region.ready md ops listed, i < n ∧ wpOp P ops Q i (fun a' w' => tS F e (listed.setIfInBounds i true) w' ∧ wpAnyT P md ops Q F n e L f (listed.setIfInBounds i true) a' w') a w
theorem wpAny_of_T {g : Nat} (hL : ∀ listed a w, L listed a w → wpAny P md ops Q g listed a w) :
    ∀ (f : Nat) (listed : Array Bool) (a : Act) (w : World), wpAnyT P md ops Q F n e L f listed a w → wpAny P md ops Q (f + g) listed a w
  | 0, listed, a, w, h => by rw [Nat.zero_add]; exact hL _ _ _ h
  | f + 1, listed, a, w, h => by
    rw [show f + 1 + g = (f + g) + 1 by omega]
    exact ⟨fun h0 => absurd h0 h.1, fun i hi => wpOp_mono (fun a' w' h' => wpAny_of_T hL f _ a' w' h'.2) (h.2 i hi).2⟩

theorem wpAnyT_first {i : Nat} {oi : Oper} {v : Value} {C : World → Prop} (hi : ops[i]? = some oi) (hie : i ≠ e) (hC : ∀ listed w, HeadInv md ops n listed → listed.getD i false = false → tS F e listed w → C w) (hsel : ∀ (j : Nat) (o : Oper) cs b, ops[j]? = some o → o.op ≠ .select cs b)
    (hQ : ∀ c a w, Q (.panic c) (a.put oi.dst v) w → Q (.panic c) a w)
    (hs : Region.sinkB md ops n = true) (hc : Region.chainB md ops n = true) (hn : n < ops.size) (hin : i < n)
    (hdone : ∀ listed a w, L listed a w → ∀ j ∈ Region.ready md ops listed, n ≤ j) :
    ∀ (f : Nat) (listed : Array Bool) (a : Act) (w : World), HeadInv md ops n listed →
      (∀ j oj, ops[j]? = some oj → j ≠ i → listed.getD j true = false → (∀ e ∈ oj.after, Region.binds md e = true → e.on ≠ i) → oi.apart ops oj = true) →
      i ∈ Region.ready md ops listed → YieldsIf P ops C oi v a → tS F e listed w →
      wpAnyT P md ops Q F n e L f (listed.setIfInBounds i true) (a.put oi.dst v) w → wpAnyT P md ops Q F n e L (f + 1) listed a w := by
  intro f
  induction f with
  | zero =>
    intro listed a w inv _ hr hy hS H
    have hun := (mem_ready.1 hr).1
    refine ⟨fun h => (by rw [h] at hr; cases hr), fun j hj => ?_⟩
    have hjn : j < n := by
      rcases Nat.lt_or_ge j n with h | h
      · exact h
      · exact absurd hj (tail_waits hs hc hn inv _ i rfl hin hun j h)
    refine ⟨hjn, ?_⟩
    by_cases hji : j = i
    · subst hji; exact hy.wpOp hi (hC _ _ inv (getD_both hun) hS) ⟨(tS_set hie).2 hS, H⟩
    · have := hdone _ _ _ H j (ready_mono hj hji)
      omega
  | succ f ih =>
    intro listed a w inv hfree hr hy hS H
    have hun := (mem_ready.1 hr).1
    refine ⟨fun h => (by rw [h] at hr; cases hr), fun j hj => ?_⟩
    have hjn : j < n := by
      rcases Nat.lt_or_ge j n with h | h
      · exact h
      · exact absurd hj (tail_waits hs hc hn inv _ i rfl hin hun j h)
    refine ⟨hjn, ?_⟩
    by_cases hji : j = i
    · subst hji; exact hy.wpOp hi (hC _ _ inv (getD_both hun) hS) ⟨(tS_set hie).2 hS, H⟩
    · have h1 := (H.2 j (ready_mono hj hji)).2
      obtain ⟨hjun, oj, hoj, hall⟩ := mem_ready.1 hj
      have hnot : ∀ e ∈ oj.after, Region.binds md e = true → e.on ≠ i := fun e he hb heq => by
        have h1 := hall e he hb
        rw [heq, getD_both hun] at h1
        cases h1
      have h2 := wpOp_putIf hoj (hfree j oj hoj hji hjun hnot) (fun cs b => hsel i oi cs b hi) (fun cs b => hsel j oj cs b hoj) hQ hy h1
      have hfree' : ∀ k ok, ops[k]? = some ok → k ≠ i → (listed.setIfInBounds j true).getD k true = false →
          (∀ e ∈ ok.after, Region.binds md e = true → e.on ≠ i) → oi.apart ops ok = true := fun k ok hk hki hun hno => by
        refine hfree k ok hk hki ?_ hno
        by_cases hjk : j = k
        · subst hjk; exact hjun
        · rw [getD_set_ne true hjk] at hun; exact hun
      refine wpOp_mono (fun a' w' h3 => ?_) h2
      have h5 := h3.2.1
      rw [Array.setIfInBounds_comm _ _ (Ne.symm hji)] at h5
      have h4 : tS F e (listed.setIfInBounds j true) w' := (tS_set hie).1 h5
      refine ⟨h4, ih (listed.setIfInBounds j true) a' w' (inv.set hj hjn) hfree' (ready_mono hr (Ne.symm hji)) h3.1 h4 ?_⟩
      rw [Array.setIfInBounds_comm _ _ hji]
      exact h3.2.2

/-- Does operation e wait for operation i? -/
def waitsB (md : Region.Mode) (ops : Array Oper) (e i : Nat) : Bool := match ops.toList[e]? with | some o => o.after.toList.any (fun x => Region.binds md x && decide (x.on = i)) | none => false
/-- The second operations. -/
def tlB (md : Region.Mode) (ops : Array Oper) (n e : Nat) : List Nat → Array Bool → Bool
  | [], listed => Region.seqB md ops (ops.size - n) n listed
  | i :: l, listed => (Region.ready md ops listed).contains i && Region.free md ops listed i && decide (i < n) && decide (i ≠ e) && tlB md ops n e l (listed.setIfInBounds i true)
/-- The first ones (true: read in the world as it is), and operation e. -/
def thB (md : Region.Mode) (ops : Array Oper) (n e : Nat) (l2 : List Nat) : List (Bool × Nat) → Array Bool → Bool
  | [], listed => decide (Region.ready md ops listed = [e]) && decide (e < n) && tlB md ops n e l2 (listed.setIfInBounds e true)
  | (b, i) :: l, listed => (Region.ready md ops listed).contains i && Region.free md ops listed i && decide (i < n) && decide (i ≠ e) && (!b || waitsB md ops e i) && thB md ops n e l2 l (listed.setIfInBounds i true)
def tlW (P : Program) (ops : Array Oper) (K : Act → Prop) : List Nat → Act → Prop
  | [], a => K a
  | i :: l, a => ∃ o, ops.toList[i]? = some o ∧ ∃ v, YieldsIf P ops (fun _ => True) o v a ∧ tlW P ops K l (a.put o.dst v)
def thW (P : Program) (ops : Array Oper) (F : World → Prop) (K : Act → Prop) : List (Bool × Nat) → Act → Prop
  | [], a => K a
  | (b, i) :: l, a => ∃ o, ops.toList[i]? = some o ∧ ∃ v, YieldsIf P ops (fun w => b = true → F w) o v a ∧ thW P ops F K l (a.put o.dst v)
theorem tlW_take {K : Act → Prop} {i : Nat} {l : List Nat} {a : Act} {o : Oper} {v : Value} (ho : ops.toList[i]? = some o) (hw : Region.wanted o (yielded ops a.tmps) = true) (hv : ∀ w, (execOp a.eval o).run P w = .ok (.value v) w)
    (h : tlW P ops K l (a.put o.dst v)) : tlW P ops K (i :: l) a := ⟨o, ho, v, .inl ⟨hw, fun w _ => hv w⟩, h⟩
theorem tlW_nil {K : Act → Prop} {a : Act} (h : K a) : tlW P ops K [] a := h
theorem thW_take {K : Act → Prop} {i : Nat} {l : List (Bool × Nat)} {a : Act} {o : Oper} {v : Value} (ho : ops.toList[i]? = some o) (hw : Region.wanted o (yielded ops a.tmps) = true) (hv : ∀ w, F w → (execOp a.eval o).run P w = .ok (.value v) w)
    (h : thW P ops F K l (a.put o.dst v)) : thW P ops F K ((true, i) :: l) a := ⟨o, ho, v, .inl ⟨hw, fun w hw => hv w (hw rfl)⟩, h⟩
theorem thW_any {K : Act → Prop} {i : Nat} {l : List (Bool × Nat)} {a : Act} {o : Oper} {v : Value} (ho : ops.toList[i]? = some o) (hw : Region.wanted o (yielded ops a.tmps) = true) (hv : ∀ w, (execOp a.eval o).run P w = .ok (.value v) w)
    (h : thW P ops F K l (a.put o.dst v)) : thW P ops F K ((false, i) :: l) a := ⟨o, ho, v, .inl ⟨hw, fun w _ => hv w⟩, h⟩
theorem thW_nil {K : Act → Prop} {a : Act} (h : K a) : thW P ops F K [] a := h

theorem waitsB_spec {i : Nat} {listed : Array Bool} (h : waitsB md ops e i = true) (inv : HeadInv md ops n listed) (hun : listed.getD i false = false) : listed.getD e false = false := by
  unfold waitsB at h
  cases ho : ops.toList[e]? with
  | none => rw [ho] at h; cases h
  | some o =>
    rw [ho] at h
    simp only [List.any_eq_true, Bool.and_eq_true, decide_eq_true_eq] at h
    obtain ⟨x, hx, hb, rfl⟩ := h
    cases hl : listed.getD e false
    · rfl
    · have := inv.closed e o (by simpa using ho) hl x (by simpa using hx) hb
      rw [this] at hun
      cases hun
theorem wpAnyT_tl {K : Act → World → Prop} (hsel : Region.noSelect ops = true) (hQ : ∀ c a d v w, Q (.panic c) (Act.put a d v) w → Q (.panic c) a w)
    (hs : Region.sinkB md ops n = true) (hc : Region.chainB md ops n = true) (hn : n < ops.size) (w : World) :
    ∀ (l : List Nat) (listed : Array Bool) (a : Act), HeadInv md ops n listed → tlB md ops n e l listed = true → tS F e listed w →
    tlW P ops (fun a' => K a' w) l a → wpAnyT P md ops Q F n e (fun listed a w => Region.seqB md ops (ops.size - n) n listed = true ∧ K a w) l.length listed a w
  | [], listed, a, _, hB, _, h => ⟨by simpa only [tlB] using hB, h⟩
  | p :: l, listed, a, inv, hB, hS, h => by
    simp only [tlB, Bool.and_eq_true, decide_eq_true_eq] at hB
    obtain ⟨⟨⟨⟨hr, hf⟩, hpn⟩, hpe⟩, hB⟩ := hB
    obtain ⟨o, ho', v, hy, hK⟩ := h
    have ho : ops[p]? = some o := by simpa using ho'
    have hr' : p ∈ Region.ready md ops listed := by simpa using hr
    exact wpAnyT_first ho hpe (fun _ _ _ _ _ => trivial) (Region.noSelect_spec hsel) (fun c a w => hQ c a _ _ w) hs hc hn hpn (fun listed' a' w' hL => seqB_ready hL.1) _ listed a w inv (Region.free_spec ho hf) hr' hy hS
      (wpAnyT_tl hsel hQ hs hc hn w l _ _ (inv.set hr' hpn) hB ((tS_set hpe).2 hS) hK)
theorem wpAnyT_th {K : Act → World → Prop} (hsel : Region.noSelect ops = true) (hQ : ∀ c a d v w, Q (.panic c) (Act.put a d v) w → Q (.panic c) a w)
    (hs : Region.sinkB md ops n = true) (hc : Region.chainB md ops n = true) (hn : n < ops.size) (l2 : List Nat) {oe : Oper} (hoe : ops[e]? = some oe) (w : World) :
    ∀ (l : List (Bool × Nat)) (listed : Array Bool) (a : Act), HeadInv md ops n listed → thB md ops n e l2 l listed = true → tS F e listed w →
    thW P ops F (fun a' => Region.wanted oe (yielded ops a'.tmps) = true ∧ Oper.wp P oe a' w (fun a'' w'' => tlW P ops (fun a3 => K a3 w'') l2 a'') Q) l a → wpAnyT P md ops Q F n e (fun listed a w => Region.seqB md ops (ops.size - n) n listed = true ∧ K a w) (l.length + (l2.length + 1)) listed a w
  | [], listed, a, inv, hB, hS, h => by
    simp only [thB, Bool.and_eq_true, decide_eq_true_eq] at hB
    obtain ⟨⟨hr, hen⟩, hB⟩ := hB
    rw [List.length_nil, Nat.zero_add]
    have hr' : e ∈ Region.ready md ops listed := by rw [hr]; simp
    refine ⟨by rw [hr]; simp, fun i hi => ?_⟩
    rw [hr] at hi
    obtain rfl : i = e := by simpa using hi
    refine ⟨hen, ?_⟩
    unfold wpOp
    simp only [hoe]
    rw [if_pos h.1]
    refine .inl (Oper.wp_mono (fun a' w' h' => ?_) h.2)
    have hsz : i < listed.size := by rw [inv.size]; exact (Array.getElem?_eq_some_iff.1 hoe).1
    have hS' : tS F i (listed.setIfInBounds i true) w' := fun h0 => by
      simp [hsz] at h0
    exact ⟨hS', wpAnyT_tl hsel hQ hs hc hn w' l2 _ _ (inv.set hr' hen) hB hS' h'⟩
  | (b, p) :: l, listed, a, inv, hB, hS, h => by
    simp only [thB, Bool.and_eq_true, decide_eq_true_eq] at hB
    obtain ⟨⟨⟨⟨⟨hr, hf⟩, hpn⟩, hpe⟩, hw⟩, hB⟩ := hB
    obtain ⟨o, ho', v, hy, hK⟩ := h
    have ho : ops[p]? = some o := by simpa using ho'
    have hr' : p ∈ Region.ready md ops listed := by simpa using hr
    have hC : ∀ listed w, HeadInv md ops n listed → listed.getD p false = false → tS F e listed w → (b = true → F w) := fun listed w inv hun hS hb => by
      subst hb
      exact hS (waitsB_spec (by simpa using hw) inv hun)
    rw [show (((b, p) :: l).length + (l2.length + 1)) = (l.length + (l2.length + 1)) + 1 by simp; omega]
    exact wpAnyT_first ho hpe hC (Region.noSelect_spec hsel) (fun c a w => hQ c a _ _ w) hs hc hn hpn (fun listed' a' w' hL => seqB_ready hL.1) _ listed a w inv (Region.free_spec ho hf) hr' hy hS
      (wpAnyT_th hsel hQ hs hc hn l2 hoe w l _ _ (inv.set hr' hpn) hB ((tS_set hpe).2 hS) hK)

def swapR (l : List Oper) (n e : Nat) (l1 : List (Bool × Nat)) (l2 : List Nat) : Bool :=
  Region.noSelect l.toArray && decide (n < l.toArray.size) && decide (n = l1.length + (l2.length + 1)) && Region.sinkB .any l.toArray n && Region.chainB .any l.toArray n && thB .any l.toArray n e l2 l1 (Array.replicate l.toArray.size false)
/-- **THE REGION.** -/
theorem wp_region_swap {id : Nat} {a : Act} {w : World} {l : List Oper} (n e : Nat) (l1 : List (Bool × Nat)) (l2 : List Nat) (F : World → Prop) {oe : Oper} (hoe : l[e]? = some oe) (hm : P.follows .mixedOrders = true) (hB : swapR l n e l1 l2 = true) (hF : F w.drew)
    (h : thW P l.toArray F (fun a' => Region.wanted oe (yielded l.toArray a'.tmps) = true ∧ Oper.wp P oe a' w.drew (fun a'' w'' => tlW P l.toArray (fun a3 => wpList P l.toArray (NoPanic Q) (l.drop n) a3 w'') l2 a'') (NoPanic Q)) l1 a) : (Code.region id l.toArray true).wp P Q a w := by
  refine wp_region_noPanic ?_
  simp only [swapR, Bool.and_eq_true, decide_eq_true_eq] at hB
  obtain ⟨⟨⟨⟨⟨hsel, hn⟩, hlen⟩, hs⟩, hc⟩, hH⟩ := hB
  refine wp_region_any hm ?_
  have hsz : l.toArray.size = (l1.length + (l2.length + 1)) + (l.toArray.size - n) := by omega
  have inv : HeadInv .any l.toArray n (Array.replicate l.toArray.size false) :=
    ⟨by simp, fun j oj _ hl => (by rw [getD_replicate_false] at hl; cases hl), fun t _ ht => getD_in (by rw [Array.size_replicate]; exact ht) (getD_replicate_false _ _)⟩
  have hW := wpAnyT_th (K := fun a'' w'' => wpList P l.toArray (NoPanic Q) (l.drop n) a'' w'') hsel (fun _ _ _ _ _ h => h) hs hc hn l2 (by simpa using hoe) w.drew l1 _ a inv hH (fun _ => hF) h
  refine (congrArg (fun k => wpAny P .any l.toArray (NoPanic Q) k (Array.replicate l.toArray.size false) a w.drew) hsz).mpr ?_
  refine wpAny_of_T (fun listed a w hL => ?_) _ _ _ _ hW
  have hd : (l.drop n).length = l.toArray.size - n := by simp
  have := wpAny_of_seq (Q' := NoPanic Q) (l.drop n) n listed a w (fun j => by simp) (by rw [hd]; exact hL.1) hL.2
  rw [hd] at this
  exact this
end
end Go.Proofs.Ytdljnhdhigbefaa

/- Layer 12, plainly: what is sorted rises, and columns go along. No condition. -/
namespace Go.Proofs.Ytdljnhdhigbefaa
open Go Go.RowKit
set_option maxRecDepth 100000

theorem swapL_getD (l : List Nat) {i k : Nat} (hi : i < l.length) (hk : k < l.length) (j : Nat) : (swapL l i k).getD j 0 = if j = k then l.getD i 0 else if j = i then l.getD k 0 else l.getD j 0 := by
  unfold swapL
  rw [List.getD_eq_getElem?_getD]
  by_cases h1 : j = k
  · subst h1
    rw [if_pos rfl, List.getElem?_set_self (by simpa using hk)]; rfl
  · rw [if_neg h1, List.getElem?_set_ne (by omega)]
    by_cases h2 : j = i
    · subst h2
      rw [if_pos rfl, List.getElem?_set_self hi]; rfl
    · rw [if_neg h2, List.getElem?_set_ne (by omega), ← List.getD_eq_getElem?_getD]
/-- The places i and k changed. -/
def swp (i k j : Nat) : Nat := if j = k then i else if j = i then k else j
theorem swapL_swp (l : List Nat) {i k : Nat} (hi : i < l.length) (hk : k < l.length) (j : Nat) : (swapL l i k).getD j 0 = l.getD (swp i k j) 0 := by
  rw [swapL_getD l hi hk]
  unfold swp
  split
  · rfl
  · split <;> rfl
theorem swp_lt {i k j n : Nat} (hi : i < n) (hk : k < n) (hj : j < n) : swp i k j < n := by unfold swp; split; exact hi; split; exact hk; exact hj
theorem swp_swp (i k j : Nat) : swp i k (swp i k j) = j := by unfold swp; split <;> split <;> (try split) <;> (try split) <;> omega
theorem place_ne {n r r' c c' : Nat} (hc : c < n) (hc' : c' < n) (h : r ≠ r') : r * n + c ≠ r' * n + c' := by
  intro he
  have h1 : (r * n + c) / n = r := by rw [Nat.mul_comm, Nat.mul_add_div (by omega), Nat.div_eq_of_lt hc, Nat.add_zero]
  have h2 : (r' * n + c') / n = r' := by rw [Nat.mul_comm, Nat.mul_add_div (by omega), Nat.div_eq_of_lt hc', Nat.add_zero]
  rw [he, h2] at h1
  exact h h1.symm
theorem place_lt {n r R c : Nat} (hr : r < R) (hc : c < n) : r * n + c < R * n := by
  have : (r + 1) * n ≤ R * n := Nat.mul_le_mul_right _ hr
  rw [Nat.succ_mul] at this
  omega
/-- Columns changed in the first R rows. -/
theorem swapC_getD (z : List Nat) {n i k rows : Nat} (hi : i < n) (hk : k < n) (hz : z.length = rows * n) : ∀ R, R ≤ rows → ∀ r c, r < rows → c < n →
    (swapC z n i k R).getD (r * n + c) 0 = if r < R then z.getD (r * n + swp i k c) 0 else z.getD (r * n + c) 0
  | 0, _, r, c, _, _ => by rw [if_neg (by omega)]; rfl
  | R + 1, hR, r, c, hr, hc => by
    have ih := swapC_getD z hi hk hz R (by omega)
    have hl := swapC_len z n i k R
    have p1 := place_lt (n := n) (r := R) (R := rows) (by omega) hi
    have p2 := place_lt (n := n) (r := R) (R := rows) (by omega) hk
    rw [swapC, swapL_swp _ (by omega) (by omega)]
    by_cases hrR : r = R
    · subst hrR
      rw [if_pos (by omega)]
      have e : swp (r * n + i) (r * n + k) (r * n + c) = r * n + swp i k c := by
        unfold swp
        by_cases h1 : c = k
        · rw [if_pos (by omega), if_pos h1]
        · rw [if_neg (by omega), if_neg h1]
          by_cases h2 : c = i
          · rw [if_pos (by omega), if_pos h2]
          · rw [if_neg (by omega), if_neg h2]
      rw [e, ih r _ hr (swp_lt hi hk hc), if_neg (by omega)]
    · have e : swp (R * n + i) (R * n + k) (r * n + c) = r * n + c := by
        unfold swp
        rw [if_neg (place_ne hc hk hrR), if_neg (place_ne hc hi hrR)]
      rw [e, ih r c hr hc]
      by_cases h : r < R
      · rw [if_pos h, if_pos (by omega)]
      · rw [if_neg h, if_neg (by omega)]
/-- The least one's place. -/
theorem minL_min (w : List Nat) (hn : ∀ j, j < w.length → isnan (w.getD j 0) = false) : ∀ (f j k : Nat), k < w.length → w.length ≤ j + f →
    fkey (w.getD (minL w f j k) 0) ≤ fkey (w.getD k 0) ∧ ∀ q, j ≤ q → q < w.length → fkey (w.getD (minL w f j k) 0) ≤ fkey (w.getD q 0)
  | 0, j, k, hk, hf => ⟨Int.le_refl _, fun q h1 h2 => by omega⟩
  | f + 1, j, k, hk, hf => by
    rw [minL]
    by_cases hj : j < w.length
    · rw [if_pos hj]
      cases ht : flt (w.getD j 0) (w.getD k 0)
      · rw [flt_key (hn j hj) (hn k hk), decide_eq_false_iff_not] at ht
        rw [if_neg (by simp)]
        obtain ⟨h1, h2⟩ := minL_min w hn f (j + 1) k hk (by omega)
        refine ⟨h1, fun q hq hq2 => ?_⟩
        by_cases hqj : q = j
        · subst hqj; omega
        · exact h2 q (by omega) hq2
      · rw [flt_key (hn j hj) (hn k hk), decide_eq_true_eq] at ht
        rw [if_pos rfl]
        obtain ⟨h1, h2⟩ := minL_min w hn f (j + 1) j hj (by omega)
        refine ⟨by omega, fun q hq hq2 => ?_⟩
        by_cases hqj : q = j
        · subst hqj; exact h1
        · exact h2 q (by omega) hq2
    · rw [if_neg hj]
      exact ⟨Int.le_refl _, fun q h1 h2 => by omega⟩
theorem minL_ge (w : List Nat) {i : Nat} : ∀ (f j k : Nat), i ≤ j → i ≤ k → i ≤ minL w f j k
  | 0, _, _, _, h => h
  | f + 1, j, k, h1, h2 => by
    rw [minL]
    split
    · exact minL_ge w f (j + 1) _ (by omega) (by split <;> assumption)
    · exact h2
/-- **What is sorted**: a change of places, of values and columns alike; and the first i rise, below all others. -/
theorem sortQ_spec {n rows : Nat} {w z : List Nat} (hw : w.length = n) (hz : z.length = rows * n) (hn : ∀ j, j < n → isnan (w.getD j 0) = false) : ∀ i, i ≤ n →
    (∃ σ : Nat → Nat, (∀ k, k < n → σ k < n) ∧ (∀ k k', k < n → k' < n → σ k = σ k' → k = k') ∧ (∀ k, k < n → (sortQ n rows w z i).1.getD k 0 = w.getD (σ k) 0) ∧ ∀ r k, r < rows → k < n → (sortQ n rows w z i).2.getD (r * n + k) 0 = z.getD (r * n + σ k) 0) ∧
    (∀ p q, p < i → p < q → q < n → fkey ((sortQ n rows w z i).1.getD p 0) ≤ fkey ((sortQ n rows w z i).1.getD q 0))
  | 0, _ => ⟨⟨id, fun _ h => h, fun _ _ _ _ h => h, fun _ _ => rfl, fun _ _ _ _ => rfl⟩, fun p q h => by omega⟩
  | i + 1, hi => by
    obtain ⟨⟨σ, s1, s2, s3, s4⟩, hr⟩ := sortQ_spec hw hz hn i (by omega)
    obtain ⟨l1, l2⟩ := sortQ_len n rows w z i
    rw [sortQ]
    dsimp only
    generalize sortQ n rows w z i = y at *
    have hyn : ∀ j, j < y.1.length → isnan (y.1.getD j 0) = false := fun j hj => by rw [s3 j (by omega)]; exact hn _ (s1 j (by omega))
    have hiy : i < y.1.length := by omega
    have hmb := minL_bnd y.1 y.1.length (i + 1) i hiy
    have hmg := minL_ge y.1 (i := i) y.1.length (i + 1) i (by omega) (Nat.le_refl _)
    obtain ⟨m1, m2⟩ := minL_min y.1 hyn y.1.length (i + 1) i hiy (by omega)
    generalize minL y.1 y.1.length (i + 1) i = k at *
    have hkn : k < n := by omega
    have hin : i < n := by omega
    refine ⟨⟨fun j => σ (swp i k j), fun j hj => s1 _ (swp_lt hin hkn hj), fun j j' hj hj' h => ?_, fun j hj => ?_, fun r j hr' hj => ?_⟩, fun p q hp hpq hq => ?_⟩
    · have := s2 _ _ (swp_lt hin hkn hj) (swp_lt hin hkn hj') h
      have h2 := congrArg (swp i k) this
      rwa [swp_swp, swp_swp] at h2
    · rw [swapL_swp _ hiy hmb]
      exact s3 _ (swp_lt hin hkn hj)
    · rw [swapC_getD y.2 hin hkn (by rw [l2, hz]) rows (Nat.le_refl _) r j hr' hj, if_pos hr']
      exact s4 r _ hr' (swp_lt hin hkn hj)
    · rw [swapL_swp _ hiy hmb, swapL_swp _ hiy hmb]
      have key : ∀ q, i ≤ q → q < n → fkey (y.1.getD k 0) ≤ fkey (y.1.getD q 0) := fun q h1 h2 => by
        by_cases hqi : q = i
        · subst hqi; exact m1
        · exact m2 q (by omega) (by omega)
      by_cases hpi : p = i
      · subst hpi
        have e : swp p k p = k := by
          unfold swp
          by_cases h : p = k
          · rw [if_pos h, h]
          · rw [if_neg h, if_pos rfl]
        rw [e]
        refine key _ ?_ (swp_lt hin hkn hq)
        unfold swp
        split
        · exact Nat.le_refl _
        · split <;> omega
      · have e : swp i k p = p := by unfold swp; rw [if_neg (by omega), if_neg hpi]
        rw [e]
        refine hr p _ (by omega) ?_ (swp_lt hin hkn hq)
        unfold swp
        split
        · omega
        · split <;> omega
end Go.Proofs.Ytdljnhdhigbefaa

/- Layer 12: values, and columns, sorted. No condition but on lengths. -/
namespace Go.Proofs.Ytdljnhdhigbefaa
open Go Go.RowKit
set_option maxRecDepth 1000000

theorem minL_step {w : List Nat} {f j k : Nat} (hf : w.length ≤ j + f) (hj : j < w.length) : ∃ g, f = g + 1 ∧ w.length ≤ (j + 1) + g ∧ minL w f j k = minL w g (j + 1) (if flt (w.getD j 0) (w.getD k 0) then j else k) := by
  cases f with
  | zero => omega
  | succ g => exact ⟨g, rfl, by omega, by rw [minL, if_pos hj]⟩
theorem minL_end {w : List Nat} {f j k : Nat} (hj : ¬ j < w.length) : minL w f j k = k := by
  cases f with
  | zero => rfl
  | succ g => rw [minL, if_neg hj]
/-- Why values, with a matrix, can't be sorted. -/
def sortE (r c : Int) (n : Nat) (l : List Nat) : Int := if mayB r c n = false then 2 else if decide (c = (l.length : Int)) = false then 8 else if l.all ffin = false then 10 else 0
theorem Box.put3 {w : World} {n : Nat} {a0 a1 a2 : Value} (h : Box w n [a0, a1, a2]) (v0 v1 v2 : Value) : Box (((w.setCell ⟨n, 0, none⟩ v0).setCell ⟨n, 1, none⟩ v1).setCell ⟨n, 2, none⟩ v2) n [v0, v1, v2] := ((h.set 0 v0).set 1 v1).set 2 v2
theorem below_put3 {B n : Nat} {a w : World} (h : Below B a w) (hn : B ≤ n) (v0 v1 v2 : Value) : Below B a (((w.setCell ⟨n, 0, none⟩ v0).setCell ⟨n, 1, none⟩ v1).setCell ⟨n, 2, none⟩ v2) := below_set (below_set (below_set h hn _ _) hn _ _) hn _ _
end Go.Proofs.Ytdljnhdhigbefaa
