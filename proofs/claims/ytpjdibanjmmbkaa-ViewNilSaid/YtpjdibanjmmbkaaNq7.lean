/- Great regions that draw: the same law, asked of a mask. -/
import Derived.Test.YtpjdibanjmmbkaaNq6
namespace Go.Proofs.Ytpjdibanjmmbkaa
open Go Go.RowKit
section
variable {md : Region.Mode}
def rdy1 (md : Region.Mode) (mask : Nat) (o : Oper) : Bool := o.after.toList.all fun e => !Region.binds md e || mask.testBit e.on
def onlyR (md : Region.Mode) (mask i : Nat) : List Oper → Nat → Bool
  | [], _ => true
  | o :: l, j => (if j = i then (!mask.testBit j && rdy1 md mask o) else (mask.testBit j || !rdy1 md mask o)) && onlyR md mask i l (j + 1)
def freeR (md : Region.Mode) (ops : Array Oper) (mask i : Nat) (oi : Oper) : List Oper → Nat → Bool
  | [], _ => true
  | o :: l, j => (j == i || mask.testBit j || (o.after.toList.any fun e => Region.binds md e && e.on == i) || oi.apart ops o) && freeR md ops mask i oi l (j + 1)
def noneR (md : Region.Mode) (mask : Nat) : List Oper → Nat → Bool
  | [], _ => true
  | o :: l, j => (mask.testBit j || !rdy1 md mask o) && noneR md mask l (j + 1)
def seqM (md : Region.Mode) (l : List Oper) : Nat → Nat → Nat → Bool
  | 0, _, mask => noneR md mask l 0
  | g + 1, k, mask => decide (k < l.length) && onlyR md mask k l 0 && seqM md l g (k + 1) (mask ||| 1 <<< k)
def itemsM (md : Region.Mode) (l : List Oper) (n : Nat) : List (Bool × Nat) → Nat → Bool
  | [], mask => seqM md l (l.length - n) n mask
  | (true, i) :: is, mask => (match l[i]? with | some oi => !mask.testBit i && rdy1 md mask oi && freeR md l.toArray mask i oi l 0 | none => false) && decide (i < n) && itemsM md l n is (mask ||| 1 <<< i)
  | (false, i) :: is, mask => decide (i < l.length) && onlyR md mask i l 0 && decide (i < n) && itemsM md l n is (mask ||| 1 <<< i)

/-- The mask tells what is listed. -/
def Msk (l : List Oper) (listed : Array Bool) (mask : Nat) : Prop := listed.size = l.length ∧ ∀ j, j < l.length → listed[j]? = some (mask.testBit j)
theorem Msk.getD {l : List Oper} {listed : Array Bool} {mask : Nat} (h : Msk l listed mask) {j : Nat} (hj : j < l.length) (d : Bool) : listed.getD j d = mask.testBit j := by
  rw [Array.getD_eq_getD_getElem?, h.2 j hj]; rfl
theorem Msk.set {l : List Oper} {listed : Array Bool} {mask : Nat} (h : Msk l listed mask) (i : Nat) : Msk l (listed.setIfInBounds i true) (mask ||| 1 <<< i) := by
  refine ⟨by rw [Array.size_setIfInBounds]; exact h.1, fun j hj => ?_⟩
  rw [Array.getElem?_setIfInBounds, Nat.testBit_or, Nat.one_shiftLeft, Nat.testBit_two_pow]
  by_cases hij : i = j
  · subst hij
    rw [if_pos rfl, if_pos (by rw [h.1]; exact hj)]
    simp
  · rw [if_neg hij, h.2 j hj]
    simp [hij]
def rdyB (md : Region.Mode) (ops : Array Oper) (listed : Array Bool) (i : Nat) : Bool := !listed.getD i true && ((ops[i]?).map (·.after.all fun e => !Region.binds md e || listed.getD e.on false)).getD false
theorem rdy_of {l : List Oper} {listed : Array Bool} {mask : Nat} (h : Msk l listed mask) (hb : ∀ o ∈ l, ∀ e ∈ o.after, e.on < l.length) {j : Nat} {o : Oper} (ho : l[j]? = some o) : rdyB md l.toArray listed j = (!mask.testBit j && rdy1 md mask o) := by
  have hj : j < l.length := (List.getElem?_eq_some_iff.1 ho).1
  unfold rdyB rdy1
  rw [h.getD hj, List.getElem?_toArray, ho]
  congr 1
  show (o.after.all _) = _
  rw [← Array.all_toList]
  have : ∀ (es : List _), (∀ e ∈ es, e.on < l.length) → es.all (fun e => !Region.binds md e || listed.getD e.on false) = es.all (fun e => !Region.binds md e || mask.testBit e.on) := by
    intro es
    induction es with
    | nil => intro _; rfl
    | cons e es ih =>
      intro hh
      rw [List.all_cons, List.all_cons, ih (fun x hx => hh x (List.mem_cons_of_mem _ hx)), h.getD (hh e List.mem_cons_self)]
  exact this _ fun e he => hb o (List.mem_of_getElem? ho) e (by simpa using he)
theorem filter_one {p : Nat → Bool} {i : Nat} : ∀ n, i < n → p i = true → (∀ j, j < n → j ≠ i → p j = false) → (List.range n).filter p = [i]
  | 0, h, _, _ => absurd h (Nat.not_lt_zero _)
  | n + 1, h, hp, hno => by
    rw [List.range_succ, List.filter_append]
    by_cases hin : i = n
    · subst hin
      rw [List.filter_eq_nil_iff.2 (fun j hj => by have := List.mem_range.1 hj; rw [hno j (by omega) (by omega)]; decide), List.nil_append, List.filter_cons_of_pos hp]
      rfl
    · rw [filter_one n (by omega) hp (fun j hj => hno j (by omega)), List.filter_cons_of_neg (by rw [hno n (by omega) (by omega)]; decide)]
      rfl
theorem onlyR_spec {mask i : Nat} : ∀ (l : List Oper) (k : Nat), onlyR md mask i l k = true → ∀ j o, l[j]? = some o → (if k + j = i then (!mask.testBit (k + j) && rdy1 md mask o) = true else (!mask.testBit (k + j) && rdy1 md mask o) = false)
  | [], _, _, j, o, ho => by simp at ho
  | x :: l, k, h, j, o, ho => by
    rw [onlyR, Bool.and_eq_true] at h
    cases j with
    | zero =>
      simp only [List.getElem?_cons_zero, Option.some.injEq] at ho
      subst ho
      rw [Nat.add_zero]
      have h1 := h.1
      split at h1
      · rename_i e; rw [if_pos e]; exact h1
      · rename_i e; rw [if_neg e]
        cases hm : mask.testBit k <;> cases hr : rdy1 md mask x <;> simp_all
    | succ j =>
      rw [List.getElem?_cons_succ] at ho
      have := onlyR_spec l (k + 1) h.2 j o ho
      rw [show k + 1 + j = k + (j + 1) by omega] at this
      exact this
theorem noneR_spec {mask : Nat} : ∀ (l : List Oper) (k : Nat), noneR md mask l k = true → ∀ j o, l[j]? = some o → (!mask.testBit (k + j) && rdy1 md mask o) = false
  | [], _, _, j, o, ho => by simp at ho
  | x :: l, k, h, j, o, ho => by
    rw [noneR, Bool.and_eq_true] at h
    cases j with
    | zero =>
      simp only [List.getElem?_cons_zero, Option.some.injEq] at ho
      subst ho
      rw [Nat.add_zero]
      have h1 := h.1
      cases hm : mask.testBit k <;> cases hr : rdy1 md mask x <;> simp_all
    | succ j =>
      rw [List.getElem?_cons_succ] at ho
      have := noneR_spec l (k + 1) h.2 j o ho
      rw [show k + 1 + j = k + (j + 1) by omega] at this
      exact this
theorem freeR_spec {ops : Array Oper} {mask i : Nat} {oi : Oper} : ∀ (l : List Oper) (k : Nat), freeR md ops mask i oi l k = true → ∀ j o, l[j]? = some o → (k + j == i || mask.testBit (k + j) || (o.after.toList.any fun e => Region.binds md e && e.on == i) || oi.apart ops o) = true
  | [], _, _, j, o, ho => by simp at ho
  | x :: l, k, h, j, o, ho => by
    rw [freeR, Bool.and_eq_true] at h
    cases j with
    | zero =>
      simp only [List.getElem?_cons_zero, Option.some.injEq] at ho
      subst ho
      rw [Nat.add_zero]
      exact h.1
    | succ j =>
      rw [List.getElem?_cons_succ] at ho
      have := freeR_spec l (k + 1) h.2 j o ho
      rw [show k + 1 + j = k + (j + 1) by omega] at this
      exact this
theorem ready_one {l : List Oper} {listed : Array Bool} {mask i : Nat} (h : Msk l listed mask) (hb : ∀ o ∈ l, ∀ e ∈ o.after, e.on < l.length) (hi : i < l.length) (ho : onlyR md mask i l 0 = true) : Region.ready md l.toArray listed = [i] := by
  have hs := onlyR_spec l 0 ho
  refine filter_one _ (by simpa using hi) ?_ fun j hj hne => ?_
  · have h1 : l[i]? = some l[i] := by simp [hi]
    have := hs i _ h1
    rw [Nat.zero_add, if_pos rfl] at this
    exact (rdy_of h hb h1).trans this
  · have hj' : j < l.length := by simpa using hj
    have h1 : l[j]? = some l[j] := by simp [hj']
    have := hs j _ h1
    rw [Nat.zero_add, if_neg hne] at this
    exact (rdy_of h hb h1).trans this
theorem seqM_spec {l : List Oper} (hb : ∀ o ∈ l, ∀ e ∈ o.after, e.on < l.length) : ∀ (g k : Nat) (listed : Array Bool) (mask : Nat), Msk l listed mask → seqM md l g k mask = true → Region.seqB md l.toArray g k listed = true
  | 0, k, listed, mask, hm, h => by
    rw [seqM] at h
    rw [Region.seqB, List.isEmpty_iff]
    refine List.filter_eq_nil_iff.2 fun j hj => ?_
    have hj' : j < l.length := by simpa using hj
    have h1 : l[j]? = some l[j] := by simp [hj']
    have := noneR_spec l 0 h j _ h1
    rw [Nat.zero_add] at this
    have e := (rdy_of (md := md) hm hb h1).trans this
    intro hh
    have hh2 : rdyB md l.toArray listed j = true := hh
    rw [e] at hh2
    cases hh2
  | g + 1, k, listed, mask, hm, h => by
    simp only [seqM, Bool.and_eq_true, decide_eq_true_eq] at h
    simp only [Region.seqB, Bool.and_eq_true, decide_eq_true_eq]
    exact ⟨ready_one hm hb h.1.1 h.1.2, seqM_spec hb g (k + 1) _ _ (hm.set k) h.2⟩
theorem itemsM_spec {l : List Oper} {n : Nat} (hb : ∀ o ∈ l, ∀ e ∈ o.after, e.on < l.length) : ∀ (is : List (Bool × Nat)) (listed : Array Bool) (mask : Nat), Msk l listed mask → itemsM md l n is mask = true → itemsB md l.toArray n is listed = true
  | [], listed, mask, hm, h => by
    rw [itemsM] at h
    rw [itemsB]
    exact seqM_spec hb _ _ _ _ hm (by simpa using h)
  | (true, i) :: is, listed, mask, hm, h => by
    simp only [itemsM, Bool.and_eq_true, decide_eq_true_eq] at h
    simp only [itemsB, if_true, Bool.and_eq_true, decide_eq_true_eq]
    obtain ⟨⟨h1, h2⟩, h3⟩ := h
    cases ho : l[i]? with
    | none => rw [ho] at h1; cases h1
    | some oi =>
      rw [ho] at h1
      simp only [Bool.and_eq_true] at h1
      have hi : i < l.length := (List.getElem?_eq_some_iff.1 ho).1
      refine ⟨⟨⟨?_, ?_⟩, h2⟩, itemsM_spec hb is _ _ (hm.set i) h3⟩
      · have hmem : i ∈ Region.ready md l.toArray listed := by
          refine List.mem_filter.2 ⟨by simpa using hi, ?_⟩
          exact (rdy_of (md := md) hm hb ho).trans (by simp only [Bool.and_eq_true]; exact h1.1)
        simpa using hmem
      · unfold Region.free
        rw [List.getElem?_toArray, ho]
        show ((List.range l.toArray.size).all _) = true
        rw [List.all_eq_true]
        intro j hj
        have hj' : j < l.length := by simpa using hj
        have h4 : l[j]? = some l[j] := by simp [hj']
        have h5 := freeR_spec l 0 h1.2 j _ h4
        rw [Nat.zero_add] at h5
        rw [hm.getD hj', List.getElem?_toArray, h4]
        show (j == i || mask.testBit j || ((l[j].after.any fun e => Region.binds md e && e.on == i) || oi.apart l.toArray l[j])) = true
        rw [← Array.any_toList, ← Bool.or_assoc]
        exact h5
  | (false, i) :: is, listed, mask, hm, h => by
    simp only [itemsM, Bool.and_eq_true, decide_eq_true_eq] at h
    simp only [itemsB, Bool.false_eq_true, if_false, Bool.and_eq_true, decide_eq_true_eq]
    exact ⟨⟨ready_one hm hb h.1.1.1 h.1.1.2, h.1.2⟩, itemsM_spec hb is _ _ (hm.set i) h.2⟩
def edgesB (l : List Oper) : Bool := l.all fun o => o.after.toList.all fun e => decide (e.on < l.length)
def itemsQ (l : List Oper) (n : Nat) (is : List (Bool × Nat)) : Bool :=
  edgesB l && (Region.noSelect l.toArray && decide (n < l.toArray.size) && decide (n = is.length) && Region.sinkB .any l.toArray n && Region.chainB .any l.toArray n) && itemsM .any l n is 0
theorem itemsR_of {l : List Oper} {n : Nat} {is : List (Bool × Nat)} (h : itemsQ l n is = true) : itemsR l n is = true := by
  simp only [itemsQ, Bool.and_eq_true] at h
  obtain ⟨⟨h0, h1⟩, h2⟩ := h
  unfold itemsR
  simp only [Bool.and_eq_true]
  refine ⟨h1, itemsM_spec ?_ is _ 0 ⟨by simp, fun j hj => ?_⟩ h2⟩
  · intro o ho e he
    have := List.all_eq_true.1 (List.all_eq_true.1 h0 o ho) e (by simpa using he)
    simpa using this
  · rw [Array.getElem?_replicate, if_pos (by simpa using hj), Nat.zero_testBit]
end
end Go.Proofs.Ytpjdibanjmmbkaa
