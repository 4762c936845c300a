/- Regions that draw their order: some operations first, the others in whatever order they may come. No condition. -/
import Derived.Test.YtpjdibanjmmbkaaNq4
namespace Go.Proofs.Ytpjdibanjmmbkaa
open Go Go.RowKit
section
variable {P : Program} {ops : Array Oper} {Q : Exit → Act → World → Prop} {md : Region.Mode} {S : World → Prop} {n : Nat} {L : Array Bool → Act → World → Prop}
/-- The same, the operations behind ps in any order. -/
def setL : List Nat → Array Bool → Array Bool
  | [], l => l
  | p :: ps, l => setL ps (l.setIfInBounds p true)
def headT (md : Region.Mode) (ops : Array Oper) (n : Nat) : List Nat → Array Bool → Bool
  | [], _ => true
  | p :: ps, listed => (Region.ready md ops listed).contains p && Region.free md ops listed p && decide (p < n) && headT md ops n ps (listed.setIfInBounds p true)
theorem wpAnyS_pure {f : Nat} {w : World} (hsel : Region.noSelect ops = true) (hQ : ∀ c a d v w, Q (.panic c) (Act.put a d v) w → Q (.panic c) a w)
    (hs : Region.sinkB md ops n = true) (hc : Region.chainB md ops n = true) (hn : n < ops.size) (hS : S w)
    (hL : ∀ listed a w, L listed a w → ∀ j ∈ Region.ready md ops listed, n ≤ j) :
    ∀ (ps : List Nat) (listed : Array Bool) (a : Act), HeadInv md ops n listed → headT md ops n ps listed = true →
    pW P ops S (fun a' => wpAnyS P md ops Q S n L f (setL ps listed) a' w) ps a → wpAnyS P md ops Q S n L (ps.length + f) listed a w
  | [], listed, a, _, _, h => by rw [List.length_nil, Nat.zero_add]; exact h
  | p :: ps, listed, a, inv, hB, h => by
    simp only [headT, Bool.and_eq_true, decide_eq_true_eq] at hB
    obtain ⟨⟨⟨hr, hf⟩, hpn⟩, hB⟩ := hB
    obtain ⟨o, ho', v, hy, hK⟩ := h
    have ho : ops[p]? = some o := by simpa using ho'
    have hr' : p ∈ Region.ready md ops listed := by simpa using hr
    rw [show (p :: ps).length + f = (ps.length + f) + 1 by simp; omega]
    exact wpAnyS_first ho (Region.noSelect_spec hsel) (fun c a w => hQ c a _ _ w) hs hc hn hpn hL _ listed a w inv (Region.free_spec ho hf) hr' hy hS
      (wpAnyS_pure hsel hQ hs hc hn hS hL ps _ _ (inv.set hr' hpn) hB hK)
theorem wpAnyS_two {f i j : Nat} {listed : Array Bool} {a : Act} {w : World} {oi oj : Oper} (hr : Region.ready md ops listed = [i, j]) (hi : i < n) (hj : j < n) (ho : ops.toList[i]? = some oi) (hg : oi.guard = none) (ho' : ops.toList[j]? = some oj) (hg' : oj.guard = none)
    (h1 : Oper.wp P oi a w (fun a' w' => S w' ∧ wpAnyS P md ops Q S n L f (listed.setIfInBounds i true) a' w') Q) (h2 : Oper.wp P oj a w (fun a' w' => S w' ∧ wpAnyS P md ops Q S n L f (listed.setIfInBounds j true) a' w') Q) : wpAnyS P md ops Q S n L (f + 1) listed a w := by
  refine ⟨by rw [hr]; simp, fun k hk => ?_⟩
  rw [hr] at hk
  rcases (by simpa using hk : k = i ∨ k = j) with rfl | rfl
  · refine ⟨hi, ?_⟩
    have ho : ops[k]? = some oi := by simpa using ho
    unfold wpOp
    simp only [ho]
    rw [if_pos (by simp [Region.wanted, hg])]
    exact .inl h1
  · refine ⟨hj, ?_⟩
    have ho' : ops[k]? = some oj := by simpa using ho'
    unfold wpOp
    simp only [ho']
    rw [if_pos (by simp [Region.wanted, hg'])]
    exact .inl h2
theorem wpAnyS_one {f i : Nat} {listed : Array Bool} {a : Act} {w : World} {oi : Oper} (hr : Region.ready md ops listed = [i]) (hi : i < n) (ho : ops.toList[i]? = some oi) (hg : oi.guard = none)
    (h1 : Oper.wp P oi a w (fun a' w' => S w' ∧ wpAnyS P md ops Q S n L f (listed.setIfInBounds i true) a' w') Q) : wpAnyS P md ops Q S n L (f + 1) listed a w := by
  refine ⟨by rw [hr]; simp, fun k hk => ?_⟩
  rw [hr] at hk
  obtain rfl : k = i := by simpa using hk
  refine ⟨hi, ?_⟩
  have ho : ops[k]? = some oi := by simpa using ho
  unfold wpOp
  simp only [ho]
  rw [if_pos (by simp [Region.wanted, hg])]
  exact .inl h1
def TailL (P : Program) (Q : Exit → Act → World → Prop) (l : List Oper) (n : Nat) (listed : Array Bool) (a : Act) (w : World) : Prop := Region.seqB .any l.toArray (l.toArray.size - n) n listed = true ∧ wpList P l.toArray Q (l.drop n) a w
theorem wpAnyS_end {l : List Oper} {listed : Array Bool} {a : Act} {w : World} (hB : Region.seqB .any l.toArray (l.toArray.size - n) n listed = true) (h : wpList P l.toArray Q (l.drop n) a w) : wpAnyS P .any l.toArray Q S n (TailL P Q l n) 0 listed a w := ⟨hB, h⟩
def firstT (l : List Oper) (n k : Nat) (ps : List Nat) : Bool :=
  Region.noSelect l.toArray && decide (n < l.toArray.size) && decide (n = ps.length + k) && Region.sinkB .any l.toArray n && Region.chainB .any l.toArray n && headT .any l.toArray n ps (Array.replicate l.toArray.size false)
theorem wp_region_firstT {id : Nat} {a : Act} {w : World} {l : List Oper} (n k : Nat) (ps : List Nat) (S : World → Prop) (hm : P.follows .mixedOrders = true) (hB : firstT l n k ps = true) (hS : S w.drew)
    (h : pW P l.toArray S (fun a' => wpAnyS P .any l.toArray (NoPanic Q) S n (TailL P (NoPanic Q) l n) k (setL ps (Array.replicate l.toArray.size false)) a' w.drew) ps a) : (Code.region id l.toArray true).wp P Q a w := by
  refine wp_region_noPanic ?_
  simp only [firstT, Bool.and_eq_true, decide_eq_true_eq] at hB
  obtain ⟨⟨⟨⟨⟨hsel, hn⟩, hlen⟩, hs⟩, hc⟩, hH⟩ := hB
  refine wp_region_any hm ?_
  have hsz : l.toArray.size = (ps.length + k) + (l.toArray.size - n) := by omega
  have inv : HeadInv .any l.toArray n (Array.replicate l.toArray.size false) :=
    ⟨by simp, fun j oj _ hl => (by rw [getD_replicate_false] at hl; cases hl), fun t _ ht => getD_in (by rw [Array.size_replicate]; exact ht) (getD_replicate_false _ _)⟩
  have hW := wpAnyS_pure hsel (fun _ _ _ _ _ h => h) hs hc hn hS (fun listed a w hL => seqB_ready hL.1) ps _ a inv hH h
  refine (congrArg (fun k => wpAny P .any l.toArray (NoPanic Q) k (Array.replicate l.toArray.size false) a w.drew) hsz).mpr ?_
  refine wpAny_of_S (fun listed a w hL => ?_) _ _ _ _ hW
  have hd : (l.drop n).length = l.toArray.size - n := by simp
  have := wpAny_of_seq (Q' := NoPanic Q) (l.drop n) n listed a w (fun j => by simp) (by rw [hd]; exact hL.1) hL.2
  rw [hd] at this
  exact this
end
end Go.Proofs.Ytpjdibanjmmbkaa
