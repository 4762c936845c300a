/- Regions that draw their order: a chain of operations, and beside it operations that may come at any time, by an invariant (no order is written out). No condition. -/
import Derived.Test.YtdljnhdhigbefaaZz6
namespace Go.Proofs.Ytdljnhdhigbefaa
open Go Go.RowKit
section
variable {P : Program} {ops : Array Oper} {Q : Exit → Act → World → Prop} {md : Region.Mode} {S : World → Prop} {n : Nat}
def subsL : List Nat → List (List Nat)
  | [] => [[]]
  | x :: l => subsL l ++ (subsL l).map (x :: ·)
theorem subsL_nil : ∀ l : List Nat, [] ∈ subsL l
  | [] => by simp [subsL]
  | x :: l => by rw [subsL, List.mem_append]; exact .inl (subsL_nil l)
theorem subsL_self : ∀ l : List Nat, l ∈ subsL l
  | [] => by simp [subsL]
  | x :: l => by rw [subsL, List.mem_append]; exact .inr (List.mem_map_of_mem (subsL_self l))
theorem subsL_erase (q : Nat) : ∀ (l pd : List Nat), pd ∈ subsL l → pd.erase q ∈ subsL l
  | [], pd, h => by
    have : pd = [] := by simpa [subsL] using h
    subst this; exact h
  | x :: l, pd, h => by
    rw [subsL, List.mem_append] at h ⊢
    rcases h with h | h
    · exact .inl (subsL_erase q l pd h)
    · obtain ⟨p, hp, rfl⟩ := List.mem_map.1 h
      by_cases e : x = q
      · subst e
        rw [List.erase_cons_head]
        exact .inl hp
      · rw [List.erase_cons_tail (by simpa using e)]
        exact .inr (List.mem_map_of_mem (subsL_erase q l p hp))
theorem subsL_sub : ∀ (l pd : List Nat), pd ∈ subsL l → pd.Sublist l
  | [], pd, h => by
    have : pd = [] := by simpa [subsL] using h
    subst this; exact List.Sublist.refl _
  | x :: l, pd, h => by
    rw [subsL, List.mem_append] at h
    rcases h with h | h
    · exact (subsL_sub l pd h).cons x
    · obtain ⟨p, hp, rfl⟩ := List.mem_map.1 h
      exact (subsL_sub l p hp).cons_cons x
/-- What is listed where the chain's 'rc' and the others' 'pd' are left. -/
def lstd (sz n : Nat) (rc pd : List Nat) : Array Bool := ((List.range sz).map fun i => decide (i < n) && !rc.contains i && !pd.contains i).toArray
theorem lstd_set {sz n c : Nat} {rc pd rc' pd' : List Nat} (hc : c < n) (hcr : rc'.contains c = false) (hcp : pd'.contains c = false) (hr : ∀ i, i ≠ c → rc'.contains i = rc.contains i) (hp : ∀ i, i ≠ c → pd'.contains i = pd.contains i) :
    (lstd sz n rc pd).setIfInBounds c true = lstd sz n rc' pd' := by
  apply Array.ext
  · simp [lstd]
  · intro i h1 h2
    simp only [lstd, List.size_toArray, List.length_map, List.length_range, Array.size_setIfInBounds] at h1
    rw [Array.getElem_setIfInBounds (by simp [lstd]; exact h1)]
    by_cases e : c = i
    · subst e
      rw [if_pos rfl]
      simp only [lstd, List.getElem_toArray, List.getElem_map, List.getElem_range]
      rw [hcr, hcp]; simp [hc]
    · rw [if_neg e]
      simp only [lstd, List.getElem_toArray, List.getElem_map, List.getElem_range]
      rw [hr i (fun h => e h.symm), hp i (fun h => e h.symm)]
def sufs : List Nat → List (List Nat)
  | [] => [[]]
  | x :: l => (x :: l) :: sufs l
theorem sufs_self : ∀ l : List Nat, l ∈ sufs l
  | [] => by simp [sufs]
  | x :: l => by simp [sufs]
theorem sufs_tail : ∀ (l : List Nat) (c : Nat) (rc : List Nat), c :: rc ∈ sufs l → rc ∈ sufs l
  | [], c, rc, h => by simp [sufs] at h
  | x :: l, c, rc, h => by
    rw [sufs, List.mem_cons] at h ⊢
    rcases h with h | h
    · injection h with h1 h2; subst h2; exact .inr (sufs_self _)
    · exact .inr (sufs_tail l c rc h)
theorem sufs_sub : ∀ (l rc : List Nat), rc ∈ sufs l → rc.Sublist l
  | [], rc, h => by
    have : rc = [] := by simpa [sufs] using h
    subst this; exact List.Sublist.refl _
  | x :: l, rc, h => by
    rw [sufs, List.mem_cons] at h
    rcases h with rfl | h
    · exact List.Sublist.refl _
    · exact (sufs_sub l rc h).cons x
def stateB (md : Region.Mode) (ops : Array Oper) (n : Nat) (rc pd : List Nat) : Bool :=
  match rc with
  | [] => match pd with
    | [] => Region.seqB md ops (ops.size - n) n (lstd ops.size n [] [])
    | x :: l => permL (Region.ready md ops (lstd ops.size n [] (x :: l))) (x :: l)
  | c :: rc => permL (Region.ready md ops (lstd ops.size n (c :: rc) pd)) (c :: pd)
def invB (md : Region.Mode) (ops : Array Oper) (n : Nat) (calls free : List Nat) : Bool :=
  decide (calls ++ free).Nodup && ((calls ++ free).all fun i => decide (i < n)) && (sufs calls).all fun rc => (subsL free).all fun pd => stateB md ops n rc pd
theorem wpAnyS_inv {J : List Nat → List Nat → Act → World → Prop} {K : Act → World → Prop} {calls free : List Nat} (hB : invB md ops n calls free = true)
    (hK : ∀ a w, J [] [] a w → K a w) (h1 : ∀ c rc pd a w, c :: rc ∈ sufs calls → pd ∈ subsL free → S w → J (c :: rc) pd a w → opW P ops Q S c (J rc pd) a w)
    (h2 : ∀ q rc pd a w, rc ∈ sufs calls → pd ∈ subsL free → q ∈ pd → S w → J rc pd a w → opW P ops Q S q (J rc (pd.erase q)) a w) :
    ∀ (k : Nat) (rc pd : List Nat) (a : Act) (w : World), k = rc.length + pd.length → rc ∈ sufs calls → pd ∈ subsL free → S w → J rc pd a w →
      wpAnyS P md ops Q S n (fun listed a w => Region.seqB md ops (ops.size - n) n listed = true ∧ K a w) k (lstd ops.size n rc pd) a w := by
  simp only [invB, Bool.and_eq_true, decide_eq_true_eq, List.all_eq_true] at hB
  obtain ⟨⟨hnd, hlt⟩, hst⟩ := hB
  intro k
  induction k with
  | zero =>
    intro rc pd a w hk hrc hpd hS hJ
    obtain rfl : rc = [] := List.length_eq_zero_iff.1 (by omega)
    obtain rfl : pd = [] := List.length_eq_zero_iff.1 (by omega)
    exact ⟨hst [] hrc [] hpd, hK a w hJ⟩
  | succ k ih =>
    intro rc pd a w hk hrc hpd hS hJ
    have hs := hst rc hrc pd hpd
    have hrs := sufs_sub _ _ hrc
    have hps := subsL_sub _ _ hpd
    have hnd2 := List.nodup_append.1 hnd
    have hpn : pd.Nodup := hps.nodup hnd2.2.1
    have hrn : rc.Nodup := hrs.nodup hnd2.1
    have stepq : ∀ q, q ∈ pd → q < n ∧ wpOp P ops Q q (fun a' w' => S w' ∧ wpAnyS P md ops Q S n (fun listed a w => Region.seqB md ops (ops.size - n) n listed = true ∧ K a w) k ((lstd ops.size n rc pd).setIfInBounds q true) a' w') a w := fun q hq => by
      have hqn : q < n := hlt q (List.mem_append.2 (.inr (hps.subset hq)))
      refine ⟨hqn, wpOp_opW (fun a' w' hS' hk' => ?_) (h2 q rc pd a w hrc hpd hq hS hJ)⟩
      have hqr : q ∉ rc := fun h => hnd2.2.2 q (hrs.subset h) q (hps.subset hq) rfl
      rw [lstd_set (rc' := rc) (pd' := pd.erase q) hqn (by simpa using hqr) (by simpa using fun h => (hpn.mem_erase_iff.1 h).1 rfl) (fun _ _ => rfl) (fun i hi => by rw [Bool.eq_iff_iff]; simp [hpn.mem_erase_iff, hi])]
      exact ih rc (pd.erase q) a' w' (by rw [List.length_erase, if_pos hq]; have := List.length_pos_of_mem hq; omega) hrc (subsL_erase q _ _ hpd) hS' hk'
    cases rc with
    | nil =>
      cases pd with
      | nil => simp at hk
      | cons x l =>
        have hmem := permL_mem hs
        exact ⟨fun h0 => (by have := (hmem x).2 (by simp); rw [h0] at this; cases this), fun j hj => stepq j ((hmem j).1 hj)⟩
    | cons c rc =>
      have hmem := permL_mem hs
      refine ⟨fun h0 => (by have := (hmem c).2 (by simp); rw [h0] at this; cases this), fun j hj => ?_⟩
      by_cases e : j ∈ pd
      · exact stepq j e
      · obtain rfl : j = c := (List.mem_cons.1 ((hmem j).1 hj)).resolve_right e
        have hjn : j < n := hlt j (List.mem_append.2 (.inl (hrs.subset (by simp))))
        refine ⟨hjn, wpOp_opW (fun a' w' hS' hk' => ?_) (h1 j rc pd a w hrc hpd hS hJ)⟩
        have hjr : j ∉ rc := (List.nodup_cons.1 hrn).1
        rw [lstd_set (rc' := rc) (pd' := pd) hjn (by simpa using hjr) (by simpa using e) (fun i hi => by rw [Bool.eq_iff_iff]; simp [hi]) (fun _ _ => rfl)]
        exact ih rc pd a' w' (by simp only [List.length_cons] at hk; omega) (sufs_tail _ _ _ hrc) hpd hS' hk'
def preB (md : Region.Mode) (ops : Array Oper) (n : Nat) (calls free : List Nat) : List (Bool × Nat) → Array Bool → Bool
  | [], listed => decide (listed = lstd ops.size n calls free) && invB md ops n calls free
  | (b, i) :: l, listed => b && (Region.ready md ops listed).contains i && Region.free md ops listed i && decide (i < n) && preB md ops n calls free l (listed.setIfInBounds i true)
theorem wpAnyS_pre {J : List Nat → List Nat → Act → World → Prop} {K : Act → World → Prop} {calls free : List Nat} (hsel : Region.noSelect ops = true) (hQ : ∀ c a d v w, Q (.panic c) (Act.put a d v) w → Q (.panic c) a w)
    (hs : Region.sinkB md ops n = true) (hc : Region.chainB md ops n = true) (hn : n < ops.size)
    (hK : ∀ a w, J [] [] a w → K a w) (h1 : ∀ c rc pd a w, c :: rc ∈ sufs calls → pd ∈ subsL free → S w → J (c :: rc) pd a w → opW P ops Q S c (J rc pd) a w)
    (h2 : ∀ q rc pd a w, rc ∈ sufs calls → pd ∈ subsL free → q ∈ pd → S w → J rc pd a w → opW P ops Q S q (J rc (pd.erase q)) a w) :
    ∀ (l : List (Bool × Nat)) (listed : Array Bool) (a : Act) (w : World), HeadInv md ops n listed → preB md ops n calls free l listed = true → S w →
    iW P ops Q S (J calls free) l a w → wpAnyS P md ops Q S n (fun listed a w => Region.seqB md ops (ops.size - n) n listed = true ∧ K a w) (l.length + (calls.length + free.length)) listed a w
  | [], listed, a, w, _, hB, hS, h => by
    simp only [preB, Bool.and_eq_true, decide_eq_true_eq] at hB
    obtain ⟨rfl, hB⟩ := hB
    rw [List.length_nil, Nat.zero_add]
    exact wpAnyS_inv hB hK h1 h2 _ calls free a w rfl (sufs_self _) (subsL_self _) hS h
  | (false, p) :: l, listed, a, w, inv, hB, hS, h => by simp [preB] at hB
  | (true, p) :: l, listed, a, w, inv, hB, hS, h => by
    simp only [preB, Bool.true_and, Bool.and_eq_true, decide_eq_true_eq] at hB
    obtain ⟨⟨⟨hr, hf⟩, hpn⟩, hB⟩ := hB
    obtain ⟨o, ho', v, hy, hK'⟩ := h
    have ho : ops[p]? = some o := by simpa using ho'
    have hr' : p ∈ Region.ready md ops listed := by simpa using hr
    rw [List.length_cons, show l.length + 1 + (calls.length + free.length) = l.length + (calls.length + free.length) + 1 by omega]
    exact wpAnyS_first ho (Region.noSelect_spec hsel) (fun c a w => hQ c a _ _ w) hs hc hn hpn (fun listed' a' w' hL => seqB_ready hL.1) _ listed a w inv (Region.free_spec ho hf) hr' hy hS
      (wpAnyS_pre hsel hQ hs hc hn hK h1 h2 l _ _ w (inv.set hr' hpn) hB hS hK')
def itemsI (l : List Oper) (n : Nat) (is : List (Bool × Nat)) (calls free : List Nat) : Bool :=
  Region.noSelect l.toArray && decide (n < l.toArray.size) && decide (n = is.length + (calls.length + free.length)) && Region.sinkB .any l.toArray n && Region.chainB .any l.toArray n && preB .any l.toArray n calls free is (Array.replicate l.toArray.size false)
/-- **THE REGION.** -/
theorem wp_region_inv {id : Nat} {a : Act} {w : World} {l : List Oper} (n : Nat) (is : List (Bool × Nat)) (calls free : List Nat) (S : World → Prop) (J : List Nat → List Nat → Act → World → Prop) (hm : P.follows .mixedOrders = true) (hB : itemsI l n is calls free = true) (hS : S w.drew)
    (h : iW P l.toArray (NoPanic Q) S (J calls free) is a w.drew)
    (h1 : ∀ c rc pd a w, c :: rc ∈ sufs calls → pd ∈ subsL free → S w → J (c :: rc) pd a w → opW P l.toArray (NoPanic Q) S c (J rc pd) a w)
    (h2 : ∀ q rc pd a w, rc ∈ sufs calls → pd ∈ subsL free → q ∈ pd → S w → J rc pd a w → opW P l.toArray (NoPanic Q) S q (J rc (pd.erase q)) a w)
    (hK : ∀ a w, J [] [] a w → wpList P l.toArray (NoPanic Q) (l.drop n) a w) : (Code.region id l.toArray true).wp P Q a w := by
  refine wp_region_noPanic ?_
  simp only [itemsI, Bool.and_eq_true, decide_eq_true_eq] at hB
  obtain ⟨⟨⟨⟨⟨hsel, hn⟩, hlen⟩, hs⟩, hc⟩, hH⟩ := hB
  refine wp_region_any hm ?_
  have hsz : l.toArray.size = (is.length + (calls.length + free.length)) + (l.toArray.size - n) := by omega
  have inv : HeadInv .any l.toArray n (Array.replicate l.toArray.size false) :=
    ⟨by simp, fun j oj _ hl => (by rw [getD_replicate_false] at hl; cases hl), fun t _ ht => getD_in (by rw [Array.size_replicate]; exact ht) (getD_replicate_false _ _)⟩
  have hW := wpAnyS_pre (K := fun a w => wpList P l.toArray (NoPanic Q) (l.drop n) a w) hsel (fun _ _ _ _ _ h => h) hs hc hn hK h1 h2 is _ a w.drew inv hH hS h
  refine (congrArg (fun k => wpAny P .any l.toArray (NoPanic Q) k (Array.replicate l.toArray.size false) a w.drew) hsz).mpr ?_
  refine wpAny_of_S (fun listed a w hL => ?_) _ _ _ _ hW
  have hd : (l.drop n).length = l.toArray.size - n := by simp
  have := wpAny_of_seq (Q' := NoPanic Q) (l.drop n) n listed a w (fun j => by simp) (by rw [hd]; exact hL.1) hL.2
  rw [hd] at this
  exact this
end
end Go.Proofs.Ytdljnhdhigbefaa

/- Regions that draw their order: as Nq12, but an operation of the chain may wait for some of those beside it. No condition. -/
namespace Go.Proofs.Ytdljnhdhigbefaa
open Go Go.RowKit
section
variable {P : Program} {ops : Array Oper} {Q : Exit → Act → World → Prop} {md : Region.Mode} {S : World → Prop} {n : Nat}
def waitB (nd : List (Nat × Nat)) (c : Nat) (pd : List Nat) : Bool := nd.any fun p => decide (p.1 = c) && pd.contains p.2
def deadB (nd : List (Nat × Nat)) (rc pd : List Nat) : Bool := nd.any fun p => !rc.contains p.1 && pd.contains p.2
theorem deadB_tail {nd : List (Nat × Nat)} {c : Nat} {rc pd : List Nat} (h : deadB nd (c :: rc) pd = false) (hw : waitB nd c pd = false) : deadB nd rc pd = false := by
  unfold deadB waitB at *
  rw [List.any_eq_false] at *
  intro p hp
  have h1 := h p hp
  have h2 := hw p hp
  simp at h1 h2 ⊢
  intro h3
  by_cases e : p.1 = c
  · exact h2 e
  · exact h1 e h3
theorem deadB_erase {nd : List (Nat × Nat)} {q : Nat} {rc pd : List Nat} (h : deadB nd rc pd = false) : deadB nd rc (pd.erase q) = false := by
  unfold deadB at *
  rw [List.any_eq_false] at *
  intro p hp
  have h1 := h p hp
  simp at h1 ⊢
  intro h3 h4
  exact h1 h3 (List.mem_of_mem_erase h4)
def stateN (nd : List (Nat × Nat)) (md : Region.Mode) (ops : Array Oper) (n : Nat) (rc pd : List Nat) : Bool :=
  match rc with
  | [] => match pd with
    | [] => Region.seqB md ops (ops.size - n) n (lstd ops.size n [] [])
    | x :: l => permL (Region.ready md ops (lstd ops.size n [] (x :: l))) (x :: l)
  | c :: rc => permL (Region.ready md ops (lstd ops.size n (c :: rc) pd)) (if waitB nd c pd then pd else c :: pd)
def invN (nd : List (Nat × Nat)) (md : Region.Mode) (ops : Array Oper) (n : Nat) (calls free : List Nat) : Bool :=
  decide (calls ++ free).Nodup && ((calls ++ free).all fun i => decide (i < n)) && (sufs calls).all fun rc => (subsL free).all fun pd => deadB nd rc pd || stateN nd md ops n rc pd
theorem wpAnyS_invN {nd : List (Nat × Nat)} {J : List Nat → List Nat → Act → World → Prop} {K : Act → World → Prop} {calls free : List Nat} (hB : invN nd md ops n calls free = true)
    (hK : ∀ a w, J [] [] a w → K a w) (h1 : ∀ c rc pd a w, c :: rc ∈ sufs calls → pd ∈ subsL free → waitB nd c pd = false → S w → J (c :: rc) pd a w → opW P ops Q S c (J rc pd) a w)
    (h2 : ∀ q rc pd a w, rc ∈ sufs calls → pd ∈ subsL free → q ∈ pd → S w → J rc pd a w → opW P ops Q S q (J rc (pd.erase q)) a w) :
    ∀ (k : Nat) (rc pd : List Nat) (a : Act) (w : World), k = rc.length + pd.length → rc ∈ sufs calls → pd ∈ subsL free → deadB nd rc pd = false → S w → J rc pd a w →
      wpAnyS P md ops Q S n (fun listed a w => Region.seqB md ops (ops.size - n) n listed = true ∧ K a w) k (lstd ops.size n rc pd) a w := by
  simp only [invN, Bool.and_eq_true, decide_eq_true_eq, List.all_eq_true] at hB
  obtain ⟨⟨hnd, hlt⟩, hst⟩ := hB
  intro k
  induction k with
  | zero =>
    intro rc pd a w hk hrc hpd hdd hS hJ
    obtain rfl : rc = [] := List.length_eq_zero_iff.1 (by omega)
    obtain rfl : pd = [] := List.length_eq_zero_iff.1 (by omega)
    exact ⟨by have h := hst [] hrc [] hpd; rw [hdd, Bool.false_or] at h; exact h, hK a w hJ⟩
  | succ k ih =>
    intro rc pd a w hk hrc hpd hdd hS hJ
    have hs : stateN nd md ops n rc pd = true := by have h := hst rc hrc pd hpd; rw [hdd, Bool.false_or] at h; exact h
    have hrs := sufs_sub _ _ hrc
    have hps := subsL_sub _ _ hpd
    have hnd2 := List.nodup_append.1 hnd
    have hpn : pd.Nodup := hps.nodup hnd2.2.1
    have hrn : rc.Nodup := hrs.nodup hnd2.1
    have stepq : ∀ q, q ∈ pd → q < n ∧ wpOp P ops Q q (fun a' w' => S w' ∧ wpAnyS P md ops Q S n (fun listed a w => Region.seqB md ops (ops.size - n) n listed = true ∧ K a w) k ((lstd ops.size n rc pd).setIfInBounds q true) a' w') a w := fun q hq => by
      have hqn : q < n := hlt q (List.mem_append.2 (.inr (hps.subset hq)))
      refine ⟨hqn, wpOp_opW (fun a' w' hS' hk' => ?_) (h2 q rc pd a w hrc hpd hq hS hJ)⟩
      have hqr : q ∉ rc := fun h => hnd2.2.2 q (hrs.subset h) q (hps.subset hq) rfl
      rw [lstd_set (rc' := rc) (pd' := pd.erase q) hqn (by simpa using hqr) (by simpa using fun h => (hpn.mem_erase_iff.1 h).1 rfl) (fun _ _ => rfl) (fun i hi => by rw [Bool.eq_iff_iff]; simp [hpn.mem_erase_iff, hi])]
      exact ih rc (pd.erase q) a' w' (by rw [List.length_erase, if_pos hq]; have := List.length_pos_of_mem hq; omega) hrc (subsL_erase q _ _ hpd) (deadB_erase hdd) hS' hk'
    cases rc with
    | nil =>
      cases pd with
      | nil => simp at hk
      | cons x l =>
        have hmem := permL_mem hs
        exact ⟨fun h0 => (by have := (hmem x).2 (by simp); rw [h0] at this; cases this), fun j hj => stepq j ((hmem j).1 hj)⟩
    | cons c rc =>
      have hmem := permL_mem hs
      by_cases hwt : waitB nd c pd = true
      · rw [if_pos hwt] at hmem
        refine ⟨fun h0 => ?_, fun j hj => stepq j ((hmem j).1 hj)⟩
        have hne : pd ≠ [] := fun e => by rw [e] at hwt; simp [waitB] at hwt
        obtain ⟨x, hx⟩ := List.exists_mem_of_ne_nil pd hne
        have := (hmem x).2 hx
        rw [h0] at this; cases this
      · rw [if_neg hwt] at hmem
        refine ⟨fun h0 => (by have := (hmem c).2 (by simp); rw [h0] at this; cases this), fun j hj => ?_⟩
        by_cases e : j ∈ pd
        · exact stepq j e
        · obtain rfl : j = c := (List.mem_cons.1 ((hmem j).1 hj)).resolve_right e
          have hjn : j < n := hlt j (List.mem_append.2 (.inl (hrs.subset (by simp))))
          refine ⟨hjn, wpOp_opW (fun a' w' hS' hk' => ?_) (h1 j rc pd a w hrc hpd (eq_false_of_ne_true hwt) hS hJ)⟩
          have hjr : j ∉ rc := (List.nodup_cons.1 hrn).1
          rw [lstd_set (rc' := rc) (pd' := pd) hjn (by simpa using hjr) (by simpa using e) (fun i hi => by rw [Bool.eq_iff_iff]; simp [hi]) (fun _ _ => rfl)]
          exact ih rc pd a' w' (by simp only [List.length_cons] at hk; omega) (sufs_tail _ _ _ hrc) hpd (deadB_tail hdd (eq_false_of_ne_true hwt)) hS' hk'
def preN (nd : List (Nat × Nat)) (md : Region.Mode) (ops : Array Oper) (n : Nat) (calls free : List Nat) : List (Bool × Nat) → Array Bool → Bool
  | [], listed => decide (listed = lstd ops.size n calls free) && !deadB nd calls free && invN nd md ops n calls free
  | (b, i) :: l, listed => b && (Region.ready md ops listed).contains i && Region.free md ops listed i && decide (i < n) && preN nd md ops n calls free l (listed.setIfInBounds i true)
theorem wpAnyS_preN {nd : List (Nat × Nat)} {J : List Nat → List Nat → Act → World → Prop} {K : Act → World → Prop} {calls free : List Nat} (hsel : Region.noSelect ops = true) (hQ : ∀ c a d v w, Q (.panic c) (Act.put a d v) w → Q (.panic c) a w)
    (hs : Region.sinkB md ops n = true) (hc : Region.chainB md ops n = true) (hn : n < ops.size)
    (hK : ∀ a w, J [] [] a w → K a w) (h1 : ∀ c rc pd a w, c :: rc ∈ sufs calls → pd ∈ subsL free → waitB nd c pd = false → S w → J (c :: rc) pd a w → opW P ops Q S c (J rc pd) a w)
    (h2 : ∀ q rc pd a w, rc ∈ sufs calls → pd ∈ subsL free → q ∈ pd → S w → J rc pd a w → opW P ops Q S q (J rc (pd.erase q)) a w) :
    ∀ (l : List (Bool × Nat)) (listed : Array Bool) (a : Act) (w : World), HeadInv md ops n listed → preN nd md ops n calls free l listed = true → S w →
    iW P ops Q S (J calls free) l a w → wpAnyS P md ops Q S n (fun listed a w => Region.seqB md ops (ops.size - n) n listed = true ∧ K a w) (l.length + (calls.length + free.length)) listed a w
  | [], listed, a, w, _, hB, hS, h => by
    simp only [preN, Bool.and_eq_true, decide_eq_true_eq] at hB
    obtain ⟨⟨rfl, hdd⟩, hB⟩ := hB
    rw [List.length_nil, Nat.zero_add]
    exact wpAnyS_invN hB hK h1 h2 _ calls free a w rfl (sufs_self _) (subsL_self _) (by simpa using hdd) hS h
  | (false, p) :: l, listed, a, w, inv, hB, hS, h => by simp [preN] at hB
  | (true, p) :: l, listed, a, w, inv, hB, hS, h => by
    simp only [preN, Bool.true_and, Bool.and_eq_true, decide_eq_true_eq] at hB
    obtain ⟨⟨⟨hr, hf⟩, hpn⟩, hB⟩ := hB
    obtain ⟨o, ho', v, hy, hK'⟩ := h
    have ho : ops[p]? = some o := by simpa using ho'
    have hr' : p ∈ Region.ready md ops listed := by simpa using hr
    rw [List.length_cons, show l.length + 1 + (calls.length + free.length) = l.length + (calls.length + free.length) + 1 by omega]
    exact wpAnyS_first ho (Region.noSelect_spec hsel) (fun c a w => hQ c a _ _ w) hs hc hn hpn (fun listed' a' w' hL => seqB_ready hL.1) _ listed a w inv (Region.free_spec ho hf) hr' hy hS
      (wpAnyS_preN hsel hQ hs hc hn hK h1 h2 l _ _ w (inv.set hr' hpn) hB hS hK')
def itemsN (nd : List (Nat × Nat)) (l : List Oper) (n : Nat) (is : List (Bool × Nat)) (calls free : List Nat) : Bool :=
  Region.noSelect l.toArray && decide (n < l.toArray.size) && decide (n = is.length + (calls.length + free.length)) && Region.sinkB .any l.toArray n && Region.chainB .any l.toArray n && preN nd .any l.toArray n calls free is (Array.replicate l.toArray.size false)
/-- **THE REGION.** -/
theorem wp_region_invN {id : Nat} {a : Act} {w : World} {l : List Oper} (n : Nat) (is : List (Bool × Nat)) (calls free : List Nat) (nd : List (Nat × Nat)) (S : World → Prop) (J : List Nat → List Nat → Act → World → Prop) (hm : P.follows .mixedOrders = true) (hB : itemsN nd l n is calls free = true) (hS : S w.drew)
    (h : iW P l.toArray (NoPanic Q) S (J calls free) is a w.drew)
    (h1 : ∀ c rc pd a w, c :: rc ∈ sufs calls → pd ∈ subsL free → waitB nd c pd = false → S w → J (c :: rc) pd a w → opW P l.toArray (NoPanic Q) S c (J rc pd) a w)
    (h2 : ∀ q rc pd a w, rc ∈ sufs calls → pd ∈ subsL free → q ∈ pd → S w → J rc pd a w → opW P l.toArray (NoPanic Q) S q (J rc (pd.erase q)) a w)
    (hK : ∀ a w, J [] [] a w → wpList P l.toArray (NoPanic Q) (l.drop n) a w) : (Code.region id l.toArray true).wp P Q a w := by
  refine wp_region_noPanic ?_
  simp only [itemsN, Bool.and_eq_true, decide_eq_true_eq] at hB
  obtain ⟨⟨⟨⟨⟨hsel, hn⟩, hlen⟩, hs⟩, hc⟩, hH⟩ := hB
  refine wp_region_any hm ?_
  have hsz : l.toArray.size = (is.length + (calls.length + free.length)) + (l.toArray.size - n) := by omega
  have inv : HeadInv .any l.toArray n (Array.replicate l.toArray.size false) :=
    ⟨by simp, fun j oj _ hl => (by rw [getD_replicate_false] at hl; cases hl), fun t _ ht => getD_in (by rw [Array.size_replicate]; exact ht) (getD_replicate_false _ _)⟩
  have hW := wpAnyS_preN (K := fun a w => wpList P l.toArray (NoPanic Q) (l.drop n) a w) hsel (fun _ _ _ _ _ h => h) hs hc hn hK h1 h2 is _ a w.drew inv hH hS h
  refine (congrArg (fun k => wpAny P .any l.toArray (NoPanic Q) k (Array.replicate l.toArray.size false) a w.drew) hsz).mpr ?_
  refine wpAny_of_S (fun listed a w hL => ?_) _ _ _ _ hW
  have hd : (l.drop n).length = l.toArray.size - n := by simp
  have := wpAny_of_seq (Q' := NoPanic Q) (l.drop n) n listed a w (fun j => by simp) (by rw [hd]; exact hL.1) hL.2
  rw [hd] at this
  exact this
end
end Go.Proofs.Ytdljnhdhigbefaa
