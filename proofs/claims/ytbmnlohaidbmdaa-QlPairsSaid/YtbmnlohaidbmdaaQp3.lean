/- Layer 12, plainly: what is sorted rises, and columns go along. No condition. -/
import Derived.Test.YtbmnlohaidbmdaaQp2
namespace Go.Proofs.Ytbmnlohaidbmdaa
open Go Go.RowKit
set_option maxRecDepth 100000

theorem swapL_getD (l : List Nat) {i k : Nat} (hi : i < l.length) (hk : k < l.length) (j : Nat) : (swapL l i k).getD j 0 = if j = k then l.getD i 0 else if j = i then l.getD k 0 else l.getD j 0 := by
  unfold swapL
  rw [List.getD_eq_getElem?_getD]
  by_cases h1 : j = k
  · subst h1
    rw [if_pos rfl, List.getElem?_set_self (by simpa using hk)]; rfl
  · rw [if_neg h1, List.getElem?_set_ne (by omega)]
    by_cases h2 : j = i
    · subst h2
      rw [if_pos rfl, List.getElem?_set_self hi]; rfl
    · rw [if_neg h2, List.getElem?_set_ne (by omega), ← List.getD_eq_getElem?_getD]
/-- The places i and k changed. -/
def swp (i k j : Nat) : Nat := if j = k then i else if j = i then k else j
theorem swapL_swp (l : List Nat) {i k : Nat} (hi : i < l.length) (hk : k < l.length) (j : Nat) : (swapL l i k).getD j 0 = l.getD (swp i k j) 0 := by
  rw [swapL_getD l hi hk]
  unfold swp
  split
  · rfl
  · split <;> rfl
theorem swp_lt {i k j n : Nat} (hi : i < n) (hk : k < n) (hj : j < n) : swp i k j < n := by unfold swp; split; exact hi; split; exact hk; exact hj
theorem swp_swp (i k j : Nat) : swp i k (swp i k j) = j := by unfold swp; split <;> split <;> (try split) <;> (try split) <;> omega
theorem place_ne {n r r' c c' : Nat} (hc : c < n) (hc' : c' < n) (h : r ≠ r') : r * n + c ≠ r' * n + c' := by
  intro he
  have h1 : (r * n + c) / n = r := by rw [Nat.mul_comm, Nat.mul_add_div (by omega), Nat.div_eq_of_lt hc, Nat.add_zero]
  have h2 : (r' * n + c') / n = r' := by rw [Nat.mul_comm, Nat.mul_add_div (by omega), Nat.div_eq_of_lt hc', Nat.add_zero]
  rw [he, h2] at h1
  exact h h1.symm
theorem place_lt {n r R c : Nat} (hr : r < R) (hc : c < n) : r * n + c < R * n := by
  have : (r + 1) * n ≤ R * n := Nat.mul_le_mul_right _ hr
  rw [Nat.succ_mul] at this
  omega
/-- Columns changed in the first R rows. -/
theorem swapC_getD (z : List Nat) {n i k rows : Nat} (hi : i < n) (hk : k < n) (hz : z.length = rows * n) : ∀ R, R ≤ rows → ∀ r c, r < rows → c < n →
    (swapC z n i k R).getD (r * n + c) 0 = if r < R then z.getD (r * n + swp i k c) 0 else z.getD (r * n + c) 0
  | 0, _, r, c, _, _ => by rw [if_neg (by omega)]; rfl
  | R + 1, hR, r, c, hr, hc => by
    have ih := swapC_getD z hi hk hz R (by omega)
    have hl := swapC_len z n i k R
    have p1 := place_lt (n := n) (r := R) (R := rows) (by omega) hi
    have p2 := place_lt (n := n) (r := R) (R := rows) (by omega) hk
    rw [swapC, swapL_swp _ (by omega) (by omega)]
    by_cases hrR : r = R
    · subst hrR
      rw [if_pos (by omega)]
      have e : swp (r * n + i) (r * n + k) (r * n + c) = r * n + swp i k c := by
        unfold swp
        by_cases h1 : c = k
        · rw [if_pos (by omega), if_pos h1]
        · rw [if_neg (by omega), if_neg h1]
          by_cases h2 : c = i
          · rw [if_pos (by omega), if_pos h2]
          · rw [if_neg (by omega), if_neg h2]
      rw [e, ih r _ hr (swp_lt hi hk hc), if_neg (by omega)]
    · have e : swp (R * n + i) (R * n + k) (r * n + c) = r * n + c := by
        unfold swp
        rw [if_neg (place_ne hc hk hrR), if_neg (place_ne hc hi hrR)]
      rw [e, ih r c hr hc]
      by_cases h : r < R
      · rw [if_pos h, if_pos (by omega)]
      · rw [if_neg h, if_neg (by omega)]
/-- The least one's place. -/
theorem minL_min (w : List Nat) (hn : ∀ j, j < w.length → isnan (w.getD j 0) = false) : ∀ (f j k : Nat), k < w.length → w.length ≤ j + f →
    fkey (w.getD (minL w f j k) 0) ≤ fkey (w.getD k 0) ∧ ∀ q, j ≤ q → q < w.length → fkey (w.getD (minL w f j k) 0) ≤ fkey (w.getD q 0)
  | 0, j, k, hk, hf => ⟨Int.le_refl _, fun q h1 h2 => by omega⟩
  | f + 1, j, k, hk, hf => by
    rw [minL]
    by_cases hj : j < w.length
    · rw [if_pos hj]
      cases ht : flt (w.getD j 0) (w.getD k 0)
      · rw [flt_key (hn j hj) (hn k hk), decide_eq_false_iff_not] at ht
        rw [if_neg (by simp)]
        obtain ⟨h1, h2⟩ := minL_min w hn f (j + 1) k hk (by omega)
        refine ⟨h1, fun q hq hq2 => ?_⟩
        by_cases hqj : q = j
        · subst hqj; omega
        · exact h2 q (by omega) hq2
      · rw [flt_key (hn j hj) (hn k hk), decide_eq_true_eq] at ht
        rw [if_pos rfl]
        obtain ⟨h1, h2⟩ := minL_min w hn f (j + 1) j hj (by omega)
        refine ⟨by omega, fun q hq hq2 => ?_⟩
        by_cases hqj : q = j
        · subst hqj; exact h1
        · exact h2 q (by omega) hq2
    · rw [if_neg hj]
      exact ⟨Int.le_refl _, fun q h1 h2 => by omega⟩
theorem minL_ge (w : List Nat) {i : Nat} : ∀ (f j k : Nat), i ≤ j → i ≤ k → i ≤ minL w f j k
  | 0, _, _, _, h => h
  | f + 1, j, k, h1, h2 => by
    rw [minL]
    split
    · exact minL_ge w f (j + 1) _ (by omega) (by split <;> assumption)
    · exact h2
/-- **What is sorted**: a change of places, of values and columns alike; and the first i rise, below all others. -/
theorem sortQ_spec {n rows : Nat} {w z : List Nat} (hw : w.length = n) (hz : z.length = rows * n) (hn : ∀ j, j < n → isnan (w.getD j 0) = false) : ∀ i, i ≤ n →
    (∃ σ : Nat → Nat, (∀ k, k < n → σ k < n) ∧ (∀ k k', k < n → k' < n → σ k = σ k' → k = k') ∧ (∀ k, k < n → (sortQ n rows w z i).1.getD k 0 = w.getD (σ k) 0) ∧ ∀ r k, r < rows → k < n → (sortQ n rows w z i).2.getD (r * n + k) 0 = z.getD (r * n + σ k) 0) ∧
    (∀ p q, p < i → p < q → q < n → fkey ((sortQ n rows w z i).1.getD p 0) ≤ fkey ((sortQ n rows w z i).1.getD q 0))
  | 0, _ => ⟨⟨id, fun _ h => h, fun _ _ _ _ h => h, fun _ _ => rfl, fun _ _ _ _ => rfl⟩, fun p q h => by omega⟩
  | i + 1, hi => by
    obtain ⟨⟨σ, s1, s2, s3, s4⟩, hr⟩ := sortQ_spec hw hz hn i (by omega)
    obtain ⟨l1, l2⟩ := sortQ_len n rows w z i
    rw [sortQ]
    dsimp only
    generalize sortQ n rows w z i = y at *
    have hyn : ∀ j, j < y.1.length → isnan (y.1.getD j 0) = false := fun j hj => by rw [s3 j (by omega)]; exact hn _ (s1 j (by omega))
    have hiy : i < y.1.length := by omega
    have hmb := minL_bnd y.1 y.1.length (i + 1) i hiy
    have hmg := minL_ge y.1 (i := i) y.1.length (i + 1) i (by omega) (Nat.le_refl _)
    obtain ⟨m1, m2⟩ := minL_min y.1 hyn y.1.length (i + 1) i hiy (by omega)
    generalize minL y.1 y.1.length (i + 1) i = k at *
    have hkn : k < n := by omega
    have hin : i < n := by omega
    refine ⟨⟨fun j => σ (swp i k j), fun j hj => s1 _ (swp_lt hin hkn hj), fun j j' hj hj' h => ?_, fun j hj => ?_, fun r j hr' hj => ?_⟩, fun p q hp hpq hq => ?_⟩
    · have := s2 _ _ (swp_lt hin hkn hj) (swp_lt hin hkn hj') h
      have h2 := congrArg (swp i k) this
      rwa [swp_swp, swp_swp] at h2
    · rw [swapL_swp _ hiy hmb]
      exact s3 _ (swp_lt hin hkn hj)
    · rw [swapC_getD y.2 hin hkn (by rw [l2, hz]) rows (Nat.le_refl _) r j hr' hj, if_pos hr']
      exact s4 r _ hr' (swp_lt hin hkn hj)
    · rw [swapL_swp _ hiy hmb, swapL_swp _ hiy hmb]
      have key : ∀ q, i ≤ q → q < n → fkey (y.1.getD k 0) ≤ fkey (y.1.getD q 0) := fun q h1 h2 => by
        by_cases hqi : q = i
        · subst hqi; exact m1
        · exact m2 q (by omega) (by omega)
      by_cases hpi : p = i
      · subst hpi
        have e : swp p k p = k := by
          unfold swp
          by_cases h : p = k
          · rw [if_pos h, h]
          · rw [if_neg h, if_pos rfl]
        rw [e]
        refine key _ ?_ (swp_lt hin hkn hq)
        unfold swp
        split
        · exact Nat.le_refl _
        · split <;> omega
      · have e : swp i k p = p := by unfold swp; rw [if_neg (by omega), if_neg hpi]
        rw [e]
        refine hr p _ (by omega) ?_ (swp_lt hin hkn hq)
        unfold swp
        split
        · omega
        · split <;> omega
end Go.Proofs.Ytbmnlohaidbmdaa
