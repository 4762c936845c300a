/- Layer 12, plainly: ones on a diagonal; what QlPairs and QlValues ask. No condition. -/
import Derived.Test.YtbmnlohaidbmdaaQp4
namespace Go.Proofs.Ytbmnlohaidbmdaa
open Go Go.RowKit
set_option maxRecDepth 100000

/-- Ones in the first places of a diagonal. -/
def oneL (n : Nat) : Nat → List Nat
  | 0 => List.replicate (n * n) 0
  | i + 1 => (oneL n i).set (i * n + i) 4607182418800017408
theorem oneL_len (n : Nat) : ∀ i, (oneL n i).length = n * n
  | 0 => List.length_replicate
  | i + 1 => by rw [oneL, List.length_set, oneL_len n i]
theorem oneL_getD (n : Nat) : ∀ R, R ≤ n → ∀ r c, r < n → c < n → (oneL n R).getD (r * n + c) 0 = if r < R ∧ r = c then 4607182418800017408 else 0
  | 0, _, r, c, hr, hc => by
    rw [if_neg (by omega)]
    have := place_lt (n := n) hr hc
    rw [oneL, List.getD_eq_getElem?_getD, List.getElem?_replicate, if_pos this]; rfl
  | R + 1, hR, r, c, hr, hc => by
    have p := place_lt (n := n) (r := R) (R := n) (c := R) (by omega) (by omega)
    rw [oneL, List.getD_eq_getElem?_getD]
    by_cases h : R * n + R = r * n + c
    · have hrR : r = R := by
        by_cases hq : R = r
        · exact hq.symm
        · exact absurd h (place_ne (by omega) hc hq)
      subst hrR
      rw [h, List.getElem?_set_self (by rw [oneL_len, ← h]; exact p), if_pos (by omega)]; rfl
    · rw [List.getElem?_set_ne h, ← List.getD_eq_getElem?_getD, oneL_getD n R (by omega) r c hr hc]
      by_cases h2 : r < R ∧ r = c
      · rw [if_pos h2, if_pos (by omega)]
      · rw [if_neg h2]
        by_cases h3 : r = R ∧ r = c
        · obtain ⟨rfl, rfl⟩ := h3
          exact absurd rfl h
        · rw [if_neg (by omega)]
/-- What QlPairs asks: each value's column has its one where the value stood; values rise. -/
theorem pairs_spec {d : List Nat} (hd : ∀ i, i < d.length → ffin (d.getD i 0) = true) :
    ∃ σ : Nat → Nat, (∀ k, k < d.length → σ k < d.length) ∧ (∀ k, k < d.length → (sortQ d.length d.length d (oneL d.length d.length) d.length).1.getD k 0 = d.getD (σ k) 0) ∧
      (∀ i k, i < d.length → k < d.length → (sortQ d.length d.length d (oneL d.length d.length) d.length).2.getD (i * d.length + k) 0 = if i = σ k then 4607182418800017408 else 0) ∧
      ∀ k, 0 < k → k < d.length → flt ((sortQ d.length d.length d (oneL d.length d.length) d.length).1.getD k 0) ((sortQ d.length d.length d (oneL d.length d.length) d.length).1.getD (k - 1) 0) = false := by
  obtain ⟨⟨σ, s1, s2, s3, s4⟩, hr⟩ := sortQ_spec (n := d.length) (rows := d.length) (w := d) (z := oneL d.length d.length) rfl (oneL_len _ _) (fun j hj => isnan_ffinq (hd j hj)) d.length (Nat.le_refl _)
  refine ⟨σ, s1, s3, fun i k hi hk => ?_, fun k h1 h2 => ?_⟩
  · rw [s4 i k hi hk, oneL_getD d.length d.length (Nat.le_refl _) i (σ k) hi (s1 k hk)]
    by_cases h : i = σ k
    · rw [if_pos h, if_pos ⟨hi, h⟩]
    · rw [if_neg h, if_neg (fun h' => h h'.2)]
  · have n1 : isnan ((sortQ d.length d.length d (oneL d.length d.length) d.length).1.getD k 0) = false := by rw [s3 k h2]; exact isnan_ffinq (hd _ (s1 k h2))
    have n2 : isnan ((sortQ d.length d.length d (oneL d.length d.length) d.length).1.getD (k - 1) 0) = false := by rw [s3 (k - 1) (by omega)]; exact isnan_ffinq (hd _ (s1 (k - 1) (by omega)))
    rw [flt_key n1 n2, decide_eq_false_iff_not]
    have := hr (k - 1) k (by omega) (by omega) h2
    omega
/-- What is sorted rises. -/
theorem sort_rise {n rows : Nat} {w z : List Nat} (hw : w.length = n) (hz : z.length = rows * n) (hf : ∀ j, j < n → ffin (w.getD j 0) = true) {k : Nat} (h1 : 0 < k) (h2 : k < n) :
    flt ((sortQ n rows w z n).1.getD k 0) ((sortQ n rows w z n).1.getD (k - 1) 0) = false := by
  obtain ⟨⟨σ, s1, s2, s3, s4⟩, hr⟩ := sortQ_spec hw hz (fun j hj => isnan_ffinq (hf j hj)) n (Nat.le_refl _)
  have n1 : isnan ((sortQ n rows w z n).1.getD k 0) = false := by rw [s3 k h2]; exact isnan_ffinq (hf _ (s1 k h2))
  have n2 : isnan ((sortQ n rows w z n).1.getD (k - 1) 0) = false := by rw [s3 (k - 1) (by omega)]; exact isnan_ffinq (hf _ (s1 (k - 1) (by omega)))
  rw [flt_key n1 n2, decide_eq_false_iff_not]
  have := hr (k - 1) k (by omega) (by omega) h2
  omega
end Go.Proofs.Ytbmnlohaidbmdaa
