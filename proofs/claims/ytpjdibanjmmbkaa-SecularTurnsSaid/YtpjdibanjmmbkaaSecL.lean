/- At a root the left side has turned its sign: plain facts on words. -/
import Derived.Test.YtpjdibanjmmbkaaSec4
import Derived.Test.YtpjdibanjmmbkaaExa
namespace Go.Proofs.Ytpjdibanjmmbkaa
open Go Go.RowKit

theorem fmul_nan_l {x y : Nat} (h : isnan x = true) : isnan (fmul x y) = true := by
  unfold fmul Ieee.Format.mul
  rw [product_nan_left _ (by rw [read_nan]; exact h)]
  exact isnan_qnan
theorem fmul_nan_r {x y : Nat} (h : isnan y = true) : isnan (fmul x y) = true := by
  unfold fmul Ieee.Format.mul
  rw [product_nan_right _ (by rw [read_nan]; exact h)]
  exact isnan_qnan
theorem fadd_nan_l {x y : Nat} (h : isnan x = true) : isnan (fadd x y) = true := by
  unfold fadd Ieee.Format.add
  rw [sum_nan_left _ (by rw [read_nan]; exact h)]
  exact isnan_qnan
theorem fadd_nan_r {x y : Nat} (h : isnan y = true) : isnan (fadd x y) = true := by
  unfold fadd Ieee.Format.add
  rw [sum_nan_right _ (by rw [read_nan]; exact h)]
  exact isnan_qnan
theorem isnan_of_ffin {x : Nat} (h : ffin x = true) : isnan x = false := by
  unfold ffin at h
  unfold isnan
  simp only [decide_eq_true_eq] at h
  rw [decide_eq_false_iff_not]
  omega

theorem sqSum_sgn (zs : List Nat) (k : Nat) : isnan (sqSum zs k) = true ∨ fsgn (sqSum zs k) = false := by
  induction k with
  | zero => right; show fsgn 0 = false; decide
  | succ k ih =>
    unfold sqSum
    cases h : isnan (fadd (sqSum zs k) (fmul (zs.getD k 0) (zs.getD k 0)))
    · right
      have ha : isnan (sqSum zs k) = false := by
        cases h1 : isnan (sqSum zs k)
        · rfl
        · rw [fadd_nan_l h1] at h; cases h
      have hb : isnan (fmul (zs.getD k 0) (zs.getD k 0)) = false := by
        cases h1 : isnan (fmul (zs.getD k 0) (zs.getD k 0))
        · rfl
        · rw [fadd_nan_r h1] at h; cases h
      refine fadd_sgn ?_ ?_ h
      · rcases ih with ih | ih
        · rw [ha] at ih; cases ih
        · exact ih
      · rw [fmul_sgn hb]; simp
    · exact .inl rfl

theorem wrongA_no {ds zs : List Nat} : ∀ {n : Nat}, wrongA ds zs n = false → ∀ k, k < n → 0 < k → fle (ds.getD k 0) (ds.getD (k - 1) 0) = false := by
  intro n
  induction n with
  | zero => intro _ k hk; omega
  | succ n ih =>
    intro h k hk hk0
    unfold wrongA at h
    simp only [Bool.or_eq_false_iff, Bool.and_eq_false_iff] at h
    rcases Nat.lt_or_eq_of_le (Nat.le_of_lt_succ hk) with h1 | h1
    · exact ih h.1.1 k h1 hk0
    · subst h1
      rcases h.2 with h2 | h2
      · simp at h2; omega
      · exact h2

/-- What an equation that may be is like. -/
theorem mayS_all {ds zs : List Nat} {rho : Nat} (h : mayS ds zs rho = 0) : ffin rho = true ∧ fsgn rho = false ∧ (∀ k, k < ds.length → ffin (ds.getD k 0) = true) ∧ (∀ k, k + 1 < ds.length → flt (ds.getD k 0) (ds.getD (k + 1) 0) = true) := by
  have hs := mayS_ok h
  unfold mayS at h
  by_cases hb : badS ds zs rho
  · rw [if_pos hb] at h; cases h
  rw [if_neg hb] at h
  unfold mayE at h
  cases hw : wrongA ds zs zs.length
  case true => rw [hw, if_pos rfl] at h; cases h
  case false =>
    rw [hw, if_neg (by decide)] at h
    cases hf : (!ffin rho || ds.any (fun x => !ffin x) || zs.any (fun x => !ffin x))
    case true => rw [hf, if_pos rfl] at h; cases h
    case false =>
      simp only [Bool.or_eq_false_iff, Bool.not_eq_false'] at hf
      obtain ⟨⟨h1, h2⟩, _⟩ := hf
      have hd : ∀ k, k < ds.length → ffin (ds.getD k 0) = true := by
        intro k hk
        rw [List.any_eq_false] at h2
        have := h2 ds[k] (List.getElem_mem hk)
        simp only [Bool.not_eq_true, Bool.not_eq_false'] at this
        have e : ds.getD k 0 = ds[k] := by simp [hk]
        rw [e]; exact this
      refine ⟨h1, ?_, hd, ?_⟩
      · unfold badS at hb
        have h4 := mt (fun h => Or.inr (Or.inr (Or.inr h))) hb
        have hn := isnan_of_ffin h1
        have h5 : flt 0 rho = true := by
          cases hx : flt 0 rho
          · exact absurd ⟨hx, hn⟩ h4
          · rfl
        rw [flt_key (by kernel_rfl) hn] at h5
        simp only [decide_eq_true_eq] at h5
        unfold fkey at h5
        unfold fsgn
        simp
        split at h5 <;> split at h5 <;> omega
      · intro k hk
        have h6 := wrongA_no hw (k + 1) (by omega) (by omega)
        rw [Nat.add_sub_cancel] at h6
        have n1 := isnan_of_ffin (hd k (by omega))
        have n2 := isnan_of_ffin (hd (k + 1) hk)
        rw [fle_key n2 n1] at h6
        rw [flt_key n1 n2]
        simp only [decide_eq_false_iff_not, decide_eq_true_eq] at h6 ⊢
        omega

theorem greatS_pos {ds zs : List Nat} {rho k : Nat} (h : mayS ds zs rho = 0) (hk : k < ds.length) (hf : ffin (greatS ds zs rho k) = true) : greatS ds zs rho k < 9218868437227405312 := by
  obtain ⟨h1, h2, h3, h4⟩ := mayS_all h
  have hn := isnan_of_ffin hf
  have hs : fsgn (greatS ds zs rho k) = false := by
    unfold greatS at hn ⊢
    by_cases hl : k + 1 = ds.length
    · rw [if_pos hl] at hn ⊢
      rw [fmul_sgn hn, h2]
      rcases sqSum_sgn zs zs.length with h5 | h5
      · rw [fmul_nan_r h5] at hn; cases hn
      · rw [h5]; rfl
    · rw [if_neg hl] at hn ⊢
      rw [fmul_sgn hn]
      have h6 : isnan (fsub (ds.getD (k + 1) 0) (ds.getD k 0)) = false := by
        cases h5 : isnan (fsub (ds.getD (k + 1) 0) (ds.getD k 0))
        · rfl
        · rw [fmul_nan_l h5] at hn; cases hn
      rw [fsub_sgn (h4 k (by omega)) h6]
      decide
  have hlt := (fsgn_lt (greatS_lt ds zs rho k)).1 hs
  unfold ffin at hf
  simp only [decide_eq_true_eq] at hf
  omega

/-- The root's word. -/
def offS (ds zs : List Nat) (rho k : Nat) : Nat := (bis (testS ds zs rho k) 0 (greatS ds zs rho k) 0).1
/-- **At the root's word and just below it.** -/
theorem offS_spec {ds zs : List Nat} {rho k : Nat} (h : mayS ds zs rho = 0) (hk : k < ds.length) (hf : ffin (greatS ds zs rho k) = true) :
    offS ds zs rho k < 9218868437227405312 ∧ (2 ≤ offS ds zs rho k → (offS ds zs rho k = greatS ds zs rho k ∨ testS ds zs rho k (offS ds zs rho k) = true) ∧ testS ds zs rho k (offS ds zs rho k - 1) = false) := by
  have hp := greatS_pos h hk hf
  obtain ⟨l, h1, h2, h3, h4, h5, h6⟩ := bisF_spec (testS ds zs rho k) (greatS ds zs rho k - 0) 0 (greatS ds zs rho k) 0 (by omega)
  have e : offS ds zs rho k = (bisF (testS ds zs rho k) (greatS ds zs rho k - 0) 0 (greatS ds zs rho k) 0).1 := rfl
  rw [← e] at h1 h3 h4 h5
  refine ⟨by omega, fun h2' => ⟨h5, ?_⟩⟩
  have hl : l = offS ds zs rho k - 1 := by omega
  rw [← hl]
  rcases h6 with h6 | h6
  · omega
  · exact h6
end Go.Proofs.Ytpjdibanjmmbkaa
