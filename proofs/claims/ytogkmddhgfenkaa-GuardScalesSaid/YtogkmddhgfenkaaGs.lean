/- The guard laws: scales. -/
import Derived.Test.YtogkmddhgfenkaaGq
namespace Go.Proofs.Ytogkmddhgfenkaa
open Go Go.RowKit
set_option maxRecDepth 1000000
theorem inr_exp {x : Nat} (h : inrB x = true) (h0 : 0 < x % 9223372036854775808) : 623 ≤ expR (x % 9223372036854775808) ∧ expR (x % 9223372036854775808) ≤ 1423 := by
  unfold inrB at h
  simp only [Bool.or_eq_true, Bool.and_eq_true, decide_eq_true_eq] at h
  obtain ⟨h1, h2⟩ : 2805742567851819008 ≤ x % 9223372036854775808 ∧ x % 9223372036854775808 ≤ 6408622269748215808 := by omega
  have e1 := (exp_ge (r := x % 9223372036854775808) (E := 623) (by decide)).2 (by omega)
  have e2 : ¬ (1424 : Int) ≤ expR (x % 9223372036854775808) := fun h => by
    have := (exp_ge (r := x % 9223372036854775808) (E := 1424) (by decide)).1 h
    omega
  omega
/-- One entry: scaled down it is below 1, and it comes back. -/
theorem one_back {x : Nat} {q : Int} (hx : x < 18446744073709551616) (hi : inrB x = true) (hq : 0 < x % 9223372036854775808 → 222 ≤ expR (x % 9223372036854775808) - q ∧ expR (x % 9223372036854775808) - q ≤ 1022) :
    ffin (timesW x (-q)) = true ∧ timesW (timesW x (-q)) q = x ∧ fle 4607182418800017408 (timesW x (-q)) = false ∧ fle (timesW x (-q)) 13830554455654793216 = false := by
  have hf := inr_fin hi
  have hf' := hf
  unfold ffin at hf'
  rw [decide_eq_true_iff] at hf'
  rcases Nat.eq_zero_or_pos (x % 9223372036854775808) with h0 | h0
  · have e : ∀ p, timesW x p = x := fun p => timesW_out (.inr h0)
    rw [e, e]
    have hn := isnan_fin hf'
    refine ⟨hf, rfl, ?_, ?_⟩
    · rw [fle_key (by kernel_rfl) hn, show fkey 4607182418800017408 = 4607182418800017408 from by decide, decide_eq_false_iff_not]
      unfold fkey
      rw [h0]
      split <;> omega
    · rw [fle_key hn (by kernel_rfl), show fkey 13830554455654793216 = -4607182418800017408 from by decide, decide_eq_false_iff_not]
      unfold fkey
      rw [h0]
      split <;> omega
  · obtain ⟨hq1, hq2⟩ := hq h0
    have hb := sig_bnd h0
    obtain ⟨E, hE⟩ : ∃ E : Nat, expR (x % 9223372036854775808) + -q = E := ⟨(expR (x % 9223372036854775808) + -q).toNat, by omega⟩
    have hy : timesW x (-q) = Ieee.double.word (fsgn x) (E * 4503599627370496 + (sigR (x % 9223372036854775808) - 4503599627370496)) := by
      rw [timesW_fin hf' h0, hE, word_norm (by omega) (by omega), Int.toNat_natCast]
    have hns := norm_sig hb.1 hb.2 (E := E) (by omega) (by omega)
    generalize hr : E * 4503599627370496 + (sigR (x % 9223372036854775808) - 4503599627370496) = r at *
    have hwp := word_parts (fsgn x) (r := r) (by omega)
    rw [← hy] at hwp
    generalize timesW x (-q) = y at *
    have hyf : y % 9223372036854775808 < 9218868437227405312 := by rw [hwp.1]; omega
    have hn := isnan_fin hyf
    refine ⟨by unfold ffin; rw [decide_eq_true_iff]; exact hyf, ?_, ?_, ?_⟩
    · rw [timesW_fin hyf (by rw [hwp.1]; omega), hwp.1, hwp.2.1, hns.1, hns.2, show (E : Int) + q = expR (x % 9223372036854775808) by omega, round_self h0 hf', word_self hx]
    · rw [fle_key (by kernel_rfl) hn, show fkey 4607182418800017408 = 4607182418800017408 from by decide, decide_eq_false_iff_not]
      unfold fkey
      rw [hwp.1]
      split <;> omega
    · rw [fle_key hn (by kernel_rfl), show fkey 13830554455654793216 = -4607182418800017408 from by decide, decide_eq_false_iff_not]
      unfold fkey
      rw [hwp.1]
      split <;> omega
theorem most_ge (zs : List Nat) : ∀ k j, j < k → zs.getD j 0 % 9223372036854775808 ≤ mostF zs k
  | 0, _, h => absurd h (Nat.not_lt_zero _)
  | k + 1, j, h => by
    unfold mostF
    rcases Nat.lt_or_eq_of_le (Nat.le_of_lt_succ h) with h1 | h1
    · have := most_ge zs k j h1
      split <;> omega
    · subst h1; split <;> omega
theorem most_mem (zs : List Nat) : ∀ k, k ≤ zs.length → 0 < mostF zs k → ∃ j, j < k ∧ mostF zs k = zs.getD j 0 % 9223372036854775808
  | 0, _, h => absurd (show 0 < 0 from h) (Nat.lt_irrefl 0)
  | k + 1, hk, h => by
    unfold mostF at h ⊢
    split
    · exact ⟨k, by omega, rfl⟩
    · rename_i h1
      rw [if_neg h1] at h
      obtain ⟨j, h2, h3⟩ := most_mem zs k (by omega) h
      exact ⟨j, by omega, h3⟩
/-- The power of a list in range. -/
theorem pow_range {zs : List Nat} (hi : ∀ j, j < zs.length → inrB (zs.getD j 0) = true) : (-2000 ≤ powR (mostF zs zs.length) ∧ powR (mostF zs zs.length) ≤ 2000) ∧ ∀ j, j < zs.length → 0 < zs.getD j 0 % 9223372036854775808 → 222 ≤ expR (zs.getD j 0 % 9223372036854775808) - powR (mostF zs zs.length) ∧ expR (zs.getD j 0 % 9223372036854775808) - powR (mostF zs zs.length) ≤ 1022 := by
  rcases Nat.eq_zero_or_pos (mostF zs zs.length) with h0 | h0
  · have e : powR (mostF zs zs.length) = 0 := by unfold powR; rw [if_pos h0]
    rw [e]
    refine ⟨by omega, fun j hj h => ?_⟩
    have := most_ge zs zs.length j hj
    omega
  · have e : powR (mostF zs zs.length) = expR (mostF zs zs.length) - 1022 := by unfold powR; rw [if_neg (by omega)]
    obtain ⟨i, hi1, hi2⟩ := most_mem zs zs.length (Nat.le_refl _) h0
    have hm := inr_exp (hi i hi1) (by omega)
    rw [← hi2] at hm
    rw [e]
    refine ⟨by omega, fun j hj h => ?_⟩
    have h1 := inr_exp (hi j hj) h
    have h2 := exp_mono h (most_ge zs zs.length j hj)
    omega
theorem scaleL_get (zs : List Nat) (p : Int) {j : Nat} (hj : j < zs.length) : (scaleL zs p).getD j 0 = timesW (zs.getD j 0) p := by unfold scaleL; simp [hj]
theorem scaleL_len (zs : List Nat) (p : Int) : (scaleL zs p).length = zs.length := by unfold scaleL; simp
theorem scaleL_words {zs : List Nat} (h : Words zs) (p : Int) : Words (scaleL zs p) := by
  intro v hv
  unfold scaleL at hv
  rw [List.mem_map] at hv
  obtain ⟨x, hx, rfl⟩ := hv
  exact timesW_lt (h x hx) p
theorem scale_zero {r c : Int} {zs zs' : List Nat} {p : Int} (h : wrongC r c zs = 0) (hl : zs'.length = zs.length) (hf : zs'.all ffin = true) (hp1 : -2000 ≤ p) (hp2 : p ≤ 2000) : scaleC r c zs' p = 0 := by
  have h1 : szB r c = true := by
    cases hs : szB r c
    · unfold wrongC at h; rw [if_pos hs] at h; cases h
    · rfl
  have h2 : mayB r c zs.length = true := by
    cases hs : mayB r c zs.length
    · unfold wrongC at h; rw [h1, if_neg (by decide), if_pos hs] at h; cases h
    · rfl
  unfold scaleC outP wrongC
  rw [h1, hl, h2, hf]
  have e1 := decide_eq_false (show ¬ p < -2000 by omega)
  have e2 := decide_eq_false (show ¬ 2000 < p by omega)
  rw [e1, e2]
  rfl
theorem scale_back {zs : List Nat} (hW : Words zs) (hi : ∀ j, j < zs.length → inrB (zs.getD j 0) = true) : scaleL (scaleL zs (-(powR (mostF zs zs.length)))) (powR (mostF zs zs.length)) = zs := by
  unfold scaleL
  rw [List.map_map]
  conv => rhs; rw [← List.map_id zs]
  apply List.map_congr_left
  intro x hx
  obtain ⟨j, hj, rfl⟩ := List.getElem_of_mem hx
  have hp := (pow_range hi).2 j hj
  have := (one_back (q := powR (mostF zs zs.length)) (hW.at j) (hi j hj) hp).2.1
  have e : zs.getD j 0 = zs[j] := by simp [hj]
  rw [e] at this
  exact this
theorem scale_val (r c : Int) (zs : List Nat) (p : Int) : (if (wrongC r c zs ≠ 2 ∧ (p < -2000 ∨ 2000 < p)) then 2 else wrongC r c zs) = scaleC r c zs p := by
  unfold scaleC outP
  cases h1 : szB r c
  · have e : wrongC r c zs = 2 := by unfold wrongC; rw [if_pos h1]
    rw [e]; simp
  · by_cases h2 : p < -2000 ∨ 2000 < p
    · have e : (decide (p < -2000) || decide (2000 < p)) = true := by rw [Bool.or_eq_true, decide_eq_true_iff, decide_eq_true_iff]; exact h2
      rw [e]
      by_cases h3 : wrongC r c zs = 2
      · rw [h3]; simp
      · rw [if_pos ⟨h3, h2⟩]; simp
    · have e : (decide (p < -2000) || decide (2000 < p)) = false := by rw [Bool.or_eq_false_iff, decide_eq_false_iff_not, decide_eq_false_iff_not]; omega
      rw [e, if_neg (fun h => h2 h.2)]
      simp
end Go.Proofs.Ytogkmddhgfenkaa
