/- When a float's operation is exact; the signs of results. -/
import Derived.Test.YtbmnlohaidbmdaaOrd
namespace Go.Proofs.Ytbmnlohaidbmdaa
open Go

theorem cut_exact (neg : Bool) (M d : Nat) (hM : 0 < M) : Ieee.Toward.even.cut neg (M * 2 ^ d) d = M := by
  unfold Ieee.Toward.cut
  have hl : (M * 2 ^ d).log2 = M.log2 + d := by
    have h1 : M ≠ 0 := by omega
    have h2 : M * 2 ^ d ≠ 0 := Nat.ne_of_gt (Nat.mul_pos hM (Nat.two_pow_pos _))
    have a1 := (Nat.log2_eq_iff h1).1 rfl
    refine (Nat.log2_eq_iff h2).2 ⟨?_, ?_⟩
    · rw [Nat.pow_add]; exact Nat.mul_le_mul_right _ a1.1
    · rw [show M.log2 + d + 1 = (M.log2 + 1) + d by omega, Nat.pow_add]; exact Nat.mul_lt_mul_of_pos_right a1.2 (Nat.two_pow_pos _)
  have hmin : min d ((M * 2 ^ d).log2 + 2) = d := by rw [hl]; omega
  have hp : 0 < 2 ^ d := Nat.two_pow_pos _
  simp only [hmin, Nat.shiftLeft_eq, Nat.one_mul, Nat.mul_div_cancel _ hp, Nat.mul_mod_left]
  have h1 : decide (2 ^ d < 2 * 0) = false := decide_eq_false (by omega)
  have h2 : (2 ^ d == 2 * 0) = false := by simp
  simp [h1, h2]

/-- The rung of a number that the format has. -/
theorem nearest_exact (neg : Bool) (m : Nat) (place : Int) (r a b : Nat) (hm : 0 < m) (hr : r < 9218868437227405312) (h : m * 2 ^ a = fval r * 2 ^ b) (hab : (a : Int) - b = place + 1074) : Ieee.double.nearest neg m place = Ieee.double.word neg r := by
  obtain ⟨M, E, hv, hMr, hME⟩ : ∃ M E : Nat, fval r = M * 2 ^ E ∧ E * 4503599627370496 + M = r ∧ ((M.log2 = 52) ∨ (E = 0 ∧ M < 4503599627370496)) := by
    unfold fval
    by_cases h1 : r < 4503599627370496
    · exact ⟨r, 0, by rw [if_pos h1]; simp, by omega, .inr ⟨rfl, h1⟩⟩
    · refine ⟨4503599627370496 + r % 4503599627370496, r / 4503599627370496 - 1, by rw [if_neg h1], by omega, .inl ?_⟩
      have hq : r % 4503599627370496 < 4503599627370496 := Nat.mod_lt _ (by decide)
      refine (Nat.log2_eq_iff (by omega)).2 ⟨?_, ?_⟩
      · rw [show (2 : Nat) ^ 52 = 4503599627370496 from by decide]; omega
      · rw [show (2 : Nat) ^ (52 + 1) = 9007199254740992 from by decide]; omega
  have hMpos : 0 < M := by
    rcases Nat.eq_zero_or_pos M with h0 | h0
    · subst h0
      rw [hv] at h
      have : 0 < m * 2 ^ a := Nat.mul_pos hm (Nat.two_pow_pos _)
      simp at h; omega
    · exact h0
  rw [hv, Nat.mul_assoc, ← Nat.pow_add] at h
  have hlog : m.log2 + a = M.log2 + (E + b) := by
    have e : ∀ (x d : Nat), 0 < x → (x * 2 ^ d).log2 = x.log2 + d := by
      intro x d hx
      have h1 : x ≠ 0 := by omega
      have h2 : x * 2 ^ d ≠ 0 := Nat.ne_of_gt (Nat.mul_pos hx (Nat.two_pow_pos _))
      have a1 := (Nat.log2_eq_iff h1).1 rfl
      refine (Nat.log2_eq_iff h2).2 ⟨?_, ?_⟩
      · rw [Nat.pow_add]; exact Nat.mul_le_mul_right _ a1.1
      · rw [show x.log2 + d + 1 = (x.log2 + 1) + d by omega, Nat.pow_add]; exact Nat.mul_lt_mul_of_pos_right a1.2 (Nat.two_pow_pos _)
    rw [← e m a hm, ← e M (E + b) hMpos, h]
  have hlast : max (place + (m.log2 : Int) - 52) (-1074) = (E : Int) - 1074 := by
    rcases hME with hME | ⟨hE, hME⟩
    · omega
    · have : M.log2 < 52 := (Nat.log2_lt (by omega)).2 (by rw [show (2 : Nat) ^ 52 = 4503599627370496 from by decide]; exact hME)
      omega
  unfold Ieee.Format.nearest
  rw [if_neg (by omega)]
  simp only [least64, binade64, inf64]
  have hfb : (Ieee.double.fractionBits : Int) = 52 := rfl
  rw [hfb, hlast]
  have hkept : Ieee.Toward.even.cut neg (m <<< (place - ((E : Int) - 1074)).toNat) ((E : Int) - 1074 - place).toNat = M := by
    rw [Nat.shiftLeft_eq]
    by_cases hd : E + b ≤ a
    · have e1 : (place - ((E : Int) - 1074)).toNat = a - (E + b) := by omega
      have e2 : ((E : Int) - 1074 - place).toNat = 0 := by omega
      rw [e1, e2]
      have e3 : m * 2 ^ (a - (E + b)) = M * 2 ^ 0 := by
        have : m * 2 ^ (a - (E + b)) * 2 ^ (E + b) = M * 2 ^ (E + b) := by rw [Nat.mul_assoc, ← Nat.pow_add, Nat.sub_add_cancel hd]; exact h
        simpa using Nat.eq_of_mul_eq_mul_right (Nat.two_pow_pos _) this
      rw [e3]
      exact cut_exact neg M 0 hMpos
    · have e1 : (place - ((E : Int) - 1074)).toNat = 0 := by omega
      have e2 : ((E : Int) - 1074 - place).toNat = E + b - a := by omega
      rw [e1, e2]
      have e3 : m * 2 ^ 0 = M * 2 ^ (E + b - a) := by
        have : m * 2 ^ a = M * 2 ^ (E + b - a) * 2 ^ a := by rw [Nat.mul_assoc, ← Nat.pow_add, Nat.sub_add_cancel (by omega)]; exact h
        simpa using Nat.eq_of_mul_eq_mul_right (Nat.two_pow_pos _) this
      rw [e3]
      exact cut_exact neg M _ hMpos
  rw [hkept]
  have e4 : ((E : Int) - 1074 - -1074).toNat = E := by omega
  rw [e4, hMr, Nat.min_eq_left (by omega)]

theorem nearest_zero (neg : Bool) (place : Int) : Ieee.double.nearest neg 0 place = Ieee.double.word neg 0 := by unfold Ieee.Format.nearest; rfl
theorem word_val (neg : Bool) (r : Nat) : Ieee.double.word neg r = if neg then 9223372036854775808 + r else r := by unfold Ieee.Format.word; rw [width64]
/-- A word's sign. -/
def fsgn (x : Nat) : Bool := x / 9223372036854775808 % 2 == 1
theorem nearest_sgn (neg : Bool) (m : Nat) (e : Int) : fsgn (Ieee.double.nearest neg m e) = neg ∧ Ieee.double.nearest neg m e % 9223372036854775808 ≤ 9218868437227405312 := by
  have key : ∀ r, r ≤ 9218868437227405312 → fsgn (Ieee.double.word neg r) = neg ∧ Ieee.double.word neg r % 9223372036854775808 ≤ 9218868437227405312 := by
    intro r hr
    rw [word_val]
    unfold fsgn
    cases neg
    · simp; omega
    · simp; omega
  unfold Ieee.Format.nearest
  split
  · exact key 0 (by decide)
  · exact key _ (by rw [inf64]; exact Nat.min_le_right ..)
theorem read_neg (x : Nat) : (Ieee.double.read x).neg = fsgn x := by
  unfold Ieee.Format.read fsgn
  simp only [width64, binade64, inf64]
  split
  · rfl
  · split
    · rfl
    · split <;> rfl
theorem write_sgn (d : Ieee.Datum) (h : d.isNaN = false) : fsgn (Ieee.double.write d) = d.neg := by
  cases d with
  | number s m e => exact (nearest_sgn s m e).1
  | infinity s =>
    show fsgn (Ieee.double.word s _) = s
    rw [word_val, inf64]
    cases s <;> decide
  | nan s t => simp [Ieee.Datum.isNaN] at h

theorem product_neg {x y d : Ieee.Datum} (h : x.product y = some d) : d.neg = (x.neg ^^ y.neg) := by
  cases x <;> cases y <;> simp only [Ieee.Datum.product] at h <;> (try split at h) <;> cases h <;> simp [Ieee.Datum.neg, Bool.xor_comm]
theorem fmul_sgn {x y : Nat} (h : isnan (fmul x y) = false) : fsgn (fmul x y) = (fsgn x ^^ fsgn y) := by
  unfold fmul Ieee.Format.mul at h ⊢
  cases hp : (Ieee.double.read x).product (Ieee.double.read y) with
  | none => rw [hp] at h; simp [isnan_qnan] at h
  | some d =>
    simp only [Option.map_some, Option.getD_some]
    rw [write_sgn d (product_some hp), product_neg hp, read_neg, read_neg]
theorem fadd_sgn {x y : Nat} (hx : fsgn x = false) (hy : fsgn y = false) (h : isnan (fadd x y) = false) : fsgn (fadd x y) = false := by
  unfold fadd Ieee.Format.add at h ⊢
  rw [← read_neg] at hx hy
  cases hp : (Ieee.double.read x).sum (Ieee.double.read y) with
  | none => rw [hp] at h; simp [isnan_qnan] at h
  | some d =>
    simp only [Option.map_some, Option.getD_some]
    rw [write_sgn d (sum_some hp)]
    generalize Ieee.double.read x = a at *
    generalize Ieee.double.read y = b at *
    cases a <;> cases b <;> simp only [Ieee.Datum.sum, Ieee.Datum.neg] at hp hx hy <;> (try subst hx) <;> (try subst hy)
    case number.number m i n j =>
      cases hp
      show (if Ieee.signed false m (i - min i j).toNat + Ieee.signed false n (j - min i j).toNat = 0 then (false && false) else decide (Ieee.signed false m (i - min i j).toNat + Ieee.signed false n (j - min i j).toNat < 0)) = false
      split
      · rfl
      · have e1 : (0 : Int) ≤ Ieee.signed false m (i - min i j).toNat := Int.natCast_nonneg _
        have e2 : (0 : Int) ≤ Ieee.signed false n (j - min i j).toNat := Int.natCast_nonneg _
        rw [decide_eq_false_iff_not]; omega
    all_goals first
      | (cases hp; done)
      | (cases hp; rfl)
      | (split at hp <;> first | (cases hp; done) | (cases hp; rfl))
/-- A difference of which the first is the greater is not below 0. -/
theorem fsub_sgn {x y : Nat} (hlt : flt y x = true) (h : isnan (fsub x y) = false) : fsgn (fsub x y) = false := by
  unfold fsub Ieee.Format.sub at h ⊢
  unfold flt Ieee.Format.order at hlt
  cases hp : (Ieee.double.read x).sum (Ieee.double.read y).opposite with
  | none => rw [hp] at h; simp [isnan_qnan] at h
  | some d =>
    simp only [Option.map_some, Option.getD_some]
    rw [write_sgn d (sum_some hp)]
    generalize Ieee.double.read x = a at *
    generalize Ieee.double.read y = b at *
    cases a <;> cases b <;> simp only [Ieee.Datum.sum, Ieee.Datum.opposite, Ieee.Datum.order] at hp hlt
    case number.number s m i t n j =>
      cases hp
      simp only [Ieee.Datum.neg]
      simp only [beq_iff_eq, Option.some.injEq] at hlt
      rw [Int.min_comm] at hlt
      have hlt' : Ieee.signed t n (j - min i j).toNat < Ieee.signed s m (i - min i j).toNat := by
        rcases Int.lt_trichotomy (Ieee.signed t n (j - min i j).toNat) (Ieee.signed s m (i - min i j).toNat) with h | h | h
        · exact h
        · rw [compare_eq h] at hlt; cases hlt
        · rw [compare_gt h] at hlt; cases hlt
      have e : Ieee.signed (!t) n (j - min i j).toNat = - Ieee.signed t n (j - min i j).toNat := by unfold Ieee.signed; cases t <;> simp
      rw [e, if_neg (by omega), decide_eq_false_iff_not]
      omega
    case number.infinity s m i t => cases t <;> simp at hlt hp; subst hp; rfl
    case infinity.number s t m i => cases s <;> simp at hlt hp; subst hp; rfl
    case infinity.infinity s t => cases s <;> cases t <;> simp at hlt hp <;> first | (exact absurd hlt (by decide)) | (subst hp; rfl)
    all_goals first | (cases hlt; done) | (simp at hlt)

theorem fsgn_lt {x : Nat} (h : x < 18446744073709551616) : fsgn x = false ↔ x < 9223372036854775808 := by
  unfold fsgn
  simp
  omega
/-- Times one. -/
theorem fmul_one {x : Nat} (hx : x < 9218868437227405312) : fmul 4607182418800017408 x = x := by
  unfold fmul Ieee.Format.mul
  have h1 : Ieee.double.read 4607182418800017408 = .number false 4503599627370496 (-52) := by decide
  obtain ⟨m, i, hr, hi, hm⟩ := read_fin x (by omega)
  rw [Nat.mod_eq_of_lt (by omega)] at hm
  have hs : (x / 9223372036854775808 % 2 == 1) = false := by rw [Nat.div_eq_of_lt (by omega)]; rfl
  rw [h1, hr, hs]
  simp only [Ieee.Datum.product, Bool.false_bne, Option.map_some, Option.getD_some]
  show Ieee.double.nearest _ _ _ = x
  rcases Nat.eq_zero_or_pos m with h0 | h0
  · subst h0
    rw [Nat.mul_zero, nearest_zero]
    simp at hm
    have : fval 0 = fval x := by rw [fval_zero]; exact hm
    have := fval_inj.1 this
    subst this
    rfl
  · rw [nearest_exact _ _ _ x (i + 1074).toNat 52 (by omega) hx (by
      rw [← hm, Nat.shiftLeft_eq, Nat.mul_assoc, Nat.mul_comm]) (by omega)]
    rfl
/-- Times minus one. -/
theorem fmul_mone {x : Nat} (hx : x < 9218868437227405312) : fmul 13830554455654793216 x = 9223372036854775808 + x := by
  unfold fmul Ieee.Format.mul
  have h1 : Ieee.double.read 13830554455654793216 = .number true 4503599627370496 (-52) := by decide
  obtain ⟨m, i, hr, hi, hm⟩ := read_fin x (by omega)
  rw [Nat.mod_eq_of_lt (by omega)] at hm
  have hs : (x / 9223372036854775808 % 2 == 1) = false := by rw [Nat.div_eq_of_lt (by omega)]; rfl
  rw [h1, hr, hs]
  simp only [Ieee.Datum.product, Bool.bne_false, Option.map_some, Option.getD_some]
  show Ieee.double.nearest _ _ _ = _
  rcases Nat.eq_zero_or_pos m with h0 | h0
  · subst h0
    rw [Nat.mul_zero, nearest_zero]
    simp at hm
    have : fval 0 = fval x := by rw [fval_zero]; exact hm
    have := fval_inj.1 this
    subst this
    rfl
  · rw [nearest_exact _ _ _ x (i + 1074).toNat 52 (by omega) hx (by
      rw [← hm, Nat.shiftLeft_eq, Nat.mul_assoc, Nat.mul_comm]) (by omega)]
    rw [word_val]; rfl
end Go.Proofs.Ytbmnlohaidbmdaa
