/- When a float's operation is exact; the signs of results. -/
import Derived.Test.YtbcdpibcieadlaaZz2
import Derived.Laws.Cover2
import Derived.Test.YtbcdpibcieadlaaZz26
import Derived.Maps.AppendAt
import Derived.Test.YtbcdpibcieadlaaZz21
namespace Go.Proofs.Ytbcdpibcieadlaa
open Go

theorem cut_exact (neg : Bool) (M d : Nat) (hM : 0 < M) : Ieee.Toward.even.cut neg (M * 2 ^ d) d = M := by
  unfold Ieee.Toward.cut
  have hl : (M * 2 ^ d).log2 = M.log2 + d := by
    have h1 : M ≠ 0 := by omega
    have h2 : M * 2 ^ d ≠ 0 := Nat.ne_of_gt (Nat.mul_pos hM (Nat.two_pow_pos _))
    have a1 := (Nat.log2_eq_iff h1).1 rfl
    refine (Nat.log2_eq_iff h2).2 ⟨?_, ?_⟩
    · rw [Nat.pow_add]; exact Nat.mul_le_mul_right _ a1.1
    · rw [show M.log2 + d + 1 = (M.log2 + 1) + d by omega, Nat.pow_add]; exact Nat.mul_lt_mul_of_pos_right a1.2 (Nat.two_pow_pos _)
  have hmin : min d ((M * 2 ^ d).log2 + 2) = d := by rw [hl]; omega
  have hp : 0 < 2 ^ d := Nat.two_pow_pos _
  simp only [hmin, Nat.shiftLeft_eq, Nat.one_mul, Nat.mul_div_cancel _ hp, Nat.mul_mod_left]
  have h1 : decide (2 ^ d < 2 * 0) = false := decide_eq_false (by omega)
  have h2 : (2 ^ d == 2 * 0) = false := by simp
  simp [h1, h2]

/-- The rung of a number that the format has. -/
theorem nearest_exact (neg : Bool) (m : Nat) (place : Int) (r a b : Nat) (hm : 0 < m) (hr : r < 9218868437227405312) (h : m * 2 ^ a = fval r * 2 ^ b) (hab : (a : Int) - b = place + 1074) : Ieee.double.nearest neg m place = Ieee.double.word neg r := by
  obtain ⟨M, E, hv, hMr, hME⟩ : ∃ M E : Nat, fval r = M * 2 ^ E ∧ E * 4503599627370496 + M = r ∧ ((M.log2 = 52) ∨ (E = 0 ∧ M < 4503599627370496)) := by
    unfold fval
    by_cases h1 : r < 4503599627370496
    · exact ⟨r, 0, by rw [if_pos h1]; simp, by omega, .inr ⟨rfl, h1⟩⟩
    · refine ⟨4503599627370496 + r % 4503599627370496, r / 4503599627370496 - 1, by rw [if_neg h1], by omega, .inl ?_⟩
      have hq : r % 4503599627370496 < 4503599627370496 := Nat.mod_lt _ (by decide)
      refine (Nat.log2_eq_iff (by omega)).2 ⟨?_, ?_⟩
      · rw [show (2 : Nat) ^ 52 = 4503599627370496 from by decide]; omega
      · rw [show (2 : Nat) ^ (52 + 1) = 9007199254740992 from by decide]; omega
  have hMpos : 0 < M := by
    rcases Nat.eq_zero_or_pos M with h0 | h0
    · subst h0
      rw [hv] at h
      have : 0 < m * 2 ^ a := Nat.mul_pos hm (Nat.two_pow_pos _)
      simp at h; omega
    · exact h0
  rw [hv, Nat.mul_assoc, ← Nat.pow_add] at h
  have hlog : m.log2 + a = M.log2 + (E + b) := by
    have e : ∀ (x d : Nat), 0 < x → (x * 2 ^ d).log2 = x.log2 + d := by
      intro x d hx
      have h1 : x ≠ 0 := by omega
      have h2 : x * 2 ^ d ≠ 0 := Nat.ne_of_gt (Nat.mul_pos hx (Nat.two_pow_pos _))
      have a1 := (Nat.log2_eq_iff h1).1 rfl
      refine (Nat.log2_eq_iff h2).2 ⟨?_, ?_⟩
      · rw [Nat.pow_add]; exact Nat.mul_le_mul_right _ a1.1
      · rw [show x.log2 + d + 1 = (x.log2 + 1) + d by omega, Nat.pow_add]; exact Nat.mul_lt_mul_of_pos_right a1.2 (Nat.two_pow_pos _)
    rw [← e m a hm, ← e M (E + b) hMpos, h]
  have hlast : max (place + (m.log2 : Int) - 52) (-1074) = (E : Int) - 1074 := by
    rcases hME with hME | ⟨hE, hME⟩
    · omega
    · have : M.log2 < 52 := (Nat.log2_lt (by omega)).2 (by rw [show (2 : Nat) ^ 52 = 4503599627370496 from by decide]; exact hME)
      omega
  unfold Ieee.Format.nearest
  rw [if_neg (by omega)]
  simp only [least64, binade64, inf64]
  have hfb : (Ieee.double.fractionBits : Int) = 52 := rfl
  rw [hfb, hlast]
  have hkept : Ieee.Toward.even.cut neg (m <<< (place - ((E : Int) - 1074)).toNat) ((E : Int) - 1074 - place).toNat = M := by
    rw [Nat.shiftLeft_eq]
    by_cases hd : E + b ≤ a
    · have e1 : (place - ((E : Int) - 1074)).toNat = a - (E + b) := by omega
      have e2 : ((E : Int) - 1074 - place).toNat = 0 := by omega
      rw [e1, e2]
      have e3 : m * 2 ^ (a - (E + b)) = M * 2 ^ 0 := by
        have : m * 2 ^ (a - (E + b)) * 2 ^ (E + b) = M * 2 ^ (E + b) := by rw [Nat.mul_assoc, ← Nat.pow_add, Nat.sub_add_cancel hd]; exact h
        simpa using Nat.eq_of_mul_eq_mul_right (Nat.two_pow_pos _) this
      rw [e3]
      exact cut_exact neg M 0 hMpos
    · have e1 : (place - ((E : Int) - 1074)).toNat = 0 := by omega
      have e2 : ((E : Int) - 1074 - place).toNat = E + b - a := by omega
      rw [e1, e2]
      have e3 : m * 2 ^ 0 = M * 2 ^ (E + b - a) := by
        have : m * 2 ^ a = M * 2 ^ (E + b - a) * 2 ^ a := by rw [Nat.mul_assoc, ← Nat.pow_add, Nat.sub_add_cancel (by omega)]; exact h
        simpa using Nat.eq_of_mul_eq_mul_right (Nat.two_pow_pos _) this
      rw [e3]
      exact cut_exact neg M _ hMpos
  rw [hkept]
  have e4 : ((E : Int) - 1074 - -1074).toNat = E := by omega
  rw [e4, hMr, Nat.min_eq_left (by omega)]

theorem nearest_zero (neg : Bool) (place : Int) : Ieee.double.nearest neg 0 place = Ieee.double.word neg 0 := by unfold Ieee.Format.nearest; rfl
theorem word_val (neg : Bool) (r : Nat) : Ieee.double.word neg r = if neg then 9223372036854775808 + r else r := by unfold Ieee.Format.word; rw [width64]
/-- A word's sign. -/
def fsgn (x : Nat) : Bool := x / 9223372036854775808 % 2 == 1
theorem nearest_sgn (neg : Bool) (m : Nat) (e : Int) : fsgn (Ieee.double.nearest neg m e) = neg ∧ Ieee.double.nearest neg m e % 9223372036854775808 ≤ 9218868437227405312 := by
  have key : ∀ r, r ≤ 9218868437227405312 → fsgn (Ieee.double.word neg r) = neg ∧ Ieee.double.word neg r % 9223372036854775808 ≤ 9218868437227405312 := by
    intro r hr
    rw [word_val]
    unfold fsgn
    cases neg
    · simp; omega
    · simp; omega
  unfold Ieee.Format.nearest
  split
  · exact key 0 (by decide)
  · exact key _ (by rw [inf64]; exact Nat.min_le_right ..)
theorem read_neg (x : Nat) : (Ieee.double.read x).neg = fsgn x := by
  unfold Ieee.Format.read fsgn
  simp only [width64, binade64, inf64]
  split
  · rfl
  · split
    · rfl
    · split <;> rfl
theorem write_sgn (d : Ieee.Datum) (h : d.isNaN = false) : fsgn (Ieee.double.write d) = d.neg := by
  cases d with
  | number s m e => exact (nearest_sgn s m e).1
  | infinity s =>
    show fsgn (Ieee.double.word s _) = s
    rw [word_val, inf64]
    cases s <;> decide
  | nan s t => simp [Ieee.Datum.isNaN] at h

theorem product_neg {x y d : Ieee.Datum} (h : x.product y = some d) : d.neg = (x.neg ^^ y.neg) := by
  cases x <;> cases y <;> simp only [Ieee.Datum.product] at h <;> (try split at h) <;> cases h <;> simp [Ieee.Datum.neg, Bool.xor_comm]
theorem fmul_sgn {x y : Nat} (h : isnan (fmul x y) = false) : fsgn (fmul x y) = (fsgn x ^^ fsgn y) := by
  unfold fmul Ieee.Format.mul at h ⊢
  cases hp : (Ieee.double.read x).product (Ieee.double.read y) with
  | none => rw [hp] at h; simp [isnan_qnan] at h
  | some d =>
    simp only [Option.map_some, Option.getD_some]
    rw [write_sgn d (product_some hp), product_neg hp, read_neg, read_neg]
theorem fadd_sgn {x y : Nat} (hx : fsgn x = false) (hy : fsgn y = false) (h : isnan (fadd x y) = false) : fsgn (fadd x y) = false := by
  unfold fadd Ieee.Format.add at h ⊢
  rw [← read_neg] at hx hy
  cases hp : (Ieee.double.read x).sum (Ieee.double.read y) with
  | none => rw [hp] at h; simp [isnan_qnan] at h
  | some d =>
    simp only [Option.map_some, Option.getD_some]
    rw [write_sgn d (sum_some hp)]
    generalize Ieee.double.read x = a at *
    generalize Ieee.double.read y = b at *
    cases a <;> cases b <;> simp only [Ieee.Datum.sum, Ieee.Datum.neg] at hp hx hy <;> (try subst hx) <;> (try subst hy)
    case number.number m i n j =>
      cases hp
      show (if Ieee.signed false m (i - min i j).toNat + Ieee.signed false n (j - min i j).toNat = 0 then (false && false) else decide (Ieee.signed false m (i - min i j).toNat + Ieee.signed false n (j - min i j).toNat < 0)) = false
      split
      · rfl
      · have e1 : (0 : Int) ≤ Ieee.signed false m (i - min i j).toNat := Int.natCast_nonneg _
        have e2 : (0 : Int) ≤ Ieee.signed false n (j - min i j).toNat := Int.natCast_nonneg _
        rw [decide_eq_false_iff_not]; omega
    all_goals first
      | (cases hp; done)
      | (cases hp; rfl)
      | (split at hp <;> first | (cases hp; done) | (cases hp; rfl))
/-- A difference of which the first is the greater is not below 0. -/
theorem fsub_sgn {x y : Nat} (hlt : flt y x = true) (h : isnan (fsub x y) = false) : fsgn (fsub x y) = false := by
  unfold fsub Ieee.Format.sub at h ⊢
  unfold flt Ieee.Format.order at hlt
  cases hp : (Ieee.double.read x).sum (Ieee.double.read y).opposite with
  | none => rw [hp] at h; simp [isnan_qnan] at h
  | some d =>
    simp only [Option.map_some, Option.getD_some]
    rw [write_sgn d (sum_some hp)]
    generalize Ieee.double.read x = a at *
    generalize Ieee.double.read y = b at *
    cases a <;> cases b <;> simp only [Ieee.Datum.sum, Ieee.Datum.opposite, Ieee.Datum.order] at hp hlt
    case number.number s m i t n j =>
      cases hp
      simp only [Ieee.Datum.neg]
      simp only [beq_iff_eq, Option.some.injEq] at hlt
      rw [Int.min_comm] at hlt
      have hlt' : Ieee.signed t n (j - min i j).toNat < Ieee.signed s m (i - min i j).toNat := by
        rcases Int.lt_trichotomy (Ieee.signed t n (j - min i j).toNat) (Ieee.signed s m (i - min i j).toNat) with h | h | h
        · exact h
        · rw [compare_eq h] at hlt; cases hlt
        · rw [compare_gt h] at hlt; cases hlt
      have e : Ieee.signed (!t) n (j - min i j).toNat = - Ieee.signed t n (j - min i j).toNat := by unfold Ieee.signed; cases t <;> simp
      rw [e, if_neg (by omega), decide_eq_false_iff_not]
      omega
    case number.infinity s m i t => cases t <;> simp at hlt hp; subst hp; rfl
    case infinity.number s t m i => cases s <;> simp at hlt hp; subst hp; rfl
    case infinity.infinity s t => cases s <;> cases t <;> simp at hlt hp <;> first | (exact absurd hlt (by decide)) | (subst hp; rfl)
    all_goals first | (cases hlt; done) | (simp at hlt)

theorem fsgn_lt {x : Nat} (h : x < 18446744073709551616) : fsgn x = false ↔ x < 9223372036854775808 := by
  unfold fsgn
  simp
  omega
/-- Times one. -/
theorem fmul_one {x : Nat} (hx : x < 9218868437227405312) : fmul 4607182418800017408 x = x := by
  unfold fmul Ieee.Format.mul
  have h1 : Ieee.double.read 4607182418800017408 = .number false 4503599627370496 (-52) := by decide
  obtain ⟨m, i, hr, hi, hm⟩ := read_fin x (by omega)
  rw [Nat.mod_eq_of_lt (by omega)] at hm
  have hs : (x / 9223372036854775808 % 2 == 1) = false := by rw [Nat.div_eq_of_lt (by omega)]; rfl
  rw [h1, hr, hs]
  simp only [Ieee.Datum.product, Bool.false_bne, Option.map_some, Option.getD_some]
  show Ieee.double.nearest _ _ _ = x
  rcases Nat.eq_zero_or_pos m with h0 | h0
  · subst h0
    rw [Nat.mul_zero, nearest_zero]
    simp at hm
    have : fval 0 = fval x := by rw [fval_zero]; exact hm
    have := fval_inj.1 this
    subst this
    rfl
  · rw [nearest_exact _ _ _ x (i + 1074).toNat 52 (by omega) hx (by
      rw [← hm, Nat.shiftLeft_eq, Nat.mul_assoc, Nat.mul_comm]) (by omega)]
    rfl
/-- Times minus one. -/
theorem fmul_mone {x : Nat} (hx : x < 9218868437227405312) : fmul 13830554455654793216 x = 9223372036854775808 + x := by
  unfold fmul Ieee.Format.mul
  have h1 : Ieee.double.read 13830554455654793216 = .number true 4503599627370496 (-52) := by decide
  obtain ⟨m, i, hr, hi, hm⟩ := read_fin x (by omega)
  rw [Nat.mod_eq_of_lt (by omega)] at hm
  have hs : (x / 9223372036854775808 % 2 == 1) = false := by rw [Nat.div_eq_of_lt (by omega)]; rfl
  rw [h1, hr, hs]
  simp only [Ieee.Datum.product, Bool.bne_false, Option.map_some, Option.getD_some]
  show Ieee.double.nearest _ _ _ = _
  rcases Nat.eq_zero_or_pos m with h0 | h0
  · subst h0
    rw [Nat.mul_zero, nearest_zero]
    simp at hm
    have : fval 0 = fval x := by rw [fval_zero]; exact hm
    have := fval_inj.1 this
    subst this
    rfl
  · rw [nearest_exact _ _ _ x (i + 1074).toNat 52 (by omega) hx (by
      rw [← hm, Nat.shiftLeft_eq, Nat.mul_assoc, Nat.mul_comm]) (by omega)]
    rw [word_val]; rfl
end Go.Proofs.Ytbcdpibcieadlaa

/- Whole numbers as floats: sums and products are exact. No condition but on sizes. -/
namespace Go.Proofs.Ytbcdpibcieadlaa
open Go

/-- The word x stands for the whole number n. -/
structure isI (x : Nat) (n : Int) : Prop where
  fin : x % 9223372036854775808 < 9218868437227405312
  val : fval (x % 9223372036854775808) = n.natAbs * 2 ^ 1074
  sgn : n ≠ 0 → (x / 9223372036854775808 % 2 == 1) = decide (n < 0)
theorem pow52 : (2 : Nat) ^ 52 = 4503599627370496 := by decide
theorem rung_of (m : Nat) (h0 : 0 < m) (h : m < 9007199254740992) : ∃ r, r < 9218868437227405312 ∧ fval r = m * 2 ^ 1074 := by
  obtain ⟨e, he⟩ : ∃ e, e = m.log2 := ⟨_, rfl⟩
  have h1 := (Nat.log2_eq_iff (by omega)).1 he.symm
  have h52 : e ≤ 52 := by
    have : m.log2 < 53 := (Nat.log2_lt (by omega)).2 (by rw [show (2 : Nat) ^ 53 = 9007199254740992 from by decide]; exact h)
    omega
  have hlo : 4503599627370496 ≤ m * 2 ^ (52 - e) := by
    have := Nat.mul_le_mul_right (2 ^ (52 - e)) h1.1
    rw [← Nat.pow_add, show e + (52 - e) = 52 by omega, pow52] at this
    exact this
  have hhi : m * 2 ^ (52 - e) < 9007199254740992 := by
    have := Nat.mul_lt_mul_of_pos_right h1.2 (Nat.two_pow_pos (52 - e))
    rw [← Nat.pow_add, show e + 1 + (52 - e) = 53 by omega, show (2 : Nat) ^ 53 = 9007199254740992 from by decide] at this
    exact this
  obtain ⟨F, hF⟩ : ∃ F, F = m * 2 ^ (52 - e) - 4503599627370496 := ⟨_, rfl⟩
  have hF2 : 4503599627370496 + F = m * 2 ^ (52 - e) := by omega
  have hF3 : F < 4503599627370496 := by omega
  refine ⟨(e + 1023) * 4503599627370496 + F, by omega, ?_⟩
  unfold fval
  rw [if_neg (by omega), show ((e + 1023) * 4503599627370496 + F) % 4503599627370496 = F by omega, show ((e + 1023) * 4503599627370496 + F) / 4503599627370496 - 1 = e + 1022 by omega, hF2, Nat.mul_assoc, ← Nat.pow_add, show 52 - e + (e + 1022) = 1074 by omega]
theorem word_parts (neg : Bool) {r : Nat} (hr : r < 9218868437227405312) : Ieee.double.word neg r % 9223372036854775808 = r ∧ (Ieee.double.word neg r / 9223372036854775808 % 2 == 1) = neg := by
  rw [word_val]
  cases neg
  · refine ⟨by simp; omega, ?_⟩
    have : r / 9223372036854775808 = 0 := by omega
    simp [this]
  · refine ⟨by simp; omega, ?_⟩
    have : (9223372036854775808 + r) / 9223372036854775808 = 1 := by omega
    simp [this]
theorem isI_word (neg : Bool) {r : Nat} {n : Int} (hr : r < 9218868437227405312) (hv : fval r = n.natAbs * 2 ^ 1074) (hs : n ≠ 0 → neg = decide (n < 0)) : isI (Ieee.double.word neg r) n := by
  obtain ⟨h1, h2⟩ := word_parts neg hr
  exact ⟨by rw [h1]; exact hr, by rw [h1]; exact hv, fun h => by rw [h2]; exact hs h⟩
/-- What is written, of a number that stands for n. -/
theorem isI_nearest (neg : Bool) (m : Nat) (place : Int) (a b : Nat) (n : Int) (h : m * 2 ^ a = n.natAbs * 2 ^ 1074 * 2 ^ b) (hab : (a : Int) - b = place + 1074) (hn : n.natAbs < 9007199254740992) (hs : n ≠ 0 → neg = decide (n < 0)) : isI (Ieee.double.nearest neg m place) n := by
  by_cases h0 : n = 0
  · subst h0
    have hm : m = 0 := by
      rcases Nat.eq_zero_or_pos m with h1 | h1
      · exact h1
      · have := Nat.mul_pos h1 (Nat.two_pow_pos a)
        rw [h] at this
        clear h
        generalize 2 ^ 1074 = P at this
        rw [Int.natAbs_zero, Nat.zero_mul, Nat.zero_mul] at this
        omega
    rw [hm, nearest_zero]
    exact isI_word neg (by decide) (by generalize 2 ^ 1074 = P; rw [fval_zero, Int.natAbs_zero, Nat.zero_mul]) (fun h => absurd rfl h)
  · have hp : 0 < n.natAbs := by omega
    obtain ⟨r, hr, hv⟩ := rung_of n.natAbs hp hn
    have hm : 0 < m := by
      rcases Nat.eq_zero_or_pos m with h1 | h1
      · have h3 := Nat.mul_pos (Nat.mul_pos hp (Nat.two_pow_pos 1074)) (Nat.two_pow_pos b)
        rw [← h, h1] at h3
        clear h
        generalize 2 ^ a = P at h3
        rw [Nat.zero_mul] at h3
        exact absurd h3 (Nat.lt_irrefl 0)
      · exact h1
    rw [nearest_exact neg m place r a b hm hr (by rw [hv]; exact h) hab]
    exact isI_word neg hr hv hs
theorem isI_of (n : Int) (hn : n.natAbs < 9007199254740992) : isI (floatOfInt .f64 n) n :=
  isI_nearest (decide (n < 0)) n.natAbs 0 1074 0 n (by rw [Nat.pow_zero, Nat.mul_one]) (by decide) hn (fun _ => rfl)
/-- How a word reads that stands for n. -/
theorem isI.read {x : Nat} {n : Int} (h : isI x n) : ∃ (s : Bool) (m : Nat) (i : Int), Ieee.double.read x = .number s m i ∧ -1074 ≤ i ∧ m * 2 ^ (i + 1074).toNat = n.natAbs * 2 ^ 1074 ∧ (n ≠ 0 → s = decide (n < 0)) := by
  obtain ⟨m, i, hr, hi, hv⟩ := read_fin x h.fin
  exact ⟨_, m, i, hr, hi, by rw [← Nat.shiftLeft_eq, hv, h.val], h.sgn⟩
theorem pow_pos_int (k : Nat) : (0 : Int) < ((2 ^ k : Nat) : Int) := Int.ofNat_lt.2 (Nat.two_pow_pos _)
theorem signed_of {s : Bool} {m k : Nat} {n : Int} (h : m * 2 ^ k = n.natAbs * 2 ^ 1074) (hs : n ≠ 0 → s = decide (n < 0)) : Ieee.signed s m k = n * ((2 ^ 1074 : Nat) : Int) := by
  unfold Ieee.signed
  rw [Nat.shiftLeft_eq, h]
  generalize 2 ^ 1074 = P
  by_cases h0 : n = 0
  · subst h0; simp
  · rw [hs h0]
    by_cases hneg : n < 0
    · rw [if_pos (by simpa using hneg)]
      have : ((n.natAbs : Nat) : Int) = -n := by omega
      rw [Int.natCast_mul, this, Int.neg_mul, Int.neg_neg]
    · rw [if_neg (by simpa using hneg)]
      have : ((n.natAbs : Nat) : Int) = n := by omega
      rw [Int.natCast_mul, this]
theorem isI_add {x y : Nat} {n k : Int} (hx : isI x n) (hy : isI y k) (h : (n + k).natAbs < 9007199254740992) : isI (fadd x y) (n + k) := by
  obtain ⟨s, m, i, rx, hi, vx, sx⟩ := hx.read
  obtain ⟨t, q, j, ry, hj, vy, sy⟩ := hy.read
  unfold fadd Ieee.Format.add
  rw [rx, ry]
  simp only [Ieee.Datum.sum, Option.map_some, Option.getD_some, Ieee.Format.write]
  have e1 : (i + 1074).toNat = (i - min i j).toNat + (min i j + 1074).toNat := by omega
  have e2 : (j + 1074).toNat = (j - min i j).toNat + (min i j + 1074).toNat := by omega
  have hb : ((min i j + 1074).toNat : Int) = min i j + 1074 := by omega
  have s1 := signed_of vx sx
  have s2 := signed_of vy sy
  rw [e1, signed_scale] at s1
  rw [e2, signed_scale] at s2
  generalize Ieee.signed s m (i - min i j).toNat = A at *
  generalize Ieee.signed t q (j - min i j).toNat = B at *
  generalize (min i j + 1074).toNat = K at *
  have ht : (A + B) * ((2 ^ K : Nat) : Int) = (n + k) * ((2 ^ 1074 : Nat) : Int) := by rw [Int.add_mul, s1, s2, Int.add_mul]
  have hK := pow_pos_int K
  have h1074 := pow_pos_int 1074
  have hz : A + B = 0 ↔ n + k = 0 := by
    constructor
    · intro h0
      rw [h0, Int.zero_mul] at ht
      rcases Int.mul_eq_zero.1 ht.symm with h1 | h1
      · exact h1
      · omega
    · intro h0
      rw [h0, Int.zero_mul] at ht
      rcases Int.mul_eq_zero.1 ht with h1 | h1
      · exact h1
      · omega
  have hneg : A + B < 0 ↔ n + k < 0 := by
    constructor
    · intro h0
      have h1 := Int.mul_neg_of_neg_of_pos h0 hK
      rw [ht] at h1
      rcases Int.lt_or_le (n + k) 0 with h2 | h2
      · exact h2
      · have := Int.mul_nonneg h2 (Int.le_of_lt h1074); omega
    · intro h0
      have h1 := Int.mul_neg_of_neg_of_pos h0 h1074
      rw [← ht] at h1
      rcases Int.lt_or_le (A + B) 0 with h2 | h2
      · exact h2
      · have := Int.mul_nonneg h2 (Int.le_of_lt hK); omega
  have habs : (A + B).natAbs * 2 ^ K = (n + k).natAbs * 2 ^ 1074 * 2 ^ 0 := by
    have h1 := congrArg Int.natAbs ht
    rw [Int.natAbs_mul, Int.natAbs_mul, Int.natAbs_natCast, Int.natAbs_natCast] at h1
    rw [h1, Nat.pow_zero, Nat.mul_one]
  refine isI_nearest _ _ _ K 0 (n + k) habs (by omega) h (fun h0 => ?_)
  rw [if_neg (fun h1 => h0 (hz.1 h1))]
  rw [Bool.eq_iff_iff]
  simp only [decide_eq_true_eq]
  exact hneg
theorem isI_mul {x y : Nat} {n k : Int} (hx : isI x n) (hy : isI y k) (h : (n * k).natAbs < 9007199254740992) : isI (fmul x y) (n * k) := by
  obtain ⟨s, m, i, rx, hi, vx, sx⟩ := hx.read
  obtain ⟨t, q, j, ry, hj, vy, sy⟩ := hy.read
  unfold fmul Ieee.Format.mul
  rw [rx, ry]
  simp only [Ieee.Datum.product, Option.map_some, Option.getD_some, Ieee.Format.write]
  refine isI_nearest _ _ _ ((i + 1074).toNat + (j + 1074).toNat) 1074 (n * k) ?_ (by omega) h (fun h0 => ?_)
  · rw [Nat.pow_add, Int.natAbs_mul]
    generalize 2 ^ (i + 1074).toNat = P at *
    generalize 2 ^ (j + 1074).toNat = Q at *
    generalize 2 ^ 1074 = R at *
    rw [show m * q * (P * Q) = (m * P) * (q * Q) by ac_rfl, vx, vy]
    ac_rfl
  · have hn : n ≠ 0 := fun e => h0 (by rw [e, Int.zero_mul])
    have hk : k ≠ 0 := fun e => h0 (by rw [e, Int.mul_zero])
    rw [sx hn, sy hk]
    rcases Int.lt_or_gt_of_ne hn with h1 | h1 <;> rcases Int.lt_or_gt_of_ne hk with h2 | h2
    · have := Int.mul_pos_of_neg_of_neg h1 h2
      rw [decide_eq_true h1, decide_eq_true h2, decide_eq_false (by omega)]; rfl
    · have := Int.mul_neg_of_neg_of_pos h1 h2
      rw [decide_eq_true h1, decide_eq_false (by omega), decide_eq_true this]; rfl
    · have := Int.mul_neg_of_pos_of_neg h1 h2
      rw [decide_eq_false (by omega), decide_eq_true h2, decide_eq_true this]; rfl
    · have := Int.mul_pos h1 h2
      rw [decide_eq_false (by omega), decide_eq_false (by omega), decide_eq_false (by omega)]; rfl
theorem isI.num {x : Nat} {n : Int} (h : isI x n) : isnan x = false := by
  unfold isnan
  have := h.fin
  rw [decide_eq_false_iff_not]
  omega
theorem isI_eq {x y : Nat} {n : Int} (hx : isI x n) (hy : isI y n) : feq x y = true := by
  rw [feq_key hx.num hy.num, decide_eq_true_eq]
  have e := fval_inj.1 (hx.val.trans hy.val.symm)
  unfold fkey
  rw [e]
  by_cases h0 : n = 0
  · subst h0
    have h1 := hy.val
    generalize 2 ^ 1074 = P at h1
    rw [Int.natAbs_zero, Nat.zero_mul] at h1
    rw [fval_inj.1 (h1.trans fval_zero.symm)]
    split <;> split <;> rfl
  · have h1 := (hx.sgn h0).trans (hy.sgn h0).symm
    have h2 : (x / 9223372036854775808 % 2 = 1) ↔ (y / 9223372036854775808 % 2 = 1) := by
      rw [Bool.eq_iff_iff] at h1
      simpa using h1
    by_cases h3 : x / 9223372036854775808 % 2 = 1
    · rw [if_pos h3, if_pos (h2.1 h3)]
    · rw [if_neg h3, if_neg (fun h => h3 (h2.2 h))]
end Go.Proofs.Ytbcdpibcieadlaa

/- Ints of 32 bits in cells; two slices of the call's own that grow in turns. No condition but on lengths. -/
namespace Go.Proofs.Ytbcdpibcieadlaa
open Go Go.RowKit
set_option maxRecDepth 1000000

def I32 (w : World) (a : Option Addr) (ws : List Int) : Prop := ws ≠ [] → ∃ b off, a = some ⟨b, off, none⟩ ∧ b < w.heap.size ∧ ∀ (i : Nat) (p : Int), ws[i]? = some p → w.cell? ⟨b, off + i, none⟩ = some (.int .i32 p)
theorem I32.below {w w' : World} {a : Option Addr} {zs : List Int} (h : I32 w a zs) (hb : Below w.heap.size w w') : I32 w' a zs := fun hz => by
  obtain ⟨b, off, e, hlt, hc⟩ := h hz
  refine ⟨b, off, e, Nat.lt_of_lt_of_le hlt hb.size, fun i v hi => ?_⟩
  rw [(below_cells hb).1 _ _ hlt]
  exact hc i v hi
theorem I32.at {w : World} {a : Option Addr} {zs : List Int} (h : I32 w a zs) {i : Nat} (hi : i < zs.length) : ∃ b off, a = some ⟨b, off, none⟩ ∧ w.cell? ⟨b, off + i, none⟩ = some (.int .i32 (zs.getD i 0)) := by
  obtain ⟨b, off, e, _, hc⟩ := h (fun e => by rw [e] at hi; exact absurd hi (Nat.not_lt_zero _))
  exact ⟨b, off, e, hc i _ (by simp [List.getD_eq_getElem?_getD, hi])⟩

/-- Two slices of floats of the call's own, in blocks apart, from B on. -/
structure Two (W : World) (B : Nat) (va vb : Value) (la lb : List Nat) : Prop where
  a : W.ownsRow B 31 1 va la.length (la.map (Value.float .f64))
  b : W.ownsRow B 31 1 vb lb.length (lb.map (Value.float .f64))
  ne : va.ownBlock = none ∨ va.ownBlock ≠ vb.ownBlock
section
variable {w W W' : World} {B : Nat} {va vb : Value} {la lb : List Nat}
theorem Two.swap (h : Two W B va vb la lb) : Two W B vb va lb la := ⟨h.b, h.a, by
  rcases h.ne with e | e
  · by_cases e2 : vb.ownBlock = none
    · exact .inl e2
    · exact .inr (fun h3 => e2 (h3.trans e))
  · exact .inr (fun h3 => e h3.symm)⟩
theorem row_below {v : Value} {l : List Nat} (h : W.ownsRow B 31 1 v l.length (l.map (Value.float .f64))) (hb : Below W.heap.size W W') : W'.ownsRow B 31 1 v l.length (l.map (Value.float .f64)) :=
  ⟨h.1, by
    rcases h.2 with h0 | ⟨g, cap, cur, e, hB, hg, rest⟩
    · exact .inl h0
    · exact .inr ⟨g, cap, cur, e, hB, by rw [hb.block g (Array.getElem?_eq_some_iff.1 hg).1]; exact hg, rest⟩⟩
theorem Two.below (h : Two W B va vb la lb) (hb : Below W.heap.size W W') : Two W' B va vb la lb := ⟨row_below h.a hb, row_below h.b hb, h.ne⟩
theorem Two.nil (W : World) (B : Nat) : Two W B (.slice none 0 0) (.slice none 0 0) [] [] := ⟨World.ownsRow_nil _ _ _ _, World.ownsRow_nil _ _ _ _, .inl rfl⟩
/-- One float, appended to the first; it lies in a block made for it, and what was made since is left as it is. -/
theorem run_append_two (h : Two W B va vb la lb) (ty : TypeId) (ad : Addr) (v : Nat) (cap : Nat) (hc : W.cell? ad = some (.float .f64 v)) (ha0 : ad.add 0 = ad) (hl : la.length + 1 ≤ 262144) (hB : B ≤ W.heap.size) :
    ∃ v' w', (Builtin.append_ #[22, 22] ty #[va, .slice (some ad) 1 cap]).run Try.prog W = .ok v' w' ∧ Two w' B v' vb (la ++ [v]) lb ∧ Below B W w' ∧ W.grownBy w' va.ownBlock ∧ (v'.ownBlock = va.ownBlock ∨ v'.ownBlock = some W.heap.size) := by
  obtain ⟨i0, hi, hz0, hz1, hz2⟩ := info_parts info_f64
  obtain ⟨v', w', hr, h2, h3, _, h5⟩ := run_append_own_at (P := Try.prog) (w := W) B 22 ty 31 i0 (.float .f64 0) 1 8 Try.underlying22 hi hz0 hz1 hz2 rfl (by decide) va la.length (la.map (Value.float .f64)) h.a ad 1 cap [.float .f64 v] rfl
    (fun j u hu => by
      cases j with
      | zero =>
        simp only [List.getElem?_cons_zero, Option.some.injEq] at hu
        subst hu
        rw [ha0]; exact hc
      | succ j => simp at hu)
    (by simp [Value.oneCell']) (by unfold maxLen; omega) (by omega) hB
  refine ⟨v', w', hr, ⟨by rw [List.length_append, List.map_append]; exact h2, h.b.kept h3 ?_, ?_⟩, ⟨h3.os, h3.tape, h3.output, h3.size, fun k hk => h3.block k (Nat.lt_of_lt_of_le hk hB) (fun e => by have := (h.a.lt k e.symm).1; omega)⟩, h3, h5⟩
  · rcases h.swap.ne with e | e
    · exact .inl e
    · exact .inr e
  · rcases h5 with e | e
    · rw [e]; exact h.ne
    · rw [e]
      refine .inr (fun h3 => ?_)
      have := (h.b.lt _ h3.symm).2
      omega
end
theorem wp_append_two {w : World} {o : Oper} {a : Act} {K : Act → World → Prop} {Q : Exit → Act → World → Prop} (s x : Operand)
    (ho : o.op = .call { callee := .builtin .append, args := #[s, x], argTypes := #[22, 22] })
    (B : Nat) (va vb : Value) (la lb : List Nat) (hs : a.eval s = va) (hT : Two w B va vb la lb) (ad : Addr) (v cap : Nat) (hx : a.eval x = .slice (some ad) 1 cap) (hc : w.cell? ad = some (.float .f64 v)) (ha0 : ad.add 0 = ad) (hl : la.length + 1 ≤ 262144) (hB : B ≤ w.heap.size)
    (h : ∀ v' w', Two w' B v' vb (la ++ [v]) lb → Below B w w' → w.grownBy w' va.ownBlock → K (a.put o.dst v') w') : o.wp Try.prog a w K Q := by
  obtain ⟨v', w', hr, h1, h2, h3, _⟩ := run_append_two hT o.type ad v cap hc ha0 hl hB
  unfold Oper.wp execOp
  simp only [ho, resolve, invoke, builtin, Sem.run_bind, Sem.run_pure, Result.andThen_ok, List.map_toArray, List.map_cons, List.map_nil, hs, hx, hr]
  exact h _ _ h1 h2 h3
theorem wpList_append_two {w : World} {ops : Array Oper} {rest : List Oper} {o : Oper} {a : Act} {Q : Exit → Act → World → Prop} (hgd : o.guard = none) (s x : Operand)
    (ho : o.op = .call { callee := .builtin .append, args := #[s, x], argTypes := #[22, 22] })
    (B : Nat) (va vb : Value) (la lb : List Nat) (hs : a.eval s = va) (hT : Two w B va vb la lb) (T : TypeId) (v : Nat) (hx : a.eval x = .slice (some ⟨w.heap.size, 0, none⟩) 1 1) (hl : la.length + 1 ≤ 262144) (hB : B ≤ w.heap.size)
    (h : ∀ v' w', Two w' B v' vb (la ++ [v]) lb → Below B w w' → wpList Try.prog ops Q rest (a.put o.dst v') w') : wpList Try.prog ops Q (o :: rest) a (w.alloc (.cells #[.float .f64 v] T)) := by
  have hb0 : Below w.heap.size w (w.alloc (.cells #[.float .f64 v] T)) := (Below.refl _ _).alloc (Nat.le_refl _) _
  refine wpList_plain hgd fun _ hK => wp_append_two s x ho B va vb la lb hs (hT.below hb0) ⟨w.heap.size, 0, none⟩ v 1 hx ((Box.newA w [.float .f64 v] T rfl).cell 0) rfl hl (by simp; omega) fun v' w' h1 h2 _ => hK _ _ (h v' w' h1 ((Below.mono hb0 hB).trans h2))
/-- Two slices of the call's own, and blocks of one float made for what is to be appended. -/
structure Tw2 (W0 W : World) (vc vd : Value) (lc ld : List Nat) (xs : List (Nat × Nat)) : Prop where
  t : Two W W0.heap.size vc vd lc ld
  x : ∀ p ∈ xs, Box W p.1 [.float .f64 p.2] ∧ vc.ownBlock ≠ some p.1 ∧ vd.ownBlock ≠ some p.1
  b : Below W0.heap.size W0 W
section
variable {W0 W W' : World} {vc vd : Value} {lc ld : List Nat} {xs : List (Nat × Nat)}
theorem Tw2.swap (h : Tw2 W0 W vc vd lc ld xs) : Tw2 W0 W vd vc ld lc xs := ⟨h.t.swap, fun p hp => ⟨(h.x p hp).1, (h.x p hp).2.2, (h.x p hp).2.1⟩, h.b⟩
theorem Tw2.step (h : Tw2 W0 W vc vd lc ld xs) (hb : Below W.heap.size W W') : Tw2 W0 W' vc vd lc ld xs := ⟨h.t.below hb, fun p hp => ⟨(h.x p hp).1.below hb, (h.x p hp).2⟩, below_step h.b h.b.size hb⟩
theorem Tw2.alloc (h : Tw2 W0 W vc vd lc ld xs) (v : Nat) (T : TypeId) : Tw2 W0 (W.alloc (.cells #[.float .f64 v] T)) vc vd lc ld (xs ++ [(W.heap.size, v)]) := by
  have hb : Below W.heap.size W (W.alloc (.cells #[.float .f64 v] T)) := (Below.refl _ _).alloc (Nat.le_refl _) _
  have h2 := h.step hb
  refine ⟨h2.t, fun p hp => ?_, h2.b⟩
  rcases List.mem_append.1 hp with hp | hp
  · exact h2.x p hp
  · simp only [List.mem_cons, List.not_mem_nil, or_false] at hp
    subst hp
    refine ⟨Box.newA W [.float .f64 v] T rfl, fun e => ?_, fun e => ?_⟩
    · have := (h.t.a.lt _ e).2
      omega
    · have := (h.t.b.lt _ e).2
      omega
end
theorem wp_append_tw {W0 w : World} {o : Oper} {a : Act} {K : Act → World → Prop} {Q : Exit → Act → World → Prop} {vc vd : Value} {lc ld : List Nat} {xs : List (Nat × Nat)} (s x : Operand)
    (ho : o.op = .call { callee := .builtin .append, args := #[s, x], argTypes := #[22, 22] })
    (hs : a.eval s = vc) (h : Tw2 W0 w vc vd lc ld xs) (k : Nat) {b0 v : Nat} (hk : xs[k]? = some (b0, v)) (cap : Nat) (hx : a.eval x = .slice (some ⟨b0, 0, none⟩) 1 cap) (hl : lc.length + 1 ≤ 262144)
    (hK : ∀ v' w', Tw2 W0 w' v' vd (lc ++ [v]) ld xs → K (a.put o.dst v') w') : o.wp Try.prog a w K Q := by
  have hm := List.mem_of_getElem? hk
  obtain ⟨v', w', hr, h1, h2, h3, h5⟩ := run_append_two h.t o.type ⟨b0, 0, none⟩ v cap ((h.x _ hm).1.cell 0) rfl hl h.b.size
  unfold Oper.wp execOp
  simp only [ho, resolve, invoke, builtin, Sem.run_bind, Sem.run_pure, Result.andThen_ok, List.map_toArray, List.map_cons, List.map_nil, hs, hx, hr]
  refine hK _ _ ⟨h1, fun p hp => ?_, h.b.trans h2⟩
  obtain ⟨k1, k2, k3⟩ := h.x p hp
  refine ⟨?_, ?_, k3⟩
  · obtain ⟨T, hT⟩ := k1
    exact ⟨T, (h3.block p.1 (Array.getElem?_eq_some_iff.1 hT).1 (fun e => k2 e.symm)).trans hT⟩
  · rcases h5 with e | e
    · rw [e]; exact k2
    · rw [e]
      intro e2
      have := k1.lt
      simp only [Option.some.injEq] at e2
      omega
end Go.Proofs.Ytbcdpibcieadlaa

/- Layer 8, the document: Ger (printed by gen_lm.py). No condition but on lengths. -/
namespace Go.Proofs.Ytbcdpibcieadlaa
open Go Go.RowKit
set_option maxRecDepth 1000000

/-- An entry of a matrix to which a vector times another one is added, as the document says. -/
def gerD (a : Nat) (zx zy zm : List Nat) (c i j : Nat) : Nat := fadd (zm.getD (i * c + j) 0) (fmul (fmul a (atL zx i)) (atL zy j))
theorem gerD_lt (a : Nat) (zx zy zm : List Nat) (c i j : Nat) : gerD a zx zy zm c i j < 18446744073709551616 := fadd_lt _ _
set_option maxHeartbeats 16000000 in
theorem RGer_any (w : World) (a : Nat) (rm cm : Nat) (am ax ay : Option Addr) (zm zx zy : List Nat) (pm px py : Nat) (hm : Fls w am zm) (hx : Fls w ax zx) (hy : Fls w ay zy) (lm : zm.length ≤ 262144) (lx : zx.length ≤ 262144) (ly : zy.length ≤ 262144) (nm : zm.length = rm * cm) (um : rm ≤ 512) (vm : cm ≤ 512) (e1 : rm = zx.length) (e2 : cm = zy.length) :
    Calls Try.prog 41 #[.float .f64 a, .slice ax zx.length px, .slice ay zy.length py, .agg #[.int .i64 rm, .int .i64 cm, .slice am zm.length pm]] w fun e w' => (∃ a' c', e = .returned (.agg #[.int .i64 rm, .int .i64 cm, .slice a' (fillL (gerD a zx zy zm cm) cm zm (rm * cm)).length c']) ∧ Fls w' a' (fillL (gerD a zx zy zm cm) cm zm (rm * cm))) ∧ Below w.heap.size w w' := by
  rw [fillL_len]
  obtain ⟨W0, hW0⟩ : ∃ W0, W0 = ((w.alloc (.cells #[.int .i64 rm, .int .i64 cm, .slice am zm.length pm] 24)).alloc (.cells #[.int .i64 0, .int .i64 0, .slice none 0 0] 24)) := ⟨_, rfl⟩
  have hB0 : Below w.heap.size w W0 := hW0 ▸ ((Below.refl _ _).alloc (Nat.le_refl _) _).alloc (by simp) _
  have x0 : Box W0 (w.heap.size) [.int .i64 rm, .int .i64 cm, .slice am zm.length pm] := hW0 ▸ ((Box.newA w [.int .i64 rm, .int .i64 cm, .slice am zm.length pm] _ rfl).alloc _)
  have x1 : Box W0 (w.heap.size + 1) [.int .i64 0, .int .i64 0, .slice none 0 0] := hW0 ▸ (Box.newA _ [.int .i64 0, .int .i64 0, .slice none 0 0] _ (by simp))
  have S0 := Lib.hid (show BoxS w W0 [(w.heap.size, [.int .i64 rm, .int .i64 cm, .slice am zm.length pm]), (w.heap.size + 1, [.int .i64 0, .int .i64 0, .slice none 0 0])] from ⟨fun p hp => by
    simp only [List.mem_cons, List.not_mem_nil, or_false] at hp
    rcases hp with rfl | rfl
    · exact x0
    · exact x1
    , hB0⟩)
  have HAt := Lib.hid (fun W (h : Below w.heap.size w W) i j (hi : i < rm) (hj : j < cm) => RAt_any W rm cm i j am zm pm (hm.below h) lm (by rw [nm]; exact place8 hi hj))
  have HCp := Lib.hid (fun W (h : Below w.heap.size w W) => RCopy_any W rm cm am zm pm (hm.below h) lm)
  have HVx := Lib.hid (fun W (h : Below w.heap.size w W) i (hi : i < rm) => (hx.below h).at8 (i := i) (by omega))
  have HVy := Lib.hid (fun W (h : Below w.heap.size w W) j (hj : j < cm) => (hy.below h).at8 (i := j) (by omega))
  rw [← e1, ← e2]
  have HE := Lib.hid (show _ ∧ _ from ⟨e1, e2⟩)
  have HN := Lib.hid (show _ ∧ _ from ⟨nm, lm⟩)
  have hco : cm ≤ 512 := vm
  have hro : rm ≤ 512 := um
  clear hB0 x0 x1 hm lm hx lx hy ly nm um vm e1 e2
  go_enter Try.func41, Try.ntmps41
  go_upto_region 1 with (fail)
  rw [← hW0]
  clear hW0
  obtain ⟨f01, f02, f03⟩ := (S0.out.get 0 rfl).facts
  go_wp2_with fail
  refine (HCp.out _ S0.out.below).mono ?_
  rintro e w1 ⟨⟨ra, b0, rc, rfl, hMem⟩, hb⟩
  have D0 := Lib.hid (BoxS.copy (cs := [.int .i64 rm, .int .i64 cm, .slice ra zm.length rc]) (S0.out.step hb) S0.out hMem)
  clear f01 f02 f03 hMem hb HCp S0
  dsimp only
  go_upto_region 2 with (fail)
  obtain ⟨P, hPP⟩ : ∃ P, P = w1.heap.size := ⟨_, rfl⟩
  simp only [← hPP] at D0 ⊢
  generalize w1.alloc (.cells #[.int .i64 rm, .int .i64 cm, .slice ra zm.length rc] 24) = V0 at *
  clear hPP
  replace D0 : Hid (DocW w V0 ([(w.heap.size, [.int .i64 rm, .int .i64 cm, .slice am zm.length pm]), (w.heap.size + 1, [.int .i64 0, .int .i64 0, .slice none 0 0])] ++ [(P, [.int .i64 rm, .int .i64 cm, .slice ra zm.length rc])]) ra b0 (fillL (gerD a zx zy zm cm) cm zm (0 * cm))) := by rw [Nat.zero_mul]; exact D0
  go_wp2_with fail
  go_loopw [10] (fun si wr => ∃ i : Nat, i ≤ rm ∧ si = .int .i64 i ∧ DocW w wr ([(w.heap.size, [.int .i64 rm, .int .i64 cm, .slice am zm.length pm]), (w.heap.size + 1, [.int .i64 0, .int .i64 0, .slice none 0 0])] ++ [(P, [.int .i64 rm, .int .i64 cm, .slice ra zm.length rc])]) ra b0 (fillL (gerD a zx zy zm cm) cm zm (i * cm))) (fun si _ => rm - (intOf si).toNat)
  case atStart => exact ⟨0, Nat.zero_le _, rfl, D0.out⟩
  case round =>
    obtain ⟨i, hi, rfl, hD⟩ := hrel
    have D1 := Lib.hid hD
    clear hD D0
    by_cases hir : i < rm
    · skip
      obtain ⟨f11, f12, f13⟩ := (D1.out.get 0 rfl).facts
      go_wp2_with fail
      clear f11 f12 f13
      go_loopw [11] (fun sj wr => ∃ j : Nat, j ≤ cm ∧ sj = .int .i64 j ∧ DocW w wr ([(w.heap.size, [.int .i64 rm, .int .i64 cm, .slice am zm.length pm]), (w.heap.size + 1, [.int .i64 0, .int .i64 0, .slice none 0 0])] ++ [(P, [.int .i64 rm, .int .i64 cm, .slice ra zm.length rc])]) ra b0 (fillL (gerD a zx zy zm cm) cm zm (i * cm + j))) (fun sj _ => cm - (intOf sj).toNat)
      case atStart => exact ⟨0, Nat.zero_le _, rfl, D1.out⟩
      case round =>
        obtain ⟨j, hj, rfl, hD⟩ := hrel
        have D2 := Lib.hid hD
        clear hD D1
        by_cases hjc : j < cm
        · skip
          obtain ⟨f11, f12, f13⟩ := (D2.out.get 0 rfl).facts
          obtain ⟨PP, hPP⟩ : ∃ PP, PP = i * cm := ⟨_, rfl⟩
          have t1 : wrap64 ((i : Int) * (cm : Int)) = (PP : Int) ∧ IntKind.i64.wrap ((i : Int) * (cm : Int)) = (PP : Int) := by
            have hpl := place8 hir hjc
            have := HN.out.1
            have := HN.out.2
            exact ⟨w64m PP (by rw [hPP]; push_cast; rfl) (by omega), wi64m PP (by rw [hPP]; push_cast; rfl) (by omega)⟩
          have HPP := Lib.hid hPP
          clear hPP
          have t2 : IntKind.i64.wrap ((PP : Int) + (j : Int)) = (PP : Int) + j := by have hpl := place8 hir hjc; have h1 := HN.out.1; have h2 := HN.out.2; rw [IntKind.wrap_i64]; have := HPP.out; omega
          have HA1 := Lib.hid (fun W h => HAt.out W h i j hir hjc)
          obtain ⟨bx, ox, sx, rfl, cx1, cx2⟩ := HVx.out wr D2.out.below i hir
          obtain ⟨by', oy, sy, rfl, cy1, cy2⟩ := HVy.out wr D2.out.below j hjc
          have hV : gerD a zx zy zm cm i j = fadd (zm.getD (i * cm + j) 0) (fmul (fmul a (atL zx i)) (atL zy j)) := rfl
          have HV := Lib.hid hV
          clear hV
          generalize atL zx i = X at *
          generalize atL zy j = Y at *
          generalize zm.getD (i * cm + j) 0 = zv at *
          have hijx : i < rm ∧ j < cm := ⟨hir, hjc⟩
          go_upto_region 9 with (refine wpList_flt rfl rfl rfl rfl rfl ?_; intro K hK sq0 nq0; go_frame; refine hK _ _ ?_; clear hK K)
          have hdq : Below wr.heap.size wr (wr.drewN nq0) := below_drewN nq0 (Below.refl _ _)
          have cy3 := cells_of_below hdq _ _ _ cy2
          have cy4 := Nat.lt_of_lt_of_le cy1 hdq.size
          have D2a := Lib.hid (D2.out.step hdq)
          clear hdq f11 f12 f13 cx1 cx2 cy1 cy2
          generalize wr.drewN nq0 = wq1 at *
          go_upto_region 10 with (refine wpList_flt rfl rfl rfl rfl rfl ?_; intro K hK sq1 nq1; go_frame; refine hK _ _ ?_; clear hK K)
          have hdq : Below wq1.heap.size wq1 (wq1.drewN nq1) := below_drewN nq1 (Below.refl _ _)
          have D2b := Lib.hid (D2a.out.step hdq)
          clear hdq cy3 cy4
          generalize wq1.drewN nq1 = wq at *
          have D3 := D2b
          clear D2a D2b D2
          simp only [fmul_rawl, fmul_rawr]
          -- REGION
          have hdr : Below wq.heap.size wq wq.drew := below_drewN 1 (Below.refl _ wq)
          have D4 := Lib.hid (D3.out.step hdr)
          clear D3
          have HS := Lib.hid (show ∀ W, Below wq.drew.heap.size wq.drew W → (fun W => (∀ i, W.cell? ⟨w.heap.size, i, none⟩ = ([.int .i64 rm, .int .i64 cm, .slice am zm.length pm] : List Value)[i]?) ∧ (∀ i, W.cell? ⟨P, i, none⟩ = ([.int .i64 rm, .int .i64 cm, .slice ra zm.length rc] : List Value)[i]?)) W from fun W h => ⟨((D4.out.step h).get 0 rfl).cell, ((D4.out.step h).get 2 rfl).cell⟩)
          have HPl := Lib.hid (place8 hir hjc)
          refine wp_region_items 14 [(true, 0), (true, 1), (true, 2), (true, 3), (true, 4), (true, 5), (true, 6), (true, 7), (true, 8), (true, 9), (true, 10), (true, 12), (false, 11), (false, 13)] (fun W => (∀ i, W.cell? ⟨w.heap.size, i, none⟩ = ([.int .i64 rm, .int .i64 cm, .slice am zm.length pm] : List Value)[i]?) ∧ (∀ i, W.cell? ⟨P, i, none⟩ = ([.int .i64 rm, .int .i64 cm, .slice ra zm.length rc] : List Value)[i]?)) (by kernel_rfl) (by kernel_rfl) (HS.out _ (Below.refl _ _)) ?_
          generalize wq.drew = w2 at *
          clear hdr
          have hPj : PP + j < 262144 := by have h1 := HPl.out; have h2 := HPP.out; have h3 := HN.out.1; have h4 := HN.out.2; omega
          iterate 12 (refine iW_take (v := ?_) rfl rfl ?_ ?_; rotate_left; (next => (intro w' hSw; (try dsimp only at hSw); go_simp; (try (rw [if_pos (by omega)]; go_simp)); (try with_reducible rfl))); (simp only [Act.put, List.setIfInBounds_toArray, List.set_cons_zero, List.set_cons_succ]))
          refine iW_mid rfl rfl ?_
          go_simp
          refine (HA1.out w2 D4.out.below).mono ?_
          rintro e w3 ⟨⟨s3, rfl⟩, hb⟩
          have D5 := Lib.hid (D4.out.step hb)
          refine ⟨HS.out _ hb, ?_⟩
          have HS2 := Lib.hid (fun W (h : Below w3.heap.size w3 W) => HS.out W (below_step hb hb.size h))
          clear hb
          refine iW_mid rfl rfl ?_
          refine wp_flt rfl rfl rfl rfl ?_
          intro s4 n4
          have hb : Below w3.heap.size w3 (w3.drewN n4) := below_drewN n4 (Below.refl _ _)
          have D9 := Lib.hid (D5.out.step hb)
          refine ⟨HS2.out _ hb, ?_⟩
          generalize w3.drewN n4 = w8 at *
          clear hb
          refine iW_nil ?_
          go_simp
          rw [← HV.out]
          have hlen := fillL_len (gerD a zx zy zm cm) cm zm (i * cm + j)
          obtain ⟨rfl, hF⟩ := D9.out.flb (k := i * cm + j) (by rw [hlen, HN.out.1]; exact HPl.out)
          have hF1 := hF.lt
          have hF2 := hF.frozen
          obtain ⟨sf, hF3⟩ := hF.at (i := i * cm + j) (by rw [hlen, HN.out.1]; exact HPl.out)
          have DD := Lib.hid (show DocW w (w8.setCell ⟨b0, i * cm + j, none⟩ (.float .f64 (raw (gerD a zx zy zm cm i j) s4))) ([(w.heap.size, [.int .i64 rm, .int .i64 cm, .slice am zm.length pm]), (w.heap.size + 1, [.int .i64 0, .int .i64 0, .slice none 0 0])] ++ [(P, [.int .i64 rm, .int .i64 cm, .slice (some ⟨b0, 0, none⟩) zm.length rc])]) (some ⟨b0, 0, none⟩) b0 (fillL (gerD a zx zy zm cm) cm zm (i * cm + (j + 1))) from by
            rw [← Nat.add_assoc, fillL_at _ _ _ hjc]
            exact D9.out.set (by rw [hlen, HN.out.1]; exact HPl.out) _ s4)
          generalize gerD a zx zy zm cm i j = tv at *
          have hpz : PP + j < zm.length := by rw [HN.out.1, HPP.out]; exact HPl.out
          rw [← HPP.out] at hF3 DD
          have hzz := HN.out.2
          clear hF hlen D9
          go_wp2_with fail
          refine NoPanic.normal ?_
          go_wp2_with fail
          go_roundw
          case rel => exact ⟨j + 1, hjc, by go_num, by rw [← HPP.out]; exact DD.out⟩
          case measure => simp [intOf]; omega
        · skip
          obtain rfl : j = cm := by omega
          obtain ⟨f11, f12, f13⟩ := (D2.out.get 0 rfl).facts
          go_wp2_with fail
          go_roundw
          case rel => exact ⟨i + 1, hir, by go_num, by rw [Nat.succ_mul]; exact D2.out⟩
          case measure => simp [intOf]; omega
    · skip
      obtain rfl : i = rm := by omega
      obtain ⟨f11, f12, f13⟩ := (D1.out.get 0 rfl).facts
      obtain ⟨f21, f22, f23⟩ := (D1.out.get 1 rfl).facts
      obtain ⟨f31, f32, f33⟩ := (D1.out.get 2 rfl).facts
      go_wp2_with fail
      have hx2 := D1.out.get 1 rfl
      have hne := D1.out.ne
      have hfs := D1.out.fs
      have hbl := D1.out.below
      refine bodyPost_ret (results_one rfl (rv_cell (g := w.heap.size + 1) rfl (hx2.put3 _ _ _) rfl Try.underlying24 (by kernel_rfl))) rfl ⟨⟨ra, rc, rfl, ?_⟩, ?_⟩
      · have hq : ∀ u0 u1 u2, Fls (((wr.setCell ⟨w.heap.size + 1, 0, none⟩ u0).setCell ⟨w.heap.size + 1, 1, none⟩ u1).setCell ⟨w.heap.size + 1, 2, none⟩ u2) ra (fillL (gerD a zx zy zm cm) cm zm (i * cm)) := fun u0 u1 u2 => by
          by_cases hz : (fillL (gerD a zx zy zm cm) cm zm (i * cm)) = []
          · rw [hz]; exact fun h => absurd rfl h
          · rcases hfs with h | ⟨e, hF⟩
            · exact absurd h hz
            · subst e
              have hn := hne hz (w.heap.size + 1, [.int .i64 0, .int .i64 0, .slice none 0 0]) (List.mem_of_getElem? (i := 1) rfl)
              exact (((hF.other (Ne.symm hn) _ _).other (Ne.symm hn) _ _).other (Ne.symm hn) _ _).fls
        exact hq _ _ _
      · exact below_put3 hbl (by omega) _ _ _
end Go.Proofs.Ytbcdpibcieadlaa
