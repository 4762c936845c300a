/- The order of floats is that of their words, read with their signs. -/
import Derived.Test.YtbcdpibcieadlaaFl
namespace Go.Proofs.Ytbcdpibcieadlaa
open Go

/-- The size of a finite word, in units of the least. -/
def fval (r : Nat) : Nat := if r < 4503599627370496 then r else (4503599627370496 + r % 4503599627370496) * 2 ^ (r / 4503599627370496 - 1)
/-- A word with its sign. -/
def fkey (x : Nat) : Int := if x / 9223372036854775808 % 2 = 1 then -((x % 9223372036854775808 : Nat) : Int) else ((x % 9223372036854775808 : Nat) : Int)

theorem fval_lt {a b : Nat} (h : a < b) : fval a < fval b := by
  unfold fval
  have hb : b = 4503599627370496 * (b / 4503599627370496) + b % 4503599627370496 := (Nat.div_add_mod _ _).symm
  have ha : a = 4503599627370496 * (a / 4503599627370496) + a % 4503599627370496 := (Nat.div_add_mod _ _).symm
  have hbm : b % 4503599627370496 < 4503599627370496 := Nat.mod_lt _ (by decide)
  have ham : a % 4503599627370496 < 4503599627370496 := Nat.mod_lt _ (by decide)
  generalize b / 4503599627370496 = qb at *
  generalize a / 4503599627370496 = qa at *
  generalize b % 4503599627370496 = rb at *
  generalize a % 4503599627370496 = ra at *
  by_cases h2 : b < 4503599627370496
  · rw [if_pos h2, if_pos (by omega)]; exact h
  · rw [if_neg h2]
    have hqb : 1 ≤ qb := by omega
    have p1 : 1 ≤ 2 ^ (qb - 1) := Nat.one_le_two_pow
    by_cases h1 : a < 4503599627370496
    · rw [if_pos h1]
      calc a < 4503599627370496 * 1 := by omega
        _ ≤ (4503599627370496 + rb) * 2 ^ (qb - 1) := Nat.mul_le_mul (by omega) p1
    · rw [if_neg h1]
      have hqa : 1 ≤ qa := by omega
      have hle : qa ≤ qb := by omega
      by_cases hq : qa = qb
      · subst hq
        exact Nat.mul_lt_mul_of_pos_right (by omega) (by omega)
      · have e : 2 ^ (qa - 1) * 2 ≤ 2 ^ (qb - 1) := by
          rw [← Nat.pow_succ]
          exact Nat.pow_le_pow_right (by decide) (by omega)
        calc (4503599627370496 + ra) * 2 ^ (qa - 1) < (4503599627370496 * 2) * 2 ^ (qa - 1) := Nat.mul_lt_mul_of_pos_right (by omega) (Nat.two_pow_pos _)
          _ = 4503599627370496 * (2 ^ (qa - 1) * 2) := by rw [Nat.mul_assoc, Nat.mul_comm 2]
          _ ≤ 4503599627370496 * 2 ^ (qb - 1) := Nat.mul_le_mul_left _ e
          _ ≤ (4503599627370496 + rb) * 2 ^ (qb - 1) := Nat.mul_le_mul_right _ (by omega)
theorem fval_le {a b : Nat} (h : a ≤ b) : fval a ≤ fval b := by
  rcases Nat.lt_or_eq_of_le h with h | h
  · exact Nat.le_of_lt (fval_lt h)
  · rw [h]; exact Nat.le_refl _
theorem fval_lt_iff {a b : Nat} : fval a < fval b ↔ a < b := by
  constructor
  · intro h
    rcases Nat.lt_or_ge a b with h' | h'
    · exact h'
    · have := fval_le h'; omega
  · exact fval_lt
theorem fval_zero : fval 0 = 0 := by decide
theorem fval_inj {a b : Nat} : fval a = fval b ↔ a = b := by
  constructor
  · intro h
    rcases Nat.lt_trichotomy a b with h' | h' | h'
    · have := fval_lt h'; omega
    · exact h'
    · have := fval_lt h'; omega
  · intro h; rw [h]

theorem least64 : Ieee.double.leastPlace = -1074 := by decide
/-- What a word reads as. -/
theorem read_fin (x : Nat) (h : x % 9223372036854775808 < 9218868437227405312) : ∃ (m : Nat) (i : Int), Ieee.double.read x = .number (x / 9223372036854775808 % 2 == 1) m i ∧ -1074 ≤ i ∧ m <<< (i + 1074).toNat = fval (x % 9223372036854775808) := by
  unfold Ieee.Format.read
  simp only [width64, binade64, inf64, least64]
  by_cases h1 : x % 9223372036854775808 < 4503599627370496
  · rw [if_pos h1]
    refine ⟨_, _, rfl, by decide, ?_⟩
    unfold fval
    rw [if_pos h1]
    simp
  · rw [if_neg h1, if_pos h]
    refine ⟨_, _, rfl, by omega, ?_⟩
    unfold fval
    rw [if_neg h1, Nat.shiftLeft_eq]
    congr 2
    omega
theorem read_inf (x : Nat) (h : x % 9223372036854775808 = 9218868437227405312) : Ieee.double.read x = .infinity (x / 9223372036854775808 % 2 == 1) := by
  unfold Ieee.Format.read
  simp only [width64, binade64, inf64, least64, h]
  rfl

theorem compare_same {a b c d : Int} (h1 : a < b ↔ c < d) (h2 : a = b ↔ c = d) : compare a b = compare c d := by
  simp only [compare, compareOfLessAndEq]
  by_cases h : a < b
  · rw [if_pos h, if_pos (h1.1 h)]
  · rw [if_neg h, if_neg (fun x => h (h1.2 x))]
    by_cases h' : a = b
    · rw [if_pos h', if_pos (h2.1 h')]
    · rw [if_neg h', if_neg (fun x => h' (h2.2 x))]

theorem compare_lt {a b : Int} (h : a < b) : compare a b = .lt := by simp only [compare, compareOfLessAndEq]; rw [if_pos h]
theorem compare_gt {a b : Int} (h : b < a) : compare a b = .gt := by
  simp only [compare, compareOfLessAndEq]; rw [if_neg (by omega), if_neg (by omega)]
theorem compare_eq {a b : Int} (h : a = b) : compare a b = .eq := by
  simp only [compare, compareOfLessAndEq]; rw [if_neg (by omega), if_pos h]

theorem signed_scale (s : Bool) (m a b : Nat) : Ieee.signed s m (a + b) = Ieee.signed s m a * ((2 ^ b : Nat) : Int) := by
  unfold Ieee.signed
  have : m <<< (a + b) = m <<< a * 2 ^ b := by rw [Nat.shiftLeft_eq, Nat.shiftLeft_eq, Nat.pow_add, Nat.mul_assoc]
  rw [this]
  cases s <;> simp [Int.natCast_mul, Int.neg_mul]

theorem order_numbers (s t : Bool) (m n : Nat) (i j : Int) (hi : -1074 ≤ i) (hj : -1074 ≤ j) : Ieee.Datum.order (.number s m i) (.number t n j) = some (compare (Ieee.signed s m (i + 1074).toNat) (Ieee.signed t n (j + 1074).toNat)) := by
  unfold Ieee.Datum.order
  simp only []
  congr 1
  have hb : -1074 ≤ min i j := by omega
  have e1 : (i + 1074).toNat = (i - min i j).toNat + (min i j + 1074).toNat := by omega
  have e2 : (j + 1074).toNat = (j - min i j).toNat + (min i j + 1074).toNat := by omega
  rw [e1, e2, signed_scale, signed_scale]
  have hp : (0 : Int) < ((2 ^ (min i j + 1074).toNat : Nat) : Int) := Int.ofNat_lt.2 (Nat.two_pow_pos _)
  refine compare_same ?_ ?_
  · exact (Int.mul_lt_mul_right hp).symm
  · constructor
    · intro h; rw [h]
    · intro h; exact Int.eq_of_mul_eq_mul_right (by omega) h

/-- **THE ORDER OF TWO FLOATS THAT ARE NO NaN.** -/
theorem order_key {x y : Nat} (hx : isnan x = false) (hy : isnan y = false) : Ieee.double.order x y = some (compare (fkey x) (fkey y)) := by
  unfold isnan at hx hy
  simp only [decide_eq_false_iff_not, Nat.not_lt] at hx hy
  unfold Ieee.Format.order fkey
  generalize hrx : x % 9223372036854775808 = rx at *
  generalize hry : y % 9223372036854775808 = ry at *
  by_cases fx : rx < 9218868437227405312
  · obtain ⟨m, i, e1, hi, hm⟩ := read_fin x (by rw [hrx]; exact fx)
    rw [e1]
    rw [hrx] at hm
    generalize hsx : (x / 9223372036854775808 % 2 == 1) = sx at *
    by_cases fy : ry < 9218868437227405312
    · obtain ⟨n, j, e2, hj, hn⟩ := read_fin y (by rw [hry]; exact fy)
      rw [e2, order_numbers _ _ _ _ _ _ hi hj]
      rw [hry] at hn
      generalize hsy : (y / 9223372036854775808 % 2 == 1) = sy at *
      congr 1
      unfold Ieee.signed
      rw [hm, hn]
      have hlt := @fval_lt_iff rx ry
      have hgt := @fval_lt_iff ry rx
      have hz1 := @fval_lt_iff 0 rx
      have hz2 := @fval_lt_iff 0 ry
      rw [fval_zero] at hz1 hz2
      refine compare_same ?_ ?_ <;> cases sx <;> cases sy <;> simp_all <;> omega
    · have fy' : ry = 9218868437227405312 := by omega
      rw [read_inf y (by rw [hry]; exact fy')]
      generalize hsy : (y / 9223372036854775808 % 2 == 1) = sy at *
      unfold Ieee.Datum.order
      simp only []
      congr 1
      cases sy
      · rw [compare_lt]
        · rfl
        · simp at hsy; split <;> split <;> omega
      · rw [compare_gt]
        · rfl
        · simp at hsy; split <;> split <;> omega
  · have fx' : rx = 9218868437227405312 := by omega
    rw [read_inf x (by rw [hrx]; exact fx')]
    generalize hsx : (x / 9223372036854775808 % 2 == 1) = sx at *
    by_cases fy : ry < 9218868437227405312
    · obtain ⟨n, j, e2, hj, hn⟩ := read_fin y (by rw [hry]; exact fy)
      rw [e2]
      generalize hsy : (y / 9223372036854775808 % 2 == 1) = sy at *
      unfold Ieee.Datum.order
      simp only []
      congr 1
      cases sx
      · rw [compare_gt]
        · rfl
        · simp at hsx; split <;> split <;> omega
      · rw [compare_lt]
        · rfl
        · simp at hsx; split <;> split <;> omega
    · have fy' : ry = 9218868437227405312 := by omega
      rw [read_inf y (by rw [hry]; exact fy')]
      generalize hsy : (y / 9223372036854775808 % 2 == 1) = sy at *
      unfold Ieee.Datum.order
      simp only []
      congr 1
      simp only [compare, compareOfLessAndEq]
      cases sx <;> cases sy <;> simp_all
theorem flt_key {x y : Nat} (hx : isnan x = false) (hy : isnan y = false) : flt x y = decide (fkey x < fkey y) := by
  unfold flt
  rw [order_key hx hy]
  rcases Int.lt_trichotomy (fkey x) (fkey y) with h | h | h
  · rw [compare_lt h, decide_eq_true h]; rfl
  · rw [compare_eq h, decide_eq_false (by omega)]; rfl
  · rw [compare_gt h, decide_eq_false (by omega)]; rfl
theorem feq_key {x y : Nat} (hx : isnan x = false) (hy : isnan y = false) : feq x y = decide (fkey x = fkey y) := by
  unfold feq
  rw [order_key hx hy]
  rcases Int.lt_trichotomy (fkey x) (fkey y) with h | h | h
  · rw [compare_lt h, decide_eq_false (by omega)]; rfl
  · rw [compare_eq h, decide_eq_true h]; rfl
  · rw [compare_gt h, decide_eq_false (by omega)]; rfl
theorem fle_key {x y : Nat} (hx : isnan x = false) (hy : isnan y = false) : fle x y = decide (fkey x ≤ fkey y) := by
  have e : fle x y = (flt x y || feq x y) := by unfold fle flt feq; rfl
  rw [e, flt_key hx hy, feq_key hx hy, Bool.eq_iff_iff]
  simp
  omega
theorem order_nan {x y : Nat} (h : isnan x = true ∨ isnan y = true) : Ieee.double.order x y = none := by
  unfold Ieee.Format.order
  rcases h with h | h
  · exact order_nan_left _ (by rw [read_nan]; exact h)
  · exact order_nan_right _ (by rw [read_nan]; exact h)
theorem flt_nan {x y : Nat} (h : isnan x = true ∨ isnan y = true) : flt x y = false := by unfold flt; rw [order_nan h]; rfl
theorem feq_nan {x y : Nat} (h : isnan x = true ∨ isnan y = true) : feq x y = false := by unfold feq; rw [order_nan h]; rfl
theorem fle_nan {x y : Nat} (h : isnan x = true ∨ isnan y = true) : fle x y = false := by unfold fle; rw [order_nan h]; rfl
end Go.Proofs.Ytbcdpibcieadlaa
