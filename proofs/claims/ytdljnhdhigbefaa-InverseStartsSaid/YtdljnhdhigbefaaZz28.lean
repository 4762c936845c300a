/- A float as a number of 53 digits times a power of two; times a power of two, rounded once. Plain. -/
import Derived.Test.YtdljnhdhigbefaaZz13
import Derived.Test.YtdljnhdhigbefaaZz18
import Derived.Test.YtdljnhdhigbefaaZz4
namespace Go.Proofs.Ytdljnhdhigbefaa
open Go
/-- The 53 digits of a size that is finite and not nought. -/
def sigR (r : Nat) : Nat := if r < 4503599627370496 then r * 2 ^ (52 - r.log2) else 4503599627370496 + r % 4503599627370496
/-- Its exponent: the number is sigR times 2 to the (expR - 1075). -/
def expR (r : Nat) : Int := if r < 4503599627370496 then (r.log2 : Int) - 51 else (r / 4503599627370496 : Nat)
theorem log2_lt52 {r : Nat} (h : r < 4503599627370496) (h0 : 0 < r) : r.log2 < 52 := (Nat.log2_lt (by omega)).2 (by rw [show (2 : Nat) ^ 52 = 4503599627370496 from by decide]; exact h)
theorem log2_scale (x d : Nat) (hx : 0 < x) : (x * 2 ^ d).log2 = x.log2 + d := by
  have h1 : x ≠ 0 := by omega
  have h2 : x * 2 ^ d ≠ 0 := Nat.ne_of_gt (Nat.mul_pos hx (Nat.two_pow_pos _))
  have a1 := (Nat.log2_eq_iff h1).1 rfl
  refine (Nat.log2_eq_iff h2).2 ⟨?_, ?_⟩
  · rw [Nat.pow_add]; exact Nat.mul_le_mul_right _ a1.1
  · rw [show x.log2 + d + 1 = (x.log2 + 1) + d by omega, Nat.pow_add]; exact Nat.mul_lt_mul_of_pos_right a1.2 (Nat.two_pow_pos _)
theorem log2_of {m k : Nat} (h1 : 2 ^ k ≤ m) (h2 : m < 2 ^ (k + 1)) : m.log2 = k := (Nat.log2_eq_iff (by have := Nat.two_pow_pos k; omega)).2 ⟨h1, h2⟩
theorem log2_sig {m : Nat} (h1 : 4503599627370496 ≤ m) (h2 : m < 9007199254740992) : m.log2 = 52 := log2_of (by rw [show (2 : Nat) ^ 52 = 4503599627370496 from by decide]; exact h1) (by rw [show (2 : Nat) ^ (52 + 1) = 9007199254740992 from by decide]; exact h2)
theorem sig_bnd {r : Nat} (h0 : 0 < r) : 4503599627370496 ≤ sigR r ∧ sigR r < 9007199254740992 := by
  unfold sigR
  by_cases h : r < 4503599627370496
  · rw [if_pos h]
    have hl := log2_lt52 h h0
    have a1 := (Nat.log2_eq_iff (show r ≠ 0 by omega)).1 rfl
    have e1 : 2 ^ r.log2 * 2 ^ (52 - r.log2) = 4503599627370496 := by rw [← Nat.pow_add, show r.log2 + (52 - r.log2) = 52 by omega]
    have e2 : 2 ^ (r.log2 + 1) * 2 ^ (52 - r.log2) = 9007199254740992 := by rw [← Nat.pow_add, show r.log2 + 1 + (52 - r.log2) = 53 by omega]
    constructor
    · rw [← e1]; exact Nat.mul_le_mul_right _ a1.1
    · rw [← e2]; exact Nat.mul_lt_mul_of_pos_right a1.2 (Nat.two_pow_pos _)
  · rw [if_neg h]
    have : r % 4503599627370496 < 4503599627370496 := Nat.mod_lt _ (by decide)
    omega
theorem exp_bnd {r : Nat} (h0 : 0 < r) (h : r < 9218868437227405312) : -51 ≤ expR r ∧ expR r ≤ 2046 := by
  unfold expR
  by_cases h1 : r < 4503599627370496
  · rw [if_pos h1]
    have := log2_lt52 h1 h0
    omega
  · rw [if_neg h1]
    omega
/-- The number. -/
theorem sig_val {r : Nat} (h0 : 0 < r) : sigR r * 2 ^ (expR r + 51).toNat = fval r * 2 ^ 52 := by
  unfold sigR expR fval
  by_cases h : r < 4503599627370496
  · have hl := log2_lt52 h h0
    rw [if_pos h, if_pos h, if_pos h, Nat.mul_assoc, ← Nat.pow_add, show 52 - r.log2 + ((r.log2 : Int) - 51 + 51).toNat = 52 by omega]
  · rw [if_neg h, if_neg h, if_neg h, Nat.mul_assoc, ← Nat.pow_add, show r / 4503599627370496 - 1 + 52 = (((r / 4503599627370496 : Nat) : Int) + 51).toNat by omega]
/-- Whichever number of 53 digits and exponent: the same size. -/
theorem sig_uniq {r m : Nat} {e : Int} (h0 : 0 < r) (hm1 : 4503599627370496 ≤ m) (hm2 : m < 9007199254740992) (he : -51 ≤ e) (h : m * 2 ^ (e + 51).toNat = fval r * 2 ^ 52) : sigR r = m ∧ expR r = e := by
  have hb := sig_bnd h0
  have hv := sig_val h0
  have hx : -51 ≤ expR r := by
    unfold expR
    by_cases h1 : r < 4503599627370496
    · rw [if_pos h1]; omega
    · rw [if_neg h1]; omega
  rw [← h] at hv
  have e1 := log2_scale (sigR r) (expR r + 51).toNat (by omega)
  have e2 := log2_scale m (e + 51).toNat (by omega)
  rw [hv, e2, log2_sig hm1 hm2, log2_sig hb.1 hb.2] at e1
  have he' : expR r = e := by omega
  rw [he'] at hv
  exact ⟨Nat.eq_of_mul_eq_mul_right (Nat.two_pow_pos _) hv, he'⟩
/-- A normal word, by its digits. -/
theorem fval_norm {m : Nat} {E : Nat} (hm1 : 4503599627370496 ≤ m) (hm2 : m < 9007199254740992) (hE : 1 ≤ E) : fval (E * 4503599627370496 + (m - 4503599627370496)) * 2 ^ 52 = m * 2 ^ ((E : Int) + 51).toNat := by
  unfold fval
  have h1 : (E * 4503599627370496 + (m - 4503599627370496)) / 4503599627370496 = E := by omega
  have h2 : (E * 4503599627370496 + (m - 4503599627370496)) % 4503599627370496 = m - 4503599627370496 := by omega
  rw [if_neg (by omega), h1, h2, Nat.mul_assoc, ← Nat.pow_add, show E - 1 + 52 = ((E : Int) + 51).toNat by omega, show 4503599627370496 + (m - 4503599627370496) = m by omega]

/-- How 53 digits are rounded. -/
def roundR (m : Nat) (e : Int) : Nat :=
  if 2047 ≤ e then 9218868437227405312
  else if 1 ≤ e then e.toNat * 4503599627370496 + (m - 4503599627370496)
  else if e < -52 then 0
  else m / 2 ^ (1 - e).toNat + (if 2 ^ (1 - e).toNat < 2 * (m % 2 ^ (1 - e).toNat) ∨ (2 ^ (1 - e).toNat = 2 * (m % 2 ^ (1 - e).toNat) ∧ m / 2 ^ (1 - e).toNat % 2 = 1) then 1 else 0)

theorem cut_plain (neg : Bool) (n d : Nat) (h : d ≤ n.log2 + 2) : Ieee.Toward.even.cut neg n d = n / 2 ^ d + (if 2 ^ d < 2 * (n % 2 ^ d) ∨ (2 ^ d = 2 * (n % 2 ^ d) ∧ n / 2 ^ d % 2 = 1) then 1 else 0) := by
  unfold Ieee.Toward.cut
  simp only [Nat.min_eq_left h, Nat.shiftLeft_eq, Nat.one_mul]
  congr 1
  by_cases h1 : 2 ^ d < 2 * (n % 2 ^ d)
  · simp [h1]
  · by_cases h2 : 2 ^ d = 2 * (n % 2 ^ d)
    · by_cases h3 : n / 2 ^ d % 2 = 1
      · rw [if_pos (.inr ⟨h2, h3⟩)]
        simp [h1, h3]
        exact h2
      · rw [if_neg (by rintro (h | h); exact h1 h; exact h3 h.2)]
        have : (n / 2 ^ d % 2 == 1) = false := by simpa using h3
        simp [h1, this]
    · rw [if_neg (by rintro (h | h); exact h1 h; exact h2 h.1)]
      have : (2 ^ d == 2 * (n % 2 ^ d)) = false := by simpa using h2
      simp [h1, this]
theorem cut_none (neg : Bool) (n d : Nat) (h0 : 0 < n) (h : n.log2 + 2 ≤ d) : Ieee.Toward.even.cut neg n d = 0 := by
  unfold Ieee.Toward.cut
  simp only [Nat.min_eq_right h, Nat.shiftLeft_eq, Nat.one_mul]
  have a1 := ((Nat.log2_eq_iff (show n ≠ 0 by omega)).1 rfl).2
  have e : 2 ^ (n.log2 + 2) = 2 * 2 ^ (n.log2 + 1) := by rw [Nat.pow_succ, Nat.mul_comm]
  have h1 : n / 2 ^ (n.log2 + 2) = 0 := Nat.div_eq_of_lt (by omega)
  have h2 : n % 2 ^ (n.log2 + 2) = n := Nat.mod_eq_of_lt (by omega)
  rw [h1, h2]
  have h3 : decide (2 ^ (n.log2 + 2) < 2 * n) = false := decide_eq_false (by omega)
  rw [h3]
  simp
/-- More digits, all noughts. -/
theorem cut_more (neg : Bool) (n d a : Nat) (h0 : 0 < n) : Ieee.Toward.even.cut neg (n * 2 ^ a) (d + a) = Ieee.Toward.even.cut neg n d := by
  have hl := log2_scale n a h0
  by_cases h : d ≤ n.log2 + 2
  · rw [cut_plain neg _ _ (by rw [hl]; omega), cut_plain neg _ _ h]
    have hp : 0 < 2 ^ a := Nat.two_pow_pos _
    have e1 : n * 2 ^ a / 2 ^ (d + a) = n / 2 ^ d := by rw [Nat.pow_add, Nat.mul_div_mul_right _ _ hp]
    have e2 : n * 2 ^ a % 2 ^ (d + a) = n % 2 ^ d * 2 ^ a := by rw [Nat.pow_add, Nat.mul_mod_mul_right]
    rw [e1, e2, Nat.pow_add, ← Nat.mul_assoc]
    generalize 2 * (n % 2 ^ d) = u
    generalize n / 2 ^ d = v
    generalize 2 ^ d = x
    have i1 : x * 2 ^ a < u * 2 ^ a ↔ x < u := Nat.mul_lt_mul_right hp
    have i2 : x * 2 ^ a = u * 2 ^ a ↔ x = u := ⟨fun h => Nat.eq_of_mul_eq_mul_right hp h, fun h => by rw [h]⟩
    simp only [i1, i2]
  · rw [cut_none neg _ _ (Nat.mul_pos h0 (Nat.two_pow_pos _)) (by rw [hl]; omega), cut_none neg _ _ h0 (by omega)]

/-- **53 digits, times a power of two.** -/
theorem nearest_sig (neg : Bool) {m : Nat} (e : Int) (hm1 : 4503599627370496 ≤ m) (hm2 : m < 9007199254740992) : Ieee.double.nearest neg m (e - 1075) = Ieee.double.word neg (roundR m e) := by
  unfold Ieee.Format.nearest roundR
  rw [if_neg (by omega)]
  simp only [least64, binade64, inf64]
  have hfb : (Ieee.double.fractionBits : Int) = 52 := rfl
  have hlog := log2_sig hm1 hm2
  rw [hfb, hlog]
  by_cases h1 : 1 ≤ e
  · have hlast : max (e - 1075 + ((52 : Nat) : Int) - 52) (-1074) = e - 1075 := by omega
    rw [hlast, Int.sub_self, Int.toNat_zero, Nat.shiftLeft_zero, cut_plain _ _ _ (Nat.zero_le _)]
    have hk : m / 2 ^ 0 + (if 2 ^ 0 < 2 * (m % 2 ^ 0) ∨ (2 ^ 0 = 2 * (m % 2 ^ 0) ∧ m / 2 ^ 0 % 2 = 1) then 1 else 0) = m := by simp [Nat.mod_one]
    rw [hk]
    have e1 : (e - 1075 - -1074).toNat = (e - 1).toNat := by congr 1; omega
    rw [e1]
    by_cases h2 : 2047 ≤ e
    · rw [if_pos h2, Nat.min_eq_right (by omega)]
    · rw [if_neg h2, if_pos h1, Nat.min_eq_left (by omega), show (e - 1).toNat * 4503599627370496 + m = e.toNat * 4503599627370496 + (m - 4503599627370496) by omega]
  · have hlast : max (e - 1075 + ((52 : Nat) : Int) - 52) (-1074) = -1074 := by omega
    rw [hlast, if_neg (by omega), if_neg h1]
    have e1 : (e - 1075 - -1074).toNat = 0 := by omega
    have e2 : (-1074 - (e - 1075)).toNat = (1 - e).toNat := by congr 1; omega
    have e3 : ((-1074 : Int) - -1074).toNat = 0 := by omega
    rw [e1, e2, e3, Nat.shiftLeft_zero, Nat.zero_mul, Nat.zero_add]
    by_cases h2 : e < -52
    · rw [if_pos h2]
      by_cases h3 : e < -53
      · rw [cut_none _ _ _ (by omega) (by omega)]; rfl
      · obtain rfl : e = -53 := by omega
        rw [cut_none _ _ _ (by omega) (by rw [hlog]; decide)]; rfl
    · rw [if_neg h2, cut_plain _ _ _ (by rw [hlog]; omega)]
      rw [Nat.min_eq_left]
      have : m / 2 ^ (1 - e).toNat ≤ m := Nat.div_le_self _ _
      split <;> omega
/-- The same with more digits, all noughts. -/
theorem nearest_more (neg : Bool) {m : Nat} (e : Int) (a : Nat) (h0 : 0 < m) : Ieee.double.nearest neg (m * 2 ^ a) (e - a) = Ieee.double.nearest neg m e := by
  have h1 : 0 < m * 2 ^ a := Nat.mul_pos h0 (Nat.two_pow_pos _)
  unfold Ieee.Format.nearest
  rw [if_neg (by omega), if_neg (by omega)]
  simp only [least64, binade64, inf64]
  have hfb : (Ieee.double.fractionBits : Int) = 52 := rfl
  rw [hfb, log2_scale m a h0]
  have hlast : max (e - (a : Int) + ((m.log2 + a : Nat) : Int) - 52) (-1074) = max (e + (m.log2 : Int) - 52) (-1074) := by omega
  rw [hlast]
  generalize max (e + (m.log2 : Int) - 52) (-1074) = L
  congr 2
  congr 1
  by_cases h : e ≤ L
  · have x1 : (e - (a : Int) - L).toNat = 0 := by omega
    have x2 : (e - L).toNat = 0 := by omega
    have x3 : (L - (e - (a : Int))).toNat = (L - e).toNat + a := by omega
    rw [x1, x2, x3, Nat.shiftLeft_zero, Nat.shiftLeft_zero, cut_more neg _ _ _ h0]
  · by_cases h2 : e - a ≤ L
    · have x1 : (e - (a : Int) - L).toNat = 0 := by omega
      have x3 : (L - e).toNat = 0 := by omega
      have x4 : (L - (e - (a : Int))).toNat = 0 + (L - (e - (a : Int))).toNat := by omega
      rw [x1, x3, Nat.shiftLeft_zero, Nat.shiftLeft_eq, x4]
      have : m * 2 ^ a = m * 2 ^ (e - L).toNat * 2 ^ (L - (e - (a : Int))).toNat := by
        rw [Nat.mul_assoc, ← Nat.pow_add, show (e - L).toNat + (L - (e - (a : Int))).toNat = a by omega]
      rw [this, cut_more neg _ _ _ (Nat.mul_pos h0 (Nat.two_pow_pos _))]
    · have x3 : (L - e).toNat = 0 := by omega
      have x4 : (L - (e - (a : Int))).toNat = 0 := by omega
      rw [x3, x4, Nat.shiftLeft_eq, Nat.shiftLeft_eq, Nat.mul_assoc, ← Nat.pow_add, show a + (e - (a : Int) - L).toNat = (e - L).toNat by omega]
/-- What a finite word that is not nought reads as, by its digits. -/
theorem read_sig {x : Nat} (hf : x % 9223372036854775808 < 9218868437227405312) (h0 : 0 < x % 9223372036854775808) : ∃ m i, Ieee.double.read x = .number (fsgn x) m i ∧ 0 < m ∧ ∀ (neg : Bool) (n : Nat) (j : Int), 0 < n → Ieee.double.nearest neg (m * n) (i + j) = Ieee.double.nearest neg (sigR (x % 9223372036854775808) * n) (expR (x % 9223372036854775808) - 1075 + j) := by
  obtain ⟨m, i, hr, hi, hm⟩ := read_fin x hf
  have hmp : 0 < m := by
    rcases Nat.eq_zero_or_pos m with h | h
    · subst h
      simp at hm
      have : fval 0 = fval (x % 9223372036854775808) := by rw [fval_zero]; exact hm
      have := fval_inj.1 this
      omega
    · exact h
  refine ⟨m, i, hr, hmp, fun neg n j hn => ?_⟩
  have hb := sig_bnd h0
  have hx := exp_bnd h0 hf
  have hv := sig_val h0
  rw [← hm, Nat.shiftLeft_eq] at hv
  generalize sigR (x % 9223372036854775808) = s at *
  generalize expR (x % 9223372036854775808) = e at *
  -- s * 2^(e+51) = m * 2^(i+1074) * 2^52
  rw [Nat.mul_assoc, ← Nat.pow_add] at hv
  have hn' := nearest_more neg (m := s * n) (e - 1075 + j) (e + 51).toNat (Nat.mul_pos (by omega) hn)
  have hm' := nearest_more neg (m := m * n) (i + j) ((i + 1074).toNat + 52) (Nat.mul_pos hmp hn)
  rw [← hn', ← hm']
  have y1 : m * n * 2 ^ ((i + 1074).toNat + 52) = s * n * 2 ^ (e + 51).toNat := by
    rw [Nat.mul_right_comm m, Nat.mul_right_comm s, hv]
  have y2 : i + j - (((i + 1074).toNat + 52 : Nat) : Int) = e - 1075 + j - ((e + 51).toNat : Int) := by omega
  rw [y1, y2]
/-- A float times 2^p, rounded once. -/
def timesW (x : Nat) (p : Int) : Nat :=
  if ffinW x = false ∨ x % 9223372036854775808 = 0 then x else Ieee.double.word (fsgn x) (roundR (sigR (x % 9223372036854775808)) (expR (x % 9223372036854775808) + p))
where ffinW (x : Nat) : Bool := decide (x % 9223372036854775808 < 9218868437227405312)
theorem round_self {r : Nat} (h0 : 0 < r) (h : r < 9218868437227405312) : roundR (sigR r) (expR r) = r := by
  have hb := sig_bnd h0
  unfold roundR
  have hx := exp_bnd h0 h
  rw [if_neg (by omega)]
  unfold sigR expR
  by_cases h1 : r < 4503599627370496
  · have hl := log2_lt52 h1 h0
    rw [if_pos h1, if_pos h1]
    by_cases h2 : (1 : Int) ≤ (r.log2 : Int) - 51
    · omega
    · rw [if_neg h2, if_neg (by omega)]
      have e1 : (1 - ((r.log2 : Int) - 51)).toNat = 52 - r.log2 := by omega
      rw [e1]
      have hp : 0 < 2 ^ (52 - r.log2) := Nat.two_pow_pos _
      rw [Nat.mul_div_cancel _ hp, Nat.mul_mod_left]
      rw [if_neg (by rintro (h | ⟨h, _⟩) <;> omega)]
      rfl
  · rw [if_neg h1, if_neg h1, if_pos (by omega)]
    omega

theorem two52 : (2 : Nat) ^ 52 = 4503599627370496 := by decide
theorem hid52 : ∃ B : Nat, B = 4503599627370496 := ⟨_, rfl⟩
theorem near_pow {s : Bool} {m M B : Nat} {i e k : Int} (hB : B = 2 ^ 52) (hm1 : 4503599627370496 ≤ M) (hm2 : M < 9007199254740992)
    (hn : ∀ (neg : Bool) (n : Nat) (j : Int), 0 < n → Ieee.double.nearest neg (m * n) (i + j) = Ieee.double.nearest neg (M * n) (e - 1075 + j)) :
    Ieee.double.nearest s (m * B) (i + (k - 52)) = Ieee.double.word s (roundR M (e + k)) := by
  rw [hn _ _ _ (by rw [hB]; exact Nat.two_pow_pos _)]
  have h2 := nearest_more s (m := M) (e + k - 1075) 52 (by omega)
  rw [hB, show e - 1075 + (k - 52) = e + k - 1075 - ((52 : Nat) : Int) by omega, h2]
  exact nearest_sig _ _ hm1 hm2
/-- Times a power of two that the format has. -/
theorem mul_pow_r {x c B : Nat} {k : Int} (hB : B = 2 ^ 52) (hc : Ieee.double.read c = .number false B (k - 52)) (hf : x % 9223372036854775808 < 9218868437227405312) (h0 : 0 < x % 9223372036854775808) :
    fmul x c = Ieee.double.word (fsgn x) (roundR (sigR (x % 9223372036854775808)) (expR (x % 9223372036854775808) + k)) := by
  obtain ⟨m, i, hr, hm, hn⟩ := read_sig hf h0
  have hb := sig_bnd h0
  have key := near_pow (s := fsgn x) (k := k) hB hb.1 hb.2 hn
  unfold fmul Ieee.Format.mul
  rw [hr, hc]
  simp only [Ieee.Datum.product, Bool.xor_false, Option.map_some, Option.getD_some]
  show Ieee.double.nearest _ _ _ = _
  exact key
theorem mul_pow_l {x c B : Nat} {k : Int} (hB : B = 2 ^ 52) (hc : Ieee.double.read c = .number false B (k - 52)) (hf : x % 9223372036854775808 < 9218868437227405312) (h0 : 0 < x % 9223372036854775808) :
    fmul c x = Ieee.double.word (fsgn x) (roundR (sigR (x % 9223372036854775808)) (expR (x % 9223372036854775808) + k)) := by
  obtain ⟨m, i, hr, hm, hn⟩ := read_sig hf h0
  have hb := sig_bnd h0
  have key := near_pow (s := fsgn x) (k := k) hB hb.1 hb.2 hn
  unfold fmul Ieee.Format.mul
  rw [hr, hc]
  simp only [Ieee.Datum.product, Bool.false_xor, Option.map_some, Option.getD_some]
  show Ieee.double.nearest _ _ _ = _
  rw [Nat.mul_comm B m, Int.add_comm (k - 52) i]
  exact key
theorem word_norm {m : Nat} {e : Int} (h1 : 1 ≤ e) (h2 : e ≤ 2046) : roundR m e = e.toNat * 4503599627370496 + (m - 4503599627370496) := by
  unfold roundR
  rw [if_neg (by omega), if_pos h1]
/-- A normal word's digits. -/
theorem norm_sig {m E : Nat} (hm1 : 4503599627370496 ≤ m) (hm2 : m < 9007199254740992) (hE : 1 ≤ E) (_hE2 : E ≤ 2046) : sigR (E * 4503599627370496 + (m - 4503599627370496)) = m ∧ expR (E * 4503599627370496 + (m - 4503599627370496)) = E := by
  unfold sigR expR
  rw [if_neg (by omega), if_neg (by omega)]
  constructor <;> omega
theorem word_parts (neg : Bool) {r : Nat} (h : r < 9223372036854775808) : Ieee.double.word neg r % 9223372036854775808 = r ∧ fsgn (Ieee.double.word neg r) = neg ∧ Ieee.double.word neg r < 18446744073709551616 := by
  rw [word_val]
  unfold fsgn
  cases neg
  · simp; omega
  · simp; omega
theorem word_self {x : Nat} (h : x < 18446744073709551616) : Ieee.double.word (fsgn x) (x % 9223372036854775808) = x := by
  rw [word_val]
  unfold fsgn
  by_cases h1 : x / 9223372036854775808 = 1
  · rw [h1]; simp; omega
  · have : x / 9223372036854775808 = 0 := by omega
    rw [this]; simp; omega
theorem roundR_le (m : Nat) (e : Int) (hm : m < 9007199254740992) : roundR m e ≤ 9218868437227405312 := by
  unfold roundR
  split
  · exact Nat.le_refl _
  · split
    · omega
    · split
      · omega
      · have : m / 2 ^ (1 - e).toNat ≤ m := Nat.div_le_self _ _
        split <;> omega
/-- Half of a float that is not small. -/
theorem div_two {x : Nat} (hf : x % 9223372036854775808 < 9218868437227405312) (h0 : 0 < x % 9223372036854775808) :
    fdiv x 4611686018427387904 = Ieee.double.word (fsgn x) (roundR (sigR (x % 9223372036854775808)) (expR (x % 9223372036854775808) - 1)) := by
  have hc : Ieee.double.read 4611686018427387904 = .number false 4503599627370496 (-51) := by decide
  obtain ⟨m, i, hr, hm, hn⟩ := read_sig hf h0
  have hb := sig_bnd h0
  unfold fdiv Ieee.Format.div
  rw [hr, hc]
  have hfb : Ieee.double.fractionBits + 2 = 54 := rfl
  have hl : Nat.log2 4503599627370496 = 52 := by decide
  simp only [Ieee.Datum.quotient, Bool.xor_false, hfb, hl]
  rw [if_neg (by decide)]
  simp only [Option.map_some, Option.getD_some]
  generalize hmore : 54 + 52 - m.log2 = more
  show Ieee.double.nearest (fsgn x) _ _ = _
  have hml : m < 2 ^ (m.log2 + 1) := ((Nat.log2_eq_iff (show m ≠ 0 by omega)).1 rfl).2
  rw [Nat.shiftLeft_eq]
  have hm53 : m < 9007199254740992 := by
    have h3 : Ieee.double.read x = .number (fsgn x) m i := hr
    unfold Ieee.Format.read at h3
    simp only [width64, binade64, inf64] at h3
    by_cases h1 : x % 9223372036854775808 < 4503599627370496
    · rw [if_pos h1] at h3
      simp only [Ieee.Datum.number.injEq] at h3
      omega
    · rw [if_neg h1, if_pos hf] at h3
      simp only [Ieee.Datum.number.injEq] at h3
      omega
  have hl2 : m.log2 < 53 := (Nat.log2_lt (by omega)).2 (by rw [show (2 : Nat) ^ 53 = 9007199254740992 from by decide]; exact hm53)
  obtain ⟨q, hq⟩ : ∃ q, more = q + 52 := ⟨more - 52, by omega⟩
  subst hq
  have e1 : m * 2 ^ (q + 52) = m * 2 ^ q * 4503599627370496 := by rw [Nat.pow_add, ← Nat.mul_assoc]
  rw [e1, Nat.mul_div_cancel _ (by decide), Nat.mul_mod_left]
  have e2 : 2 * (m * 2 ^ q) + ((0 : Nat) != 0).toNat = m * 2 ^ (q + 1) := by
    show 2 * (m * 2 ^ q) + 0 = _
    rw [Nat.add_zero, Nat.pow_succ, Nat.mul_comm 2, Nat.mul_assoc]
  rw [e2]
  have e3 : i - -51 - ((q + 52 : Nat) : Int) - 1 = (i + -1) - ((q + 1 : Nat) : Int) := by omega
  rw [e3, nearest_more _ _ _ hm]
  have := hn (fsgn x) 1 (-1) (by decide)
  rw [Nat.mul_one, Nat.mul_one] at this
  rw [this, show expR (x % 9223372036854775808) - 1075 + -1 = expR (x % 9223372036854775808) - 1 - 1075 by omega]
  exact nearest_sig _ _ hb.1 hb.2

/-! ### Bits -/
theorem and_sign_frac (y : Nat) (hy : y < 18446744073709551616) : y &&& 9227875636482146303 = y / 9223372036854775808 * 9223372036854775808 + y % 4503599627370496 := by
  have e : (9227875636482146303 : Nat) = 2 ^ 63 * 1 ||| (2 ^ 52 - 1) := by decide
  have hb : y &&& 2 ^ 63 = y / 9223372036854775808 * 9223372036854775808 := by
    rw [nat_bit, show (2 ^ 63 : Nat) = 9223372036854775808 from by decide, Nat.mod_eq_of_lt (show y / 9223372036854775808 < 2 by omega)]
  rw [e, Nat.and_or_distrib_left, Nat.mul_one, hb, Nat.and_two_pow_sub_one_eq_mod, show (2 ^ 52 : Nat) = 4503599627370496 from by decide]
  have hl : y % 4503599627370496 < 2 ^ 63 := Nat.lt_of_lt_of_le (Nat.mod_lt _ (by decide)) (by decide)
  have := Nat.two_pow_add_eq_or_of_lt hl (y / 9223372036854775808)
  rw [show (2 ^ 63 : Nat) = 9223372036854775808 from by decide] at this
  rw [Nat.mul_comm, ← this, Nat.mul_comm]
theorem or_parts (s f E : Nat) (hf : f < 4503599627370496) (hE : E < 2048) : (s * 9223372036854775808 + f) ||| (E * 4503599627370496) = s * 9223372036854775808 + (E * 4503599627370496 + f) := by
  have h1 := Nat.two_pow_add_eq_or_of_lt (show f < 2 ^ 52 from hf) E
  have h2 := Nat.two_pow_add_eq_or_of_lt (show f < 2 ^ 63 from Nat.lt_of_lt_of_le hf (by decide)) s
  have h3 := Nat.two_pow_add_eq_or_of_lt (show E * 4503599627370496 + f < 2 ^ 63 by rw [show (2 ^ 63 : Nat) = 9223372036854775808 from by decide]; omega) s
  rw [show (2 ^ 63 : Nat) = 9223372036854775808 from by decide] at h2 h3
  rw [show (2 ^ 52 : Nat) = 4503599627370496 from by decide] at h1
  rw [Nat.mul_comm s, h2, h3, Nat.or_assoc]
  congr 1
  rw [Nat.or_comm, Nat.mul_comm E, h1]
end Go.Proofs.Ytdljnhdhigbefaa

/- Package math: normalize, Frexp, Ldexp, as plain functions of the words. -/
namespace Go.Proofs.Ytdljnhdhigbefaa
open Go Go.RowKit
set_option maxRecDepth 100000
theorem isnan_wordR (neg : Bool) {r : Nat} (h : r ≤ 9218868437227405312) : isnan (Ieee.double.word neg r) = false := word_mod neg r h
theorem fkey_abs {x : Nat} : fkey (fabs x) = ((x % 9223372036854775808 : Nat) : Int) := by
  have hx : x % 9223372036854775808 < 9223372036854775808 := Nat.mod_lt _ (by decide)
  unfold fkey fabs
  rw [Nat.mod_mod, Nat.div_eq_of_lt hx, if_neg (by decide)]
theorem isnan_fin {x : Nat} (hf : x % 9223372036854775808 < 9218868437227405312) : isnan x = false := by unfold isnan; rw [decide_eq_false_iff_not]; omega
/-- The sign's part of a word, the exponent when normal, the power that was taken off. -/
def nE (r : Nat) : Nat := if r < 4503599627370496 then r.log2 + 1 else r / 4503599627370496
def nY (x : Nat) : Nat := x / 9223372036854775808 * 9223372036854775808 + (nE (x % 9223372036854775808) * 4503599627370496 + (sigR (x % 9223372036854775808) - 4503599627370496))
def ne (r : Nat) : Int := if r < 4503599627370496 then -52 else 0
theorem nE_bnd {r : Nat} (h0 : 0 < r) (h : r < 9218868437227405312) : 1 ≤ nE r ∧ nE r ≤ 2046 ∧ expR r = (nE r : Int) + ne r ∧ (ne r = 0 ∨ ne r = -52) := by
  unfold nE expR ne
  by_cases h1 : r < 4503599627370496
  · have := log2_lt52 h1 h0
    rw [if_pos h1, if_pos h1, if_pos h1]
    exact ⟨by omega, by omega, by omega, .inr rfl⟩
  · rw [if_neg h1, if_neg h1, if_neg h1]
    exact ⟨by omega, by omega, by omega, .inl rfl⟩
theorem word_sgn {x : Nat} (hx : x < 18446744073709551616) {r : Nat} : Ieee.double.word (fsgn x) r = x / 9223372036854775808 * 9223372036854775808 + r := by
  rw [word_val]
  unfold fsgn
  by_cases h1 : x / 9223372036854775808 = 1
  · rw [h1]; simp
  · have : x / 9223372036854775808 = 0 := by omega
    rw [this]; simp
theorem small_abs {x : Nat} (hf : x % 9223372036854775808 < 9218868437227405312) : flt (fabs x) 4503599627370496 = decide (x % 9223372036854775808 < 4503599627370496) := by
  rw [flt_key (by rw [isnan_fabs]; exact isnan_fin hf) (by kernel_rfl), fkey_abs, show fkey 4503599627370496 = 4503599627370496 from by decide, Bool.eq_iff_iff]
  simp only [decide_eq_true_eq]
  omega
theorem norm_mul {x : Nat} (hx : x < 18446744073709551616) (hf : x % 9223372036854775808 < 4503599627370496) (h0 : 0 < x % 9223372036854775808) : fmul x 4841369599423283200 = nY x ∧ isnan (nY x) = false := by
  have hl := log2_lt52 hf h0
  have hb := sig_bnd h0
  have e := mul_pow_r (k := 52) (B := 2 ^ 52) (c := 4841369599423283200) rfl (by decide) (show x % 9223372036854775808 < 9218868437227405312 by omega) h0
  have e2 : expR (x % 9223372036854775808) + 52 = ((nE (x % 9223372036854775808) : Nat) : Int) := by unfold expR nE; rw [if_pos hf, if_pos hf]; omega
  have hn : nE (x % 9223372036854775808) = (x % 9223372036854775808).log2 + 1 := by unfold nE; rw [if_pos hf]
  rw [e2, word_norm (by omega) (by omega), Int.toNat_natCast, word_sgn hx] at e
  refine ⟨e, ?_⟩
  have e3 : nY x = Ieee.double.word (fsgn x) (nE (x % 9223372036854775808) * 4503599627370496 + (sigR (x % 9223372036854775808) - 4503599627370496)) := by rw [word_sgn hx]; rfl
  rw [e3]
  exact isnan_wordR _ (by omega)
theorem nY_self {x : Nat} (hf : ¬ x % 9223372036854775808 < 4503599627370496) : nY x = x := by
  unfold nY nE sigR
  rw [if_neg hf, if_neg hf]
  omega
set_option maxHeartbeats 2000000 in
theorem normalize_any (x : Nat) (hx : x < 18446744073709551616) (hf : x % 9223372036854775808 < 9218868437227405312) (h0 : 0 < x % 9223372036854775808) (w : World) :
    Calls Try.prog 106 #[.float .f64 x] w fun e w' => e = .returned (.tuple #[.float .f64 (nY x), .int .i64 (ne (x % 9223372036854775808))]) ∧ Below w.heap.size w w' := by
  have HA := Lib.hid (fun W => Abs_any x hx W)
  have hs := small_abs hf
  by_cases h : x % 9223372036854775808 < 4503599627370496
  · rw [decide_eq_true h] at hs
    have HN := Lib.hid (norm_mul hx h h0)
    have HE : Hid (ne (x % 9223372036854775808) = -52) := by unfold Hid ne; rw [if_pos h]
    clear h hf h0
    go_enter Try.func106, Try.ntmps106
    go_wp2_with (first | (go_at_call 48; refine (HA.out _).mono ?_; rintro e w' ⟨rfl, rfl⟩) | (refine wpList_flt rfl rfl rfl rfl rfl ?_; intro K hK _ _; go_frame; refine hK _ _ ?_; clear hK K))
    refine bodyPost_ret (results_tmp2 rfl _ _ _) rfl ⟨?_, below_drewN _ (Below.refl _ _)⟩
    rw [HE.out, HN.out.1, raw_of_not HN.out.2]
    rfl
  · rw [decide_eq_false h] at hs
    have HN := Lib.hid (nY_self h)
    have HE : Hid (ne (x % 9223372036854775808) = 0) := by unfold Hid ne; rw [if_neg h]
    clear h hf h0
    go_enter Try.func106, Try.ntmps106
    go_wp2_with (first | (go_at_call 48; refine (HA.out _).mono ?_; rintro e w' ⟨rfl, rfl⟩) | (refine wpList_flt rfl rfl rfl rfl rfl ?_; intro K hK _ _; go_frame; refine hK _ _ ?_; clear hK K))
    refine bodyPost_ret (results_tmp2 rfl _ _ _) rfl ⟨?_, Below.refl _ _⟩
    rw [HE.out, HN.out]
    rfl
theorem Inf_pos (w : World) : Calls Try.prog 108 #[.int .i64 1] w fun e w' => e = .returned (.float .f64 9218868437227405312) ∧ w = w' := by
  go_enter Try.func108, Try.ntmps108
  go_wp2
  go_ret
  exact ⟨rfl, rfl⟩
theorem Inf_neg (w : World) : Calls Try.prog 108 #[.int .i64 (-1)] w fun e w' => e = .returned (.float .f64 18442240474082181120) ∧ w = w' := by
  go_enter Try.func108, Try.ntmps108
  go_wp2
  go_ret
  exact ⟨rfl, rfl⟩
/-- Nought with a sign. -/
theorem Copysign_zero (x : Nat) (hx : x < 18446744073709551616) (w : World) : Calls Try.prog 107 #[.float .f64 0, .float .f64 x] w fun e w' => e = .returned (.float .f64 (x / 9223372036854775808 * 9223372036854775808)) ∧ w = w' := by
  have e1 : bits .andNot .u64 0 9223372036854775808 = 0 := by kernel_rfl
  have e2 := bits_sign hx
  have e3 : bits .or .u64 0 ((x / 9223372036854775808 * 9223372036854775808 : Nat) : Int) = ((x / 9223372036854775808 * 9223372036854775808 : Nat) : Int) := by
    rw [show (0 : Int) = ((0 : Nat) : Int) from rfl, u64_or_nat 0 _ (by decide) (by omega), Nat.zero_or]
  generalize x / 9223372036854775808 * 9223372036854775808 = s at *
  go_enter Try.func107, Try.ntmps107
  go_wp2
  go_ret
  exact ⟨rfl, rfl⟩
end Go.Proofs.Ytdljnhdhigbefaa

/- Package math: Frexp, Ldexp, as plain functions of the words. -/
namespace Go.Proofs.Ytdljnhdhigbefaa
open Go Go.RowKit
set_option maxRecDepth 100000
theorem feq_zero {x : Nat} (hn : isnan x = false) : feq x 0 = decide (x % 9223372036854775808 = 0) := by
  rw [feq_key hn (by kernel_rfl), show fkey 0 = 0 from by decide, Bool.eq_iff_iff]
  unfold fkey
  simp only [decide_eq_true_eq]
  split <;> omega
/-- The parts of a word made normal. -/
theorem nY_parts {x : Nat} (hx : x < 18446744073709551616) (hf : x % 9223372036854775808 < 9218868437227405312) (h0 : 0 < x % 9223372036854775808) :
    nY x < 18446744073709551616 ∧ nY x / 4503599627370496 % 2048 = nE (x % 9223372036854775808) ∧ nY x / 9223372036854775808 = x / 9223372036854775808 ∧ nY x % 4503599627370496 = sigR (x % 9223372036854775808) - 4503599627370496 := by
  have hb := sig_bnd h0
  have hE := nE_bnd h0 hf
  unfold nY
  generalize sigR (x % 9223372036854775808) = m at *
  generalize nE (x % 9223372036854775808) = E at *
  have hs : x / 9223372036854775808 < 2 := by omega
  generalize x / 9223372036854775808 = s at *
  refine ⟨by omega, by omega, by omega, by omega⟩
theorem andNot_exp {y : Nat} (hy : y < 18446744073709551616) : bits .andNot .u64 (y : Int) 9218868437227405312 = ((y / 9223372036854775808 * 9223372036854775808 + y % 4503599627370496 : Nat) : Int) := by
  rw [show (9218868437227405312 : Int) = ((9218868437227405312 : Nat) : Int) from rfl, u64_andNot_nat y _ hy (by decide)]
  rw [show (18446744073709551615 - 9218868437227405312 : Nat) = 9227875636482146303 from by decide, and_sign_frac y hy]
theorem or_exp {s f E : Nat} (hs : s < 2) (hf : f < 4503599627370496) (hE : E < 2048) : bits .or .u64 ((s * 9223372036854775808 + f : Nat) : Int) ((E * 4503599627370496 : Nat) : Int) = ((s * 9223372036854775808 + (E * 4503599627370496 + f) : Nat) : Int) := by
  rw [u64_or_nat _ _ (by omega) (by omega), or_parts s f E hf hE]
/-- What frexp's fraction is. -/
def frW (x : Nat) : Nat := x / 9223372036854775808 * 9223372036854775808 + (1022 * 4503599627370496 + (sigR (x % 9223372036854775808) - 4503599627370496))
end Go.Proofs.Ytdljnhdhigbefaa

/- Package math: Ldexp, as a plain function of the words (printed by gen_gz.py). -/
namespace Go.Proofs.Ytdljnhdhigbefaa
open Go Go.RowKit
set_option maxRecDepth 100000
theorem i64_and_2047 (n : Nat) (h : n < 4096) : bits .and .i64 (n : Int) 2047 = ((n % 2048 : Nat) : Int) := by
  have h1 : (BitVec.ofInt 64 2047).toNat = 2 ^ 11 - 1 := by decide
  have key : (BitVec.ofInt 64 (n : Int) &&& BitVec.ofInt 64 2047).toNat = ((n : Int) % ((2 ^ 64 : Nat) : Int)).toNat % 2 ^ 11 := by
    rw [BitVec.toNat_and, BitVec.toNat_ofInt, h1, Nat.and_two_pow_sub_one_eq_mod]
  show IntKind.i64.wrap ((BitVec.ofInt 64 (n : Int) &&& BitVec.ofInt 64 2047).toNat : Nat) = ((n % 2048 : Nat) : Int)
  rw [key, IntKind.wrap_i64]
  omega

set_option maxHeartbeats 4000000 in
theorem ldexp_norm (x Y E A B : Nat) (p q k : Int) (hz : feq x 0 = false) (HI : Hid (∀ W, Calls Try.prog 76 #[.float .f64 x, .int .i64 0] W fun e w' => e = .returned (.bool false) ∧ W = w'))
    (HN : Hid (∀ W, Calls Try.prog 75 #[.float .f64 x] W fun e w' => e = .returned (.bool false) ∧ W = w'))
    (HM : Hid (∀ W, Calls Try.prog 106 #[.float .f64 x] W fun e w' => e = .returned (.tuple #[.float .f64 Y, .int .i64 q]) ∧ Below W.heap.size W w'))
    (hY : Y < 18446744073709551616) (b1 : bits .and .i64 ((Y : Int) / 4503599627370496) 2047 = (E : Int)) (b2 : bits .andNot .u64 (Y : Int) 9218868437227405312 = (A : Int))
    (hE1 : 1 ≤ E) (hE2 : E ≤ 2046) (hq1 : -52 ≤ q) (hq2 : q ≤ 0) (hp1 : -5000 ≤ p) (hp2 : p ≤ 5000) (hA : A < 18446744073709551616) (w : World)
    (hk : p + q + (E - 1023) = k) (hB : B < 18446744073709551616) (h1 : -1022 ≤ k) (h2 : k ≤ 1023) (b3 : bits .or .u64 (A : Int) ((k + 1023) * 4503599627370496) = (B : Int)) (hm : isnan (fmul 4607182418800017408 B) = false) :
    Calls Try.prog 83 #[.float .f64 x, .int .i64 p] w fun e w' => e = .returned (.float .f64 (fmul 4607182418800017408 B)) ∧ Below w.heap.size w w' := by
  go_enter Try.func83, Try.ntmps83
  go_wp2_with fail
  refine (HI.out _).mono ?_
  rintro e w' ⟨rfl, rfl⟩
  go_wp2_with fail
  refine (HN.out _).mono ?_
  rintro e w' ⟨rfl, rfl⟩
  go_wp2_with fail
  refine (HM.out _).mono ?_
  rintro e w1 ⟨rfl, hb1⟩
  have HR := Lib.hid (fun s => raw_of_not hm s)
  clear hm
  go_wp2_with (first | (refine wpList_flt rfl rfl rfl rfl rfl ?_; intro K hK _ _; go_frame; refine hK _ _ ?_; clear hK K))
  go_ret
  exact ⟨by rw [HR.out]; rfl, below_drewN _ hb1⟩

set_option maxHeartbeats 4000000 in
theorem ldexp_den (x Y E A B : Nat) (p q k : Int) (hz : feq x 0 = false) (HI : Hid (∀ W, Calls Try.prog 76 #[.float .f64 x, .int .i64 0] W fun e w' => e = .returned (.bool false) ∧ W = w'))
    (HN : Hid (∀ W, Calls Try.prog 75 #[.float .f64 x] W fun e w' => e = .returned (.bool false) ∧ W = w'))
    (HM : Hid (∀ W, Calls Try.prog 106 #[.float .f64 x] W fun e w' => e = .returned (.tuple #[.float .f64 Y, .int .i64 q]) ∧ Below W.heap.size W w'))
    (hY : Y < 18446744073709551616) (b1 : bits .and .i64 ((Y : Int) / 4503599627370496) 2047 = (E : Int)) (b2 : bits .andNot .u64 (Y : Int) 9218868437227405312 = (A : Int))
    (hE1 : 1 ≤ E) (hE2 : E ≤ 2046) (hq1 : -52 ≤ q) (hq2 : q ≤ 0) (hp1 : -5000 ≤ p) (hp2 : p ≤ 5000) (hA : A < 18446744073709551616) (w : World)
    (hk : p + q + (E - 1023) = k) (hB : B < 18446744073709551616) (h1 : -1075 ≤ k) (h2 : k < -1022) (b3 : bits .or .u64 (A : Int) ((k + 53 + 1023) * 4503599627370496) = (B : Int)) (hm : isnan (fmul 4368491638549381120 B) = false) :
    Calls Try.prog 83 #[.float .f64 x, .int .i64 p] w fun e w' => e = .returned (.float .f64 (fmul 4368491638549381120 B)) ∧ Below w.heap.size w w' := by
  go_enter Try.func83, Try.ntmps83
  go_wp2_with fail
  refine (HI.out _).mono ?_
  rintro e w' ⟨rfl, rfl⟩
  go_wp2_with fail
  refine (HN.out _).mono ?_
  rintro e w' ⟨rfl, rfl⟩
  go_wp2_with fail
  refine (HM.out _).mono ?_
  rintro e w1 ⟨rfl, hb1⟩
  have HR := Lib.hid (fun s => raw_of_not hm s)
  clear hm
  go_wp2_with (first | (refine wpList_flt rfl rfl rfl rfl rfl ?_; intro K hK _ _; go_frame; refine hK _ _ ?_; clear hK K))
  go_ret
  exact ⟨by rw [HR.out]; rfl, below_drewN _ hb1⟩

set_option maxHeartbeats 4000000 in
theorem ldexp_low (x Y E A : Nat) (p q k : Int) (hz : feq x 0 = false) (HI : Hid (∀ W, Calls Try.prog 76 #[.float .f64 x, .int .i64 0] W fun e w' => e = .returned (.bool false) ∧ W = w'))
    (HN : Hid (∀ W, Calls Try.prog 75 #[.float .f64 x] W fun e w' => e = .returned (.bool false) ∧ W = w'))
    (HM : Hid (∀ W, Calls Try.prog 106 #[.float .f64 x] W fun e w' => e = .returned (.tuple #[.float .f64 Y, .int .i64 q]) ∧ Below W.heap.size W w'))
    (hY : Y < 18446744073709551616) (b1 : bits .and .i64 ((Y : Int) / 4503599627370496) 2047 = (E : Int)) (b2 : bits .andNot .u64 (Y : Int) 9218868437227405312 = (A : Int))
    (hE1 : 1 ≤ E) (hE2 : E ≤ 2046) (hq1 : -52 ≤ q) (hq2 : q ≤ 0) (hp1 : -5000 ≤ p) (hp2 : p ≤ 5000) (hA : A < 18446744073709551616) (w : World)
    (hk : p + q + (E - 1023) = k) (h1 : k < -1075) :
    Calls Try.prog 83 #[.float .f64 x, .int .i64 p] w fun e w' => e = .returned (.float .f64 (Y / 9223372036854775808 * 9223372036854775808)) ∧ Below w.heap.size w w' := by
  go_enter Try.func83, Try.ntmps83
  go_wp2_with fail
  refine (HI.out _).mono ?_
  rintro e w' ⟨rfl, rfl⟩
  go_wp2_with fail
  refine (HN.out _).mono ?_
  rintro e w' ⟨rfl, rfl⟩
  go_wp2_with fail
  refine (HM.out _).mono ?_
  rintro e w1 ⟨rfl, hb1⟩
  have HC := Lib.hid (fun W => Copysign_zero Y hY W)
  go_wp2_with fail
  refine (HC.out _).mono ?_
  rintro e w' ⟨rfl, rfl⟩
  go_wp2_with fail
  go_ret
  exact ⟨rfl, hb1⟩

set_option maxHeartbeats 4000000 in
theorem ldexp_neg (x Y E A : Nat) (p q k : Int) (hz : feq x 0 = false) (HI : Hid (∀ W, Calls Try.prog 76 #[.float .f64 x, .int .i64 0] W fun e w' => e = .returned (.bool false) ∧ W = w'))
    (HN : Hid (∀ W, Calls Try.prog 75 #[.float .f64 x] W fun e w' => e = .returned (.bool false) ∧ W = w'))
    (HM : Hid (∀ W, Calls Try.prog 106 #[.float .f64 x] W fun e w' => e = .returned (.tuple #[.float .f64 Y, .int .i64 q]) ∧ Below W.heap.size W w'))
    (hY : Y < 18446744073709551616) (b1 : bits .and .i64 ((Y : Int) / 4503599627370496) 2047 = (E : Int)) (b2 : bits .andNot .u64 (Y : Int) 9218868437227405312 = (A : Int))
    (hE1 : 1 ≤ E) (hE2 : E ≤ 2046) (hq1 : -52 ≤ q) (hq2 : q ≤ 0) (hp1 : -5000 ≤ p) (hp2 : p ≤ 5000) (hA : A < 18446744073709551616) (w : World)
    (hk : p + q + (E - 1023) = k) (h1 : 1023 < k) (hs : flt Y 0 = true) :
    Calls Try.prog 83 #[.float .f64 x, .int .i64 p] w fun e w' => e = .returned (.float .f64 18442240474082181120) ∧ Below w.heap.size w w' := by
  go_enter Try.func83, Try.ntmps83
  go_wp2_with fail
  refine (HI.out _).mono ?_
  rintro e w' ⟨rfl, rfl⟩
  go_wp2_with fail
  refine (HN.out _).mono ?_
  rintro e w' ⟨rfl, rfl⟩
  go_wp2_with fail
  refine (HM.out _).mono ?_
  rintro e w1 ⟨rfl, hb1⟩
  go_wp2_with fail
  refine (Inf_neg _).mono ?_
  rintro e w' ⟨rfl, rfl⟩
  go_wp2_with fail
  go_ret
  exact ⟨rfl, hb1⟩

set_option maxHeartbeats 4000000 in
theorem ldexp_pos (x Y E A : Nat) (p q k : Int) (hz : feq x 0 = false) (HI : Hid (∀ W, Calls Try.prog 76 #[.float .f64 x, .int .i64 0] W fun e w' => e = .returned (.bool false) ∧ W = w'))
    (HN : Hid (∀ W, Calls Try.prog 75 #[.float .f64 x] W fun e w' => e = .returned (.bool false) ∧ W = w'))
    (HM : Hid (∀ W, Calls Try.prog 106 #[.float .f64 x] W fun e w' => e = .returned (.tuple #[.float .f64 Y, .int .i64 q]) ∧ Below W.heap.size W w'))
    (hY : Y < 18446744073709551616) (b1 : bits .and .i64 ((Y : Int) / 4503599627370496) 2047 = (E : Int)) (b2 : bits .andNot .u64 (Y : Int) 9218868437227405312 = (A : Int))
    (hE1 : 1 ≤ E) (hE2 : E ≤ 2046) (hq1 : -52 ≤ q) (hq2 : q ≤ 0) (hp1 : -5000 ≤ p) (hp2 : p ≤ 5000) (hA : A < 18446744073709551616) (w : World)
    (hk : p + q + (E - 1023) = k) (h1 : 1023 < k) (hs : flt Y 0 = false) :
    Calls Try.prog 83 #[.float .f64 x, .int .i64 p] w fun e w' => e = .returned (.float .f64 9218868437227405312) ∧ Below w.heap.size w w' := by
  go_enter Try.func83, Try.ntmps83
  go_wp2_with fail
  refine (HI.out _).mono ?_
  rintro e w' ⟨rfl, rfl⟩
  go_wp2_with fail
  refine (HN.out _).mono ?_
  rintro e w' ⟨rfl, rfl⟩
  go_wp2_with fail
  refine (HM.out _).mono ?_
  rintro e w1 ⟨rfl, hb1⟩
  go_wp2_with fail
  refine (Inf_pos _).mono ?_
  rintro e w' ⟨rfl, rfl⟩
  go_wp2_with fail
  go_ret
  exact ⟨rfl, hb1⟩

theorem timesW_fin {x : Nat} {p : Int} (hf : x % 9223372036854775808 < 9218868437227405312) (h0 : 0 < x % 9223372036854775808) : timesW x p = Ieee.double.word (fsgn x) (roundR (sigR (x % 9223372036854775808)) (expR (x % 9223372036854775808) + p)) := by
  unfold timesW timesW.ffinW
  rw [decide_eq_true hf, if_neg (by rintro (h | h); cases h; omega)]
theorem mul_norm {s m E c B : Nat} {k : Int} (hB : B = 2 ^ 52) (hc : Ieee.double.read c = .number false B (k - 52)) (hs : s < 2) (hm1 : 4503599627370496 ≤ m) (hm2 : m < 9007199254740992) (hE : 1 ≤ E) (hE2 : E ≤ 2046) :
    fmul c (s * 9223372036854775808 + (E * 4503599627370496 + (m - 4503599627370496))) = s * 9223372036854775808 + roundR m (E + k) := by
  have hr : (s * 9223372036854775808 + (E * 4503599627370496 + (m - 4503599627370496))) % 9223372036854775808 = E * 4503599627370496 + (m - 4503599627370496) := by omega
  have hd : (s * 9223372036854775808 + (E * 4503599627370496 + (m - 4503599627370496))) / 9223372036854775808 = s := by omega
  have hn := norm_sig hm1 hm2 hE hE2
  rw [mul_pow_l hB hc (by rw [hr]; omega) (by rw [hr]; omega), word_sgn (by omega), hd, hr, hn.1, hn.2]
theorem flt_zero {x : Nat} (hn : isnan x = false) : flt x 0 = decide (x / 9223372036854775808 % 2 = 1 ∧ 0 < x % 9223372036854775808) := by
  rw [flt_key hn (by kernel_rfl), show fkey 0 = 0 from by decide, Bool.eq_iff_iff]
  unfold fkey
  simp only [decide_eq_true_eq]
  split <;> omega
theorem ldexp_fin (x : Nat) (p : Int) (hx : x < 18446744073709551616) (hf : x % 9223372036854775808 < 9218868437227405312) (h0 : 0 < x % 9223372036854775808) (hp1 : -5000 ≤ p) (hp2 : p ≤ 5000) (w : World) :
    Calls Try.prog 83 #[.float .f64 x, .int .i64 p] w fun e w' => e = .returned (.float .f64 (timesW x p)) ∧ Below w.heap.size w w' := by
  have hn := isnan_fin hf
  have hz := feq_zero hn
  rw [decide_eq_false (by omega)] at hz
  have HI := fun W => IsInf0_any x hx W
  rw [decide_eq_false (by omega)] at HI
  have HN := fun W => IsNaN_any x W
  rw [hn] at HN
  have HM := fun W => normalize_any x hx hf h0 W
  obtain ⟨p1, p2, p3, p4⟩ := nY_parts hx hf h0
  have hb := sig_bnd h0
  have hE := nE_bnd h0 hf
  have b1 := i64_and_2047 (nY x / 4503599627370496) (by omega)
  rw [Int.natCast_ediv] at b1
  have b2 := andNot_exp p1
  rw [p2] at b1
  rw [p3, p4] at b2
  rw [timesW_fin hf h0, word_sgn hx, hE.2.2.1]
  have hs : x / 9223372036854775808 < 2 := by omega
  have hY : nY x = x / 9223372036854775808 * 9223372036854775808 + (nE (x % 9223372036854775808) * 4503599627370496 + (sigR (x % 9223372036854775808) - 4503599627370496)) := rfl
  generalize nY x = Y at *
  obtain ⟨hE1, hE2, _, hE4⟩ := hE
  generalize nE (x % 9223372036854775808) = E at *
  generalize ne (x % 9223372036854775808) = q at *
  generalize sigR (x % 9223372036854775808) = m at *
  generalize x / 9223372036854775808 = s at *
  have hk : p + q + ((E : Int) - 1023) = (E : Int) + q + p - 1023 := by omega
  have hql : -52 ≤ q := by omega
  have hqh : q ≤ 0 := by omega
  clear hE4
  by_cases c1 : (E : Int) + q + p - 1023 < -1075
  · have := ldexp_low x Y E _ p q _ hz (Lib.hid HI) (Lib.hid HN) (Lib.hid HM) p1 b1 b2 hE1 hE2 hql hqh hp1 hp2 (by omega) w hk c1
    rw [p3] at this
    rw [show roundR m ((E : Int) + q + p) = 0 by unfold roundR; rw [if_neg (by omega), if_neg (by omega), if_pos (by omega)], Nat.add_zero]
    exact this
  · by_cases c2 : 1023 < (E : Int) + q + p - 1023
    · rw [show roundR m ((E : Int) + q + p) = 9218868437227405312 by unfold roundR; rw [if_pos (by omega)]]
      have hYn : isnan Y = false := isnan_fin (by rw [hY]; omega)
      have hl := flt_zero hYn
      rw [p3] at hl
      by_cases hs1 : s = 1
      · subst hs1
        rw [decide_eq_true (by omega)] at hl
        exact ldexp_neg x Y E _ p q _ hz (Lib.hid HI) (Lib.hid HN) (Lib.hid HM) p1 b1 b2 hE1 hE2 hql hqh hp1 hp2 (by omega) w hk c2 hl
      · obtain rfl : s = 0 := by omega
        rw [decide_eq_false (by omega)] at hl
        exact ldexp_pos x Y E _ p q _ hz (Lib.hid HI) (Lib.hid HN) (Lib.hid HM) p1 b1 b2 hE1 hE2 hql hqh hp1 hp2 (by omega) w hk c2 hl
    · by_cases c3 : (E : Int) + q + p - 1023 < -1022
      · obtain ⟨F, hF⟩ : ∃ F : Nat, (F : Int) = (E : Int) + q + p - 1023 + 53 + 1023 := ⟨((E : Int) + q + p - 1023 + 53 + 1023).toNat, by omega⟩
        have b3 := or_exp (s := s) (f := m - 4503599627370496) (E := F) hs (by omega) (by omega)
        rw [Int.natCast_mul, hF] at b3
        have hmul := mul_norm (k := -53) (B := 2 ^ 52) (c := 4368491638549381120) rfl (by decide) hs hb.1 hb.2 (E := F) (by omega) (by omega)
        rw [show (F : Int) + -53 = (E : Int) + q + p by omega] at hmul
        have hnn : isnan (s * 9223372036854775808 + roundR m ((E : Int) + q + p)) = false := by
          have := roundR_le m ((E : Int) + q + p) hb.2
          unfold isnan
          rw [decide_eq_false_iff_not]
          omega
        rw [← hmul] at hnn ⊢
        exact ldexp_den x Y E _ _ p q _ hz (Lib.hid HI) (Lib.hid HN) (Lib.hid HM) p1 b1 b2 hE1 hE2 hql hqh hp1 hp2 (by omega) w hk (by omega) (by omega) c3 b3 hnn
      · obtain ⟨F, hF⟩ : ∃ F : Nat, (F : Int) = (E : Int) + q + p - 1023 + 1023 := ⟨((E : Int) + q + p - 1023 + 1023).toNat, by omega⟩
        have b3 := or_exp (s := s) (f := m - 4503599627370496) (E := F) hs (by omega) (by omega)
        rw [Int.natCast_mul, hF] at b3
        have hmul := mul_norm (k := 0) (B := 2 ^ 52) (c := 4607182418800017408) rfl (by decide) hs hb.1 hb.2 (E := F) (by omega) (by omega)
        rw [show (F : Int) + 0 = (E : Int) + q + p by omega] at hmul
        have hnn : isnan (s * 9223372036854775808 + roundR m ((E : Int) + q + p)) = false := by
          have := roundR_le m ((E : Int) + q + p) hb.2
          unfold isnan
          rw [decide_eq_false_iff_not]
          omega
        rw [← hmul] at hnn ⊢
        exact ldexp_norm x Y E _ _ p q _ hz (Lib.hid HI) (Lib.hid HN) (Lib.hid HM) p1 b1 b2 hE1 hE2 hql hqh hp1 hp2 (by omega) w hk (by omega) (by omega) (by omega) b3 hnn
end Go.Proofs.Ytdljnhdhigbefaa
