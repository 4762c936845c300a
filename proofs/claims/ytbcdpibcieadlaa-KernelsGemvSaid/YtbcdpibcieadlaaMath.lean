/- Package math, as far as it is called: what its functions give, as plain functions of the words. -/
import Derived.Test.YtbcdpibcieadlaaChecked
import Derived.Test.YtbcdpibcieadlaaWk
import Derived.Test.YtbcdpibcieadlaaOrd
namespace Go.Proofs.Ytbcdpibcieadlaa
open Go Go.RowKit
set_option maxRecDepth 100000

/-- The size of a word. -/
def fabs (x : Nat) : Nat := x % 9223372036854775808

@[go_sem] theorem call_Float64bits (x : Nat) (w : World) : (callFunc 105 #[.float .f64 x]).run Try.prog w = .ok (.value (.int .u64 x)) w := by kernel_rfl
@[go_sem] theorem call_Float64frombits (n : Int) (w : World) : (callFunc 104 #[.int .u64 n]).run Try.prog w = .ok (.value (.float .f64 n.toNat)) w := by kernel_rfl
theorem fabs_lt (x : Nat) : fabs x < 9223372036854775808 := Nat.mod_lt _ (by decide)
theorem isnan_fabs (x : Nat) : isnan (fabs x) = isnan x := by
  unfold isnan fabs
  rw [Nat.mod_mod]
attribute [irreducible] fabs
theorem bits_clear {x : Nat} (hx : x < 18446744073709551616) : bits .andNot .u64 (x : Int) 9223372036854775808 = ((fabs x : Nat) : Int) := by
  rw [show (9223372036854775808 : Int) = ((9223372036854775808 : Nat) : Int) from rfl, u64_andNot_nat x _ hx (by decide)]
  unfold fabs
  rw [show (18446744073709551615 - 9223372036854775808 : Nat) = 2 ^ 63 - 1 from by decide, Nat.and_two_pow_sub_one_eq_mod]
theorem bits_sign {x : Nat} (hx : x < 18446744073709551616) : bits .and .u64 (x : Int) 9223372036854775808 = ((x / 9223372036854775808 * 9223372036854775808 : Nat) : Int) := by
  rw [show (9223372036854775808 : Int) = ((2 ^ 63 : Nat) : Int) from by decide, u64_and_nat x _ hx (by decide), nat_bit]
  rw [show (2 ^ 63 : Nat) = 9223372036854775808 from by decide, Nat.mod_eq_of_lt (show x / 9223372036854775808 < 2 by omega)]
/-- The size of a float whose NaN's bits are any. -/
theorem fabs_raw (v s : Nat) : ∃ t, fabs (raw v s) = raw (fabs v) t := by
  cases h : isnan v
  · exact ⟨0, by rw [raw_of_not h, raw_of_not (by rw [isnan_fabs]; exact h)]⟩
  · refine ⟨s / 2 * 2, ?_⟩
    unfold raw
    rw [isnan_fabs, h]
    simp only [if_true]
    unfold fabs nanW
    have hb : (s / 2) % 4503599627370495 < 4503599627370495 := Nat.mod_lt _ (by decide)
    have e1 : s / 2 * 2 % 2 = 0 := by omega
    have e2 : s / 2 * 2 / 2 = s / 2 := by omega
    rw [e1, e2]
    have ha : s % 2 < 2 := Nat.mod_lt _ (by decide)
    generalize s % 2 = a at *
    generalize (s / 2) % 4503599627370495 = b at *
    omega
/-- Is it neither an infinity nor a NaN? -/
def ffin (x : Nat) : Bool := decide (x % 9223372036854775808 < 9218868437227405312)
theorem ffin_raw (v s : Nat) : ffin (raw v s) = ffin v := by
  unfold ffin raw
  cases h : isnan v
  · simp
  · simp only [if_true]
    have h1 := isnan_nanW s
    unfold isnan at h h1
    simp only [decide_eq_true_eq] at h h1
    rw [Bool.eq_iff_iff]
    simp only [decide_eq_true_eq]
    omega

set_option maxHeartbeats 400000 in
theorem Abs_any (x : Nat) (hx : x < 18446744073709551616) (w : World) : Calls Try.prog 67 #[.float .f64 x] w fun e w' => e = .returned (.float .f64 (fabs x)) ∧ w = w' := by
  have he := bits_clear hx
  go_enter Try.func67, Try.ntmps67
  go_wp2
  go_ret
  exact ⟨rfl, rfl⟩

theorem infinite_eq (x : Nat) : (isnan x || decide (x % 9223372036854775808 = 9218868437227405312)) = !ffin x := by
  unfold isnan ffin
  rw [Bool.eq_iff_iff]
  simp
  omega

/-- All are words of 64 bits. -/
def Words (zs : List Nat) : Prop := ∀ v ∈ zs, v < 18446744073709551616
theorem Words.at {zs : List Nat} (h : Words zs) (k : Nat) : zs.getD k 0 < 18446744073709551616 := by
  by_cases hk : k < zs.length
  · have : zs.getD k 0 = zs[k] := by simp [hk]
    rw [this]; exact h _ (List.getElem_mem hk)
  · have : zs.getD k 0 = 0 := by simp [Nat.not_lt.1 hk]
    rw [this]; decide

end Go.Proofs.Ytbcdpibcieadlaa
