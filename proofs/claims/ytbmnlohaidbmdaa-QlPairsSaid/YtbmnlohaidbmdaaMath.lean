/- Package math, as far as it is called: what its functions give, as plain functions of the words. -/
import Derived.Test.YtbmnlohaidbmdaaChecked
import Derived.Test.YtbmnlohaidbmdaaWk
import Derived.Test.YtbmnlohaidbmdaaOrd
namespace Go.Proofs.Ytbmnlohaidbmdaa
open Go Go.RowKit
set_option maxRecDepth 100000

/-- The size of a word. -/
def fabs (x : Nat) : Nat := x % 9223372036854775808

@[go_sem] theorem call_Float64bits (x : Nat) (w : World) : (callFunc 32 #[.float .f64 x]).run Try.prog w = .ok (.value (.int .u64 x)) w := by kernel_rfl
@[go_sem] theorem call_Float64frombits (n : Int) (w : World) : (callFunc 41 #[.int .u64 n]).run Try.prog w = .ok (.value (.float .f64 n.toNat)) w := by kernel_rfl
set_option maxHeartbeats 400000 in
theorem IsNaN_any (x : Nat) (w : World) : Calls Try.prog 35 #[.float .f64 x] w fun e w' => e = .returned (.bool (isnan x)) ∧ w = w' := by
  go_enter Try.func35, Try.ntmps35
  go_wp2
  go_ret
  exact ⟨by rw [feq_self]; simp, rfl⟩
theorem fabs_lt (x : Nat) : fabs x < 9223372036854775808 := Nat.mod_lt _ (by decide)
theorem isnan_fabs (x : Nat) : isnan (fabs x) = isnan x := by
  unfold isnan fabs
  rw [Nat.mod_mod]
attribute [irreducible] fabs
theorem bits_clear {x : Nat} (hx : x < 18446744073709551616) : bits .andNot .u64 (x : Int) 9223372036854775808 = ((fabs x : Nat) : Int) := by
  rw [show (9223372036854775808 : Int) = ((9223372036854775808 : Nat) : Int) from rfl, u64_andNot_nat x _ hx (by decide)]
  unfold fabs
  rw [show (18446744073709551615 - 9223372036854775808 : Nat) = 2 ^ 63 - 1 from by decide, Nat.and_two_pow_sub_one_eq_mod]
theorem bits_sign {x : Nat} (hx : x < 18446744073709551616) : bits .and .u64 (x : Int) 9223372036854775808 = ((x / 9223372036854775808 * 9223372036854775808 : Nat) : Int) := by
  rw [show (9223372036854775808 : Int) = ((2 ^ 63 : Nat) : Int) from by decide, u64_and_nat x _ hx (by decide), nat_bit]
  rw [show (2 ^ 63 : Nat) = 9223372036854775808 from by decide, Nat.mod_eq_of_lt (show x / 9223372036854775808 < 2 by omega)]
/-- The size of a float whose NaN's bits are any. -/
theorem fabs_raw (v s : Nat) : ∃ t, fabs (raw v s) = raw (fabs v) t := by
  cases h : isnan v
  · exact ⟨0, by rw [raw_of_not h, raw_of_not (by rw [isnan_fabs]; exact h)]⟩
  · refine ⟨s / 2 * 2, ?_⟩
    unfold raw
    rw [isnan_fabs, h]
    simp only [if_true]
    unfold fabs nanW
    have hb : (s / 2) % 4503599627370495 < 4503599627370495 := Nat.mod_lt _ (by decide)
    have e1 : s / 2 * 2 % 2 = 0 := by omega
    have e2 : s / 2 * 2 / 2 = s / 2 := by omega
    rw [e1, e2]
    have ha : s % 2 < 2 := Nat.mod_lt _ (by decide)
    generalize s % 2 = a at *
    generalize (s / 2) % 4503599627370495 = b at *
    omega
/-- Is it neither an infinity nor a NaN? -/
def ffin (x : Nat) : Bool := decide (x % 9223372036854775808 < 9218868437227405312)
theorem ffin_raw (v s : Nat) : ffin (raw v s) = ffin v := by
  unfold ffin raw
  cases h : isnan v
  · simp
  · simp only [if_true]
    have h1 := isnan_nanW s
    unfold isnan at h h1
    simp only [decide_eq_true_eq] at h h1
    rw [Bool.eq_iff_iff]
    simp only [decide_eq_true_eq]
    omega

set_option maxHeartbeats 400000 in
theorem Abs_any (x : Nat) (hx : x < 18446744073709551616) (w : World) : Calls Try.prog 37 #[.float .f64 x] w fun e w' => e = .returned (.float .f64 (fabs x)) ∧ w = w' := by
  have he := bits_clear hx
  go_enter Try.func37, Try.ntmps37
  go_wp2
  go_ret
  exact ⟨rfl, rfl⟩
/-- The greatest float is below it just if it is an infinity. -/
theorem flt_most (x : Nat) : flt 9218868437227405311 (fabs x) = decide (x % 9223372036854775808 = 9218868437227405312) := by
  have hk : fkey 9218868437227405311 = 9218868437227405311 := by decide
  have hm : isnan 9218868437227405311 = false := by kernel_rfl
  have hx : x % 9223372036854775808 < 9223372036854775808 := Nat.mod_lt _ (by decide)
  cases h : isnan x
  · rw [flt_key hm (by rw [isnan_fabs]; exact h), hk]
    unfold isnan at h
    simp only [decide_eq_false_iff_not, Nat.not_lt] at h
    have e : fkey (fabs x) = ((x % 9223372036854775808 : Nat) : Int) := by
      unfold fkey fabs
      rw [Nat.mod_mod, Nat.div_eq_of_lt hx, if_neg (by decide)]
    rw [e, Bool.eq_iff_iff]
    simp only [decide_eq_true_eq]
    omega
  · rw [flt_nan (.inr (by rw [isnan_fabs]; exact h))]
    unfold isnan at h
    simp only [decide_eq_true_eq] at h
    rw [eq_comm, decide_eq_false_iff_not]
    omega
set_option maxHeartbeats 400000 in
theorem IsInf0_any (x : Nat) (hx : x < 18446744073709551616) (w : World) : Calls Try.prog 36 #[.float .f64 x, .int .i64 0] w fun e w' => e = .returned (.bool (decide (x % 9223372036854775808 = 9218868437227405312))) ∧ w = w' := by
  have he := bits_clear hx
  have hm := flt_most x
  go_enter Try.func36, Try.ntmps36
  go_wp2_with (go_at_call 37; refine (Abs_any x hx _).mono ?_; rintro e w' ⟨rfl, rfl⟩)
  go_ret
  exact ⟨rfl, rfl⟩

theorem infinite_eq (x : Nat) : (isnan x || decide (x % 9223372036854775808 = 9218868437227405312)) = !ffin x := by
  unfold isnan ffin
  rw [Bool.eq_iff_iff]
  simp
  omega

/-- All are words of 64 bits. -/
def Words (zs : List Nat) : Prop := ∀ v ∈ zs, v < 18446744073709551616
theorem Words.at {zs : List Nat} (h : Words zs) (k : Nat) : zs.getD k 0 < 18446744073709551616 := by
  by_cases hk : k < zs.length
  · have : zs.getD k 0 = zs[k] := by simp [hk]
    rw [this]; exact h _ (List.getElem_mem hk)
  · have : zs.getD k 0 = 0 := by simp [Nat.not_lt.1 hk]
    rw [this]; decide

set_option maxHeartbeats 1000000 in
theorem IndexFunc_any (f : FuncId) (p : Nat → Bool) (hp : ∀ (x : Nat) (w : World), x < 18446744073709551616 → Calls Try.prog f #[.float .f64 x] w fun e w' => e = .returned (.bool (p x)) ∧ w = w') (hr : ∀ v s, p (raw v s) = p v) (hcf : ∀ x w, (callFunc f #[.float .f64 x]).run Try.prog w = .ok (.enter f #[.float .f64 x]) w)
    (w : World) (za : Option Addr) (zs : List Nat) (zc : Nat) (hZ : Fls w za zs) (hW : Words zs) (hl : zs.length ≤ maxLen) :
    Calls Try.prog 43 #[.slice za zs.length zc, .func (.func f) #[] #[]] w fun e w' => (∃ r : Int, e = .returned (.int .i64 r) ∧ decide (0 ≤ r) = zs.any p) ∧ w = w' := by
  have hl' := hl
  unfold maxLen at hl'
  have hln : zs.length ≤ 9223372036854775807 := by omega
  go_enter Try.func43, Try.ntmps43
  go_wp2_with fail
  go_loop [8] (fun i => ∃ k : Nat, k ≤ zs.length ∧ i = .int .i64 k ∧ ∀ j, j < k → p (zs.getD j 0) = false) (fun i => zs.length - (intOf i).toNat)
  case atStart => exact ⟨0, Nat.zero_le _, rfl, fun _ h => absurd h (Nat.not_lt_zero _)⟩
  case round =>
    obtain ⟨k, hk, rfl, hno⟩ := hrel
    have HNO := Lib.hid hno
    clear hno
    by_cases hlt : k < zs.length
    · obtain ⟨b, o, s1, rfl, hb, hc1⟩ := hZ.at hlt
      go_wp2_with fail
      have HP := hp (raw (zs.getD k 0) s1) w (raw_lt (hW.at k) s1)
      have e0 : zs.getD k 0 = zs[k] := by simp [hlt]
      rw [e0] at HP
      refine HP.mono ?_
      rintro e w2 ⟨rfl, rfl⟩
      clear HP
      have hr1 := hr zs[k] s1
      cases hpk : p zs[k]
      · rw [hr1, hpk]
        go_wp2
        go_round
        case rel => exact ⟨k + 1, by omega, by go_num, fun j hj => by
          by_cases hjk : j = k
          · subst hjk; rw [e0]; exact hpk
          · exact HNO.out j (by omega)⟩
        case measure => simp [intOf]; omega
      · rw [hr1, hpk]
        go_wp2
        go_ret
        refine ⟨⟨k, rfl, ?_⟩, rfl⟩
        rw [decide_eq_true (by omega), eq_comm, List.any_eq_true]
        exact ⟨zs[k], List.getElem_mem hlt, hpk⟩
    · go_wp2
      go_ret
      refine ⟨⟨-1, rfl, ?_⟩, rfl⟩
      rw [decide_eq_false (by omega), eq_comm, List.any_eq_false]
      intro x hx
      obtain ⟨j, hj, rfl⟩ := List.getElem_of_mem hx
      have := HNO.out j (by omega)
      simp [hj] at this
      simp [this]
set_option maxHeartbeats 1000000 in
theorem ContainsFunc_any (f : FuncId) (p : Nat → Bool) (hp : ∀ (x : Nat) (w : World), x < 18446744073709551616 → Calls Try.prog f #[.float .f64 x] w fun e w' => e = .returned (.bool (p x)) ∧ w = w') (hr : ∀ v s, p (raw v s) = p v) (hcf : ∀ x w, (callFunc f #[.float .f64 x]).run Try.prog w = .ok (.enter f #[.float .f64 x]) w)
    (w : World) (za : Option Addr) (zs : List Nat) (zc : Nat) (hZ : Fls w za zs) (hW : Words zs) (hl : zs.length ≤ maxLen) :
    Calls Try.prog 33 #[.slice za zs.length zc, .func (.func f) #[] #[]] w fun e w' => e = .returned (.bool (zs.any p)) ∧ w = w' := by
  have H := Lib.hid (IndexFunc_any f p hp hr hcf w za zs zc hZ hW hl)
  clear hp hr hcf
  go_enter Try.func33, Try.ntmps33
  go_wp2_with fail
  refine H.out.mono ?_
  rintro e w2 ⟨⟨r, rfl, hr⟩, rfl⟩
  have HR := Lib.hid hr
  clear hr
  go_wp2
  go_ret
  exact ⟨by rw [← HR.out]; rfl, rfl⟩
end Go.Proofs.Ytbmnlohaidbmdaa
