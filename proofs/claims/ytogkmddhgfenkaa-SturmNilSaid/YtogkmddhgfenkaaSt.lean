/- Package sturm: places of floats, floats of places; what is asked first. -/
import Derived.Test.YtogkmddhgfenkaaChecked
import Derived.Test.YtogkmddhgfenkaaMath
namespace Go.Proofs.Ytogkmddhgfenkaa
open Go Go.RowKit
set_option maxRecDepth 100000

/-- A float's place. -/
def plN (x : Nat) : Int := if isnan x then 0 else fkey x
/-- A place's float. -/
def atN (p : Int) : Nat := if 9218868437227405312 < p then 9221120237041090561 else if p < -9218868437227405312 then 9221120237041090561 else if p < 0 then (-p).toNat + 9223372036854775808 else p.toNat

theorem bits_hi {x : Nat} (hx : x < 18446744073709551616) : fkey x = if x < 9223372036854775808 then (x : Int) else -((x - 9223372036854775808 : Nat) : Int) := by
  unfold fkey
  by_cases h : x < 9223372036854775808
  · rw [if_pos h, if_neg (by omega), Nat.mod_eq_of_lt h]
  · have e : x % 9223372036854775808 = x - 9223372036854775808 := by omega
    rw [if_neg h, if_pos (by omega), e]
theorem fabs_hi {x : Nat} (hx : x < 18446744073709551616) (h : ¬x < 9223372036854775808) : fabs x = x - 9223372036854775808 := by unfold fabs; omega
theorem pl_num {x : Nat} (hx : x < 18446744073709551616) (h : isnan x = false) : plN x = if x < 9223372036854775808 then (x : Int) else -((x - 9223372036854775808 : Nat) : Int) := by unfold plN; rw [h]; exact bits_hi hx

set_option maxHeartbeats 1000000 in
theorem Place_any (x : Nat) (hx : x < 18446744073709551616) (w : World) : Calls Try.prog 46 #[.float .f64 x] w fun e w' => e = .returned (.int .i64 (plN x)) ∧ w = w' := by
  cases hn : isnan x
  · have h1 : feq x x = true := by rw [feq_self, hn]; rfl
    rw [pl_num hx hn]
    clear hn
    by_cases h : x < 9223372036854775808
    · rw [if_pos h]
      have h2 : ((x : Int) / 9223372036854775808 == 1) = false := by rw [beq_eq_false_iff_ne]; omega
      go_enter Try.func46, Try.ntmps46
      go_wp2
      go_ret
      exact ⟨rfl, rfl⟩
    · rw [if_neg h]
      have he := bits_clear hx
      have hf := fabs_hi hx h
      have h2 : ((x : Int) / 9223372036854775808 == 1) = true := by rw [beq_iff_eq]; omega
      go_enter Try.func46, Try.ntmps46
      go_wp2
      have e1 : wrap64 (-wrap64 ((x - 9223372036854775808 : Nat) : Int)) = -((x - 9223372036854775808 : Nat) : Int) := by unfold wrap64; omega
      (try rw [hf])
      (try rw [e1])
      go_ret
      exact ⟨rfl, rfl⟩
  · have h1 : feq x x = false := by rw [feq_self, hn]; rfl
    have e0 : plN x = 0 := by unfold plN; rw [hn]; rfl
    rw [e0]
    clear e0 hn
    go_enter Try.func46, Try.ntmps46
    go_wp2
    go_ret
    exact ⟨rfl, rfl⟩

set_option maxHeartbeats 1000000 in
theorem RPlace_any (x : Nat) (hx : x < 18446744073709551616) (w : World) : Calls Try.prog 85 #[.float .f64 x] w fun e w' => e = .returned (.int .i64 (plN x)) ∧ w = w' := by
  have HN := Lib.hid (fun w => IsNaN_any x w)
  cases hn : isnan x
  · rw [hn] at HN
    rw [pl_num hx hn]
    clear hn
    by_cases h : x < 9223372036854775808
    · rw [if_pos h]
      have h2 : decide ((9223372036854775808 : Int) ≤ (x : Int)) = false := by simp; omega
      go_enter Try.func85, Try.ntmps85
      go_wp2_with (go_at_call 78; refine (HN.out _).mono ?_; rintro e w' ⟨rfl, rfl⟩)
      go_ret
      exact ⟨rfl, rfl⟩
    · have e1 : ((x - 9223372036854775808 : Nat) : Int) = (x : Int) - 9223372036854775808 := by omega
      rw [if_neg h, e1]
      have h2 : decide ((9223372036854775808 : Int) ≤ (x : Int)) = true := by simp; omega
      clear e1
      go_enter Try.func85, Try.ntmps85
      go_wp2_with (go_at_call 78; refine (HN.out _).mono ?_; rintro e w' ⟨rfl, rfl⟩)
      go_ret
      exact ⟨rfl, rfl⟩
  · rw [hn] at HN
    have e0 : plN x = 0 := by unfold plN; rw [hn]; rfl
    rw [e0]
    clear e0 hn
    go_enter Try.func85, Try.ntmps85
    go_wp2_with (go_at_call 78; refine (HN.out _).mono ?_; rintro e w' ⟨rfl, rfl⟩)
    go_ret
    exact ⟨rfl, rfl⟩

theorem NaN_any (w : World) : Calls Try.prog 61 #[] w fun e w' => e = .returned (.float .f64 9221120237041090561) ∧ w = w' := by
  go_enter Try.func61, Try.ntmps61
  go_wp2
  go_ret
  exact ⟨rfl, rfl⟩
theorem or_sign {n : Nat} (h : n < 9223372036854775808) : bits .or .u64 (n : Int) 9223372036854775808 = ((n + 9223372036854775808 : Nat) : Int) := by
  rw [show (9223372036854775808 : Int) = ((2 ^ 63 : Nat) : Int) from by decide, u64_or_nat n _ (by omega) (by decide)]
  congr 1
  rw [Nat.or_comm, show (2 ^ 63 : Nat) = 2 ^ 63 * 1 from rfl, ← Nat.two_pow_add_eq_or_of_lt (by simpa using h)]
  omega
theorem at_nan {p : Int} (h : 9218868437227405312 < p ∨ p < -9218868437227405312) : atN p = 9221120237041090561 := by
  unfold atN
  by_cases h1 : 9218868437227405312 < p
  · rw [if_pos h1]
  · rw [if_neg h1, if_pos (h.resolve_left h1)]
theorem at_pos {n : Nat} (h : n ≤ 9218868437227405312) : atN (n : Int) = n := by
  unfold atN
  rw [if_neg (by omega), if_neg (by omega), if_neg (by omega), Int.toNat_natCast]
theorem at_neg {n : Nat} (h : n ≤ 9218868437227405312) (h0 : 0 < n) : atN (-(n : Int)) = n + 9223372036854775808 := by
  unfold atN
  rw [if_neg (by omega), if_neg (by omega), if_pos (by omega), Int.neg_neg, Int.toNat_natCast]
theorem at_case (p : Int) : (9218868437227405312 < p ∨ p < -9218868437227405312) ∨ (∃ n : Nat, p = n ∧ n ≤ 9218868437227405312) ∨ ∃ n : Nat, p = -(n : Int) ∧ n ≤ 9218868437227405312 ∧ 0 < n := by
  by_cases h : 9218868437227405312 < p ∨ p < -9218868437227405312
  · exact .inl h
  · by_cases h1 : 0 ≤ p
    · exact .inr (.inl ⟨p.toNat, by omega, by omega⟩)
    · exact .inr (.inr ⟨(-p).toNat, by omega, by omega, by omega⟩)
set_option maxHeartbeats 4000000 in
theorem At13_hi (p : Int) (w : World) (h1 : decide (9218868437227405312 < p) = true) : Calls Try.prog 45 #[.int .i64 p] w fun e w' => e = .returned (.float .f64 9221120237041090561) ∧ w = w' := by
  go_enter Try.func45, Try.ntmps45
  go_wp2_with (go_at_call 61; refine (NaN_any _).mono ?_; rintro e w' ⟨rfl, rfl⟩)
  go_ret
  exact ⟨rfl, rfl⟩
set_option maxHeartbeats 4000000 in
theorem At13_lo (p : Int) (w : World) (h1 : decide (9218868437227405312 < p) = false) (h2 : decide (p < -9218868437227405312) = true) : Calls Try.prog 45 #[.int .i64 p] w fun e w' => e = .returned (.float .f64 9221120237041090561) ∧ w = w' := by
  go_enter Try.func45, Try.ntmps45
  go_wp2_with (go_at_call 61; refine (NaN_any _).mono ?_; rintro e w' ⟨rfl, rfl⟩)
  go_ret
  exact ⟨rfl, rfl⟩
set_option maxHeartbeats 4000000 in
theorem At13_pos (n : Nat) (w : World) (h : n ≤ 9218868437227405312) : Calls Try.prog 45 #[.int .i64 n] w fun e w' => e = .returned (.float .f64 n) ∧ w = w' := by
  have h1 : decide ((9218868437227405312 : Int) < (n : Int)) = false := by rw [decide_eq_false_iff_not]; omega
  have h2 : decide ((n : Int) < (-9218868437227405312 : Int)) = false := by rw [decide_eq_false_iff_not]; omega
  have h3 : decide ((n : Int) < (0 : Int)) = false := by rw [decide_eq_false_iff_not]; omega
  have h4 : n < 18446744073709551616 := by omega
  clear h
  go_enter Try.func45, Try.ntmps45
  go_wp2_with fail
  go_ret
  exact ⟨rfl, rfl⟩
set_option maxHeartbeats 4000000 in
theorem At13_neg (p : Int) (n : Nat) (w : World) (hp : -p = (n : Int)) (h : n ≤ 9218868437227405312) (h0 : 0 < n) : Calls Try.prog 45 #[.int .i64 p] w fun e w' => e = .returned (.float .f64 (n + 9223372036854775808)) ∧ w = w' := by
  have h1 : decide ((9218868437227405312 : Int) < p) = false := by rw [decide_eq_false_iff_not]; omega
  have h2 : decide (p < (-9218868437227405312 : Int)) = false := by rw [decide_eq_false_iff_not]; omega
  have h3 : decide (p < (0 : Int)) = true := by rw [decide_eq_true_iff]; omega
  have h4 : n < 9223372036854775808 := by omega
  have h5 := or_sign h4
  have h6 : wrap64 (n : Int) = (n : Int) := by unfold wrap64; omega
  clear h h0
  go_enter Try.func45, Try.ntmps45
  go_wp2_with fail
  go_ret
  exact ⟨rfl, rfl⟩
theorem At13_any (p : Int) (w : World) : Calls Try.prog 45 #[.int .i64 p] w fun e w' => e = .returned (.float .f64 (atN p)) ∧ w = w' := by
  rcases at_case p with h | ⟨n, rfl, h⟩ | ⟨n, rfl, h, h0⟩
  · rw [at_nan h]
    by_cases h1 : 9218868437227405312 < p
    · exact At13_hi p w (decide_eq_true h1)
    · exact At13_lo p w (decide_eq_false h1) (decide_eq_true (h.resolve_left h1))
  · rw [at_pos h]
    exact At13_pos n w h
  · rw [at_neg h h0]
    exact At13_neg _ n w (Int.neg_neg _) h h0
set_option maxHeartbeats 4000000 in
theorem RAt13_hi (p : Int) (w : World) (h1 : decide (9218868437227405312 < p) = true) : Calls Try.prog 86 #[.int .i64 p] w fun e w' => e = .returned (.float .f64 9221120237041090561) ∧ w = w' := by
  go_enter Try.func86, Try.ntmps86
  go_wp2_with (go_at_call 61; refine (NaN_any _).mono ?_; rintro e w' ⟨rfl, rfl⟩)
  go_ret
  exact ⟨rfl, rfl⟩
set_option maxHeartbeats 4000000 in
theorem RAt13_lo (p : Int) (w : World) (h1 : decide (9218868437227405312 < p) = false) (h2 : decide (p < -9218868437227405312) = true) : Calls Try.prog 86 #[.int .i64 p] w fun e w' => e = .returned (.float .f64 9221120237041090561) ∧ w = w' := by
  go_enter Try.func86, Try.ntmps86
  go_wp2_with (go_at_call 61; refine (NaN_any _).mono ?_; rintro e w' ⟨rfl, rfl⟩)
  go_ret
  exact ⟨rfl, rfl⟩
set_option maxHeartbeats 4000000 in
theorem RAt13_pos (n : Nat) (w : World) (h : n ≤ 9218868437227405312) : Calls Try.prog 86 #[.int .i64 n] w fun e w' => e = .returned (.float .f64 n) ∧ w = w' := by
  have h1 : decide ((9218868437227405312 : Int) < (n : Int)) = false := by rw [decide_eq_false_iff_not]; omega
  have h2 : decide ((n : Int) < (-9218868437227405312 : Int)) = false := by rw [decide_eq_false_iff_not]; omega
  have h3 : decide ((n : Int) < (0 : Int)) = false := by rw [decide_eq_false_iff_not]; omega
  have h4 : n < 18446744073709551616 := by omega
  clear h
  go_enter Try.func86, Try.ntmps86
  go_wp2_with fail
  go_ret
  exact ⟨rfl, rfl⟩
set_option maxHeartbeats 4000000 in
theorem RAt13_neg (p : Int) (n : Nat) (w : World) (hp : -p = (n : Int)) (h : n ≤ 9218868437227405312) (h0 : 0 < n) : Calls Try.prog 86 #[.int .i64 p] w fun e w' => e = .returned (.float .f64 (n + 9223372036854775808)) ∧ w = w' := by
  have h1 : decide ((9218868437227405312 : Int) < p) = false := by rw [decide_eq_false_iff_not]; omega
  have h2 : decide (p < (-9218868437227405312 : Int)) = false := by rw [decide_eq_false_iff_not]; omega
  have h3 : decide (p < (0 : Int)) = true := by rw [decide_eq_true_iff]; omega
  have h4 : n < 9223372036854775808 := by omega
  have h6 : wrap64 (n : Int) = (n : Int) := by unfold wrap64; omega
  clear h h0
  go_enter Try.func86, Try.ntmps86
  go_wp2_with fail
  go_ret
  exact ⟨rfl, rfl⟩
theorem RAt13_any (p : Int) (w : World) : Calls Try.prog 86 #[.int .i64 p] w fun e w' => e = .returned (.float .f64 (atN p)) ∧ w = w' := by
  rcases at_case p with h | ⟨n, rfl, h⟩ | ⟨n, rfl, h, h0⟩
  · rw [at_nan h]
    by_cases h1 : 9218868437227405312 < p
    · exact RAt13_hi p w (decide_eq_true h1)
    · exact RAt13_lo p w (decide_eq_false h1) (decide_eq_true (h.resolve_left h1))
  · rw [at_pos h]
    exact RAt13_pos n w h
  · rw [at_neg h h0]
    exact RAt13_neg _ n w (Int.neg_neg _) h h0
end Go.Proofs.Ytogkmddhgfenkaa
