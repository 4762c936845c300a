/- Package math: normalize, Frexp, Ldexp, as plain functions of the words. -/
import Derived.Test.YtogkmddhgfenkaaGm
import Derived.Test.YtogkmddhgfenkaaSt
namespace Go.Proofs.Ytogkmddhgfenkaa
open Go Go.RowKit
set_option maxRecDepth 100000
theorem isnan_wordR (neg : Bool) {r : Nat} (h : r ≤ 9218868437227405312) : isnan (Ieee.double.word neg r) = false := word_mod neg r h
theorem fkey_abs {x : Nat} : fkey (fabs x) = ((x % 9223372036854775808 : Nat) : Int) := by
  have hx : x % 9223372036854775808 < 9223372036854775808 := Nat.mod_lt _ (by decide)
  unfold fkey fabs
  rw [Nat.mod_mod, Nat.div_eq_of_lt hx, if_neg (by decide)]
theorem isnan_fin {x : Nat} (hf : x % 9223372036854775808 < 9218868437227405312) : isnan x = false := by unfold isnan; rw [decide_eq_false_iff_not]; omega
/-- The sign's part of a word, the exponent when normal, the power that was taken off. -/
def nE (r : Nat) : Nat := if r < 4503599627370496 then r.log2 + 1 else r / 4503599627370496
def nY (x : Nat) : Nat := x / 9223372036854775808 * 9223372036854775808 + (nE (x % 9223372036854775808) * 4503599627370496 + (sigR (x % 9223372036854775808) - 4503599627370496))
def ne (r : Nat) : Int := if r < 4503599627370496 then -52 else 0
theorem nE_bnd {r : Nat} (h0 : 0 < r) (h : r < 9218868437227405312) : 1 ≤ nE r ∧ nE r ≤ 2046 ∧ expR r = (nE r : Int) + ne r ∧ (ne r = 0 ∨ ne r = -52) := by
  unfold nE expR ne
  by_cases h1 : r < 4503599627370496
  · have := log2_lt52 h1 h0
    rw [if_pos h1, if_pos h1, if_pos h1]
    exact ⟨by omega, by omega, by omega, .inr rfl⟩
  · rw [if_neg h1, if_neg h1, if_neg h1]
    exact ⟨by omega, by omega, by omega, .inl rfl⟩
theorem word_sgn {x : Nat} (hx : x < 18446744073709551616) {r : Nat} : Ieee.double.word (fsgn x) r = x / 9223372036854775808 * 9223372036854775808 + r := by
  rw [word_val]
  unfold fsgn
  by_cases h1 : x / 9223372036854775808 = 1
  · rw [h1]; simp
  · have : x / 9223372036854775808 = 0 := by omega
    rw [this]; simp
theorem small_abs {x : Nat} (hf : x % 9223372036854775808 < 9218868437227405312) : flt (fabs x) 4503599627370496 = decide (x % 9223372036854775808 < 4503599627370496) := by
  rw [flt_key (by rw [isnan_fabs]; exact isnan_fin hf) (by kernel_rfl), fkey_abs, show fkey 4503599627370496 = 4503599627370496 from by decide, Bool.eq_iff_iff]
  simp only [decide_eq_true_eq]
  omega
theorem norm_mul {x : Nat} (hx : x < 18446744073709551616) (hf : x % 9223372036854775808 < 4503599627370496) (h0 : 0 < x % 9223372036854775808) : fmul x 4841369599423283200 = nY x ∧ isnan (nY x) = false := by
  have hl := log2_lt52 hf h0
  have hb := sig_bnd h0
  have e := mul_pow_r (k := 52) (B := 2 ^ 52) (c := 4841369599423283200) rfl (by decide) (show x % 9223372036854775808 < 9218868437227405312 by omega) h0
  have e2 : expR (x % 9223372036854775808) + 52 = ((nE (x % 9223372036854775808) : Nat) : Int) := by unfold expR nE; rw [if_pos hf, if_pos hf]; omega
  have hn : nE (x % 9223372036854775808) = (x % 9223372036854775808).log2 + 1 := by unfold nE; rw [if_pos hf]
  rw [e2, word_norm (by omega) (by omega), Int.toNat_natCast, word_sgn hx] at e
  refine ⟨e, ?_⟩
  have e3 : nY x = Ieee.double.word (fsgn x) (nE (x % 9223372036854775808) * 4503599627370496 + (sigR (x % 9223372036854775808) - 4503599627370496)) := by rw [word_sgn hx]; rfl
  rw [e3]
  exact isnan_wordR _ (by omega)
theorem nY_self {x : Nat} (hf : ¬ x % 9223372036854775808 < 4503599627370496) : nY x = x := by
  unfold nY nE sigR
  rw [if_neg hf, if_neg hf]
  omega
set_option maxHeartbeats 2000000 in
theorem normalize_any (x : Nat) (hx : x < 18446744073709551616) (hf : x % 9223372036854775808 < 9218868437227405312) (h0 : 0 < x % 9223372036854775808) (w : World) :
    Calls Try.prog 99 #[.float .f64 x] w fun e w' => e = .returned (.tuple #[.float .f64 (nY x), .int .i64 (ne (x % 9223372036854775808))]) ∧ Below w.heap.size w w' := by
  have HA := Lib.hid (fun W => Abs_any x hx W)
  have hs := small_abs hf
  by_cases h : x % 9223372036854775808 < 4503599627370496
  · rw [decide_eq_true h] at hs
    have HN := Lib.hid (norm_mul hx h h0)
    have HE : Hid (ne (x % 9223372036854775808) = -52) := by unfold Hid ne; rw [if_pos h]
    clear h hf h0
    go_enter Try.func99, Try.ntmps99
    go_wp2_with (first | (go_at_call 75; refine (HA.out _).mono ?_; rintro e w' ⟨rfl, rfl⟩) | (refine wpList_flt rfl rfl rfl rfl rfl ?_; intro K hK _ _; go_frame; refine hK _ _ ?_; clear hK K))
    refine bodyPost_ret (results_tmp2 rfl _ _ _) rfl ⟨?_, below_drewN _ (Below.refl _ _)⟩
    rw [HE.out, HN.out.1, raw_of_not HN.out.2]
    rfl
  · rw [decide_eq_false h] at hs
    have HN := Lib.hid (nY_self h)
    have HE : Hid (ne (x % 9223372036854775808) = 0) := by unfold Hid ne; rw [if_neg h]
    clear h hf h0
    go_enter Try.func99, Try.ntmps99
    go_wp2_with (first | (go_at_call 75; refine (HA.out _).mono ?_; rintro e w' ⟨rfl, rfl⟩) | (refine wpList_flt rfl rfl rfl rfl rfl ?_; intro K hK _ _; go_frame; refine hK _ _ ?_; clear hK K))
    refine bodyPost_ret (results_tmp2 rfl _ _ _) rfl ⟨?_, Below.refl _ _⟩
    rw [HE.out, HN.out]
    rfl
theorem Inf_pos (w : World) : Calls Try.prog 100 #[.int .i64 1] w fun e w' => e = .returned (.float .f64 9218868437227405312) ∧ w = w' := by
  go_enter Try.func100, Try.ntmps100
  go_wp2
  go_ret
  exact ⟨rfl, rfl⟩
theorem Inf_neg (w : World) : Calls Try.prog 100 #[.int .i64 (-1)] w fun e w' => e = .returned (.float .f64 18442240474082181120) ∧ w = w' := by
  go_enter Try.func100, Try.ntmps100
  go_wp2
  go_ret
  exact ⟨rfl, rfl⟩
/-- Nought with a sign. -/
theorem Copysign_zero (x : Nat) (hx : x < 18446744073709551616) (w : World) : Calls Try.prog 72 #[.float .f64 0, .float .f64 x] w fun e w' => e = .returned (.float .f64 (x / 9223372036854775808 * 9223372036854775808)) ∧ w = w' := by
  have e1 : bits .andNot .u64 0 9223372036854775808 = 0 := by kernel_rfl
  have e2 := bits_sign hx
  have e3 : bits .or .u64 0 ((x / 9223372036854775808 * 9223372036854775808 : Nat) : Int) = ((x / 9223372036854775808 * 9223372036854775808 : Nat) : Int) := by
    rw [show (0 : Int) = ((0 : Nat) : Int) from rfl, u64_or_nat 0 _ (by decide) (by omega), Nat.zero_or]
  generalize x / 9223372036854775808 * 9223372036854775808 = s at *
  go_enter Try.func72, Try.ntmps72
  go_wp2
  go_ret
  exact ⟨rfl, rfl⟩
end Go.Proofs.Ytogkmddhgfenkaa
