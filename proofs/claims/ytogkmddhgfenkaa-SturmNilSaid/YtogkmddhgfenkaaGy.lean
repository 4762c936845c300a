/- Package math: Frexp, Ldexp, as plain functions of the words. -/
import Derived.Test.YtogkmddhgfenkaaGx
import Derived.Test.YtogkmddhgfenkaaGen
namespace Go.Proofs.Ytogkmddhgfenkaa
open Go Go.RowKit
set_option maxRecDepth 100000
theorem feq_zero {x : Nat} (hn : isnan x = false) : feq x 0 = decide (x % 9223372036854775808 = 0) := by
  rw [feq_key hn (by kernel_rfl), show fkey 0 = 0 from by decide, Bool.eq_iff_iff]
  unfold fkey
  simp only [decide_eq_true_eq]
  split <;> omega
/-- The parts of a word made normal. -/
theorem nY_parts {x : Nat} (hx : x < 18446744073709551616) (hf : x % 9223372036854775808 < 9218868437227405312) (h0 : 0 < x % 9223372036854775808) :
    nY x < 18446744073709551616 ∧ nY x / 4503599627370496 % 2048 = nE (x % 9223372036854775808) ∧ nY x / 9223372036854775808 = x / 9223372036854775808 ∧ nY x % 4503599627370496 = sigR (x % 9223372036854775808) - 4503599627370496 := by
  have hb := sig_bnd h0
  have hE := nE_bnd h0 hf
  unfold nY
  generalize sigR (x % 9223372036854775808) = m at *
  generalize nE (x % 9223372036854775808) = E at *
  have hs : x / 9223372036854775808 < 2 := by omega
  generalize x / 9223372036854775808 = s at *
  refine ⟨by omega, by omega, by omega, by omega⟩
theorem andNot_exp {y : Nat} (hy : y < 18446744073709551616) : bits .andNot .u64 (y : Int) 9218868437227405312 = ((y / 9223372036854775808 * 9223372036854775808 + y % 4503599627370496 : Nat) : Int) := by
  rw [show (9218868437227405312 : Int) = ((9218868437227405312 : Nat) : Int) from rfl, u64_andNot_nat y _ hy (by decide)]
  rw [show (18446744073709551615 - 9218868437227405312 : Nat) = 9227875636482146303 from by decide, and_sign_frac y hy]
theorem or_exp {s f E : Nat} (hs : s < 2) (hf : f < 4503599627370496) (hE : E < 2048) : bits .or .u64 ((s * 9223372036854775808 + f : Nat) : Int) ((E * 4503599627370496 : Nat) : Int) = ((s * 9223372036854775808 + (E * 4503599627370496 + f) : Nat) : Int) := by
  rw [u64_or_nat _ _ (by omega) (by omega), or_parts s f E hf hE]
/-- What frexp's fraction is. -/
def frW (x : Nat) : Nat := x / 9223372036854775808 * 9223372036854775808 + (1022 * 4503599627370496 + (sigR (x % 9223372036854775808) - 4503599627370496))
set_option maxHeartbeats 4000000 in
theorem frexp_core (x Y E A B : Nat) (q : Int) (hz : feq x 0 = false) (HI : Hid (∀ W, Calls Try.prog 79 #[.float .f64 x, .int .i64 0] W fun e w' => e = .returned (.bool false) ∧ W = w'))
    (HN : Hid (∀ W, Calls Try.prog 78 #[.float .f64 x] W fun e w' => e = .returned (.bool false) ∧ W = w'))
    (HM : Hid (∀ W, Calls Try.prog 99 #[.float .f64 x] W fun e w' => e = .returned (.tuple #[.float .f64 Y, .int .i64 q]) ∧ Below W.heap.size W w'))
    (hY : Y < 18446744073709551616) (b1 : bits .and .u64 ((Y : Int) / 4503599627370496) 2047 = (E : Int)) (b2 : bits .andNot .u64 (Y : Int) 9218868437227405312 = (A : Int)) (b3 : bits .or .u64 (A : Int) 4602678819172646912 = (B : Int))
    (hE1 : 1 ≤ E) (hE2 : E ≤ 2046) (hq1 : -52 ≤ q) (hq2 : q ≤ 0) (hA : A < 18446744073709551616) (hB : B < 18446744073709551616) (w : World) :
    Calls Try.prog 93 #[.float .f64 x] w fun e w' => e = .returned (.tuple #[.float .f64 B, .int .i64 (q + (E - 1023 + 1))]) ∧ Below w.heap.size w w' := by
  go_enter Try.func93, Try.ntmps93
  go_wp2_with fail
  refine (HI.out _).mono ?_
  rintro e w' ⟨rfl, rfl⟩
  go_wp2_with fail
  refine (HN.out _).mono ?_
  rintro e w' ⟨rfl, rfl⟩
  go_wp2_with fail
  refine (HM.out _).mono ?_
  rintro e w1 ⟨rfl, hb1⟩
  go_wp2_with fail
  refine bodyPost_ret (results_tmp2 rfl _ _ _) rfl ⟨?_, hb1⟩
  rfl
theorem frexp_fin (x : Nat) (hx : x < 18446744073709551616) (hf : x % 9223372036854775808 < 9218868437227405312) (h0 : 0 < x % 9223372036854775808) (w : World) :
    Calls Try.prog 93 #[.float .f64 x] w fun e w' => e = .returned (.tuple #[.float .f64 (frW x), .int .i64 (expR (x % 9223372036854775808) - 1022)]) ∧ Below w.heap.size w w' := by
  have hn := isnan_fin hf
  have hz := feq_zero hn
  rw [decide_eq_false (by omega)] at hz
  have HI := fun W => IsInf0_any x hx W
  rw [decide_eq_false (by omega)] at HI
  have HN := fun W => IsNaN_any x W
  rw [hn] at HN
  obtain ⟨p1, p2, p3, p4⟩ := nY_parts hx hf h0
  have hb := sig_bnd h0
  have hE := nE_bnd h0 hf
  have b1 := bits_exp p1
  have b2 := andNot_exp p1
  have b3 := or_exp (s := x / 9223372036854775808) (f := sigR (x % 9223372036854775808) - 4503599627370496) (E := 1022) (by omega) (by omega) (by decide)
  rw [p2] at b1
  rw [p3, p4] at b2
  have := frexp_core x (nY x) (nE (x % 9223372036854775808)) _ (frW x) (ne (x % 9223372036854775808)) hz (Lib.hid HI) (Lib.hid HN) (Lib.hid fun W => normalize_any x hx hf h0 W) p1 b1 b2 b3 hE.1 hE.2.1 (by omega) (by omega) (by omega) (by unfold frW; omega) w
  rw [show ne (x % 9223372036854775808) + ((nE (x % 9223372036854775808) : Int) - 1023 + 1) = expR (x % 9223372036854775808) - 1022 by omega] at this
  exact this
end Go.Proofs.Ytogkmddhgfenkaa
