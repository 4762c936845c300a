/- Package math: Frexp, Ldexp, as plain functions of the words. -/
import Derived.Test.YtogkmddhgfenkaaZz9
import Derived.Test.YtogkmddhgfenkaaZz4
import Derived.Deep.RegionHeld3
import Derived.Deep.AppendLies
namespace Go.Proofs.Ytogkmddhgfenkaa
open Go Go.RowKit
set_option maxRecDepth 100000
theorem feq_zero {x : Nat} (hn : isnan x = false) : feq x 0 = decide (x % 9223372036854775808 = 0) := by
  rw [feq_key hn (by kernel_rfl), show fkey 0 = 0 from by decide, Bool.eq_iff_iff]
  unfold fkey
  simp only [decide_eq_true_eq]
  split <;> omega
/-- The parts of a word made normal. -/
theorem nY_parts {x : Nat} (hx : x < 18446744073709551616) (hf : x % 9223372036854775808 < 9218868437227405312) (h0 : 0 < x % 9223372036854775808) :
    nY x < 18446744073709551616 ∧ nY x / 4503599627370496 % 2048 = nE (x % 9223372036854775808) ∧ nY x / 9223372036854775808 = x / 9223372036854775808 ∧ nY x % 4503599627370496 = sigR (x % 9223372036854775808) - 4503599627370496 := by
  have hb := sig_bnd h0
  have hE := nE_bnd h0 hf
  unfold nY
  generalize sigR (x % 9223372036854775808) = m at *
  generalize nE (x % 9223372036854775808) = E at *
  have hs : x / 9223372036854775808 < 2 := by omega
  generalize x / 9223372036854775808 = s at *
  refine ⟨by omega, by omega, by omega, by omega⟩
theorem andNot_exp {y : Nat} (hy : y < 18446744073709551616) : bits .andNot .u64 (y : Int) 9218868437227405312 = ((y / 9223372036854775808 * 9223372036854775808 + y % 4503599627370496 : Nat) : Int) := by
  rw [show (9218868437227405312 : Int) = ((9218868437227405312 : Nat) : Int) from rfl, u64_andNot_nat y _ hy (by decide)]
  rw [show (18446744073709551615 - 9218868437227405312 : Nat) = 9227875636482146303 from by decide, and_sign_frac y hy]
theorem or_exp {s f E : Nat} (hs : s < 2) (hf : f < 4503599627370496) (hE : E < 2048) : bits .or .u64 ((s * 9223372036854775808 + f : Nat) : Int) ((E * 4503599627370496 : Nat) : Int) = ((s * 9223372036854775808 + (E * 4503599627370496 + f) : Nat) : Int) := by
  rw [u64_or_nat _ _ (by omega) (by omega), or_parts s f E hf hE]
/-- What frexp's fraction is. -/
def frW (x : Nat) : Nat := x / 9223372036854775808 * 9223372036854775808 + (1022 * 4503599627370496 + (sigR (x % 9223372036854775808) - 4503599627370496))
set_option maxHeartbeats 4000000 in
theorem frexp_core (x Y E A B : Nat) (q : Int) (hz : feq x 0 = false) (HI : Hid (∀ W, Calls Try.prog 79 #[.float .f64 x, .int .i64 0] W fun e w' => e = .returned (.bool false) ∧ W = w'))
    (HN : Hid (∀ W, Calls Try.prog 78 #[.float .f64 x] W fun e w' => e = .returned (.bool false) ∧ W = w'))
    (HM : Hid (∀ W, Calls Try.prog 99 #[.float .f64 x] W fun e w' => e = .returned (.tuple #[.float .f64 Y, .int .i64 q]) ∧ Below W.heap.size W w'))
    (hY : Y < 18446744073709551616) (b1 : bits .and .u64 ((Y : Int) / 4503599627370496) 2047 = (E : Int)) (b2 : bits .andNot .u64 (Y : Int) 9218868437227405312 = (A : Int)) (b3 : bits .or .u64 (A : Int) 4602678819172646912 = (B : Int))
    (hE1 : 1 ≤ E) (hE2 : E ≤ 2046) (hq1 : -52 ≤ q) (hq2 : q ≤ 0) (hA : A < 18446744073709551616) (hB : B < 18446744073709551616) (w : World) :
    Calls Try.prog 93 #[.float .f64 x] w fun e w' => e = .returned (.tuple #[.float .f64 B, .int .i64 (q + (E - 1023 + 1))]) ∧ Below w.heap.size w w' := by
  go_enter Try.func93, Try.ntmps93
  go_wp2_with fail
  refine (HI.out _).mono ?_
  rintro e w' ⟨rfl, rfl⟩
  go_wp2_with fail
  refine (HN.out _).mono ?_
  rintro e w' ⟨rfl, rfl⟩
  go_wp2_with fail
  refine (HM.out _).mono ?_
  rintro e w1 ⟨rfl, hb1⟩
  go_wp2_with fail
  refine bodyPost_ret (results_tmp2 rfl _ _ _) rfl ⟨?_, hb1⟩
  rfl
theorem frexp_fin (x : Nat) (hx : x < 18446744073709551616) (hf : x % 9223372036854775808 < 9218868437227405312) (h0 : 0 < x % 9223372036854775808) (w : World) :
    Calls Try.prog 93 #[.float .f64 x] w fun e w' => e = .returned (.tuple #[.float .f64 (frW x), .int .i64 (expR (x % 9223372036854775808) - 1022)]) ∧ Below w.heap.size w w' := by
  have hn := isnan_fin hf
  have hz := feq_zero hn
  rw [decide_eq_false (by omega)] at hz
  have HI := fun W => IsInf0_any x hx W
  rw [decide_eq_false (by omega)] at HI
  have HN := fun W => IsNaN_any x W
  rw [hn] at HN
  obtain ⟨p1, p2, p3, p4⟩ := nY_parts hx hf h0
  have hb := sig_bnd h0
  have hE := nE_bnd h0 hf
  have b1 := bits_exp p1
  have b2 := andNot_exp p1
  have b3 := or_exp (s := x / 9223372036854775808) (f := sigR (x % 9223372036854775808) - 4503599627370496) (E := 1022) (by omega) (by omega) (by decide)
  rw [p2] at b1
  rw [p3, p4] at b2
  have := frexp_core x (nY x) (nE (x % 9223372036854775808)) _ (frW x) (ne (x % 9223372036854775808)) hz (Lib.hid HI) (Lib.hid HN) (Lib.hid fun W => normalize_any x hx hf h0 W) p1 b1 b2 b3 hE.1 hE.2.1 (by omega) (by omega) (by omega) (by unfold frW; omega) w
  rw [show ne (x % 9223372036854775808) + ((nE (x % 9223372036854775808) : Int) - 1023 + 1) = expR (x % 9223372036854775808) - 1022 by omega] at this
  exact this
end Go.Proofs.Ytogkmddhgfenkaa

/- Package math: Ldexp, as a plain function of the words (printed by gen_gz.py). -/
namespace Go.Proofs.Ytogkmddhgfenkaa
open Go Go.RowKit
set_option maxRecDepth 100000
theorem i64_and_2047 (n : Nat) (h : n < 4096) : bits .and .i64 (n : Int) 2047 = ((n % 2048 : Nat) : Int) := by
  have h1 : (BitVec.ofInt 64 2047).toNat = 2 ^ 11 - 1 := by decide
  have key : (BitVec.ofInt 64 (n : Int) &&& BitVec.ofInt 64 2047).toNat = ((n : Int) % ((2 ^ 64 : Nat) : Int)).toNat % 2 ^ 11 := by
    rw [BitVec.toNat_and, BitVec.toNat_ofInt, h1, Nat.and_two_pow_sub_one_eq_mod]
  show IntKind.i64.wrap ((BitVec.ofInt 64 (n : Int) &&& BitVec.ofInt 64 2047).toNat : Nat) = ((n % 2048 : Nat) : Int)
  rw [key, IntKind.wrap_i64]
  omega

set_option maxHeartbeats 4000000 in
theorem ldexp_norm (x Y E A B : Nat) (p q k : Int) (hz : feq x 0 = false) (HI : Hid (∀ W, Calls Try.prog 79 #[.float .f64 x, .int .i64 0] W fun e w' => e = .returned (.bool false) ∧ W = w'))
    (HN : Hid (∀ W, Calls Try.prog 78 #[.float .f64 x] W fun e w' => e = .returned (.bool false) ∧ W = w'))
    (HM : Hid (∀ W, Calls Try.prog 99 #[.float .f64 x] W fun e w' => e = .returned (.tuple #[.float .f64 Y, .int .i64 q]) ∧ Below W.heap.size W w'))
    (hY : Y < 18446744073709551616) (b1 : bits .and .i64 ((Y : Int) / 4503599627370496) 2047 = (E : Int)) (b2 : bits .andNot .u64 (Y : Int) 9218868437227405312 = (A : Int))
    (hE1 : 1 ≤ E) (hE2 : E ≤ 2046) (hq1 : -52 ≤ q) (hq2 : q ≤ 0) (hp1 : -5000 ≤ p) (hp2 : p ≤ 5000) (hA : A < 18446744073709551616) (w : World)
    (hk : p + q + (E - 1023) = k) (hB : B < 18446744073709551616) (h1 : -1022 ≤ k) (h2 : k ≤ 1023) (b3 : bits .or .u64 (A : Int) ((k + 1023) * 4503599627370496) = (B : Int)) (hm : isnan (fmul 4607182418800017408 B) = false) :
    Calls Try.prog 88 #[.float .f64 x, .int .i64 p] w fun e w' => e = .returned (.float .f64 (fmul 4607182418800017408 B)) ∧ Below w.heap.size w w' := by
  go_enter Try.func88, Try.ntmps88
  go_wp2_with fail
  refine (HI.out _).mono ?_
  rintro e w' ⟨rfl, rfl⟩
  go_wp2_with fail
  refine (HN.out _).mono ?_
  rintro e w' ⟨rfl, rfl⟩
  go_wp2_with fail
  refine (HM.out _).mono ?_
  rintro e w1 ⟨rfl, hb1⟩
  have HR := Lib.hid (fun s => raw_of_not hm s)
  clear hm
  go_wp2_with (first | (refine wpList_flt rfl rfl rfl rfl rfl ?_; intro K hK _ _; go_frame; refine hK _ _ ?_; clear hK K))
  go_ret
  exact ⟨by rw [HR.out]; rfl, below_drewN _ hb1⟩

set_option maxHeartbeats 4000000 in
theorem ldexp_den (x Y E A B : Nat) (p q k : Int) (hz : feq x 0 = false) (HI : Hid (∀ W, Calls Try.prog 79 #[.float .f64 x, .int .i64 0] W fun e w' => e = .returned (.bool false) ∧ W = w'))
    (HN : Hid (∀ W, Calls Try.prog 78 #[.float .f64 x] W fun e w' => e = .returned (.bool false) ∧ W = w'))
    (HM : Hid (∀ W, Calls Try.prog 99 #[.float .f64 x] W fun e w' => e = .returned (.tuple #[.float .f64 Y, .int .i64 q]) ∧ Below W.heap.size W w'))
    (hY : Y < 18446744073709551616) (b1 : bits .and .i64 ((Y : Int) / 4503599627370496) 2047 = (E : Int)) (b2 : bits .andNot .u64 (Y : Int) 9218868437227405312 = (A : Int))
    (hE1 : 1 ≤ E) (hE2 : E ≤ 2046) (hq1 : -52 ≤ q) (hq2 : q ≤ 0) (hp1 : -5000 ≤ p) (hp2 : p ≤ 5000) (hA : A < 18446744073709551616) (w : World)
    (hk : p + q + (E - 1023) = k) (hB : B < 18446744073709551616) (h1 : -1075 ≤ k) (h2 : k < -1022) (b3 : bits .or .u64 (A : Int) ((k + 53 + 1023) * 4503599627370496) = (B : Int)) (hm : isnan (fmul 4368491638549381120 B) = false) :
    Calls Try.prog 88 #[.float .f64 x, .int .i64 p] w fun e w' => e = .returned (.float .f64 (fmul 4368491638549381120 B)) ∧ Below w.heap.size w w' := by
  go_enter Try.func88, Try.ntmps88
  go_wp2_with fail
  refine (HI.out _).mono ?_
  rintro e w' ⟨rfl, rfl⟩
  go_wp2_with fail
  refine (HN.out _).mono ?_
  rintro e w' ⟨rfl, rfl⟩
  go_wp2_with fail
  refine (HM.out _).mono ?_
  rintro e w1 ⟨rfl, hb1⟩
  have HR := Lib.hid (fun s => raw_of_not hm s)
  clear hm
  go_wp2_with (first | (refine wpList_flt rfl rfl rfl rfl rfl ?_; intro K hK _ _; go_frame; refine hK _ _ ?_; clear hK K))
  go_ret
  exact ⟨by rw [HR.out]; rfl, below_drewN _ hb1⟩

set_option maxHeartbeats 4000000 in
theorem ldexp_low (x Y E A : Nat) (p q k : Int) (hz : feq x 0 = false) (HI : Hid (∀ W, Calls Try.prog 79 #[.float .f64 x, .int .i64 0] W fun e w' => e = .returned (.bool false) ∧ W = w'))
    (HN : Hid (∀ W, Calls Try.prog 78 #[.float .f64 x] W fun e w' => e = .returned (.bool false) ∧ W = w'))
    (HM : Hid (∀ W, Calls Try.prog 99 #[.float .f64 x] W fun e w' => e = .returned (.tuple #[.float .f64 Y, .int .i64 q]) ∧ Below W.heap.size W w'))
    (hY : Y < 18446744073709551616) (b1 : bits .and .i64 ((Y : Int) / 4503599627370496) 2047 = (E : Int)) (b2 : bits .andNot .u64 (Y : Int) 9218868437227405312 = (A : Int))
    (hE1 : 1 ≤ E) (hE2 : E ≤ 2046) (hq1 : -52 ≤ q) (hq2 : q ≤ 0) (hp1 : -5000 ≤ p) (hp2 : p ≤ 5000) (hA : A < 18446744073709551616) (w : World)
    (hk : p + q + (E - 1023) = k) (h1 : k < -1075) :
    Calls Try.prog 88 #[.float .f64 x, .int .i64 p] w fun e w' => e = .returned (.float .f64 (Y / 9223372036854775808 * 9223372036854775808)) ∧ Below w.heap.size w w' := by
  go_enter Try.func88, Try.ntmps88
  go_wp2_with fail
  refine (HI.out _).mono ?_
  rintro e w' ⟨rfl, rfl⟩
  go_wp2_with fail
  refine (HN.out _).mono ?_
  rintro e w' ⟨rfl, rfl⟩
  go_wp2_with fail
  refine (HM.out _).mono ?_
  rintro e w1 ⟨rfl, hb1⟩
  have HC := Lib.hid (fun W => Copysign_zero Y hY W)
  go_wp2_with fail
  refine (HC.out _).mono ?_
  rintro e w' ⟨rfl, rfl⟩
  go_wp2_with fail
  go_ret
  exact ⟨rfl, hb1⟩

set_option maxHeartbeats 4000000 in
theorem ldexp_neg (x Y E A : Nat) (p q k : Int) (hz : feq x 0 = false) (HI : Hid (∀ W, Calls Try.prog 79 #[.float .f64 x, .int .i64 0] W fun e w' => e = .returned (.bool false) ∧ W = w'))
    (HN : Hid (∀ W, Calls Try.prog 78 #[.float .f64 x] W fun e w' => e = .returned (.bool false) ∧ W = w'))
    (HM : Hid (∀ W, Calls Try.prog 99 #[.float .f64 x] W fun e w' => e = .returned (.tuple #[.float .f64 Y, .int .i64 q]) ∧ Below W.heap.size W w'))
    (hY : Y < 18446744073709551616) (b1 : bits .and .i64 ((Y : Int) / 4503599627370496) 2047 = (E : Int)) (b2 : bits .andNot .u64 (Y : Int) 9218868437227405312 = (A : Int))
    (hE1 : 1 ≤ E) (hE2 : E ≤ 2046) (hq1 : -52 ≤ q) (hq2 : q ≤ 0) (hp1 : -5000 ≤ p) (hp2 : p ≤ 5000) (hA : A < 18446744073709551616) (w : World)
    (hk : p + q + (E - 1023) = k) (h1 : 1023 < k) (hs : flt Y 0 = true) :
    Calls Try.prog 88 #[.float .f64 x, .int .i64 p] w fun e w' => e = .returned (.float .f64 18442240474082181120) ∧ Below w.heap.size w w' := by
  go_enter Try.func88, Try.ntmps88
  go_wp2_with fail
  refine (HI.out _).mono ?_
  rintro e w' ⟨rfl, rfl⟩
  go_wp2_with fail
  refine (HN.out _).mono ?_
  rintro e w' ⟨rfl, rfl⟩
  go_wp2_with fail
  refine (HM.out _).mono ?_
  rintro e w1 ⟨rfl, hb1⟩
  go_wp2_with fail
  refine (Inf_neg _).mono ?_
  rintro e w' ⟨rfl, rfl⟩
  go_wp2_with fail
  go_ret
  exact ⟨rfl, hb1⟩

set_option maxHeartbeats 4000000 in
theorem ldexp_pos (x Y E A : Nat) (p q k : Int) (hz : feq x 0 = false) (HI : Hid (∀ W, Calls Try.prog 79 #[.float .f64 x, .int .i64 0] W fun e w' => e = .returned (.bool false) ∧ W = w'))
    (HN : Hid (∀ W, Calls Try.prog 78 #[.float .f64 x] W fun e w' => e = .returned (.bool false) ∧ W = w'))
    (HM : Hid (∀ W, Calls Try.prog 99 #[.float .f64 x] W fun e w' => e = .returned (.tuple #[.float .f64 Y, .int .i64 q]) ∧ Below W.heap.size W w'))
    (hY : Y < 18446744073709551616) (b1 : bits .and .i64 ((Y : Int) / 4503599627370496) 2047 = (E : Int)) (b2 : bits .andNot .u64 (Y : Int) 9218868437227405312 = (A : Int))
    (hE1 : 1 ≤ E) (hE2 : E ≤ 2046) (hq1 : -52 ≤ q) (hq2 : q ≤ 0) (hp1 : -5000 ≤ p) (hp2 : p ≤ 5000) (hA : A < 18446744073709551616) (w : World)
    (hk : p + q + (E - 1023) = k) (h1 : 1023 < k) (hs : flt Y 0 = false) :
    Calls Try.prog 88 #[.float .f64 x, .int .i64 p] w fun e w' => e = .returned (.float .f64 9218868437227405312) ∧ Below w.heap.size w w' := by
  go_enter Try.func88, Try.ntmps88
  go_wp2_with fail
  refine (HI.out _).mono ?_
  rintro e w' ⟨rfl, rfl⟩
  go_wp2_with fail
  refine (HN.out _).mono ?_
  rintro e w' ⟨rfl, rfl⟩
  go_wp2_with fail
  refine (HM.out _).mono ?_
  rintro e w1 ⟨rfl, hb1⟩
  go_wp2_with fail
  refine (Inf_pos _).mono ?_
  rintro e w' ⟨rfl, rfl⟩
  go_wp2_with fail
  go_ret
  exact ⟨rfl, hb1⟩

theorem timesW_fin {x : Nat} {p : Int} (hf : x % 9223372036854775808 < 9218868437227405312) (h0 : 0 < x % 9223372036854775808) : timesW x p = Ieee.double.word (fsgn x) (roundR (sigR (x % 9223372036854775808)) (expR (x % 9223372036854775808) + p)) := by
  unfold timesW timesW.ffinW
  rw [decide_eq_true hf, if_neg (by rintro (h | h); cases h; omega)]
theorem mul_norm {s m E c B : Nat} {k : Int} (hB : B = 2 ^ 52) (hc : Ieee.double.read c = .number false B (k - 52)) (hs : s < 2) (hm1 : 4503599627370496 ≤ m) (hm2 : m < 9007199254740992) (hE : 1 ≤ E) (hE2 : E ≤ 2046) :
    fmul c (s * 9223372036854775808 + (E * 4503599627370496 + (m - 4503599627370496))) = s * 9223372036854775808 + roundR m (E + k) := by
  have hr : (s * 9223372036854775808 + (E * 4503599627370496 + (m - 4503599627370496))) % 9223372036854775808 = E * 4503599627370496 + (m - 4503599627370496) := by omega
  have hd : (s * 9223372036854775808 + (E * 4503599627370496 + (m - 4503599627370496))) / 9223372036854775808 = s := by omega
  have hn := norm_sig hm1 hm2 hE hE2
  rw [mul_pow_l hB hc (by rw [hr]; omega) (by rw [hr]; omega), word_sgn (by omega), hd, hr, hn.1, hn.2]
theorem flt_zero {x : Nat} (hn : isnan x = false) : flt x 0 = decide (x / 9223372036854775808 % 2 = 1 ∧ 0 < x % 9223372036854775808) := by
  rw [flt_key hn (by kernel_rfl), show fkey 0 = 0 from by decide, Bool.eq_iff_iff]
  unfold fkey
  simp only [decide_eq_true_eq]
  split <;> omega
theorem ldexp_fin (x : Nat) (p : Int) (hx : x < 18446744073709551616) (hf : x % 9223372036854775808 < 9218868437227405312) (h0 : 0 < x % 9223372036854775808) (hp1 : -5000 ≤ p) (hp2 : p ≤ 5000) (w : World) :
    Calls Try.prog 88 #[.float .f64 x, .int .i64 p] w fun e w' => e = .returned (.float .f64 (timesW x p)) ∧ Below w.heap.size w w' := by
  have hn := isnan_fin hf
  have hz := feq_zero hn
  rw [decide_eq_false (by omega)] at hz
  have HI := fun W => IsInf0_any x hx W
  rw [decide_eq_false (by omega)] at HI
  have HN := fun W => IsNaN_any x W
  rw [hn] at HN
  have HM := fun W => normalize_any x hx hf h0 W
  obtain ⟨p1, p2, p3, p4⟩ := nY_parts hx hf h0
  have hb := sig_bnd h0
  have hE := nE_bnd h0 hf
  have b1 := i64_and_2047 (nY x / 4503599627370496) (by omega)
  rw [Int.natCast_ediv] at b1
  have b2 := andNot_exp p1
  rw [p2] at b1
  rw [p3, p4] at b2
  rw [timesW_fin hf h0, word_sgn hx, hE.2.2.1]
  have hs : x / 9223372036854775808 < 2 := by omega
  have hY : nY x = x / 9223372036854775808 * 9223372036854775808 + (nE (x % 9223372036854775808) * 4503599627370496 + (sigR (x % 9223372036854775808) - 4503599627370496)) := rfl
  generalize nY x = Y at *
  obtain ⟨hE1, hE2, _, hE4⟩ := hE
  generalize nE (x % 9223372036854775808) = E at *
  generalize ne (x % 9223372036854775808) = q at *
  generalize sigR (x % 9223372036854775808) = m at *
  generalize x / 9223372036854775808 = s at *
  have hk : p + q + ((E : Int) - 1023) = (E : Int) + q + p - 1023 := by omega
  have hql : -52 ≤ q := by omega
  have hqh : q ≤ 0 := by omega
  clear hE4
  by_cases c1 : (E : Int) + q + p - 1023 < -1075
  · have := ldexp_low x Y E _ p q _ hz (Lib.hid HI) (Lib.hid HN) (Lib.hid HM) p1 b1 b2 hE1 hE2 hql hqh hp1 hp2 (by omega) w hk c1
    rw [p3] at this
    rw [show roundR m ((E : Int) + q + p) = 0 by unfold roundR; rw [if_neg (by omega), if_neg (by omega), if_pos (by omega)], Nat.add_zero]
    exact this
  · by_cases c2 : 1023 < (E : Int) + q + p - 1023
    · rw [show roundR m ((E : Int) + q + p) = 9218868437227405312 by unfold roundR; rw [if_pos (by omega)]]
      have hYn : isnan Y = false := isnan_fin (by rw [hY]; omega)
      have hl := flt_zero hYn
      rw [p3] at hl
      by_cases hs1 : s = 1
      · subst hs1
        rw [decide_eq_true (by omega)] at hl
        exact ldexp_neg x Y E _ p q _ hz (Lib.hid HI) (Lib.hid HN) (Lib.hid HM) p1 b1 b2 hE1 hE2 hql hqh hp1 hp2 (by omega) w hk c2 hl
      · obtain rfl : s = 0 := by omega
        rw [decide_eq_false (by omega)] at hl
        exact ldexp_pos x Y E _ p q _ hz (Lib.hid HI) (Lib.hid HN) (Lib.hid HM) p1 b1 b2 hE1 hE2 hql hqh hp1 hp2 (by omega) w hk c2 hl
    · by_cases c3 : (E : Int) + q + p - 1023 < -1022
      · obtain ⟨F, hF⟩ : ∃ F : Nat, (F : Int) = (E : Int) + q + p - 1023 + 53 + 1023 := ⟨((E : Int) + q + p - 1023 + 53 + 1023).toNat, by omega⟩
        have b3 := or_exp (s := s) (f := m - 4503599627370496) (E := F) hs (by omega) (by omega)
        rw [Int.natCast_mul, hF] at b3
        have hmul := mul_norm (k := -53) (B := 2 ^ 52) (c := 4368491638549381120) rfl (by decide) hs hb.1 hb.2 (E := F) (by omega) (by omega)
        rw [show (F : Int) + -53 = (E : Int) + q + p by omega] at hmul
        have hnn : isnan (s * 9223372036854775808 + roundR m ((E : Int) + q + p)) = false := by
          have := roundR_le m ((E : Int) + q + p) hb.2
          unfold isnan
          rw [decide_eq_false_iff_not]
          omega
        rw [← hmul] at hnn ⊢
        exact ldexp_den x Y E _ _ p q _ hz (Lib.hid HI) (Lib.hid HN) (Lib.hid HM) p1 b1 b2 hE1 hE2 hql hqh hp1 hp2 (by omega) w hk (by omega) (by omega) c3 b3 hnn
      · obtain ⟨F, hF⟩ : ∃ F : Nat, (F : Int) = (E : Int) + q + p - 1023 + 1023 := ⟨((E : Int) + q + p - 1023 + 1023).toNat, by omega⟩
        have b3 := or_exp (s := s) (f := m - 4503599627370496) (E := F) hs (by omega) (by omega)
        rw [Int.natCast_mul, hF] at b3
        have hmul := mul_norm (k := 0) (B := 2 ^ 52) (c := 4607182418800017408) rfl (by decide) hs hb.1 hb.2 (E := F) (by omega) (by omega)
        rw [show (F : Int) + 0 = (E : Int) + q + p by omega] at hmul
        have hnn : isnan (s * 9223372036854775808 + roundR m ((E : Int) + q + p)) = false := by
          have := roundR_le m ((E : Int) + q + p) hb.2
          unfold isnan
          rw [decide_eq_false_iff_not]
          omega
        rw [← hmul] at hnn ⊢
        exact ldexp_norm x Y E _ _ p q _ hz (Lib.hid HI) (Lib.hid HN) (Lib.hid HM) p1 b1 b2 hE1 hE2 hql hqh hp1 hp2 (by omega) w hk (by omega) (by omega) (by omega) b3 hnn
end Go.Proofs.Ytogkmddhgfenkaa

/- Package guard, and the document's: words. -/
namespace Go.Proofs.Ytogkmddhgfenkaa
open Go Go.RowKit
set_option maxRecDepth 100000
theorem shl1 {x : Nat} (hx : x < 18446744073709551616) : IntKind.u64.wrap ((x : Int) * 2) / 2 = ((x % 9223372036854775808 : Nat) : Int) := by
  rw [IntKind.wrap_u64]
  omega
theorem shl1n {x : Nat} (hx : x < 18446744073709551616) : (IntKind.u64.wrap ((x : Int) * 2) == 0) = decide (x % 9223372036854775808 = 0) := by
  rw [IntKind.wrap_u64, Bool.eq_iff_iff]
  simp only [beq_iff_eq, decide_eq_true_eq]
  omega
theorem shl1ne {x : Nat} (hx : x < 18446744073709551616) : (IntKind.u64.wrap ((x : Int) * 2) != 0) = !decide (x % 9223372036854775808 = 0) := by
  rw [bne, shl1n hx]
theorem fin_pow (x : Nat) : ((x : Int) / 4503599627370496 % 2048 != 2047) = ffin x := by
  unfold ffin
  rw [Bool.eq_iff_iff]
  simp only [bne_iff_ne, ne_eq, decide_eq_true_eq]
  omega
theorem gsize_any (x : Nat) (hx : x < 18446744073709551616) (w : World) : Calls Try.prog 64 #[.int .u64 x] w fun e w' => e = .returned (.int .u64 (x % 9223372036854775808 : Nat)) ∧ w = w' := by
  have h := shl1 hx
  go_enter Try.func64, Try.ntmps64
  go_wp2
  go_ret
  exact ⟨rfl, rfl⟩
theorem gpower_any (x : Nat) (hx : x < 18446744073709551616) (w : World) : Calls Try.prog 91 #[.int .u64 x] w fun e w' => e = .returned (.int .i64 ((x : Int) / 4503599627370496 % 2048)) ∧ w = w' := by
  have h := bits_exp hx
  go_enter Try.func91, Try.ntmps91
  go_wp2
  go_ret
  exact ⟨rfl, rfl⟩
theorem gfin_any (x : Nat) (hx : x < 18446744073709551616) (w : World) : Calls Try.prog 65 #[.int .u64 x] w fun e w' => e = .returned (.bool (ffin x)) ∧ w = w' := by
  have h := fin_pow x
  go_enter Try.func65, Try.ntmps65
  go_wp2_with (go_at_call 91; refine (gpower_any x hx _).mono ?_; rintro e w' ⟨rfl, rfl⟩)
  go_ret
  exact ⟨rfl, rfl⟩
theorem take1_any (x : Nat) (hx : x < 18446744073709551616) (w : World) : Calls Try.prog 90 #[.int .u64 x] w fun e w' => e = .returned (.bool (!ffin x)) ∧ w = w' := by
  go_enter Try.func90, Try.ntmps90
  go_wp2_with (go_at_call 65; refine (gfin_any x hx _).mono ?_; rintro e w' ⟨rfl, rfl⟩)
  go_ret
  exact ⟨rfl, rfl⟩
theorem rfin_any (x : Nat) (hx : x < 18446744073709551616) (w : World) : Calls Try.prog 24 #[.int .u64 x] w fun e w' => e = .returned (.bool (ffin x)) ∧ w = w' := by
  have h := fin_pow x
  go_enter Try.func24, Try.ntmps24
  go_wp2
  go_ret
  exact ⟨rfl, rfl⟩
/-- Is a word in range? -/
def inrB (x : Nat) : Bool := decide (x % 9223372036854775808 = 0) || (decide (2805742567851819008 ≤ x % 9223372036854775808) && decide (x % 9223372036854775808 ≤ 6408622269748215808))
theorem inr_fin {x : Nat} (h : inrB x = true) : ffin x = true := by
  unfold inrB at h
  unfold ffin
  simp only [Bool.or_eq_true, Bool.and_eq_true, decide_eq_true_eq] at h ⊢
  omega
set_option maxHeartbeats 1000000 in
theorem ginr_any (x : Nat) (hx : x < 18446744073709551616) (w : World) : Calls Try.prog 21 #[.int .u64 x] w fun e w' => e = .returned (.bool (inrB x)) ∧ w = w' := by
  have HS := Lib.hid (fun W => gsize_any x hx W)
  unfold inrB
  have hl : x % 9223372036854775808 < 9223372036854775808 := Nat.mod_lt _ (by decide)
  generalize x % 9223372036854775808 = r at *
  clear hx
  by_cases h0 : r = 0
  · subst h0
    go_enter Try.func21, Try.ntmps21
    go_wp2_with (go_at_call 64; refine (HS.out _).mono ?_; rintro e w' ⟨rfl, rfl⟩)
    go_ret
    exact ⟨rfl, rfl⟩
  · have t0 : ((r : Int) == 0) = false := by rw [beq_eq_false_iff_ne]; omega
    rw [decide_eq_false h0]
    clear h0
    by_cases h1 : 2805742567851819008 ≤ r
    · have t1 : decide (2805742567851819008 ≤ (r : Int)) = true := decide_eq_true (by omega)
      rw [decide_eq_true h1]
      by_cases h2 : r ≤ 6408622269748215808
      · have t2 : decide ((r : Int) ≤ 6408622269748215808) = true := decide_eq_true (by omega)
        rw [decide_eq_true h2]
        clear h1 h2
        go_enter Try.func21, Try.ntmps21
        go_wp2_with (go_at_call 64; refine (HS.out _).mono ?_; rintro e w' ⟨rfl, rfl⟩)
        go_ret
        exact ⟨rfl, rfl⟩
      · have t2 : decide ((r : Int) ≤ 6408622269748215808) = false := decide_eq_false (by omega)
        rw [decide_eq_false h2]
        clear h1 h2
        go_enter Try.func21, Try.ntmps21
        go_wp2_with (go_at_call 64; refine (HS.out _).mono ?_; rintro e w' ⟨rfl, rfl⟩)
        go_ret
        exact ⟨rfl, rfl⟩
    · have t1 : decide (2805742567851819008 ≤ (r : Int)) = false := decide_eq_false (by omega)
      rw [decide_eq_false h1]
      clear h1
      go_enter Try.func21, Try.ntmps21
      go_wp2_with (go_at_call 64; refine (HS.out _).mono ?_; rintro e w' ⟨rfl, rfl⟩)
      go_ret
      exact ⟨rfl, rfl⟩
theorem fkey_small {r : Nat} (h : r < 9223372036854775808) : fkey r = (r : Int) := by unfold fkey; rw [Nat.div_eq_of_lt h, if_neg (by decide), Nat.mod_eq_of_lt h]
set_option maxHeartbeats 2000000 in
theorem rinr_any (x : Nat) (hx : x < 18446744073709551616) (w : World) : Calls Try.prog 22 #[.int .u64 x] w fun e w' => e = .returned (.bool (inrB x)) ∧ w = w' := by
  have HF := Lib.hid (fun W => rfin_any x hx W)
  have hs := shl1 hx
  cases hf : ffin x
  · have e0 : inrB x = false := by
      cases h : inrB x
      · rfl
      · rw [inr_fin h] at hf; cases hf
    rw [e0]
    rw [hf] at HF
    clear e0 hf hx
    go_enter Try.func22, Try.ntmps22
    go_wp2_with (go_at_call 24; refine (HF.out _).mono ?_; rintro e w' ⟨rfl, rfl⟩)
    go_ret
    exact ⟨rfl, rfl⟩
  · rw [hf] at HF
    unfold ffin at hf
    simp only [decide_eq_true_eq] at hf
    unfold inrB
    generalize x % 9223372036854775808 = r at *
    have hn : isnan r = false := isnan_fin (by rw [Nat.mod_eq_of_lt (by omega)]; exact hf)
    have f0 : feq r 0 = decide (r = 0) := by rw [feq_key hn (by kernel_rfl), fkey_small (by omega), show fkey 0 = 0 from by decide, Bool.eq_iff_iff]; simp only [decide_eq_true_eq]; omega
    have f1 : fle 2805742567851819008 r = decide (2805742567851819008 ≤ r) := by rw [fle_key (by kernel_rfl) hn, fkey_small (r := r) (by omega), show fkey 2805742567851819008 = 2805742567851819008 from by decide, Bool.eq_iff_iff]; simp only [decide_eq_true_eq]; omega
    have f2 : fle r 6408622269748215808 = decide (r ≤ 6408622269748215808) := by rw [fle_key hn (by kernel_rfl), fkey_small (r := r) (by omega), show fkey 6408622269748215808 = 6408622269748215808 from by decide, Bool.eq_iff_iff]; simp only [decide_eq_true_eq]; omega
    clear hf hn
    have hx' := hx
    clear hx
    cases d0 : decide (r = 0)
    · rw [d0] at f0
      clear d0
      cases d1 : decide (2805742567851819008 ≤ r)
      · rw [d1] at f1
        clear d1
        go_enter Try.func22, Try.ntmps22
        go_wp2_with (go_at_call 24; refine (HF.out _).mono ?_; rintro e w' ⟨rfl, rfl⟩)
        go_ret
        exact ⟨rfl, rfl⟩
      · rw [d1] at f1
        clear d1
        generalize decide (r ≤ 6408622269748215808) = q at *
        go_enter Try.func22, Try.ntmps22
        go_wp2_with (go_at_call 24; refine (HF.out _).mono ?_; rintro e w' ⟨rfl, rfl⟩)
        go_ret
        exact ⟨rfl, rfl⟩
    · rw [d0] at f0
      clear d0
      go_enter Try.func22, Try.ntmps22
      go_wp2_with (go_at_call 24; refine (HF.out _).mono ?_; rintro e w' ⟨rfl, rfl⟩)
      go_ret
      exact ⟨rfl, rfl⟩
end Go.Proofs.Ytogkmddhgfenkaa

/- What a round holds on to that appends. No condition. -/
namespace Go.Proofs.Ytogkmddhgfenkaa
open Go Go.RowKit
set_option maxRecDepth 100000
/-- What a round holds on to that appends: the blocks below B are as they were. -/
def SB (B : Nat) (w0 W : World) : Prop := Below B w0 W ∧ B ≤ W.heap.size ∧ ∀ b o, b < B → W.cell? ⟨b, o, none⟩ = w0.cell? ⟨b, o, none⟩
theorem SB.of {B : Nat} {w0 W : World} (hb : Below B w0 W) (h : B ≤ W.heap.size) : SB B w0 W := ⟨hb, h, fun b o h => (below_cells hb).1 b o h⟩
abbrev SBS (B : Nat) (w0 W : World) : Prop := SB B w0 W ∧ ∀ b o, b < B → W.cell? ⟨b, o, none⟩ = w0.cell? ⟨b, o, none⟩
theorem SB.S {B : Nat} {w0 W : World} (h : SB B w0 W) : SBS B w0 W := ⟨h, h.2.2⟩
theorem SB.refl {B : Nat} {w0 : World} (h : B ≤ w0.heap.size) : SB B w0 w0 := SB.of (Below.refl _ _) h
theorem SB.drew {B : Nat} {w0 W : World} (h : SB B w0 W) : SB B w0 W.drew := SB.of (below_drewN 1 h.1) h.2.1
theorem SB.alloc {B : Nat} {w0 W : World} {o : Obj} (h : SB B w0 W) : SB B w0 (W.alloc o) := SB.of (h.1.alloc h.2.1 o) (by have := h.2.1; simp; omega)
theorem SBS.drew {B : Nat} {w0 W : World} (h : SBS B w0 W) : SBS B w0 W.drew := (SB.drew h.1).S
theorem SBS.alloc {B : Nat} {w0 W : World} {o : Obj} (h : SBS B w0 W) : SBS B w0 (W.alloc o) := (SB.alloc h.1).S
theorem SB.grown {B : Nat} {w0 W W' : World} {row : Option Nat} (h : SB B w0 W) (hg : W.grownBy W' row) (hr : ∀ r, row = some r → B ≤ r) : SB B w0 W' :=
  SB.of (h.1.grown hg h.2.1 hr) (Nat.le_trans h.2.1 hg.size)
theorem ownsRow_mono {W : World} {base base' size n : Nat} {e : TypeId} {v : Value} {xs : List Value} (h : W.ownsRow base e size v n xs) (hb : base' ≤ base) : W.ownsRow base' e size v n xs := by
  refine ⟨h.1, ?_⟩
  rcases h.2 with h0 | ⟨g, cap, cur, h1, h2, h3⟩
  · exact .inl h0
  · exact .inr ⟨g, cap, cur, h1, by omega, h3⟩
theorem SBS.grown {B : Nat} {w0 W W' : World} {row : Option Nat} (h : SBS B w0 W) (hg : W.grownBy W' row) (hr : ∀ r, row = some r → B ≤ r) : SBS B w0 W' := (SB.grown h.1 hg hr).S
theorem take_get {α : Type} {l : List α} {k : Nat} {x : α} (h : l[k]? = some x) : l.take (k + 1) = l.take k ++ [x] := by
  rw [List.take_add_one, h]; rfl


/-- Block bm holds three cells, of which the last one is a slice that grows. -/
structure OM (W0 : World) (bm base : Nat) (a b : Value) (e : TypeId) (xs : List Value) (k : Nat) (W : World) : Prop where
  ex : ∃ sv, Box W bm [a, b, sv] ∧ W.ownsRow base e 1 sv k (xs.take k)
  bel : Bel base bm W0 W
  sz : base ≤ W.heap.size
theorem OM.app {W0 W w1 : World} {bm base k : Nat} {a b sv v' x : Value} {xs : List Value} {e T : TypeId} (hbx : Box W bm [a, b, sv]) (hrow : W.ownsRow base e 1 sv k (xs.take k)) (hbel : Bel base bm W0 W) (hs : base ≤ W.heap.size) (hbm : bm < base)
    (hx : xs.take (k + 1) = xs.take k ++ [x]) (hgrow : (W.alloc (.cells #[x] T)).grownBy w1 sv.ownBlock) (hown : w1.ownsRow base e 1 v' (k + 1) (xs.take k ++ [x])) : OM W0 bm base a b e xs (k + 1) (w1.setCell ⟨bm, 2, none⟩ v') := by
  have hbx1 := Box.grown (Box.alloc hbx (.cells #[x] T)) hgrow (fun q eq => by have := (hrow.lt q eq).1; omega)
  obtain ⟨h1, h2, _⟩ := app_step (j := 2) (u := v') hrow hgrow hown hbm hs hbx1
  refine ⟨⟨v', hbx1.set 2 v', by rw [hx]; exact h1⟩, hbel.trans h2, ?_⟩
  have := h2.size
  omega
end Go.Proofs.Ytogkmddhgfenkaa

/- Package guard: words in a slice; what is asked of them. -/
namespace Go.Proofs.Ytogkmddhgfenkaa
open Go Go.RowKit
set_option maxRecDepth 100000
/-- Words that lie in cells. -/
def Wds (w : World) (a : Option Addr) (ws : List Nat) : Prop := ws ≠ [] → ∃ b off, a = some ⟨b, off, none⟩ ∧ b < w.heap.size ∧ ∀ (i : Nat) (p : Nat), ws[i]? = some p → w.cell? ⟨b, off + i, none⟩ = some (.int .u64 (p : Int))
theorem Wds.below {w w' : World} {a : Option Addr} {zs : List Nat} (h : Wds w a zs) (hb : Below w.heap.size w w') : Wds w' a zs := fun hz => by
  obtain ⟨b, off, e, hlt, hc⟩ := h hz
  refine ⟨b, off, e, Nat.lt_of_lt_of_le hlt hb.size, fun i v hi => ?_⟩
  rw [(below_cells hb).1 _ _ hlt]
  exact hc i v hi
theorem Wds.at {w : World} {a : Option Addr} {zs : List Nat} (h : Wds w a zs) {i : Nat} (hi : i < zs.length) : ∃ b off, a = some ⟨b, off, none⟩ ∧ b < w.heap.size ∧ w.cell? ⟨b, off + i, none⟩ = some (.int .u64 (zs.getD i 0 : Nat)) := by
  obtain ⟨b, off, ha, hlt, hc⟩ := h (by intro e; subst e; simp at hi)
  exact ⟨b, off, ha, hlt, hc i (zs.getD i 0) (by simp [hi])⟩
theorem Wds.nil (w : World) (a : Option Addr) : Wds w a [] := fun h => absurd rfl h

set_option maxHeartbeats 2000000 in
theorem IndexFuncU_any (f : FuncId) (p : Nat → Bool) (hp : ∀ (x : Nat) (w : World), x < 18446744073709551616 → Calls Try.prog f #[.int .u64 x] w fun e w' => e = .returned (.bool (p x)) ∧ w = w') (hcf : ∀ x w, (callFunc f #[.int .u64 x]).run Try.prog w = .ok (.enter f #[.int .u64 x]) w)
    (w : World) (za : Option Addr) (zs : List Nat) (zc : Nat) (hZ : Wds w za zs) (hW : Words zs) (hl : zs.length ≤ maxLen) :
    Calls Try.prog 101 #[.slice za zs.length zc, .func (.func f) #[] #[]] w fun e w' => (∃ r : Int, e = .returned (.int .i64 r) ∧ decide (0 ≤ r) = zs.any p) ∧ w = w' := by
  have hl' := hl
  unfold maxLen at hl'
  have hln : zs.length ≤ 9223372036854775807 := by omega
  go_enter Try.func101, Try.ntmps101
  go_wp2_with fail
  go_loop [8] (fun i => ∃ k : Nat, k ≤ zs.length ∧ i = .int .i64 k ∧ ∀ j, j < k → p (zs.getD j 0) = false) (fun i => zs.length - (intOf i).toNat)
  case atStart => exact ⟨0, Nat.zero_le _, rfl, fun _ h => absurd h (Nat.not_lt_zero _)⟩
  case round =>
    obtain ⟨k, hk, rfl, hno⟩ := hrel
    have HNO := Lib.hid hno
    clear hno
    by_cases hlt : k < zs.length
    · obtain ⟨b, o, rfl, hb, hc1⟩ := hZ.at hlt
      go_wp2_with fail
      have HP := hp (zs.getD k 0) w (hW.at k)
      have e0 : zs.getD k 0 = zs[k] := by simp [hlt]
      rw [e0] at HP
      refine HP.mono ?_
      rintro e w2 ⟨rfl, rfl⟩
      clear HP
      cases hpk : p zs[k]
      · go_wp2
        go_round
        case rel => exact ⟨k + 1, by omega, by go_num, fun j hj => by
          by_cases hjk : j = k
          · subst hjk; rw [e0]; exact hpk
          · exact HNO.out j (by omega)⟩
        case measure => simp [intOf]; omega
      · go_wp2
        go_ret
        refine ⟨⟨k, rfl, ?_⟩, rfl⟩
        rw [decide_eq_true (by omega), eq_comm, List.any_eq_true]
        exact ⟨zs[k], List.getElem_mem hlt, hpk⟩
    · go_wp2
      go_ret
      refine ⟨⟨-1, rfl, ?_⟩, rfl⟩
      rw [decide_eq_false (by omega), eq_comm, List.any_eq_false]
      intro x hx
      obtain ⟨j, hj, rfl⟩ := List.getElem_of_mem hx
      have := HNO.out j (by omega)
      simp [hj] at this
      simp [this]
set_option maxHeartbeats 1000000 in
theorem ContainsFuncU_any (f : FuncId) (p : Nat → Bool) (hp : ∀ (x : Nat) (w : World), x < 18446744073709551616 → Calls Try.prog f #[.int .u64 x] w fun e w' => e = .returned (.bool (p x)) ∧ w = w') (hcf : ∀ x w, (callFunc f #[.int .u64 x]).run Try.prog w = .ok (.enter f #[.int .u64 x]) w)
    (w : World) (za : Option Addr) (zs : List Nat) (zc : Nat) (hZ : Wds w za zs) (hW : Words zs) (hl : zs.length ≤ maxLen) :
    Calls Try.prog 89 #[.slice za zs.length zc, .func (.func f) #[] #[]] w fun e w' => e = .returned (.bool (zs.any p)) ∧ w = w' := by
  have H := Lib.hid (IndexFuncU_any f p hp hcf w za zs zc hZ hW hl)
  clear hp hcf
  go_enter Try.func89, Try.ntmps89
  go_wp2_with fail
  refine H.out.mono ?_
  rintro e w2 ⟨⟨r, rfl, hr⟩, rfl⟩
  have HR := Lib.hid hr
  clear hr
  go_wp2
  go_ret
  exact ⟨by rw [← HR.out]; rfl, rfl⟩
theorem Any1_any (i k : Int) (w : World) : Calls Try.prog 70 #[.int .i64 i, .int .i64 k] w fun e w' => e = .returned (.bool true) ∧ w = w' := by
  go_enter Try.func70, Try.ntmps70
  go_wp2
  go_ret
  exact ⟨rfl, rfl⟩
/-- Are two words the same entry? -/
def okW (x y : Nat) : Bool := decide (x = y) || (decide (x % 9223372036854775808 = 0) && decide (y % 9223372036854775808 = 0))
def okSq (ws : List Nat) (n i k : Nat) : Bool := okW (ws.getD (i * n + k) 0) (ws.getD (k * n + i) 0)
set_option maxHeartbeats 4000000 in
theorem Square1_any (w : World) (a : Option Addr) (ws : List Nat) (ac n i k Bw Bn : Nat) (hA : Wds w a ws) (hW : Words ws) (hl : ws.length = n * n) (hn : n ≤ 512) (hi : i < n) (hk : k < n) (xw : Box w Bw [.slice a ws.length ac]) (xn : Box w Bn [.int .i64 n]) :
    Calls Try.prog 63 #[.int .i64 i, .int .i64 k, .pointer (some ⟨Bw, 0, none⟩), .pointer (some ⟨Bn, 0, none⟩)] w fun e w' => e = .returned (.bool (okSq ws n i k)) ∧ Below w.heap.size w w' := by
  have hb1 : i * n + k < ws.length := by have : (i + 1) * n ≤ n * n := Nat.mul_le_mul_right _ hi; rw [Nat.succ_mul] at this; omega
  have hb2 : k * n + i < ws.length := by have : (k + 1) * n ≤ n * n := Nat.mul_le_mul_right _ hk; rw [Nat.succ_mul] at this; omega
  have hnn : n * n ≤ 512 * 512 := Nat.mul_le_mul hn hn
  obtain ⟨b, off, rfl, hbl, c1⟩ := hA.at hb1
  obtain ⟨b', off', e, _, c2⟩ := hA.at hb2
  obtain ⟨rfl, rfl⟩ : b = b' ∧ off = off' := by cases e; exact ⟨rfl, rfl⟩
  have hx := hW.at (i * n + k)
  have hy := hW.at (k * n + i)
  unfold okSq
  have HX := Lib.hid (fun W => gsize_any _ hx W)
  have HY := Lib.hid (fun W => gsize_any _ hy W)
  obtain ⟨m1, m2, m3⟩ := xw.facts
  obtain ⟨n1, n2, n3⟩ := xn.facts
  have hlb : ws.length ≤ 262144 := by omega
  generalize ws.getD (i * n + k) 0 = x at *
  generalize ws.getD (k * n + i) 0 = y at *
  generalize ws.length = len at *
  have p1 : (i : Int) * (n : Int) = ((i * n : Nat) : Int) := (Int.natCast_mul _ _).symm
  have p2 : (k : Int) * (n : Int) = ((k * n : Nat) : Int) := (Int.natCast_mul _ _).symm
  generalize i * n = q1 at *
  generalize k * n = q2 at *
  have w1 : IntKind.i64.wrap (q1 : Int) = (q1 : Int) := by rw [IntKind.wrap_i64]; omega
  have w2 : IntKind.i64.wrap (q2 : Int) = (q2 : Int) := by rw [IntKind.wrap_i64]; omega
  have w3 : IntKind.i64.wrap ((q1 : Int) + (k : Int)) = (q1 : Int) + (k : Int) := by rw [IntKind.wrap_i64]; omega
  have w4 : IntKind.i64.wrap ((q2 : Int) + (i : Int)) = (q2 : Int) + (i : Int) := by rw [IntKind.wrap_i64]; omega
  have t1 : ((q1 : Int) + (k : Int)).toNat = q1 + k := by omega
  have t2 : ((q2 : Int) + (i : Int)).toNat = q2 + i := by omega
  have t3 : (0 : Int) ≤ (q1 : Int) + (k : Int) := by omega
  have t4 : (0 : Int) ≤ (q2 : Int) + (i : Int) := by omega
  have t5 : (q1 : Int) + (k : Int) < (len : Int) := by omega
  have t6 : (q2 : Int) + (i : Int) < (len : Int) := by omega
  clear hl hn hi hk hnn hA hW hx hy hb1 hb2 xw xn e hlb
  obtain ⟨R, hR⟩ : ∃ R, R = okW x y := ⟨_, rfl⟩
  rw [← hR]
  have HR := Lib.hid hR
  clear hR
  go_enter Try.func63, Try.ntmps63
  go_wp2
  refine wp_region_nqb 18 (fun _ _ _ => False) (by kernel_rfl) (by kernel_rfl) ?_
  intro C R hc hb' hb2 hd hR
  simp only [List.take_succ_cons, List.take_zero]
  repeat (
    first
      | (refine nqW_plain (fun K hK => ?_))
      | (refine nqW_step (fun K hK => ?_); go_simp)
    first
      | (refine nq_move rfl ?_; go_simp; refine hK _ ?_; clear hK K)
      | (refine nq_assign rfl ?_; go_simp; refine hK _ ?_; clear hK K)
      | (refine nq_flt rfl rfl rfl rfl hd ?_; intro _; go_frame; refine hK _ ?_; clear hK K)
      | (refine nq_same ?_; intro w' hw'; go_simp; (try go_bits); refine hK _ ?_; clear hK K hw' w')
      | (refine nq_same ?_; intro w' hw'; go_simp; rw [if_pos (by omega)]; go_simp; (try go_bits); refine hK _ ?_; clear hK K hw' w')
      | (go_simp; refine hK _ ?_; clear hK K))
  refine nqW_nil (hR _ ?_)
  clear hc hb' hb2 hd hR
  intro w' hw'
  simp only [List.drop]
  clear t1 t2 t3 t4 t5 t6 w1 w2 w3 w4 p1 p2 c1 c2 m1 m2 m3 n1 n2 n3
  unfold okW at HR
  cases d0 : decide (x = y)
  · have d0' : ((x : Int) == (y : Int)) = false := by rw [decide_eq_false_iff_not] at d0; rw [beq_eq_false_iff_ne]; omega
    rw [d0, Bool.false_or] at HR
    clear d0
    generalize x % 9223372036854775808 = r at *
    generalize y % 9223372036854775808 = s at *
    cases d1 : decide (r = 0)
    · have d1' : ((r : Int) == 0) = false := by rw [decide_eq_false_iff_not] at d1; rw [beq_eq_false_iff_ne]; omega
      rw [d1, Bool.false_and] at HR
      clear d1
      go_wp2_with (first | (go_at_call 64; refine (HX.out _).mono ?_; rintro e w' ⟨rfl, rfl⟩))
      go_ret
      exact ⟨by rw [HR.out]; rfl, hw'⟩
    · rw [d1, Bool.true_and] at HR
      rw [decide_eq_true_iff] at d1
      subst d1
      cases d2 : decide (s = 0)
      · have d2' : ((s : Int) == 0) = false := by rw [decide_eq_false_iff_not] at d2; rw [beq_eq_false_iff_ne]; omega
        rw [d2] at HR
        clear d2
        go_wp2_with fail
        refine (HX.out _).mono ?_
        rintro e w' ⟨rfl, rfl⟩
        go_wp2_with fail
        refine (HY.out _).mono ?_
        rintro e w' ⟨rfl, rfl⟩
        go_wp2
        go_ret
        exact ⟨by rw [HR.out]; rfl, hw'⟩
      · rw [d2] at HR
        rw [decide_eq_true_iff] at d2
        subst d2
        go_wp2_with fail
        refine (HX.out _).mono ?_
        rintro e w' ⟨rfl, rfl⟩
        go_wp2_with fail
        refine (HY.out _).mono ?_
        rintro e w' ⟨rfl, rfl⟩
        go_wp2
        go_ret
        exact ⟨by rw [HR.out]; rfl, hw'⟩
  · rw [d0, Bool.true_or] at HR
    rw [decide_eq_true_iff] at d0
    subst d0
    go_wp2
    go_ret
    exact ⟨by rw [HR.out]; rfl, hw'⟩
end Go.Proofs.Ytogkmddhgfenkaa
