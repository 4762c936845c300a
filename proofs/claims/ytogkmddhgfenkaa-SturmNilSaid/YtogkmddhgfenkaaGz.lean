/- Package math: Ldexp, as a plain function of the words (printed by gen_gz.py). -/
import Derived.Test.YtogkmddhgfenkaaGy
namespace Go.Proofs.Ytogkmddhgfenkaa
open Go Go.RowKit
set_option maxRecDepth 100000
theorem i64_and_2047 (n : Nat) (h : n < 4096) : bits .and .i64 (n : Int) 2047 = ((n % 2048 : Nat) : Int) := by
  have h1 : (BitVec.ofInt 64 2047).toNat = 2 ^ 11 - 1 := by decide
  have key : (BitVec.ofInt 64 (n : Int) &&& BitVec.ofInt 64 2047).toNat = ((n : Int) % ((2 ^ 64 : Nat) : Int)).toNat % 2 ^ 11 := by
    rw [BitVec.toNat_and, BitVec.toNat_ofInt, h1, Nat.and_two_pow_sub_one_eq_mod]
  show IntKind.i64.wrap ((BitVec.ofInt 64 (n : Int) &&& BitVec.ofInt 64 2047).toNat : Nat) = ((n % 2048 : Nat) : Int)
  rw [key, IntKind.wrap_i64]
  omega

set_option maxHeartbeats 4000000 in
theorem ldexp_norm (x Y E A B : Nat) (p q k : Int) (hz : feq x 0 = false) (HI : Hid (∀ W, Calls Try.prog 79 #[.float .f64 x, .int .i64 0] W fun e w' => e = .returned (.bool false) ∧ W = w'))
    (HN : Hid (∀ W, Calls Try.prog 78 #[.float .f64 x] W fun e w' => e = .returned (.bool false) ∧ W = w'))
    (HM : Hid (∀ W, Calls Try.prog 99 #[.float .f64 x] W fun e w' => e = .returned (.tuple #[.float .f64 Y, .int .i64 q]) ∧ Below W.heap.size W w'))
    (hY : Y < 18446744073709551616) (b1 : bits .and .i64 ((Y : Int) / 4503599627370496) 2047 = (E : Int)) (b2 : bits .andNot .u64 (Y : Int) 9218868437227405312 = (A : Int))
    (hE1 : 1 ≤ E) (hE2 : E ≤ 2046) (hq1 : -52 ≤ q) (hq2 : q ≤ 0) (hp1 : -5000 ≤ p) (hp2 : p ≤ 5000) (hA : A < 18446744073709551616) (w : World)
    (hk : p + q + (E - 1023) = k) (hB : B < 18446744073709551616) (h1 : -1022 ≤ k) (h2 : k ≤ 1023) (b3 : bits .or .u64 (A : Int) ((k + 1023) * 4503599627370496) = (B : Int)) (hm : isnan (fmul 4607182418800017408 B) = false) :
    Calls Try.prog 88 #[.float .f64 x, .int .i64 p] w fun e w' => e = .returned (.float .f64 (fmul 4607182418800017408 B)) ∧ Below w.heap.size w w' := by
  go_enter Try.func88, Try.ntmps88
  go_wp2_with fail
  refine (HI.out _).mono ?_
  rintro e w' ⟨rfl, rfl⟩
  go_wp2_with fail
  refine (HN.out _).mono ?_
  rintro e w' ⟨rfl, rfl⟩
  go_wp2_with fail
  refine (HM.out _).mono ?_
  rintro e w1 ⟨rfl, hb1⟩
  have HR := Lib.hid (fun s => raw_of_not hm s)
  clear hm
  go_wp2_with (first | (refine wpList_flt rfl rfl rfl rfl rfl ?_; intro K hK _ _; go_frame; refine hK _ _ ?_; clear hK K))
  go_ret
  exact ⟨by rw [HR.out]; rfl, below_drewN _ hb1⟩

set_option maxHeartbeats 4000000 in
theorem ldexp_den (x Y E A B : Nat) (p q k : Int) (hz : feq x 0 = false) (HI : Hid (∀ W, Calls Try.prog 79 #[.float .f64 x, .int .i64 0] W fun e w' => e = .returned (.bool false) ∧ W = w'))
    (HN : Hid (∀ W, Calls Try.prog 78 #[.float .f64 x] W fun e w' => e = .returned (.bool false) ∧ W = w'))
    (HM : Hid (∀ W, Calls Try.prog 99 #[.float .f64 x] W fun e w' => e = .returned (.tuple #[.float .f64 Y, .int .i64 q]) ∧ Below W.heap.size W w'))
    (hY : Y < 18446744073709551616) (b1 : bits .and .i64 ((Y : Int) / 4503599627370496) 2047 = (E : Int)) (b2 : bits .andNot .u64 (Y : Int) 9218868437227405312 = (A : Int))
    (hE1 : 1 ≤ E) (hE2 : E ≤ 2046) (hq1 : -52 ≤ q) (hq2 : q ≤ 0) (hp1 : -5000 ≤ p) (hp2 : p ≤ 5000) (hA : A < 18446744073709551616) (w : World)
    (hk : p + q + (E - 1023) = k) (hB : B < 18446744073709551616) (h1 : -1075 ≤ k) (h2 : k < -1022) (b3 : bits .or .u64 (A : Int) ((k + 53 + 1023) * 4503599627370496) = (B : Int)) (hm : isnan (fmul 4368491638549381120 B) = false) :
    Calls Try.prog 88 #[.float .f64 x, .int .i64 p] w fun e w' => e = .returned (.float .f64 (fmul 4368491638549381120 B)) ∧ Below w.heap.size w w' := by
  go_enter Try.func88, Try.ntmps88
  go_wp2_with fail
  refine (HI.out _).mono ?_
  rintro e w' ⟨rfl, rfl⟩
  go_wp2_with fail
  refine (HN.out _).mono ?_
  rintro e w' ⟨rfl, rfl⟩
  go_wp2_with fail
  refine (HM.out _).mono ?_
  rintro e w1 ⟨rfl, hb1⟩
  have HR := Lib.hid (fun s => raw_of_not hm s)
  clear hm
  go_wp2_with (first | (refine wpList_flt rfl rfl rfl rfl rfl ?_; intro K hK _ _; go_frame; refine hK _ _ ?_; clear hK K))
  go_ret
  exact ⟨by rw [HR.out]; rfl, below_drewN _ hb1⟩

set_option maxHeartbeats 4000000 in
theorem ldexp_low (x Y E A : Nat) (p q k : Int) (hz : feq x 0 = false) (HI : Hid (∀ W, Calls Try.prog 79 #[.float .f64 x, .int .i64 0] W fun e w' => e = .returned (.bool false) ∧ W = w'))
    (HN : Hid (∀ W, Calls Try.prog 78 #[.float .f64 x] W fun e w' => e = .returned (.bool false) ∧ W = w'))
    (HM : Hid (∀ W, Calls Try.prog 99 #[.float .f64 x] W fun e w' => e = .returned (.tuple #[.float .f64 Y, .int .i64 q]) ∧ Below W.heap.size W w'))
    (hY : Y < 18446744073709551616) (b1 : bits .and .i64 ((Y : Int) / 4503599627370496) 2047 = (E : Int)) (b2 : bits .andNot .u64 (Y : Int) 9218868437227405312 = (A : Int))
    (hE1 : 1 ≤ E) (hE2 : E ≤ 2046) (hq1 : -52 ≤ q) (hq2 : q ≤ 0) (hp1 : -5000 ≤ p) (hp2 : p ≤ 5000) (hA : A < 18446744073709551616) (w : World)
    (hk : p + q + (E - 1023) = k) (h1 : k < -1075) :
    Calls Try.prog 88 #[.float .f64 x, .int .i64 p] w fun e w' => e = .returned (.float .f64 (Y / 9223372036854775808 * 9223372036854775808)) ∧ Below w.heap.size w w' := by
  go_enter Try.func88, Try.ntmps88
  go_wp2_with fail
  refine (HI.out _).mono ?_
  rintro e w' ⟨rfl, rfl⟩
  go_wp2_with fail
  refine (HN.out _).mono ?_
  rintro e w' ⟨rfl, rfl⟩
  go_wp2_with fail
  refine (HM.out _).mono ?_
  rintro e w1 ⟨rfl, hb1⟩
  have HC := Lib.hid (fun W => Copysign_zero Y hY W)
  go_wp2_with fail
  refine (HC.out _).mono ?_
  rintro e w' ⟨rfl, rfl⟩
  go_wp2_with fail
  go_ret
  exact ⟨rfl, hb1⟩

set_option maxHeartbeats 4000000 in
theorem ldexp_neg (x Y E A : Nat) (p q k : Int) (hz : feq x 0 = false) (HI : Hid (∀ W, Calls Try.prog 79 #[.float .f64 x, .int .i64 0] W fun e w' => e = .returned (.bool false) ∧ W = w'))
    (HN : Hid (∀ W, Calls Try.prog 78 #[.float .f64 x] W fun e w' => e = .returned (.bool false) ∧ W = w'))
    (HM : Hid (∀ W, Calls Try.prog 99 #[.float .f64 x] W fun e w' => e = .returned (.tuple #[.float .f64 Y, .int .i64 q]) ∧ Below W.heap.size W w'))
    (hY : Y < 18446744073709551616) (b1 : bits .and .i64 ((Y : Int) / 4503599627370496) 2047 = (E : Int)) (b2 : bits .andNot .u64 (Y : Int) 9218868437227405312 = (A : Int))
    (hE1 : 1 ≤ E) (hE2 : E ≤ 2046) (hq1 : -52 ≤ q) (hq2 : q ≤ 0) (hp1 : -5000 ≤ p) (hp2 : p ≤ 5000) (hA : A < 18446744073709551616) (w : World)
    (hk : p + q + (E - 1023) = k) (h1 : 1023 < k) (hs : flt Y 0 = true) :
    Calls Try.prog 88 #[.float .f64 x, .int .i64 p] w fun e w' => e = .returned (.float .f64 18442240474082181120) ∧ Below w.heap.size w w' := by
  go_enter Try.func88, Try.ntmps88
  go_wp2_with fail
  refine (HI.out _).mono ?_
  rintro e w' ⟨rfl, rfl⟩
  go_wp2_with fail
  refine (HN.out _).mono ?_
  rintro e w' ⟨rfl, rfl⟩
  go_wp2_with fail
  refine (HM.out _).mono ?_
  rintro e w1 ⟨rfl, hb1⟩
  go_wp2_with fail
  refine (Inf_neg _).mono ?_
  rintro e w' ⟨rfl, rfl⟩
  go_wp2_with fail
  go_ret
  exact ⟨rfl, hb1⟩

set_option maxHeartbeats 4000000 in
theorem ldexp_pos (x Y E A : Nat) (p q k : Int) (hz : feq x 0 = false) (HI : Hid (∀ W, Calls Try.prog 79 #[.float .f64 x, .int .i64 0] W fun e w' => e = .returned (.bool false) ∧ W = w'))
    (HN : Hid (∀ W, Calls Try.prog 78 #[.float .f64 x] W fun e w' => e = .returned (.bool false) ∧ W = w'))
    (HM : Hid (∀ W, Calls Try.prog 99 #[.float .f64 x] W fun e w' => e = .returned (.tuple #[.float .f64 Y, .int .i64 q]) ∧ Below W.heap.size W w'))
    (hY : Y < 18446744073709551616) (b1 : bits .and .i64 ((Y : Int) / 4503599627370496) 2047 = (E : Int)) (b2 : bits .andNot .u64 (Y : Int) 9218868437227405312 = (A : Int))
    (hE1 : 1 ≤ E) (hE2 : E ≤ 2046) (hq1 : -52 ≤ q) (hq2 : q ≤ 0) (hp1 : -5000 ≤ p) (hp2 : p ≤ 5000) (hA : A < 18446744073709551616) (w : World)
    (hk : p + q + (E - 1023) = k) (h1 : 1023 < k) (hs : flt Y 0 = false) :
    Calls Try.prog 88 #[.float .f64 x, .int .i64 p] w fun e w' => e = .returned (.float .f64 9218868437227405312) ∧ Below w.heap.size w w' := by
  go_enter Try.func88, Try.ntmps88
  go_wp2_with fail
  refine (HI.out _).mono ?_
  rintro e w' ⟨rfl, rfl⟩
  go_wp2_with fail
  refine (HN.out _).mono ?_
  rintro e w' ⟨rfl, rfl⟩
  go_wp2_with fail
  refine (HM.out _).mono ?_
  rintro e w1 ⟨rfl, hb1⟩
  go_wp2_with fail
  refine (Inf_pos _).mono ?_
  rintro e w' ⟨rfl, rfl⟩
  go_wp2_with fail
  go_ret
  exact ⟨rfl, hb1⟩

theorem timesW_fin {x : Nat} {p : Int} (hf : x % 9223372036854775808 < 9218868437227405312) (h0 : 0 < x % 9223372036854775808) : timesW x p = Ieee.double.word (fsgn x) (roundR (sigR (x % 9223372036854775808)) (expR (x % 9223372036854775808) + p)) := by
  unfold timesW timesW.ffinW
  rw [decide_eq_true hf, if_neg (by rintro (h | h); cases h; omega)]
theorem mul_norm {s m E c B : Nat} {k : Int} (hB : B = 2 ^ 52) (hc : Ieee.double.read c = .number false B (k - 52)) (hs : s < 2) (hm1 : 4503599627370496 ≤ m) (hm2 : m < 9007199254740992) (hE : 1 ≤ E) (hE2 : E ≤ 2046) :
    fmul c (s * 9223372036854775808 + (E * 4503599627370496 + (m - 4503599627370496))) = s * 9223372036854775808 + roundR m (E + k) := by
  have hr : (s * 9223372036854775808 + (E * 4503599627370496 + (m - 4503599627370496))) % 9223372036854775808 = E * 4503599627370496 + (m - 4503599627370496) := by omega
  have hd : (s * 9223372036854775808 + (E * 4503599627370496 + (m - 4503599627370496))) / 9223372036854775808 = s := by omega
  have hn := norm_sig hm1 hm2 hE hE2
  rw [mul_pow_l hB hc (by rw [hr]; omega) (by rw [hr]; omega), word_sgn (by omega), hd, hr, hn.1, hn.2]
theorem flt_zero {x : Nat} (hn : isnan x = false) : flt x 0 = decide (x / 9223372036854775808 % 2 = 1 ∧ 0 < x % 9223372036854775808) := by
  rw [flt_key hn (by kernel_rfl), show fkey 0 = 0 from by decide, Bool.eq_iff_iff]
  unfold fkey
  simp only [decide_eq_true_eq]
  split <;> omega
theorem ldexp_fin (x : Nat) (p : Int) (hx : x < 18446744073709551616) (hf : x % 9223372036854775808 < 9218868437227405312) (h0 : 0 < x % 9223372036854775808) (hp1 : -5000 ≤ p) (hp2 : p ≤ 5000) (w : World) :
    Calls Try.prog 88 #[.float .f64 x, .int .i64 p] w fun e w' => e = .returned (.float .f64 (timesW x p)) ∧ Below w.heap.size w w' := by
  have hn := isnan_fin hf
  have hz := feq_zero hn
  rw [decide_eq_false (by omega)] at hz
  have HI := fun W => IsInf0_any x hx W
  rw [decide_eq_false (by omega)] at HI
  have HN := fun W => IsNaN_any x W
  rw [hn] at HN
  have HM := fun W => normalize_any x hx hf h0 W
  obtain ⟨p1, p2, p3, p4⟩ := nY_parts hx hf h0
  have hb := sig_bnd h0
  have hE := nE_bnd h0 hf
  have b1 := i64_and_2047 (nY x / 4503599627370496) (by omega)
  rw [Int.natCast_ediv] at b1
  have b2 := andNot_exp p1
  rw [p2] at b1
  rw [p3, p4] at b2
  rw [timesW_fin hf h0, word_sgn hx, hE.2.2.1]
  have hs : x / 9223372036854775808 < 2 := by omega
  have hY : nY x = x / 9223372036854775808 * 9223372036854775808 + (nE (x % 9223372036854775808) * 4503599627370496 + (sigR (x % 9223372036854775808) - 4503599627370496)) := rfl
  generalize nY x = Y at *
  obtain ⟨hE1, hE2, _, hE4⟩ := hE
  generalize nE (x % 9223372036854775808) = E at *
  generalize ne (x % 9223372036854775808) = q at *
  generalize sigR (x % 9223372036854775808) = m at *
  generalize x / 9223372036854775808 = s at *
  have hk : p + q + ((E : Int) - 1023) = (E : Int) + q + p - 1023 := by omega
  have hql : -52 ≤ q := by omega
  have hqh : q ≤ 0 := by omega
  clear hE4
  by_cases c1 : (E : Int) + q + p - 1023 < -1075
  · have := ldexp_low x Y E _ p q _ hz (Lib.hid HI) (Lib.hid HN) (Lib.hid HM) p1 b1 b2 hE1 hE2 hql hqh hp1 hp2 (by omega) w hk c1
    rw [p3] at this
    rw [show roundR m ((E : Int) + q + p) = 0 by unfold roundR; rw [if_neg (by omega), if_neg (by omega), if_pos (by omega)], Nat.add_zero]
    exact this
  · by_cases c2 : 1023 < (E : Int) + q + p - 1023
    · rw [show roundR m ((E : Int) + q + p) = 9218868437227405312 by unfold roundR; rw [if_pos (by omega)]]
      have hYn : isnan Y = false := isnan_fin (by rw [hY]; omega)
      have hl := flt_zero hYn
      rw [p3] at hl
      by_cases hs1 : s = 1
      · subst hs1
        rw [decide_eq_true (by omega)] at hl
        exact ldexp_neg x Y E _ p q _ hz (Lib.hid HI) (Lib.hid HN) (Lib.hid HM) p1 b1 b2 hE1 hE2 hql hqh hp1 hp2 (by omega) w hk c2 hl
      · obtain rfl : s = 0 := by omega
        rw [decide_eq_false (by omega)] at hl
        exact ldexp_pos x Y E _ p q _ hz (Lib.hid HI) (Lib.hid HN) (Lib.hid HM) p1 b1 b2 hE1 hE2 hql hqh hp1 hp2 (by omega) w hk c2 hl
    · by_cases c3 : (E : Int) + q + p - 1023 < -1022
      · obtain ⟨F, hF⟩ : ∃ F : Nat, (F : Int) = (E : Int) + q + p - 1023 + 53 + 1023 := ⟨((E : Int) + q + p - 1023 + 53 + 1023).toNat, by omega⟩
        have b3 := or_exp (s := s) (f := m - 4503599627370496) (E := F) hs (by omega) (by omega)
        rw [Int.natCast_mul, hF] at b3
        have hmul := mul_norm (k := -53) (B := 2 ^ 52) (c := 4368491638549381120) rfl (by decide) hs hb.1 hb.2 (E := F) (by omega) (by omega)
        rw [show (F : Int) + -53 = (E : Int) + q + p by omega] at hmul
        have hnn : isnan (s * 9223372036854775808 + roundR m ((E : Int) + q + p)) = false := by
          have := roundR_le m ((E : Int) + q + p) hb.2
          unfold isnan
          rw [decide_eq_false_iff_not]
          omega
        rw [← hmul] at hnn ⊢
        exact ldexp_den x Y E _ _ p q _ hz (Lib.hid HI) (Lib.hid HN) (Lib.hid HM) p1 b1 b2 hE1 hE2 hql hqh hp1 hp2 (by omega) w hk (by omega) (by omega) c3 b3 hnn
      · obtain ⟨F, hF⟩ : ∃ F : Nat, (F : Int) = (E : Int) + q + p - 1023 + 1023 := ⟨((E : Int) + q + p - 1023 + 1023).toNat, by omega⟩
        have b3 := or_exp (s := s) (f := m - 4503599627370496) (E := F) hs (by omega) (by omega)
        rw [Int.natCast_mul, hF] at b3
        have hmul := mul_norm (k := 0) (B := 2 ^ 52) (c := 4607182418800017408) rfl (by decide) hs hb.1 hb.2 (E := F) (by omega) (by omega)
        rw [show (F : Int) + 0 = (E : Int) + q + p by omega] at hmul
        have hnn : isnan (s * 9223372036854775808 + roundR m ((E : Int) + q + p)) = false := by
          have := roundR_le m ((E : Int) + q + p) hb.2
          unfold isnan
          rw [decide_eq_false_iff_not]
          omega
        rw [← hmul] at hnn ⊢
        exact ldexp_norm x Y E _ _ p q _ hz (Lib.hid HI) (Lib.hid HN) (Lib.hid HM) p1 b1 b2 hE1 hE2 hql hqh hp1 hp2 (by omega) w hk (by omega) (by omega) (by omega) b3 hnn
end Go.Proofs.Ytogkmddhgfenkaa
