/- The document's sizes, signs and lengths of two; the program's sign. No condition. -/
import Derived.Test.YtbmnlohaidbmdaaQa
namespace Go.Proofs.Ytbmnlohaidbmdaa
open Go Go.RowKit
set_option maxRecDepth 100000
theorem RAbs_any (x : Nat) (hx : x < 18446744073709551616) (w : World) : Calls Try.prog 29 #[.float .f64 x] w fun e w' => e = .returned (.float .f64 (fabs x)) ∧ w = w' := by
  go_enter Try.func29, Try.ntmps29
  go_wp2
  have e : (IntKind.u64.wrap ((x : Int) * 2) / 2).toNat = fabs x := by rw [IntKind.wrap_u64]; unfold fabs; omega
  rw [e]
  go_ret
  exact ⟨rfl, rfl⟩
theorem or_sgn (x y : Nat) (hy : y < 18446744073709551616) : bits .or .u64 ((fabs x : Nat) : Int) ((y / 9223372036854775808 * 9223372036854775808 : Nat) : Int) = ((fabs x + y / 9223372036854775808 * 9223372036854775808 : Nat) : Int) := by
  have hf := fabs_lt x
  rw [u64_or_nat _ _ (by omega) (by omega)]
  congr 1
  have h01 : y / 9223372036854775808 = 0 ∨ y / 9223372036854775808 = 1 := by omega
  generalize fabs x = n at *
  rcases h01 with h | h <;> rw [h]
  · simp
  · rw [show (1 * 9223372036854775808 : Nat) = 2 ^ 63 * 1 from by decide, Nat.or_comm, ← Nat.two_pow_add_eq_or_of_lt (by simpa using hf)]
    omega
theorem CopysignW (x y : Nat) (hx : x < 18446744073709551616) (hy : y < 18446744073709551616) (w : World) : Calls Try.prog 44 #[.float .f64 x, .float .f64 y] w fun e w' => e = .returned (.float .f64 (fabs x + y / 9223372036854775808 * 9223372036854775808)) ∧ w = w' := by
  have e1 := bits_clear hx
  have e2 := bits_sign hy
  have e3 := or_sgn x y hy
  generalize fabs x + y / 9223372036854775808 * 9223372036854775808 = z at *
  generalize y / 9223372036854775808 * 9223372036854775808 = s at *
  go_enter Try.func44, Try.ntmps44
  go_wp2
  go_ret
  exact ⟨rfl, rfl⟩
theorem RSignW (x y : Nat) (hx : x < 18446744073709551616) (hy : y < 18446744073709551616) (w : World) : Calls Try.prog 31 #[.float .f64 x, .float .f64 y] w fun e w' => e = .returned (.float .f64 (fabs x + y / 9223372036854775808 * 9223372036854775808)) ∧ w = w' := by
  have e1 : IntKind.u64.wrap ((x : Int) * 2) / 2 = ((fabs x : Nat) : Int) := by rw [IntKind.wrap_u64]; unfold fabs; omega
  have e2 : IntKind.u64.wrap ((y : Int) / 9223372036854775808 * 9223372036854775808) = ((y / 9223372036854775808 * 9223372036854775808 : Nat) : Int) := by rw [IntKind.wrap_u64]; omega
  have e3 := or_sgn x y hy
  generalize fabs x + y / 9223372036854775808 * 9223372036854775808 = z at *
  generalize y / 9223372036854775808 * 9223372036854775808 = s at *
  generalize fabs x = fx at *
  go_enter Try.func31, Try.ntmps31
  go_wp2
  go_ret
  exact ⟨rfl, rfl⟩
/-- A size with a sign, on floats up to a NaN's bits. -/
theorem sgn_raw (x s y t : Nat) (hx : x < 18446744073709551616) (hy : y < 18446744073709551616) (h : isnan y = true → isnan x = true) : ∃ u, fabs (raw x s) + raw y t / 9223372036854775808 * 9223372036854775808 = raw (sgnW x y) u := by
  have h1 := raw_lt hx s
  have h2 := raw_lt hy t
  unfold sgnW
  cases hn : isnan x
  · have hny : isnan y = false := by
      cases hy' : isnan y
      · rfl
      · rw [h hy'] at hn; cases hn
    rw [if_neg (by simp), raw_of_not hn, raw_of_not hny]
    refine ⟨0, ?_⟩
    have hn2 : isnan (x % 9223372036854775808 + y / 9223372036854775808 * 9223372036854775808) = false := by
      with_unfolding_all (unfold isnan at hn ⊢)
      rw [decide_eq_false_iff_not] at hn ⊢
      omega
    rw [raw_of_not hn2]
    unfold fabs
    rfl
  · rw [if_pos rfl]
    have hb : fabs (raw x s) + raw y t / 9223372036854775808 * 9223372036854775808 < 18446744073709551616 := by unfold fabs; omega
    have hnb : isnan (fabs (raw x s) + raw y t / 9223372036854775808 * 9223372036854775808) = true := by
      have h3 : isnan (raw x s) = true := by rw [isnan_raw]; exact hn
      unfold fabs
      with_unfolding_all (unfold isnan at h3 ⊢)
      rw [decide_eq_true_eq] at h3 ⊢
      omega
    obtain ⟨u, hu⟩ := raw_nm hb
    rw [nm_of_isnan hnb] at hu
    exact ⟨u, hu⟩
theorem RSignF (x s y t : Nat) (hx : x < 18446744073709551616) (hy : y < 18446744073709551616) (h : isnan y = true → isnan x = true) (w : World) : Calls Try.prog 31 #[.float .f64 (raw x s), .float .f64 (raw y t)] w fun e w' => FR e (sgnW x y) ∧ w = w' := by
  obtain ⟨u, hu⟩ := sgn_raw x s y t hx hy h
  refine (RSignW _ _ (raw_lt hx s) (raw_lt hy t) w).mono ?_
  rintro e w' ⟨rfl, rfl⟩
  exact ⟨⟨u, by rw [hu]⟩, rfl⟩
theorem SignF (x s y t : Nat) (hx : x < 18446744073709551616) (hy : y < 18446744073709551616) (h : isnan y = true → isnan x = true) (w : World) : Calls Try.prog 39 #[.float .f64 (raw x s), .float .f64 (raw y t)] w fun e w' => FR e (sgnW x y) ∧ w = w' := by
  obtain ⟨u, hu⟩ := sgn_raw x s y t hx hy h
  have HC := Lib.hid (CopysignW _ _ (raw_lt hx s) (raw_lt hy t) w)
  rw [hu] at HC
  generalize raw x s = a at *
  generalize raw y t = b at *
  clear hu
  go_enter Try.func39, Try.ntmps39
  go_wp2_with fail
  refine HC.out.mono ?_
  rintro e w' ⟨rfl, rfl⟩
  go_wp2
  go_ret
  exact ⟨⟨u, rfl⟩, rfl⟩
theorem RAbsF (x s : Nat) (hx : x < 18446744073709551616) (w : World) : Calls Try.prog 29 #[.float .f64 (raw x s)] w fun e w' => FR e (fabs x) ∧ w = w' := by
  refine (RAbs_any (raw x s) (raw_lt hx s) w).mono ?_
  rintro e w' ⟨rfl, rfl⟩
  obtain ⟨t, ht⟩ := fabs_raw x s
  exact ⟨⟨t, by rw [ht]⟩, rfl⟩
set_option maxHeartbeats 4000000 in
theorem RHypotF (x s y t : Nat) (hx : x < 18446744073709551616) (hy : y < 18446744073709551616) (w : World) :
    Calls Try.prog 30 #[.float .f64 (raw x s), .float .f64 (raw y t)] w fun e w' => FR e (hypW x y) ∧ Below w.heap.size w w' := by
  have HX := Lib.hid (fun w => RAbsF x s hx w)
  have HY := Lib.hid (fun w => RAbsF y t hy w)
  have HS := Lib.hid (fun x s w => SqrtF x s w)
  obtain ⟨R, hR⟩ : ∃ R, R = hypW x y := ⟨_, rfl⟩
  unfold hypW at hR
  rw [← show R = hypW x y by rw [hR]; rfl]
  generalize fabs x = p at *
  generalize fabs y = q at *
  have HR := Lib.hid hR
  clear hR
  cases hlt : flt p q
  all_goals rw [hlt] at HR
  · rw [if_neg (by simp)] at HR
    cases hz : feq p 0
    · go_enter Try.func30, Try.ntmps30
      go_wp2_with fail
      refine (HX.out _).mono ?_
      rintro e w' ⟨⟨s1, rfl⟩, rfl⟩
      go_wp2_with fail
      refine (HY.out _).mono ?_
      rintro e w' ⟨⟨t1, rfl⟩, rfl⟩
      go_wp2_with (first | (go_at_call 42; refine (HS.out _ _ _).mono ?_; rintro e w2 ⟨⟨s5, rfl⟩, hb⟩) | (refine wpList_flt rfl rfl rfl rfl rfl ?_; intro K hK _ _; go_frame; refine hK _ _ ?_; clear hK K))
      go_ret
      refine ⟨FR.eq ?_, ?_⟩
      · rw [HR.out]; unfold hypP; rw [hz, if_neg (by decide), fmul_rawl, fmul_rawr]
      · exact below_drewN _ ((below_drewN _ (Below.refl _ _)).trans (hb.mono (by simp)))
    · go_enter Try.func30, Try.ntmps30
      go_wp2_with fail
      refine (HX.out _).mono ?_
      rintro e w' ⟨⟨s1, rfl⟩, rfl⟩
      go_wp2_with fail
      refine (HY.out _).mono ?_
      rintro e w' ⟨⟨t1, rfl⟩, rfl⟩
      go_wp2
      go_ret
      refine ⟨FR.eq ?_, Below.refl _ _⟩
      rw [HR.out]; unfold hypP; rw [hz, if_pos rfl]
  · rw [if_pos rfl] at HR
    cases hz : feq q 0
    · go_enter Try.func30, Try.ntmps30
      go_wp2_with fail
      refine (HX.out _).mono ?_
      rintro e w' ⟨⟨s1, rfl⟩, rfl⟩
      go_wp2_with fail
      refine (HY.out _).mono ?_
      rintro e w' ⟨⟨t1, rfl⟩, rfl⟩
      go_wp2_with (first | (go_at_call 42; refine (HS.out _ _ _).mono ?_; rintro e w2 ⟨⟨s5, rfl⟩, hb⟩) | (refine wpList_flt rfl rfl rfl rfl rfl ?_; intro K hK _ _; go_frame; refine hK _ _ ?_; clear hK K))
      go_ret
      refine ⟨FR.eq ?_, ?_⟩
      · rw [HR.out]; unfold hypP; rw [hz, if_neg (by decide), fmul_rawl, fmul_rawr]
      · exact below_drewN _ ((below_drewN _ (Below.refl _ _)).trans (hb.mono (by simp)))
    · go_enter Try.func30, Try.ntmps30
      go_wp2_with fail
      refine (HX.out _).mono ?_
      rintro e w' ⟨⟨s1, rfl⟩, rfl⟩
      go_wp2_with fail
      refine (HY.out _).mono ?_
      rintro e w' ⟨⟨t1, rfl⟩, rfl⟩
      go_wp2
      go_ret
      refine ⟨FR.eq ?_, Below.refl _ _⟩
      rw [HR.out]; unfold hypP; rw [hz, if_pos rfl]
end Go.Proofs.Ytbmnlohaidbmdaa
