/- Package guard: a float times a power of two; the document's. -/
import Derived.Test.YtogkmddhgfenkaaGf
namespace Go.Proofs.Ytogkmddhgfenkaa
open Go Go.RowKit
set_option maxRecDepth 100000
theorem timesW_out {x : Nat} {p : Int} (h : ¬ x % 9223372036854775808 < 9218868437227405312 ∨ x % 9223372036854775808 = 0) : timesW x p = x := by
  unfold timesW timesW.ffinW
  rw [if_pos]
  rcases h with h | h
  · exact .inl (decide_eq_false h)
  · exact .inr h
theorem timesW_lt {x : Nat} (hx : x < 18446744073709551616) (p : Int) : timesW x p < 18446744073709551616 := by
  by_cases h : x % 9223372036854775808 < 9218868437227405312 ∧ 0 < x % 9223372036854775808
  · rw [timesW_fin h.1 h.2]
    exact (word_parts _ (Nat.lt_of_le_of_lt (roundR_le _ _ (sig_bnd h.2).2) (by decide))).2.2
  · rw [timesW_out (by omega)]; exact hx
theorem timesW_zero {x : Nat} (hx : x < 18446744073709551616) : timesW x 0 = x := by
  by_cases h : x % 9223372036854775808 < 9218868437227405312 ∧ 0 < x % 9223372036854775808
  · rw [timesW_fin h.1 h.2, Int.add_zero, round_self h.2 h.1, word_self hx]
  · rw [timesW_out (by omega)]
/-- Beyond 5000 nothing changes. -/
theorem timesW_clamp (x : Nat) (p : Int) : timesW x (max (-5000) (min p 5000)) = timesW x p := by
  by_cases h : x % 9223372036854775808 < 9218868437227405312 ∧ 0 < x % 9223372036854775808
  · have hx := exp_bnd h.2 h.1
    rw [timesW_fin h.1 h.2, timesW_fin h.1 h.2]
    congr 1
    by_cases h1 : 5000 < p
    · have e : max (-5000) (min p 5000) = 5000 := by omega
      rw [e]
      unfold roundR
      rw [if_pos (by omega), if_pos (by omega)]
    · by_cases h2 : p < -5000
      · have e : max (-5000) (min p 5000) = -5000 := by omega
        rw [e]
        unfold roundR
        rw [if_neg (by omega), if_neg (by omega), if_pos (by omega), if_neg (by omega), if_neg (by omega), if_pos (by omega)]
      · have e : max (-5000) (min p 5000) = p := by omega
        rw [e]
  · rw [timesW_out (by omega), timesW_out (by omega)]
set_option maxHeartbeats 4000000 in
theorem ldexp_any (x : Nat) (p : Int) (hx : x < 18446744073709551616) (hp1 : -5000 ≤ p) (hp2 : p ≤ 5000) (w : World) :
    Calls Try.prog 88 #[.float .f64 x, .int .i64 p] w fun e w' => e = .returned (.float .f64 (timesW x p)) ∧ Below w.heap.size w w' := by
  by_cases h : x % 9223372036854775808 < 9218868437227405312 ∧ 0 < x % 9223372036854775808
  · exact ldexp_fin x p hx h.1 h.2 hp1 hp2 w
  · rw [timesW_out (by omega)]
    cases hn : isnan x
    · have hz := feq_zero hn
      by_cases h0 : x % 9223372036854775808 = 0
      · rw [decide_eq_true h0] at hz
        clear h h0 hn
        go_enter Try.func88, Try.ntmps88
        go_wp2
        go_ret
        exact ⟨rfl, Below.refl _ _⟩
      · rw [decide_eq_false h0] at hz
        have HI := Lib.hid (fun W => IsInf0_any x hx W)
        rw [decide_eq_true (by unfold isnan at hn; rw [decide_eq_false_iff_not] at hn; omega)] at HI
        clear h h0 hn
        go_enter Try.func88, Try.ntmps88
        go_wp2_with fail
        refine (HI.out _).mono ?_
        rintro e w' ⟨rfl, rfl⟩
        go_wp2
        go_ret
        exact ⟨rfl, Below.refl _ _⟩
    · have hz := feq_nan (x := x) (y := 0) (.inl hn)
      have HI := Lib.hid (fun W => IsInf0_any x hx W)
      rw [decide_eq_false (by unfold isnan at hn; rw [decide_eq_true_iff] at hn; omega)] at HI
      have HN := Lib.hid (fun W => IsNaN_any x W)
      rw [hn] at HN
      clear h hn
      go_enter Try.func88, Try.ntmps88
      go_wp2_with fail
      refine (HI.out _).mono ?_
      rintro e w' ⟨rfl, rfl⟩
      go_wp2_with fail
      refine (HN.out _).mono ?_
      rintro e w' ⟨rfl, rfl⟩
      go_wp2
      go_ret
      exact ⟨rfl, Below.refl _ _⟩
theorem Ldexp_any (x : Nat) (p : Int) (hx : x < 18446744073709551616) (hp1 : -5000 ≤ p) (hp2 : p ≤ 5000) (w : World) :
    Calls Try.prog 57 #[.float .f64 x, .int .i64 p] w fun e w' => e = .returned (.float .f64 (timesW x p)) ∧ Below w.heap.size w w' := by
  have H := Lib.hid (ldexp_any x p hx hp1 hp2 w)
  go_enter Try.func57, Try.ntmps57
  go_wp2_with fail
  refine H.out.mono ?_
  rintro e w1 ⟨rfl, hb1⟩
  go_wp2
  go_ret
  exact ⟨rfl, hb1⟩
set_option maxHeartbeats 2000000 in
theorem Times_any (x : Nat) (p : Int) (hx : x < 18446744073709551616) (w : World) :
    Calls Try.prog 30 #[.float .f64 x, .int .i64 p] w fun e w' => e = .returned (.float .f64 (timesW x p)) ∧ Below w.heap.size w w' := by
  have hc := timesW_clamp x p
  by_cases h1 : 5000 < p
  · rw [show max (-5000) (min p 5000) = 5000 by omega] at hc
    rw [← hc]
    have HL := Lib.hid (fun W => Ldexp_any x 5000 hx (by omega) (by omega) W)
    clear hc
    go_enter Try.func30, Try.ntmps30
    go_wp2_with fail
    refine (HL.out _).mono ?_
    rintro e w1 ⟨rfl, hb1⟩
    go_wp2
    go_ret
    exact ⟨rfl, hb1⟩
  · by_cases h2 : p ≤ -5000
    · rw [show max (-5000) (min p 5000) = -5000 by omega] at hc
      rw [← hc]
      have HL := Lib.hid (fun W => Ldexp_any x (-5000) hx (by omega) (by omega) W)
      clear hc
      go_enter Try.func30, Try.ntmps30
      go_wp2_with fail
      refine (HL.out _).mono ?_
      rintro e w1 ⟨rfl, hb1⟩
      go_wp2
      go_ret
      exact ⟨rfl, hb1⟩
    · have h3 : p ≤ 5000 := by omega
      have h4 : -5000 < p := by omega
      have HL := Lib.hid (fun W => Ldexp_any x p hx (Int.le_of_lt h4) h3 W)
      clear hc h1 h2
      go_enter Try.func30, Try.ntmps30
      go_wp2_with fail
      refine (HL.out _).mono ?_
      rintro e w1 ⟨rfl, hb1⟩
      go_wp2
      go_ret
      exact ⟨rfl, hb1⟩
end Go.Proofs.Ytogkmddhgfenkaa
