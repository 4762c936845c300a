/- The statement's own function: places of floats, floats of places. -/
import Derived.Test.YtpjdibanjmmbkaaSt14
namespace Go.Proofs.Ytpjdibanjmmbkaa
open Go Go.RowKit
set_option maxRecDepth 100000

theorem isnan_pos {n : Nat} (h : n ≤ 9218868437227405312) : isnan n = false := by
  unfold isnan
  rw [decide_eq_false_iff_not, Nat.mod_eq_of_lt (by omega)]
  omega
theorem isnan_neg {n : Nat} (h : n ≤ 9218868437227405312) : isnan (n + 9223372036854775808) = false := by
  unfold isnan
  rw [decide_eq_false_iff_not, Nat.add_mod_right, Nat.mod_eq_of_lt (by omega)]
  omega
theorem pl_at {p : Int} (h : isnan (atN p) = false) : plN (atN p) = p := by
  rcases at_case p with h1 | ⟨n, rfl, h1⟩ | ⟨n, rfl, h1, h0⟩
  · rw [at_nan h1] at h
    exact absurd h (by rw [show isnan 9221120237041090561 = true from by kernel_rfl]; decide)
  · rw [at_pos h1, pl_num (by omega) (isnan_pos h1), if_pos (by omega)]
  · rw [at_neg h1 h0, pl_num (by omega) (isnan_neg h1), if_neg (by omega), Nat.add_sub_cancel]
theorem at_pl {x : Nat} (hx : x < 18446744073709551616) (h : isnan x = false) : feq (atN (plN x)) x = true := by
  have hn := h
  unfold isnan at hn
  rw [decide_eq_false_iff_not] at hn
  have hfx : feq x x = true := by rw [feq_self, h]; rfl
  rw [pl_num hx h]
  by_cases h1 : x < 9223372036854775808
  · rw [if_pos h1, at_pos (by rw [Nat.mod_eq_of_lt h1] at hn; omega)]
    exact hfx
  · rw [if_neg h1]
    have hm : x % 9223372036854775808 = x - 9223372036854775808 := by omega
    rw [hm] at hn
    by_cases h2 : x - 9223372036854775808 = 0
    · have e : x = 9223372036854775808 := by omega
      rw [e]
      exact (show feq (atN (-((9223372036854775808 - 9223372036854775808 : Nat) : Int))) 9223372036854775808 = true from by kernel_rfl)
    · rw [at_neg (by omega) (by omega), Nat.sub_add_cancel (by omega)]
      exact hfx

set_option maxHeartbeats 1000000 in
theorem float13_any (x : Nat) (hx : x < 18446744073709551616) (w : World) : Calls Try.prog 62 #[.float .f64 x, .float .f64 x] w fun e w' => e = .returned (.bool true) ∧ Below w.heap.size w w' := by
  have HB := Lib.hid (fun W => Bits_any x hx W)
  go_enter Try.func62, Try.ntmps62
  go_wp2_with fail
  refine (HB.out _).mono ?_
  rintro e w1 ⟨rfl, rfl⟩
  go_wp2_with fail
  refine (HB.out _).mono ?_
  rintro e w2 ⟨rfl, rfl⟩
  go_wp2
  go_ret
  exact ⟨rfl, Below.refl _ _⟩
set_option maxHeartbeats 4000000 in
theorem places_any (w : World) (x : Nat) (p : Int) (hx : x < 18446744073709551616) :
    Calls Try.prog 12 #[.float .f64 x, .int .i64 p] w fun e w' => e = .returned (.bool true) ∧ Below w.heap.size w w' := by
  have HP := Lib.hid (fun W => Place_any x hx W)
  have HR := Lib.hid (fun W => RPlace_any x hx W)
  have HA := Lib.hid (fun q W => At13_any q W)
  have HRA := Lib.hid (fun q W => RAt13_any q W)
  have HF := Lib.hid (fun W => float13_any (atN p) (atN_lt p) W)
  have HPA := Lib.hid (fun W => Place_any (atN p) (atN_lt p) W)
  have h1 : (plN x != plN x) = false := bne_self_eq_false _
  have hxx := feq_self x
  have hyy := feq_self (atN p)
  go_enter Try.func12, Try.ntmps12
  go_wp2_with fail
  refine (HP.out _).mono ?_
  rintro e w' ⟨rfl, rfl⟩
  go_wp2_with fail
  refine (HR.out _).mono ?_
  rintro e w' ⟨rfl, rfl⟩
  go_wp2_with fail
  refine (HA.out p _).mono ?_
  rintro e w' ⟨rfl, rfl⟩
  go_wp2_with fail
  refine (HRA.out p _).mono ?_
  rintro e w' ⟨rfl, rfl⟩
  go_wp2_with fail
  refine (HF.out _).mono ?_
  rintro e w1 ⟨rfl, hb1⟩
  cases hn : isnan x
  · rw [hn] at hxx
    have hap := at_pl hx hn
    go_wp2_with fail
    refine (HP.out _).mono ?_
    rintro e w' ⟨rfl, rfl⟩
    go_wp2_with fail
    refine (HA.out (plN x) _).mono ?_
    rintro e w' ⟨rfl, rfl⟩
    go_wp2_with fail
    refine (HA.out p _).mono ?_
    rintro e w' ⟨rfl, rfl⟩
    cases hm : isnan (atN p)
    · rw [hm] at hyy
      have hpa := pl_at hm
      go_wp2_with fail
      refine (HPA.out _).mono ?_
      rintro e w' ⟨rfl, rfl⟩
      rw [hpa]
      clear hpa
      go_wp2_with fail
      refine (known13 _).mono ?_
      rintro e w2 ⟨rfl, hb2⟩
      go_wp2
      go_ret
      exact ⟨rfl, below_step hb1 hb1.size hb2⟩
    · rw [hm] at hyy
      go_wp2_with fail
      refine (known13 _).mono ?_
      rintro e w2 ⟨rfl, hb2⟩
      go_wp2
      go_ret
      exact ⟨rfl, below_step hb1 hb1.size hb2⟩
  · rw [hn] at hxx
    go_wp2_with fail
    refine (HA.out p _).mono ?_
    rintro e w' ⟨rfl, rfl⟩
    cases hm : isnan (atN p)
    · rw [hm] at hyy
      have hpa := pl_at hm
      go_wp2_with fail
      refine (HPA.out _).mono ?_
      rintro e w' ⟨rfl, rfl⟩
      rw [hpa]
      clear hpa
      go_wp2_with fail
      refine (known13 _).mono ?_
      rintro e w2 ⟨rfl, hb2⟩
      go_wp2
      go_ret
      exact ⟨rfl, below_step hb1 hb1.size hb2⟩
    · rw [hm] at hyy
      go_wp2_with fail
      refine (known13 _).mono ?_
      rintro e w2 ⟨rfl, hb2⟩
      go_wp2
      go_ret
      exact ⟨rfl, below_step hb1 hb1.size hb2⟩
end Go.Proofs.Ytpjdibanjmmbkaa
