/- Package guard, and the document's: words. -/
import Derived.Test.YtogkmddhgfenkaaGz
namespace Go.Proofs.Ytogkmddhgfenkaa
open Go Go.RowKit
set_option maxRecDepth 100000
theorem shl1 {x : Nat} (hx : x < 18446744073709551616) : IntKind.u64.wrap ((x : Int) * 2) / 2 = ((x % 9223372036854775808 : Nat) : Int) := by
  rw [IntKind.wrap_u64]
  omega
theorem shl1n {x : Nat} (hx : x < 18446744073709551616) : (IntKind.u64.wrap ((x : Int) * 2) == 0) = decide (x % 9223372036854775808 = 0) := by
  rw [IntKind.wrap_u64, Bool.eq_iff_iff]
  simp only [beq_iff_eq, decide_eq_true_eq]
  omega
theorem shl1ne {x : Nat} (hx : x < 18446744073709551616) : (IntKind.u64.wrap ((x : Int) * 2) != 0) = !decide (x % 9223372036854775808 = 0) := by
  rw [bne, shl1n hx]
theorem fin_pow (x : Nat) : ((x : Int) / 4503599627370496 % 2048 != 2047) = ffin x := by
  unfold ffin
  rw [Bool.eq_iff_iff]
  simp only [bne_iff_ne, ne_eq, decide_eq_true_eq]
  omega
theorem gsize_any (x : Nat) (hx : x < 18446744073709551616) (w : World) : Calls Try.prog 64 #[.int .u64 x] w fun e w' => e = .returned (.int .u64 (x % 9223372036854775808 : Nat)) ∧ w = w' := by
  have h := shl1 hx
  go_enter Try.func64, Try.ntmps64
  go_wp2
  go_ret
  exact ⟨rfl, rfl⟩
theorem gpower_any (x : Nat) (hx : x < 18446744073709551616) (w : World) : Calls Try.prog 91 #[.int .u64 x] w fun e w' => e = .returned (.int .i64 ((x : Int) / 4503599627370496 % 2048)) ∧ w = w' := by
  have h := bits_exp hx
  go_enter Try.func91, Try.ntmps91
  go_wp2
  go_ret
  exact ⟨rfl, rfl⟩
theorem gfin_any (x : Nat) (hx : x < 18446744073709551616) (w : World) : Calls Try.prog 65 #[.int .u64 x] w fun e w' => e = .returned (.bool (ffin x)) ∧ w = w' := by
  have h := fin_pow x
  go_enter Try.func65, Try.ntmps65
  go_wp2_with (go_at_call 91; refine (gpower_any x hx _).mono ?_; rintro e w' ⟨rfl, rfl⟩)
  go_ret
  exact ⟨rfl, rfl⟩
theorem take1_any (x : Nat) (hx : x < 18446744073709551616) (w : World) : Calls Try.prog 90 #[.int .u64 x] w fun e w' => e = .returned (.bool (!ffin x)) ∧ w = w' := by
  go_enter Try.func90, Try.ntmps90
  go_wp2_with (go_at_call 65; refine (gfin_any x hx _).mono ?_; rintro e w' ⟨rfl, rfl⟩)
  go_ret
  exact ⟨rfl, rfl⟩
theorem rfin_any (x : Nat) (hx : x < 18446744073709551616) (w : World) : Calls Try.prog 24 #[.int .u64 x] w fun e w' => e = .returned (.bool (ffin x)) ∧ w = w' := by
  have h := fin_pow x
  go_enter Try.func24, Try.ntmps24
  go_wp2
  go_ret
  exact ⟨rfl, rfl⟩
/-- Is a word in range? -/
def inrB (x : Nat) : Bool := decide (x % 9223372036854775808 = 0) || (decide (2805742567851819008 ≤ x % 9223372036854775808) && decide (x % 9223372036854775808 ≤ 6408622269748215808))
theorem inr_fin {x : Nat} (h : inrB x = true) : ffin x = true := by
  unfold inrB at h
  unfold ffin
  simp only [Bool.or_eq_true, Bool.and_eq_true, decide_eq_true_eq] at h ⊢
  omega
set_option maxHeartbeats 1000000 in
theorem ginr_any (x : Nat) (hx : x < 18446744073709551616) (w : World) : Calls Try.prog 21 #[.int .u64 x] w fun e w' => e = .returned (.bool (inrB x)) ∧ w = w' := by
  have HS := Lib.hid (fun W => gsize_any x hx W)
  unfold inrB
  have hl : x % 9223372036854775808 < 9223372036854775808 := Nat.mod_lt _ (by decide)
  generalize x % 9223372036854775808 = r at *
  clear hx
  by_cases h0 : r = 0
  · subst h0
    go_enter Try.func21, Try.ntmps21
    go_wp2_with (go_at_call 64; refine (HS.out _).mono ?_; rintro e w' ⟨rfl, rfl⟩)
    go_ret
    exact ⟨rfl, rfl⟩
  · have t0 : ((r : Int) == 0) = false := by rw [beq_eq_false_iff_ne]; omega
    rw [decide_eq_false h0]
    clear h0
    by_cases h1 : 2805742567851819008 ≤ r
    · have t1 : decide (2805742567851819008 ≤ (r : Int)) = true := decide_eq_true (by omega)
      rw [decide_eq_true h1]
      by_cases h2 : r ≤ 6408622269748215808
      · have t2 : decide ((r : Int) ≤ 6408622269748215808) = true := decide_eq_true (by omega)
        rw [decide_eq_true h2]
        clear h1 h2
        go_enter Try.func21, Try.ntmps21
        go_wp2_with (go_at_call 64; refine (HS.out _).mono ?_; rintro e w' ⟨rfl, rfl⟩)
        go_ret
        exact ⟨rfl, rfl⟩
      · have t2 : decide ((r : Int) ≤ 6408622269748215808) = false := decide_eq_false (by omega)
        rw [decide_eq_false h2]
        clear h1 h2
        go_enter Try.func21, Try.ntmps21
        go_wp2_with (go_at_call 64; refine (HS.out _).mono ?_; rintro e w' ⟨rfl, rfl⟩)
        go_ret
        exact ⟨rfl, rfl⟩
    · have t1 : decide (2805742567851819008 ≤ (r : Int)) = false := decide_eq_false (by omega)
      rw [decide_eq_false h1]
      clear h1
      go_enter Try.func21, Try.ntmps21
      go_wp2_with (go_at_call 64; refine (HS.out _).mono ?_; rintro e w' ⟨rfl, rfl⟩)
      go_ret
      exact ⟨rfl, rfl⟩
theorem fkey_small {r : Nat} (h : r < 9223372036854775808) : fkey r = (r : Int) := by unfold fkey; rw [Nat.div_eq_of_lt h, if_neg (by decide), Nat.mod_eq_of_lt h]
set_option maxHeartbeats 2000000 in
theorem rinr_any (x : Nat) (hx : x < 18446744073709551616) (w : World) : Calls Try.prog 22 #[.int .u64 x] w fun e w' => e = .returned (.bool (inrB x)) ∧ w = w' := by
  have HF := Lib.hid (fun W => rfin_any x hx W)
  have hs := shl1 hx
  cases hf : ffin x
  · have e0 : inrB x = false := by
      cases h : inrB x
      · rfl
      · rw [inr_fin h] at hf; cases hf
    rw [e0]
    rw [hf] at HF
    clear e0 hf hx
    go_enter Try.func22, Try.ntmps22
    go_wp2_with (go_at_call 24; refine (HF.out _).mono ?_; rintro e w' ⟨rfl, rfl⟩)
    go_ret
    exact ⟨rfl, rfl⟩
  · rw [hf] at HF
    unfold ffin at hf
    simp only [decide_eq_true_eq] at hf
    unfold inrB
    generalize x % 9223372036854775808 = r at *
    have hn : isnan r = false := isnan_fin (by rw [Nat.mod_eq_of_lt (by omega)]; exact hf)
    have f0 : feq r 0 = decide (r = 0) := by rw [feq_key hn (by kernel_rfl), fkey_small (by omega), show fkey 0 = 0 from by decide, Bool.eq_iff_iff]; simp only [decide_eq_true_eq]; omega
    have f1 : fle 2805742567851819008 r = decide (2805742567851819008 ≤ r) := by rw [fle_key (by kernel_rfl) hn, fkey_small (r := r) (by omega), show fkey 2805742567851819008 = 2805742567851819008 from by decide, Bool.eq_iff_iff]; simp only [decide_eq_true_eq]; omega
    have f2 : fle r 6408622269748215808 = decide (r ≤ 6408622269748215808) := by rw [fle_key hn (by kernel_rfl), fkey_small (r := r) (by omega), show fkey 6408622269748215808 = 6408622269748215808 from by decide, Bool.eq_iff_iff]; simp only [decide_eq_true_eq]; omega
    clear hf hn
    have hx' := hx
    clear hx
    cases d0 : decide (r = 0)
    · rw [d0] at f0
      clear d0
      cases d1 : decide (2805742567851819008 ≤ r)
      · rw [d1] at f1
        clear d1
        go_enter Try.func22, Try.ntmps22
        go_wp2_with (go_at_call 24; refine (HF.out _).mono ?_; rintro e w' ⟨rfl, rfl⟩)
        go_ret
        exact ⟨rfl, rfl⟩
      · rw [d1] at f1
        clear d1
        generalize decide (r ≤ 6408622269748215808) = q at *
        go_enter Try.func22, Try.ntmps22
        go_wp2_with (go_at_call 24; refine (HF.out _).mono ?_; rintro e w' ⟨rfl, rfl⟩)
        go_ret
        exact ⟨rfl, rfl⟩
    · rw [d0] at f0
      clear d0
      go_enter Try.func22, Try.ntmps22
      go_wp2_with (go_at_call 24; refine (HF.out _).mono ?_; rintro e w' ⟨rfl, rfl⟩)
      go_ret
      exact ⟨rfl, rfl⟩
end Go.Proofs.Ytogkmddhgfenkaa
