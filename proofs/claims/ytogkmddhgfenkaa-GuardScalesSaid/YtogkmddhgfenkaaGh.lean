/- The document's Times (printed by gen_gh.py). -/
import Derived.Test.YtogkmddhgfenkaaGg
namespace Go.Proofs.Ytogkmddhgfenkaa
open Go Go.RowKit
set_option maxRecDepth 1000000
theorem shl12 {x : Nat} (hx : x < 18446744073709551616) : IntKind.u64.wrap ((x : Int) * 4096) / 4096 = ((x % 4503599627370496 : Nat) : Int) := by
  rw [IntKind.wrap_u64]
  omega
theorem shr63 {x : Nat} (hx : x < 18446744073709551616) : IntKind.u64.wrap ((x : Int) / 9223372036854775808 * 9223372036854775808) = ((x / 9223372036854775808 * 9223372036854775808 : Nat) : Int) := by
  rw [IntKind.wrap_u64]
  omega
theorem RTimes_same (x : Nat) (p : Int) (hx : x < 18446744073709551616) (w : World) (h : (ffin x = false ∨ x % 9223372036854775808 = 0) ∨ p = 0) :
    Calls Try.prog 31 #[.float .f64 x, .int .i64 p] w fun e w' => e = .returned (.float .f64 x) ∧ w = w' := by
  have HF := Lib.hid (fun W => rfin_any x hx W)
  have z1 := shl1n hx
  cases hf : ffin x
  · rw [hf] at HF
    clear h hf z1
    go_enter Try.func31, Try.ntmps31
    go_wp2_with (go_at_call 24; refine (HF.out _).mono ?_; rintro e w' ⟨rfl, rfl⟩)
    go_ret
    exact ⟨rfl, rfl⟩
  · rw [hf] at HF h
    cases h0 : decide (x % 9223372036854775808 = 0)
    · rw [h0] at z1
      rw [decide_eq_false_iff_not] at h0
      obtain rfl : p = 0 := h.resolve_left (by rintro (h | h); cases h; exact h0 h)
      clear h hf h0
      go_enter Try.func31, Try.ntmps31
      go_wp2_with (go_at_call 24; refine (HF.out _).mono ?_; rintro e w' ⟨rfl, rfl⟩)
      go_ret
      exact ⟨rfl, rfl⟩
    · rw [h0] at z1
      clear h hf h0
      go_enter Try.func31, Try.ntmps31
      go_wp2_with (go_at_call 24; refine (HF.out _).mono ?_; rintro e w' ⟨rfl, rfl⟩)
      go_ret
      exact ⟨rfl, rfl⟩
theorem round_low {m d : Nat} {e : Int} (hm2 : m < 9007199254740992) (hd : 1 ≤ d) (he : 1 - e = d) :
    roundR m e = m / 2 ^ d + (if 2 ^ (d - 1) < m - m / 2 ^ d * 2 ^ d ∨ (m - m / 2 ^ d * 2 ^ d = 2 ^ (d - 1) ∧ m / 2 ^ d % 2 = 1) then 1 else 0) := by
  obtain ⟨j, rfl⟩ : ∃ j, d = j + 1 := ⟨d - 1, by omega⟩
  have hrest : m - m / 2 ^ (j + 1) * 2 ^ (j + 1) = m % 2 ^ (j + 1) := by
    have := Nat.div_add_mod m (2 ^ (j + 1))
    rw [Nat.mul_comm] at this
    omega
  have hp : 2 ^ (j + 1) = 2 * 2 ^ j := by rw [Nat.pow_succ, Nat.mul_comm]
  rw [hrest, Nat.add_sub_cancel]
  unfold roundR
  rw [if_neg (by omega), if_neg (by omega)]
  have ed : (1 - e).toNat = j + 1 := by omega
  rw [ed]
  by_cases h : e < -52
  · have hbig : 2 ^ 53 ≤ 2 ^ j := Nat.pow_le_pow_right (by decide) (by omega)
    rw [show (2 : Nat) ^ 53 = 9007199254740992 from by decide] at hbig
    have h1 : m / 2 ^ (j + 1) = 0 := Nat.div_eq_of_lt (by omega)
    have h2 : m % 2 ^ (j + 1) = m := Nat.mod_eq_of_lt (by omega)
    rw [if_pos h, h1, h2, if_neg (by omega)]
  · rw [if_neg h, hp]
    generalize m % (2 * 2 ^ j) = u
    generalize m / (2 * 2 ^ j) = v
    generalize 2 ^ j = y
    congr 1
    have i1 : 2 * y < 2 * u ↔ y < u := by omega
    have i2 : 2 * y = 2 * u ↔ u = y := by omega
    simp only [i1, i2]

set_option maxHeartbeats 16000000 in
theorem RTimes_sub (x : Nat) (p E : Int) (S m0 q0 M R : Nat) (k0 : Nat) (HF : Hid (∀ W, Calls Try.prog 24 #[.int .u64 x] W fun e w' => e = .returned (.bool true) ∧ W = w')) (z1 : (IntKind.u64.wrap ((x : Int) * 2) == 0) = false) (z2 : (p == 0) = false)
    (z3 : IntKind.u64.wrap ((x : Int) / 9223372036854775808 * 9223372036854775808) = (S : Int)) (z4 : IntKind.u64.wrap ((x : Int) * 4096) / 4096 = (m0 : Int)) (z5 : (x : Int) / 4503599627370496 % 2048 = (q0 : Int))
    (hS : S ≤ 9223372036854775808) (hm0 : m0 < 4503599627370496) (hq0 : q0 < 2047) (hM1 : 4503599627370496 ≤ M) (hM2 : M < 9007199254740992) (hE1 : -51 ≤ E) (hE2 : E ≤ 2046)
    (hq : q0 = 0) (hk1 : m0 * 2 ^ k0 = M) (hk2 : E + k0 = 1) (hk3 : k0 ≤ 60) (hR : R = S + roundR M (E + p)) (hx : x < 18446744073709551616) (w : World) :
    Calls Try.prog 31 #[.float .f64 x, .int .i64 p] w fun e w' => e = .returned (.float .f64 R) ∧ Below w.heap.size w w' := by
  have HR := Lib.hid hR
  clear hR
  subst hq
  have HK := Lib.hid (And.intro hk1 (And.intro hk2 hk3))
  clear hk1 hk2 hk3
  go_enter Try.func31, Try.ntmps31
  go_wp2_with (go_at_call 24; refine (HF.out _).mono ?_; rintro e w' ⟨rfl, rfl⟩)
  clear z1 z2 z3 z4 z5
  go_loop [7, 8] (fun s7 s8 => ∃ (m k : Nat), s7 = .int .u64 m ∧ s8 = .int .i64 (E + k) ∧ m * 2 ^ k = M ∧ k ≤ 60) (fun s7 s8 => (intOf s8 - E).toNat)
  case atStart => exact ⟨m0, k0, rfl, by rw [HK.out.2.1], HK.out.1, HK.out.2.2⟩
  case round =>
    obtain ⟨m, k, rfl, rfl, hmk, hkk⟩ := hrel
    have HMk := Lib.hid hmk
    have hmM : m ≤ M := by rw [← hmk]; exact Nat.le_mul_of_pos_right _ (Nat.two_pow_pos _)
    clear hmk HK
    by_cases hlt : m < 4503599627370496
    · obtain ⟨j, rfl⟩ : ∃ j, k = j + 1 := by
        cases k with
        | zero => have := HMk.out; rw [Nat.pow_zero, Nat.mul_one] at this; omega
        | succ j => exact ⟨j, rfl⟩
      have t1 : decide ((m : Int) < 4503599627370496) = true := decide_eq_true (by omega)
      have t2 : IntKind.u64.wrap ((m : Int) * 2) = (m : Int) * 2 := by rw [IntKind.wrap_u64]; omega
      have HB := Lib.hid (show _ ∧ _ ∧ _ ∧ _ from ⟨hlt, hmM, hM1, hM2⟩)
      clear hlt hmM hM1 hM2 hS hm0 hq0 hx
      go_wp2
      go_round
      case rel => exact ⟨m * 2, j, by go_num, by go_num, by rw [← HMk.out, Nat.pow_succ, Nat.mul_assoc, Nat.mul_comm 2], by omega⟩
      case measure => simp [intOf]; omega
    · obtain rfl : k = 0 := by
        cases k with
        | zero => rfl
        | succ j =>
          have h1 := HMk.out
          rw [Nat.pow_succ, Nat.mul_comm (2 ^ j), ← Nat.mul_assoc] at h1
          have h2 : m * 2 ≤ m * 2 * 2 ^ j := Nat.le_mul_of_pos_right _ (Nat.two_pow_pos _)
          omega
      have hm : m = M := by have := HMk.out; simpa using this
      subst hm
      by_cases h1 : 5000 < p
      · have hq : roundR m (E + p) = 9218868437227405312 := by unfold roundR; rw [if_pos (by omega)]
        have t1 : decide ((m : Int) < 4503599627370496) = false := decide_eq_false (by omega)
        have t2 : IntKind.u64.wrap ((S : Int) + 9218868437227405312) = ((S + 9218868437227405312 : Nat) : Int) := by rw [IntKind.wrap_u64]; omega
        rw [hq] at HR
        have HB := Lib.hid (And.intro hlt hS)
        have f0 : decide ((2047 : Int) ≤ E + 5000) = true := decide_eq_true (by omega)
        have f0' : decide ((-2953 : Int) ≤ E) = true := decide_eq_true (by omega)
        have f1 : decide ((5000 : Int) < p) = true := decide_eq_true h1
        have hE3 : 2047 ≤ E + 5000 := by omega
        clear hlt hmM hM1 hM2 hS hm0 hq0 hx hq h1
        go_wp2
        go_ret
        refine ⟨?_, Below.refl _ _⟩
        have hS := HB.out.2
        rw [HR.out]
        congr 2
      · by_cases h2 : p < -5000
        · have hq : roundR m (E + p) = 0 := by unfold roundR; rw [if_neg (by omega), if_neg (by omega), if_pos (by omega)]
          have t1 : decide ((m : Int) < 4503599627370496) = false := decide_eq_false (by omega)
          rw [hq] at HR
          have HB := Lib.hid (And.intro hlt hS)
          have f0 : decide ((2047 : Int) ≤ E + -5000) = false := decide_eq_false (by omega)
          have f1 : decide ((1 : Int) ≤ E + -5000) = false := decide_eq_false (by omega)
          have f2 : decide ((60 : Int) < 1 - (E + -5000)) = true := decide_eq_true (by omega)
          have f3 : decide ((5000 : Int) < p) = false := decide_eq_false h1
          have f4 : decide (p < (-5000 : Int)) = true := decide_eq_true h2
          clear hlt hmM hM1 hM2 hS hm0 hq0 hx hq h1 h2
          go_wp2
          go_ret
          exact ⟨by rw [HR.out]; rfl, Below.refl _ _⟩
        · by_cases h3 : 2047 ≤ E + p
          · have hq : roundR m (E + p) = 9218868437227405312 := by unfold roundR; rw [if_pos (by omega)]
            have t1 : decide ((m : Int) < 4503599627370496) = false := decide_eq_false (by omega)
            have t2 : IntKind.u64.wrap ((S : Int) + 9218868437227405312) = ((S + 9218868437227405312 : Nat) : Int) := by rw [IntKind.wrap_u64]; omega
            rw [hq] at HR
            have HB := Lib.hid (And.intro hlt hS)
            clear hlt hmM hM1 hM2 hS hm0 hq0 hx hq
            go_wp2
            go_ret
            refine ⟨?_, Below.refl _ _⟩
            have hS := HB.out.2
            rw [HR.out]
            congr 2
          · by_cases h4 : 1 ≤ E + p
            · obtain ⟨F, hF⟩ : ∃ F : Nat, E + p = F := ⟨(E + p).toNat, by omega⟩
              have hq : roundR m (E + p) = F * 4503599627370496 + (m - 4503599627370496) := by unfold roundR; rw [if_neg (by omega), if_pos (by omega), hF, Int.toNat_natCast]
              have t1 : decide ((m : Int) < 4503599627370496) = false := decide_eq_false (by omega)
              have f0 : decide ((2047 : Int) ≤ (F : Int)) = false := decide_eq_false (by omega)
              have f1 : decide ((1 : Int) ≤ (F : Int)) = true := decide_eq_true (by omega)
              have f0' : decide (2047 ≤ F) = false := decide_eq_false (by omega)
              have f1' : decide (1 ≤ F) = true := decide_eq_true (by omega)
              have k1 : IntKind.u64.wrap ((F : Int) * 4503599627370496) = ((F * 4503599627370496 : Nat) : Int) := by rw [IntKind.wrap_u64]; omega
              obtain ⟨G, hG⟩ : ∃ G : Nat, F * 4503599627370496 = G := ⟨_, rfl⟩
              rw [hG] at k1 hq
              have k2 : IntKind.u64.wrap ((S : Int) + (G : Int)) = ((S + G : Nat) : Int) := by rw [IntKind.wrap_u64]; omega
              have k3 : IntKind.u64.wrap ((S : Int) + (G : Int) + (m : Int)) = (S : Int) + (G : Int) + (m : Int) ∨ True := .inr trivial
              have k4 : IntKind.u64.wrap (IntKind.u64.wrap ((S : Int) + (G : Int) + (m : Int)) - 4503599627370496) = ((S + (G + (m - 4503599627370496)) : Nat) : Int) := by rw [IntKind.wrap_u64, IntKind.wrap_u64]; omega
              obtain ⟨Z, hZ⟩ : ∃ Z : Nat, S + (G + (m - 4503599627370496)) = Z := ⟨_, rfl⟩
              rw [hZ] at k4
              rw [hq, hZ] at HR
              have k2' : IntKind.u64.wrap ((S : Int) + (G : Int)) = (S : Int) + (G : Int) := by rw [IntKind.wrap_u64]; omega
              clear hlt hmM hM1 hM2 hS hm0 hq0 hx hq h3 h4 k2 k3 hG hZ
              go_wp2
              go_ret
              exact ⟨by rw [HR.out]; rfl, Below.refl _ _⟩
            · obtain ⟨d, hd⟩ : ∃ d : Nat, 1 - (E + p) = d := ⟨(1 - (E + p)).toNat, by omega⟩
              have hq := round_low hM2 (by omega) hd
              have f0 : decide (2047 ≤ E + p) = false := decide_eq_false (by omega)
              have f1 : decide (1 ≤ E + p) = false := decide_eq_false (by omega)
              have hd1 : 1 ≤ d := by omega
              have t1 : decide ((m : Int) < 4503599627370496) = false := decide_eq_false (by omega)
              by_cases h5 : 60 < d
              · have f2 : decide ((60 : Int) < (d : Int)) = true := decide_eq_true (by omega)
                have f3 : decide (60 < d) = true := decide_eq_true (by omega)
                have hq' : roundR m (E + p) = 0 := by unfold roundR; rw [if_neg (by omega), if_neg (by omega), if_pos (by omega)]
                rw [hq'] at HR
                have HB := Lib.hid (And.intro hlt hS)
                clear hlt hmM hM1 hM2 hS hm0 hq0 hx hq hq' h3 h4
                go_wp2
                go_ret
                exact ⟨by rw [HR.out]; rfl, Below.refl _ _⟩
              · have hd2 : d ≤ 60 := by omega
                have f2 : decide ((60 : Int) < (d : Int)) = false := decide_eq_false (by omega)
                have f3 : decide (60 < d) = false := decide_eq_false (by omega)
                have g3 : ((d : Int) - 1).toNat = d - 1 := by omega
                have HB := Lib.hid (show _ ∧ _ ∧ _ ∧ _ ∧ _ ∧ _ from ⟨hlt, hmM, hM1, hM2, hS, hq⟩)
                clear hlt hmM hM1 hM2 hS hm0 hq0 hx h3 h4 h5 hq
                go_upto_region 25 with (fail)
                obtain ⟨hlt, hmM, hM1, hM2, hS, hq⟩ := HB.out
                clear HB
                have h7 : m / 2 ^ d * 2 ^ d ≤ m := Nat.div_mul_le_self _ _
                have g1 : (m : Int) / 2 ^ d = ((m / 2 ^ d : Nat) : Int) := by rw [Int.natCast_ediv, Int.natCast_pow]; rfl
                have g2 : ((m / 2 ^ d : Nat) : Int) * 2 ^ d = ((m / 2 ^ d * 2 ^ d : Nat) : Int) := by rw [Int.natCast_mul, Int.natCast_pow]; rfl
                have h8 : m / 2 ^ d ≤ m := Nat.div_le_self _ _
                have h9 : 2 ^ (d - 1) < 18446744073709551616 := Nat.lt_of_lt_of_le (Nat.pow_lt_pow_right (by decide) (show d - 1 < 64 by omega)) (by decide)
                have g6 : (2 : Int) ^ (d - 1) = ((2 ^ (d - 1) : Nat) : Int) := by rw [Int.natCast_pow]; rfl
                rw [hq] at HR
                clear hq
                generalize m / 2 ^ d * 2 ^ d = z at *
                generalize m / 2 ^ d = q at *
                generalize 2 ^ (d - 1) = hf at *
                have g5 : IntKind.u64.wrap ((m : Int) - (z : Int)) = ((m - z : Nat) : Int) := by rw [IntKind.wrap_u64]; omega
                generalize m - z = rs at *
                have g4 : IntKind.u64.wrap (z : Int) = (z : Int) := by rw [IntKind.wrap_u64]; omega
                have g7 : IntKind.u64.wrap (hf : Int) = (hf : Int) := by rw [IntKind.wrap_u64]; omega
                have g8 : IntKind.u64.wrap ((q : Int) + 1) = ((q + 1 : Nat) : Int) := by rw [IntKind.wrap_u64]; omega
                have g9 : IntKind.u64.wrap ((S : Int) + (q : Int)) = ((S + q : Nat) : Int) := by rw [IntKind.wrap_u64]; omega
                have g10 : IntKind.u64.wrap ((S : Int) + ((q : Int) + 1)) = ((S + (q + 1) : Nat) : Int) := by rw [IntKind.wrap_u64]; omega
                clear hlt hmM hM1 hM2 hS h7 h8 h9
                rcases Nat.lt_trichotomy hf rs with c | c | c
                · have c1 : decide ((hf : Int) < (rs : Int)) = true := decide_eq_true (by omega)
                  have c2 : decide (hf < rs) = true := decide_eq_true c
                  rw [if_pos (.inl c)] at HR
                  clear c
                  go_wp2
                  go_ret
                  exact ⟨by rw [HR.out]; rfl, Below.refl _ _⟩
                · subst c
                  have c1 : decide ((hf : Int) < (hf : Int)) = false := decide_eq_false (by omega)
                  have c2 : decide (hf < hf) = false := decide_eq_false (by omega)
                  by_cases c3 : q % 2 = 1
                  · have c4 : ((q : Int) % 2 == 1) = true := by rw [beq_iff_eq]; omega
                    rw [if_pos (.inr ⟨rfl, c3⟩)] at HR
                    clear c3
                    go_wp2
                    go_ret
                    exact ⟨by rw [HR.out]; rfl, Below.refl _ _⟩
                  · have c4 : ((q : Int) % 2 == 1) = false := by rw [beq_eq_false_iff_ne]; omega
                    rw [if_neg (by omega)] at HR
                    clear c3
                    go_wp2
                    go_ret
                    exact ⟨by rw [HR.out]; rfl, Below.refl _ _⟩
                · have c1 : decide ((hf : Int) < (rs : Int)) = false := decide_eq_false (by omega)
                  have c2 : decide (hf < rs) = false := decide_eq_false (by omega)
                  have c3 : ((rs : Int) == (hf : Int)) = false := by rw [beq_eq_false_iff_ne]; omega
                  rw [if_neg (by omega)] at HR
                  clear c
                  go_wp2
                  go_ret
                  exact ⟨by rw [HR.out]; rfl, Below.refl _ _⟩

set_option maxHeartbeats 16000000 in
theorem RTimes_nrm (x : Nat) (p E : Int) (S m0 q0 M R : Nat) (HF : Hid (∀ W, Calls Try.prog 24 #[.int .u64 x] W fun e w' => e = .returned (.bool true) ∧ W = w')) (z1 : (IntKind.u64.wrap ((x : Int) * 2) == 0) = false) (z2 : (p == 0) = false)
    (z3 : IntKind.u64.wrap ((x : Int) / 9223372036854775808 * 9223372036854775808) = (S : Int)) (z4 : IntKind.u64.wrap ((x : Int) * 4096) / 4096 = (m0 : Int)) (z5 : (x : Int) / 4503599627370496 % 2048 = (q0 : Int))
    (hS : S ≤ 9223372036854775808) (hm0 : m0 < 4503599627370496) (hq0 : q0 < 2047) (hM1 : 4503599627370496 ≤ M) (hM2 : M < 9007199254740992) (hE1 : -51 ≤ E) (hE2 : E ≤ 2046)
    (hq : 0 < q0) (hk1 : m0 + 4503599627370496 = M) (hk2 : E = q0) (hR : R = S + roundR M (E + p)) (hx : x < 18446744073709551616) (w : World) :
    Calls Try.prog 31 #[.float .f64 x, .int .i64 p] w fun e w' => e = .returned (.float .f64 R) ∧ Below w.heap.size w w' := by
  have HR := Lib.hid hR
  clear hR
  have HK := Lib.hid (And.intro hk1 hk2)
  have t9 : ((q0 : Int) == 0) = false := by rw [beq_eq_false_iff_ne]; omega
  have t8 : IntKind.u64.wrap ((m0 : Int) + 4503599627370496) = (M : Int) := by rw [IntKind.wrap_u64]; omega
  clear hk1 hk2 hq
  go_enter Try.func31, Try.ntmps31
  go_wp2_with (go_at_call 24; refine (HF.out _).mono ?_; rintro e w' ⟨rfl, rfl⟩)
  clear z1 z2 z3 z4 z5
  clear t8 t9
  go_loop [7, 8] (fun s7 s8 => ∃ (m k : Nat), s7 = .int .u64 m ∧ s8 = .int .i64 (E + k) ∧ m * 2 ^ k = M ∧ k ≤ 60) (fun s7 s8 => (intOf s8 - E).toNat)
  case atStart => exact ⟨M, 0, rfl, by rw [HK.out.2]; rfl, Nat.mul_one _, Nat.zero_le _⟩
  case round =>
    obtain ⟨m, k, rfl, rfl, hmk, hkk⟩ := hrel
    have HMk := Lib.hid hmk
    have hmM : m ≤ M := by rw [← hmk]; exact Nat.le_mul_of_pos_right _ (Nat.two_pow_pos _)
    clear hmk HK
    by_cases hlt : m < 4503599627370496
    · obtain ⟨j, rfl⟩ : ∃ j, k = j + 1 := by
        cases k with
        | zero => have := HMk.out; rw [Nat.pow_zero, Nat.mul_one] at this; omega
        | succ j => exact ⟨j, rfl⟩
      have t1 : decide ((m : Int) < 4503599627370496) = true := decide_eq_true (by omega)
      have t2 : IntKind.u64.wrap ((m : Int) * 2) = (m : Int) * 2 := by rw [IntKind.wrap_u64]; omega
      have HB := Lib.hid (show _ ∧ _ ∧ _ ∧ _ from ⟨hlt, hmM, hM1, hM2⟩)
      clear hlt hmM hM1 hM2 hS hm0 hq0 hx
      go_wp2
      go_round
      case rel => exact ⟨m * 2, j, by go_num, by go_num, by rw [← HMk.out, Nat.pow_succ, Nat.mul_assoc, Nat.mul_comm 2], by omega⟩
      case measure => simp [intOf]; omega
    · obtain rfl : k = 0 := by
        cases k with
        | zero => rfl
        | succ j =>
          have h1 := HMk.out
          rw [Nat.pow_succ, Nat.mul_comm (2 ^ j), ← Nat.mul_assoc] at h1
          have h2 : m * 2 ≤ m * 2 * 2 ^ j := Nat.le_mul_of_pos_right _ (Nat.two_pow_pos _)
          omega
      have hm : m = M := by have := HMk.out; simpa using this
      subst hm
      by_cases h1 : 5000 < p
      · have hq : roundR m (E + p) = 9218868437227405312 := by unfold roundR; rw [if_pos (by omega)]
        have t1 : decide ((m : Int) < 4503599627370496) = false := decide_eq_false (by omega)
        have t2 : IntKind.u64.wrap ((S : Int) + 9218868437227405312) = ((S + 9218868437227405312 : Nat) : Int) := by rw [IntKind.wrap_u64]; omega
        rw [hq] at HR
        have HB := Lib.hid (And.intro hlt hS)
        have f0 : decide ((2047 : Int) ≤ E + 5000) = true := decide_eq_true (by omega)
        have f0' : decide ((-2953 : Int) ≤ E) = true := decide_eq_true (by omega)
        have f1 : decide ((5000 : Int) < p) = true := decide_eq_true h1
        have hE3 : 2047 ≤ E + 5000 := by omega
        clear hlt hmM hM1 hM2 hS hm0 hq0 hx hq h1
        go_wp2
        go_ret
        refine ⟨?_, Below.refl _ _⟩
        have hS := HB.out.2
        rw [HR.out]
        congr 2
      · by_cases h2 : p < -5000
        · have hq : roundR m (E + p) = 0 := by unfold roundR; rw [if_neg (by omega), if_neg (by omega), if_pos (by omega)]
          have t1 : decide ((m : Int) < 4503599627370496) = false := decide_eq_false (by omega)
          rw [hq] at HR
          have HB := Lib.hid (And.intro hlt hS)
          have f0 : decide ((2047 : Int) ≤ E + -5000) = false := decide_eq_false (by omega)
          have f1 : decide ((1 : Int) ≤ E + -5000) = false := decide_eq_false (by omega)
          have f2 : decide ((60 : Int) < 1 - (E + -5000)) = true := decide_eq_true (by omega)
          have f3 : decide ((5000 : Int) < p) = false := decide_eq_false h1
          have f4 : decide (p < (-5000 : Int)) = true := decide_eq_true h2
          clear hlt hmM hM1 hM2 hS hm0 hq0 hx hq h1 h2
          go_wp2
          go_ret
          exact ⟨by rw [HR.out]; rfl, Below.refl _ _⟩
        · by_cases h3 : 2047 ≤ E + p
          · have hq : roundR m (E + p) = 9218868437227405312 := by unfold roundR; rw [if_pos (by omega)]
            have t1 : decide ((m : Int) < 4503599627370496) = false := decide_eq_false (by omega)
            have t2 : IntKind.u64.wrap ((S : Int) + 9218868437227405312) = ((S + 9218868437227405312 : Nat) : Int) := by rw [IntKind.wrap_u64]; omega
            rw [hq] at HR
            have HB := Lib.hid (And.intro hlt hS)
            clear hlt hmM hM1 hM2 hS hm0 hq0 hx hq
            go_wp2
            go_ret
            refine ⟨?_, Below.refl _ _⟩
            have hS := HB.out.2
            rw [HR.out]
            congr 2
          · by_cases h4 : 1 ≤ E + p
            · obtain ⟨F, hF⟩ : ∃ F : Nat, E + p = F := ⟨(E + p).toNat, by omega⟩
              have hq : roundR m (E + p) = F * 4503599627370496 + (m - 4503599627370496) := by unfold roundR; rw [if_neg (by omega), if_pos (by omega), hF, Int.toNat_natCast]
              have t1 : decide ((m : Int) < 4503599627370496) = false := decide_eq_false (by omega)
              have f0 : decide ((2047 : Int) ≤ (F : Int)) = false := decide_eq_false (by omega)
              have f1 : decide ((1 : Int) ≤ (F : Int)) = true := decide_eq_true (by omega)
              have f0' : decide (2047 ≤ F) = false := decide_eq_false (by omega)
              have f1' : decide (1 ≤ F) = true := decide_eq_true (by omega)
              have k1 : IntKind.u64.wrap ((F : Int) * 4503599627370496) = ((F * 4503599627370496 : Nat) : Int) := by rw [IntKind.wrap_u64]; omega
              obtain ⟨G, hG⟩ : ∃ G : Nat, F * 4503599627370496 = G := ⟨_, rfl⟩
              rw [hG] at k1 hq
              have k2 : IntKind.u64.wrap ((S : Int) + (G : Int)) = ((S + G : Nat) : Int) := by rw [IntKind.wrap_u64]; omega
              have k3 : IntKind.u64.wrap ((S : Int) + (G : Int) + (m : Int)) = (S : Int) + (G : Int) + (m : Int) ∨ True := .inr trivial
              have k4 : IntKind.u64.wrap (IntKind.u64.wrap ((S : Int) + (G : Int) + (m : Int)) - 4503599627370496) = ((S + (G + (m - 4503599627370496)) : Nat) : Int) := by rw [IntKind.wrap_u64, IntKind.wrap_u64]; omega
              obtain ⟨Z, hZ⟩ : ∃ Z : Nat, S + (G + (m - 4503599627370496)) = Z := ⟨_, rfl⟩
              rw [hZ] at k4
              rw [hq, hZ] at HR
              have k2' : IntKind.u64.wrap ((S : Int) + (G : Int)) = (S : Int) + (G : Int) := by rw [IntKind.wrap_u64]; omega
              clear hlt hmM hM1 hM2 hS hm0 hq0 hx hq h3 h4 k2 k3 hG hZ
              go_wp2
              go_ret
              exact ⟨by rw [HR.out]; rfl, Below.refl _ _⟩
            · obtain ⟨d, hd⟩ : ∃ d : Nat, 1 - (E + p) = d := ⟨(1 - (E + p)).toNat, by omega⟩
              have hq := round_low hM2 (by omega) hd
              have f0 : decide (2047 ≤ E + p) = false := decide_eq_false (by omega)
              have f1 : decide (1 ≤ E + p) = false := decide_eq_false (by omega)
              have hd1 : 1 ≤ d := by omega
              have t1 : decide ((m : Int) < 4503599627370496) = false := decide_eq_false (by omega)
              by_cases h5 : 60 < d
              · have f2 : decide ((60 : Int) < (d : Int)) = true := decide_eq_true (by omega)
                have f3 : decide (60 < d) = true := decide_eq_true (by omega)
                have hq' : roundR m (E + p) = 0 := by unfold roundR; rw [if_neg (by omega), if_neg (by omega), if_pos (by omega)]
                rw [hq'] at HR
                have HB := Lib.hid (And.intro hlt hS)
                clear hlt hmM hM1 hM2 hS hm0 hq0 hx hq hq' h3 h4
                go_wp2
                go_ret
                exact ⟨by rw [HR.out]; rfl, Below.refl _ _⟩
              · have hd2 : d ≤ 60 := by omega
                have f2 : decide ((60 : Int) < (d : Int)) = false := decide_eq_false (by omega)
                have f3 : decide (60 < d) = false := decide_eq_false (by omega)
                have g3 : ((d : Int) - 1).toNat = d - 1 := by omega
                have HB := Lib.hid (show _ ∧ _ ∧ _ ∧ _ ∧ _ ∧ _ from ⟨hlt, hmM, hM1, hM2, hS, hq⟩)
                clear hlt hmM hM1 hM2 hS hm0 hq0 hx h3 h4 h5 hq
                go_upto_region 25 with (fail)
                obtain ⟨hlt, hmM, hM1, hM2, hS, hq⟩ := HB.out
                clear HB
                have h7 : m / 2 ^ d * 2 ^ d ≤ m := Nat.div_mul_le_self _ _
                have g1 : (m : Int) / 2 ^ d = ((m / 2 ^ d : Nat) : Int) := by rw [Int.natCast_ediv, Int.natCast_pow]; rfl
                have g2 : ((m / 2 ^ d : Nat) : Int) * 2 ^ d = ((m / 2 ^ d * 2 ^ d : Nat) : Int) := by rw [Int.natCast_mul, Int.natCast_pow]; rfl
                have h8 : m / 2 ^ d ≤ m := Nat.div_le_self _ _
                have h9 : 2 ^ (d - 1) < 18446744073709551616 := Nat.lt_of_lt_of_le (Nat.pow_lt_pow_right (by decide) (show d - 1 < 64 by omega)) (by decide)
                have g6 : (2 : Int) ^ (d - 1) = ((2 ^ (d - 1) : Nat) : Int) := by rw [Int.natCast_pow]; rfl
                rw [hq] at HR
                clear hq
                generalize m / 2 ^ d * 2 ^ d = z at *
                generalize m / 2 ^ d = q at *
                generalize 2 ^ (d - 1) = hf at *
                have g5 : IntKind.u64.wrap ((m : Int) - (z : Int)) = ((m - z : Nat) : Int) := by rw [IntKind.wrap_u64]; omega
                generalize m - z = rs at *
                have g4 : IntKind.u64.wrap (z : Int) = (z : Int) := by rw [IntKind.wrap_u64]; omega
                have g7 : IntKind.u64.wrap (hf : Int) = (hf : Int) := by rw [IntKind.wrap_u64]; omega
                have g8 : IntKind.u64.wrap ((q : Int) + 1) = ((q + 1 : Nat) : Int) := by rw [IntKind.wrap_u64]; omega
                have g9 : IntKind.u64.wrap ((S : Int) + (q : Int)) = ((S + q : Nat) : Int) := by rw [IntKind.wrap_u64]; omega
                have g10 : IntKind.u64.wrap ((S : Int) + ((q : Int) + 1)) = ((S + (q + 1) : Nat) : Int) := by rw [IntKind.wrap_u64]; omega
                clear hlt hmM hM1 hM2 hS h7 h8 h9
                rcases Nat.lt_trichotomy hf rs with c | c | c
                · have c1 : decide ((hf : Int) < (rs : Int)) = true := decide_eq_true (by omega)
                  have c2 : decide (hf < rs) = true := decide_eq_true c
                  rw [if_pos (.inl c)] at HR
                  clear c
                  go_wp2
                  go_ret
                  exact ⟨by rw [HR.out]; rfl, Below.refl _ _⟩
                · subst c
                  have c1 : decide ((hf : Int) < (hf : Int)) = false := decide_eq_false (by omega)
                  have c2 : decide (hf < hf) = false := decide_eq_false (by omega)
                  by_cases c3 : q % 2 = 1
                  · have c4 : ((q : Int) % 2 == 1) = true := by rw [beq_iff_eq]; omega
                    rw [if_pos (.inr ⟨rfl, c3⟩)] at HR
                    clear c3
                    go_wp2
                    go_ret
                    exact ⟨by rw [HR.out]; rfl, Below.refl _ _⟩
                  · have c4 : ((q : Int) % 2 == 1) = false := by rw [beq_eq_false_iff_ne]; omega
                    rw [if_neg (by omega)] at HR
                    clear c3
                    go_wp2
                    go_ret
                    exact ⟨by rw [HR.out]; rfl, Below.refl _ _⟩
                · have c1 : decide ((hf : Int) < (rs : Int)) = false := decide_eq_false (by omega)
                  have c2 : decide (hf < rs) = false := decide_eq_false (by omega)
                  have c3 : ((rs : Int) == (hf : Int)) = false := by rw [beq_eq_false_iff_ne]; omega
                  rw [if_neg (by omega)] at HR
                  clear c
                  go_wp2
                  go_ret
                  exact ⟨by rw [HR.out]; rfl, Below.refl _ _⟩

theorem RTimes_any (x : Nat) (p : Int) (hx : x < 18446744073709551616) (w : World) :
    Calls Try.prog 31 #[.float .f64 x, .int .i64 p] w fun e w' => e = .returned (.float .f64 (timesW x p)) ∧ Below w.heap.size w w' := by
  by_cases h : (ffin x = false ∨ x % 9223372036854775808 = 0) ∨ p = 0
  · have e : timesW x p = x := by
      rcases h with h | h
      · apply timesW_out
        rcases h with h | h
        · unfold ffin at h; rw [decide_eq_false_iff_not] at h; exact .inl h
        · exact .inr h
      · subst h; exact timesW_zero hx
    rw [e]
    exact (RTimes_same x p hx w h).mono fun e w' ⟨h1, h2⟩ => ⟨h1, h2 ▸ Below.refl _ _⟩
  · have h1 : ffin x = true := by
      cases hf : ffin x
      · exact absurd (.inl (.inl hf)) h
      · rfl
    have h2 : x % 9223372036854775808 ≠ 0 := fun e => h (.inl (.inr e))
    have h3 : p ≠ 0 := fun e => h (.inr e)
    have HF := fun W => rfin_any x hx W
    rw [h1] at HF
    unfold ffin at h1
    rw [decide_eq_true_iff] at h1
    have z1 := shl1n hx
    rw [decide_eq_false h2] at z1
    have z2 : (p == 0) = false := by rw [beq_eq_false_iff_ne]; exact h3
    have z3 := shr63 hx
    have z4 := shl12 hx
    have z5 : (x : Int) / 4503599627370496 % 2048 = ((x / 4503599627370496 % 2048 : Nat) : Int) := by omega
    have h0 : 0 < x % 9223372036854775808 := by omega
    have hb := sig_bnd h0
    have he := exp_bnd h0 h1
    have hR : timesW x p = x / 9223372036854775808 * 9223372036854775808 + roundR (sigR (x % 9223372036854775808)) (expR (x % 9223372036854775808) + p) := by rw [timesW_fin h1 h0, word_sgn hx]
    by_cases hs : x % 9223372036854775808 < 4503599627370496
    · have hl := log2_lt52 hs h0
      have hm : x % 4503599627370496 = x % 9223372036854775808 := by omega
      exact RTimes_sub x p _ _ _ _ _ _ (52 - (x % 9223372036854775808).log2) (Lib.hid HF) z1 z2 z3 z4 z5 (by omega) (by omega) (by omega) hb.1 hb.2 he.1 he.2 (by omega) (by unfold sigR; rw [if_pos hs, hm]) (by unfold expR; rw [if_pos hs]; omega) (by omega) hR hx w
    · exact RTimes_nrm x p _ _ _ _ _ _ (Lib.hid HF) z1 z2 z3 z4 z5 (by omega) (by omega) (by omega) hb.1 hb.2 he.1 he.2 (by omega) (by unfold sigR; rw [if_neg hs]; omega) (by unfold expR; rw [if_neg hs]; omega) hR hx w
end Go.Proofs.Ytogkmddhgfenkaa
