/- Package guard: a matrix's power. -/
import Derived.Test.YtogkmddhgfenkaaGh
namespace Go.Proofs.Ytogkmddhgfenkaa
open Go Go.RowKit
set_option maxRecDepth 100000
theorem Frexp_fin (x : Nat) (hx : x < 18446744073709551616) (hf : x % 9223372036854775808 < 9218868437227405312) (h0 : 0 < x % 9223372036854775808) (w : World) :
    Calls Try.prog 68 #[.float .f64 x] w fun e w' => e = .returned (.tuple #[.float .f64 (frW x), .int .i64 (expR (x % 9223372036854775808) - 1022)]) ∧ Below w.heap.size w w' := by
  have H := Lib.hid (frexp_fin x hx hf h0 w)
  go_enter Try.func68, Try.ntmps68
  go_wp2_with fail
  refine H.out.mono ?_
  rintro e w1 ⟨rfl, hb1⟩
  go_wp2
  exact bodyPost_ret (results_tmp2 rfl _ _ _) rfl ⟨rfl, hb1⟩
/-- The greatest size of the first k. -/
def mostF (zs : List Nat) : Nat → Nat
  | 0 => 0
  | k + 1 => if mostF zs k < zs.getD k 0 % 9223372036854775808 then zs.getD k 0 % 9223372036854775808 else mostF zs k
def powR (r : Nat) : Int := if r = 0 then 0 else expR r - 1022
theorem exp_mono {a b : Nat} (h0 : 0 < a) (h : a ≤ b) : expR a ≤ expR b := by
  unfold expR
  by_cases hb : b < 4503599627370496
  · rw [if_pos (by omega), if_pos hb]
    have h1 := (Nat.log2_eq_iff (show a ≠ 0 by omega)).1 rfl
    have h2 := (Nat.log2_eq_iff (show b ≠ 0 by omega)).1 rfl
    have : a.log2 ≤ b.log2 := by
      rcases Nat.lt_or_ge b.log2 a.log2 with h3 | h3
      · have : 2 ^ (b.log2 + 1) ≤ 2 ^ a.log2 := Nat.pow_le_pow_right (by decide) h3
        omega
      · exact h3
    omega
  · rw [if_neg hb]
    by_cases ha : a < 4503599627370496
    · rw [if_pos ha]
      have := log2_lt52 ha h0
      omega
    · rw [if_neg ha]
      omega
theorem most_lt (zs : List Nat) (hf : zs.all ffin = true) : ∀ k, mostF zs k < 9218868437227405312
  | 0 => (by decide : (0 : Nat) < 9218868437227405312)
  | k + 1 => by
    unfold mostF
    have h1 := most_lt zs hf k
    split
    · by_cases hk : k < zs.length
      · have : ffin (zs.getD k 0) = true := List.all_eq_true.1 hf _ (by simp [hk])
        unfold ffin at this
        simpa using this
      · have : zs.getD k 0 = 0 := by simp [Nat.not_lt.1 hk]
        rw [this]; decide
    · exact h1
theorem fin_at {zs : List Nat} (hf : zs.all ffin = true) {k : Nat} (hk : k < zs.length) : zs.getD k 0 % 9223372036854775808 < 9218868437227405312 := by
  have : ffin (zs.getD k 0) = true := List.all_eq_true.1 hf _ (by simp [hk])
  unfold ffin at this
  simpa using this
set_option maxHeartbeats 8000000 in
theorem power_in (w : World) (r c : Int) (a : Option Addr) (zs : List Nat) (ac : Nat) (hZ : Cel w a zs) (hW : Words zs) (hn : zs.length ≤ 262144) (hw : wrongC r c zs = 0) (hf : zs.all ffin = true) :
    Calls Try.prog 25 #[.agg #[.int .i64 r, .int .i64 c, .slice a zs.length ac]] w fun e w' => e = .returned (.tuple #[.int .i64 (powR (mostF zs zs.length)), .int .i64 0]) ∧ Below w.heap.size w w' := by
  have hB0 : Below w.heap.size w (w.alloc (.cells #[.int .i64 r, .int .i64 c, .slice a zs.length ac] 26)) := (Below.refl _ _).alloc (Nat.le_refl _) _
  have x0 : Box (w.alloc (.cells #[.int .i64 r, .int .i64 c, .slice a zs.length ac] 26)) w.heap.size [.int .i64 r, .int .i64 c, .slice a zs.length ac] := Box.newA w [_, _, _] _ rfl
  have HWr := Lib.hid (fun W (hW' : Below w.heap.size w W) => wrong_any W r c a zs ac (hZ.below hW') hW (by unfold maxLen; omega))
  rw [hw] at HWr
  have HF := Lib.hid hf
  have HZ := Lib.hid hZ
  have HW := Lib.hid hW
  clear hw hf hZ hW
  go_enter Try.func25, Try.ntmps25
  go_wp2_with fail
  refine (HWr.out _ hB0).mono ?_
  rintro e w1 ⟨rfl, hb1⟩
  have x1 := x0.below hb1
  have hB1 := below_step hB0 hB0.size hb1
  obtain ⟨q1, q2, q3⟩ := x1.facts
  clear x0 hB0 hb1 HWr
  go_wp2
  clear q1 q2 q3
  go_loopw [5, 6, 19] (fun s5 s6 s19 wr => ∃ (k : Nat) (any : Bool), k ≤ zs.length ∧ s19 = .int .i64 k ∧ s5 = .int .i64 (powR (mostF zs k)) ∧ s6 = .bool any ∧ (any = false ↔ mostF zs k = 0) ∧ Below w.heap.size w wr) (fun _ _ s19 _ => zs.length - (intOf s19).toNat)
  case atStart => exact ⟨0, false, Nat.zero_le _, rfl, rfl, rfl, ⟨fun _ => rfl, fun _ => rfl⟩, hB1⟩
  case round =>
    obtain ⟨k, any, hk, rfl, rfl, rfl, hany, hB⟩ := hrel
    by_cases hlt : k < zs.length
    · obtain ⟨b, o, rfl, hb, c1⟩ := (HZ.out.below hB).at hlt
      have hv := HW.out.at k
      have hfk := fin_at HF.out hlt
      have HM : Hid (mostF zs (k + 1) = if mostF zs k < zs.getD k 0 % 9223372036854775808 then zs.getD k 0 % 9223372036854775808 else mostF zs k) := rfl
      have hml := most_lt zs HF.out k
      generalize zs.getD k 0 = x at *
      generalize mostF zs k = mo at *
      have hz := feq_zero (isnan_fin hfk)
      have HA := Lib.hid hany
      clear hany
      by_cases h0 : x % 9223372036854775808 = 0
      · rw [decide_eq_true h0] at hz
        have HM2 : Hid (mostF zs (k + 1) = mo) := by unfold Hid; rw [HM.out, if_neg (by omega)]
        clear h0 hv hfk hml
        go_wp2
        go_roundw
        case rel => exact ⟨k + 1, any, by omega, by go_num, by rw [HM2.out], rfl, by rw [HM2.out]; exact HA.out, hB⟩
        case measure => simp [intOf]; omega
      · rw [decide_eq_false h0] at hz
        have HFr := Lib.hid (fun W => Frexp_fin x hv hfk (by omega) W)
        have hx1 := exp_bnd (show 0 < x % 9223372036854775808 by omega) hfk
        have hpm : powR (x % 9223372036854775808) = expR (x % 9223372036854775808) - 1022 := by unfold powR; rw [if_neg h0]
        have HP : Hid (∀ (h : 0 < mo), powR mo = expR mo - 1022) := fun h => by unfold powR; rw [if_neg (by omega)]
        have HE1 : Hid (∀ (_ : 0 < mo) (_ : mo < x % 9223372036854775808), expR mo ≤ expR (x % 9223372036854775808)) := fun h1 h2 => exp_mono h1 (by omega)
        have HE2 : Hid (∀ (_ : ¬ mo < x % 9223372036854775808), expR (x % 9223372036854775808) ≤ expR mo) := fun h2 => exp_mono (by omega) (by omega)
        clear hv hfk
        generalize x % 9223372036854775808 = y at *
        rw [← hpm] at HFr
        have HPy := Lib.hid hpm
        clear hpm
        have hpb : -1073 ≤ powR y ∧ powR y ≤ 1024 := by rw [HPy.out]; omega
        obtain ⟨hpb1, hpb2⟩ := hpb
        clear hx1
        cases any
        · have hmo : mo = 0 := HA.out.1 rfl
          subst hmo
          have HM2 : Hid (mostF zs (k + 1) = y) := by unfold Hid; rw [HM.out, if_pos (by omega)]
          have HY := Lib.hid h0
          clear h0 hml
          go_wp2_with fail
          refine (HFr.out _).mono ?_
          rintro e w2 ⟨rfl, hb2⟩
          have hB2 := below_step hB hB.size hb2
          go_wp2
          go_roundw
          case rel => exact ⟨k + 1, true, by omega, by go_num, by rw [HM2.out], rfl, by rw [HM2.out]; exact ⟨fun h => absurd h (by decide), fun h => absurd h HY.out⟩, hB2⟩
          case measure => simp [intOf]; omega
        · have hmo : 0 < mo := by
            rcases Nat.eq_zero_or_pos mo with h | h
            · exact absurd (HA.out.2 h) (by decide)
            · exact h
          have hpm2 := HP.out hmo
          by_cases hgt : powR mo < powR y
          · have hlt2 : mo < y := by
              rcases Nat.lt_or_ge mo y with h | h
              · exact h
              · have := HE2.out (by omega); rw [hpm2, HPy.out] at hgt; omega
            have HM2 : Hid (mostF zs (k + 1) = y) := by unfold Hid; rw [HM.out, if_pos hlt2]
            have t0 := decide_eq_true hgt
            have HY := Lib.hid h0
            clear h0 hml hgt hlt2 hpm2 hmo
            go_wp2_with fail
            refine (HFr.out _).mono ?_
            rintro e w2 ⟨rfl, hb2⟩
            have hB2 := below_step hB hB.size hb2
            go_wp2
            go_roundw
            case rel => exact ⟨k + 1, true, by omega, by go_num, by rw [HM2.out], rfl, by rw [HM2.out]; exact ⟨fun h => absurd h (by decide), fun h => absurd h HY.out⟩, hB2⟩
            case measure => simp [intOf]; omega
          · have HM2 : Hid (powR (mostF zs (k + 1)) = powR mo ∧ (mostF zs (k + 1) ≠ 0)) := by
              unfold Hid
              rw [HM.out]
              by_cases h2 : mo < y
              · rw [if_pos h2]
                have := HE1.out hmo h2
                rw [hpm2, HPy.out] at hgt
                exact ⟨by rw [hpm2, HPy.out]; omega, h0⟩
              · rw [if_neg h2]
                exact ⟨rfl, by omega⟩
            have t0 := decide_eq_false hgt
            clear h0 hml hgt hpm2 hmo
            go_wp2_with fail
            refine (HFr.out _).mono ?_
            rintro e w2 ⟨rfl, hb2⟩
            have hB2 := below_step hB hB.size hb2
            go_wp2
            go_roundw
            case rel => exact ⟨k + 1, true, by omega, by go_num, by rw [HM2.out.1], rfl, ⟨fun h => absurd h (by decide), fun h => absurd h HM2.out.2⟩, hB2⟩
            case measure => simp [intOf]; omega
    · obtain rfl : k = zs.length := by omega
      clear hany
      go_wp2
      exact bodyPost_ret (results_tmp2 rfl _ _ _) rfl ⟨rfl, hB⟩
set_option maxHeartbeats 4000000 in
theorem Power_any (w : World) (r c : Int) (a : Option Addr) (zs : List Nat) (ac : Nat) (hZ : Cel w a zs) (hW : Words zs) (hn : zs.length ≤ 262144) :
    Calls Try.prog 25 #[.agg #[.int .i64 r, .int .i64 c, .slice a zs.length ac]] w fun e w' => e = .returned (.tuple #[.int .i64 (if wrongC r c zs = 0 then powR (mostF zs zs.length) else 0), .int .i64 (wrongC r c zs)]) ∧ Below w.heap.size w w' := by
  by_cases hw : wrongC r c zs = 0
  · have hf : zs.all ffin = true := by
      unfold wrongC at hw
      split at hw
      · cases hw
      · split at hw
        · cases hw
        · split at hw
          · cases hw
          · rename_i h; simpa using h
    rw [if_pos hw, hw]
    exact power_in w r c a zs ac hZ hW hn hw hf
  · rw [if_neg hw]
    have hB0 : Below w.heap.size w (w.alloc (.cells #[.int .i64 r, .int .i64 c, .slice a zs.length ac] 26)) := (Below.refl _ _).alloc (Nat.le_refl _) _
    have HWr := Lib.hid (fun W (hW' : Below w.heap.size w W) => wrong_any W r c a zs ac (hZ.below hW') hW (by unfold maxLen; omega))
    have t0 : (wrongC r c zs != 0) = true := by simp [hw]
    generalize wrongC r c zs = q at *
    clear hw hZ hW hn
    go_enter Try.func25, Try.ntmps25
    go_wp2_with fail
    refine (HWr.out _ hB0).mono ?_
    rintro e w1 ⟨rfl, hb1⟩
    go_wp2
    exact bodyPost_ret (results_tmp2 rfl _ _ _) rfl ⟨rfl, below_step hB0 hB0.size hb1⟩
end Go.Proofs.Ytogkmddhgfenkaa
