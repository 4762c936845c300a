/- Layer 14, the document's: a size; what is asked of values; clusters. No condition but on lengths. -/
import Derived.Test.YtdljnhdhigbefaaZz27
import Derived.Test.YtdljnhdhigbefaaZz28
import Derived.Test.YtdljnhdhigbefaaZz13
import Derived.Laws.Cover2
import Derived.Test.YtdljnhdhigbefaaZz17
import Derived.Test.YtdljnhdhigbefaaZz2
import Derived.Deep.Slices
import Derived.Lib.SmallJoins
import Derived.ProofKit
namespace Go.Proofs.Ytdljnhdhigbefaa
open Go Go.RowKit
set_option maxRecDepth 1000000
set_option linter.unusedSimpArgs false
set_option linter.unusedVariables false

set_option maxHeartbeats 1000000 in
theorem ldexpOne (p : Int) (hp1 : -5000 ≤ p) (hp2 : p ≤ 5000) (w : World) :
    Calls Try.prog 49 #[.float .f64 4607182418800017408, .int .i64 p] w fun e w' => e = .returned (.float .f64 (timesW 4607182418800017408 p)) ∧ Below w.heap.size w w' := by
  have H := Lib.hid (ldexp_fin 4607182418800017408 p (by decide) (by decide) (by decide) hp1 hp2 w)
  go_enter Try.func49, Try.ntmps49
  go_wp2_with fail
  refine H.out.mono ?_
  rintro e w1 ⟨rfl, hb1⟩
  go_wp2
  go_ret
  exact ⟨rfl, hb1⟩
theorem two10 : timesW 4607182418800017408 (-10) = 4562146422526312448 := by kernel_rfl
set_option maxHeartbeats 8000000 in
theorem RSize14 (w : World) (da ea : Option Addr) (ds es : List Nat) (dc ec n m : Nat) (hdl : ds.length = n) (hel : es.length = m) (hT : TrI w da ea ds es dc ec) (hn : n ≤ 1000) (hm : m ≤ 1000) (hf : (ds ++ es).all ffin = true) :
    Calls Try.prog 78 #[.agg #[.slice da n dc, .slice ea m ec]] w fun e w' => e = .returned (.float .f64 (sizI ds es)) ∧ Below w.heap.size w w' := by
  have x0 : Box (w.alloc (.cells #[.slice da n dc, .slice ea m ec] 54)) w.heap.size [.slice da n dc, .slice ea m ec] := Box.newA w [_, _] _ rfl
  have hB0 : Below w.heap.size w (w.alloc (.cells #[.slice da n dc, .slice ea m ec] 54)) := (Below.refl _ _).alloc (Nat.le_refl _) _
  obtain ⟨w1, hw1⟩ : ∃ W, W = (w.alloc (.cells #[.slice da n dc, .slice ea m ec] 54)) := ⟨_, rfl⟩
  rw [← hw1] at x0 hB0
  have X := Lib.hid x0
  have BW := Lib.hid hB0
  have HT := Lib.hid (fun W (h : Below w.heap.size w W) => hT.below h)
  have HW := Lib.hid (And.intro hT.W (szL_num (fin_numI hf)))
  have HF := Lib.hid (fin_numI hf)
  have HL := Lib.hid (show (ds ++ es).length ≤ 2000 ∧ ds.length = n ∧ es.length = m from ⟨by rw [List.length_append]; omega, hdl, hel⟩)
  clear x0 hB0 hT hf hdl hel
  go_enter Try.func78, Try.ntmps78
  go_upto_region 2 with (fail)
  rw [← hw1]
  clear hw1
  have hdr := below_drewN 1 (Below.refl w1.heap.size w1)
  replace X := Lib.hid (show Box w1.drew w.heap.size _ from X.out.below hdr)
  replace BW := Lib.hid (show Below w.heap.size w w1.drew from below_step BW.out BW.out.size hdr)
  refine wp_region_items 5 [(true, 0), (true, 1), (true, 3), (true, 4), (false, 2)] (fun W => ∀ i, W.cell? ⟨w.heap.size, i, none⟩ = ([.slice da n dc, .slice ea m ec] : List Value)[i]?) (by kernel_rfl) (by kernel_rfl) X.out.cell ?_
  generalize w1.drew = y0 at *
  clear hdr
  iterate 4 (refine iW_take (v := ?_) rfl rfl ?_ ?_; rotate_left; (next => (intro w' hSw; (try dsimp only at hSw); go_simp; (try (rw [if_pos (by omega)]; go_simp)); (try with_reducible rfl))); (simp only [Act.put, List.setIfInBounds_toArray, List.set_cons_zero, List.set_cons_succ]))
  refine iW_mid rfl rfl ?_
  refine wp_append_anyF _ _ rfl y0.heap.size _ [] rfl (OwnF.nil _ _) da ds dc (by rw [HL.out.2.1]; rfl) (HT.out _ BW.out).D (HT.out w (Below.refl _ _)).d0 (by have := HL.out; simp; omega) (Nat.le_refl _) ?_
  intro v1 y1 hO1 hb1
  rw [List.nil_append] at hO1
  have O1 := Lib.hid hO1
  have B1 := Lib.hid hb1
  replace X := Lib.hid (X.out.below hb1)
  refine ⟨X.out.cell, ?_⟩
  refine iW_nil ?_
  have hE1 := (HT.out _ (below_step BW.out BW.out.size B1.out)).E
  clear hO1 hb1
  go_simp
  refine wpList_append_anyF rfl _ _ rfl y0.heap.size _ ds rfl O1.out ea es ec (by rw [HL.out.2.2]; rfl) hE1 (HT.out w (Below.refl _ _)).e0 (by have := HL.out.1; rw [List.length_append] at this; omega) B1.out.size ?_
  intro v2 y2 hO2 hb2
  obtain ⟨l, hlq⟩ : ∃ l, l = ds ++ es := ⟨_, rfl⟩
  have hz : sizI ds es = szL l l.length := by rw [hlq]; rfl
  rw [← hlq] at hO2 HW HF HL
  have HZZ := Lib.hid hz
  have HB := Lib.hid (show Below w.heap.size w y2 from below_step BW.out BW.out.size (B1.out.trans hb2))
  obtain ⟨a, cap, rfl, hZ⟩ := hO2.fls
  have HZ := Lib.hid hZ
  clear hlq hz hO2 hb2 hZ hE1 X B1 O1 BW HT
  go_wp2_with fail
  refine NoPanic.normal ?_
  go_wp2_with fail
  go_loopw [3, 5] (fun s3 s5 wr => ∃ i : Nat, s3 = .float .f64 (szL l i) ∧ s5 = .int .i64 i ∧ i ≤ l.length ∧ Below y2.heap.size y2 wr) (fun _ s5 _ => l.length - (intOf s5).toNat)
  case atStart => exact ⟨0, rfl, rfl, Nat.zero_le _, Below.refl _ _⟩
  case round =>
    obtain ⟨i, rfl, rfl, hi, hB⟩ := hrel
    by_cases hlt : i < l.length
    case pos =>
      obtain ⟨b, o, s, rfl, hb, hc⟩ := FlsI.at (HZ.out.below hB) hlt
      rw [raw_of_not (HF.out i)] at hc
      have HA := Lib.hid (fun W => Abs_any (l.getD i 0) (HW.out.1.at i) W)
      have HN := Lib.hid (show szL l (i + 1) = mxW (szL l i) (fabs (l.getD i 0)) from rfl)
      have HBB := Lib.hid hB
      clear hB hb hi
      have hi9 : i < 2000 := by have := HL.out.1; omega
      obtain ⟨x, hx⟩ : ∃ x, x = l.getD i 0 := ⟨_, rfl⟩
      rw [← hx] at hc HA HN
      obtain ⟨s, hs⟩ : ∃ s, s = szL l i := ⟨_, rfl⟩
      rw [← hs] at HN ⊢
      obtain ⟨c, hcc⟩ : ∃ c, c = flt s (fabs x) := ⟨_, rfl⟩
      have hc2 : flt s (fabs x) = c := hcc.symm
      have HC := Lib.hid hc2
      clear hx hs hcc
      go_wp2_with fail
      refine (HA.out _).mono ?_
      rintro e w' ⟨rfl, rfl⟩
      cases c
      · have HE := Lib.hid (show szL l (i + 1) = s by rw [HN.out]; unfold mxW; rw [HC.out]; rfl)
        go_wp2_with fail
        go_roundw
        case rel => exact ⟨i + 1, by rw [HE.out], by go_num, hlt, HBB.out⟩
        case measure => simp [intOf]; omega
      · have HE := Lib.hid (show szL l (i + 1) = fabs x by rw [HN.out]; unfold mxW; rw [HC.out]; rfl)
        go_wp2_with fail
        refine (HA.out _).mono ?_
        rintro e w' ⟨rfl, rfl⟩
        go_wp2_with fail
        go_roundw
        case rel => exact ⟨i + 1, by rw [HE.out], by go_num, hlt, HBB.out⟩
        case measure => simp [intOf]; omega
    case neg =>
      have hil : i = l.length := by omega
      subst hil
      have HBB := Lib.hid (HB.out.trans (hB.mono HB.out.size))
      clear hB hi
      go_wp2_with fail
      go_ret
      exact ⟨by rw [HZZ.out]; rfl, HBB.out⟩
end Go.Proofs.Ytdljnhdhigbefaa

/- Whole numbers as floats: sums and products are exact. No condition but on sizes. -/
namespace Go.Proofs.Ytdljnhdhigbefaa
open Go

/-- The word x stands for the whole number n. -/
structure isI (x : Nat) (n : Int) : Prop where
  fin : x % 9223372036854775808 < 9218868437227405312
  val : fval (x % 9223372036854775808) = n.natAbs * 2 ^ 1074
  sgn : n ≠ 0 → (x / 9223372036854775808 % 2 == 1) = decide (n < 0)
theorem pow52 : (2 : Nat) ^ 52 = 4503599627370496 := by decide
theorem rung_of (m : Nat) (h0 : 0 < m) (h : m < 9007199254740992) : ∃ r, r < 9218868437227405312 ∧ fval r = m * 2 ^ 1074 := by
  obtain ⟨e, he⟩ : ∃ e, e = m.log2 := ⟨_, rfl⟩
  have h1 := (Nat.log2_eq_iff (by omega)).1 he.symm
  have h52 : e ≤ 52 := by
    have : m.log2 < 53 := (Nat.log2_lt (by omega)).2 (by rw [show (2 : Nat) ^ 53 = 9007199254740992 from by decide]; exact h)
    omega
  have hlo : 4503599627370496 ≤ m * 2 ^ (52 - e) := by
    have := Nat.mul_le_mul_right (2 ^ (52 - e)) h1.1
    rw [← Nat.pow_add, show e + (52 - e) = 52 by omega, pow52] at this
    exact this
  have hhi : m * 2 ^ (52 - e) < 9007199254740992 := by
    have := Nat.mul_lt_mul_of_pos_right h1.2 (Nat.two_pow_pos (52 - e))
    rw [← Nat.pow_add, show e + 1 + (52 - e) = 53 by omega, show (2 : Nat) ^ 53 = 9007199254740992 from by decide] at this
    exact this
  obtain ⟨F, hF⟩ : ∃ F, F = m * 2 ^ (52 - e) - 4503599627370496 := ⟨_, rfl⟩
  have hF2 : 4503599627370496 + F = m * 2 ^ (52 - e) := by omega
  have hF3 : F < 4503599627370496 := by omega
  refine ⟨(e + 1023) * 4503599627370496 + F, by omega, ?_⟩
  unfold fval
  rw [if_neg (by omega), show ((e + 1023) * 4503599627370496 + F) % 4503599627370496 = F by omega, show ((e + 1023) * 4503599627370496 + F) / 4503599627370496 - 1 = e + 1022 by omega, hF2, Nat.mul_assoc, ← Nat.pow_add, show 52 - e + (e + 1022) = 1074 by omega]
theorem word_partsI (neg : Bool) {r : Nat} (hr : r < 9218868437227405312) : Ieee.double.word neg r % 9223372036854775808 = r ∧ (Ieee.double.word neg r / 9223372036854775808 % 2 == 1) = neg := by
  rw [word_val]
  cases neg
  · refine ⟨by simp; omega, ?_⟩
    have : r / 9223372036854775808 = 0 := by omega
    simp [this]
  · refine ⟨by simp; omega, ?_⟩
    have : (9223372036854775808 + r) / 9223372036854775808 = 1 := by omega
    simp [this]
theorem isI_word (neg : Bool) {r : Nat} {n : Int} (hr : r < 9218868437227405312) (hv : fval r = n.natAbs * 2 ^ 1074) (hs : n ≠ 0 → neg = decide (n < 0)) : isI (Ieee.double.word neg r) n := by
  obtain ⟨h1, h2⟩ := word_partsI neg hr
  exact ⟨by rw [h1]; exact hr, by rw [h1]; exact hv, fun h => by rw [h2]; exact hs h⟩
/-- What is written, of a number that stands for n. -/
theorem isI_nearest (neg : Bool) (m : Nat) (place : Int) (a b : Nat) (n : Int) (h : m * 2 ^ a = n.natAbs * 2 ^ 1074 * 2 ^ b) (hab : (a : Int) - b = place + 1074) (hn : n.natAbs < 9007199254740992) (hs : n ≠ 0 → neg = decide (n < 0)) : isI (Ieee.double.nearest neg m place) n := by
  by_cases h0 : n = 0
  · subst h0
    have hm : m = 0 := by
      rcases Nat.eq_zero_or_pos m with h1 | h1
      · exact h1
      · have := Nat.mul_pos h1 (Nat.two_pow_pos a)
        rw [h] at this
        clear h
        generalize 2 ^ 1074 = P at this
        rw [Int.natAbs_zero, Nat.zero_mul, Nat.zero_mul] at this
        omega
    rw [hm, nearest_zero]
    exact isI_word neg (by decide) (by generalize 2 ^ 1074 = P; rw [fval_zero, Int.natAbs_zero, Nat.zero_mul]) (fun h => absurd rfl h)
  · have hp : 0 < n.natAbs := by omega
    obtain ⟨r, hr, hv⟩ := rung_of n.natAbs hp hn
    have hm : 0 < m := by
      rcases Nat.eq_zero_or_pos m with h1 | h1
      · have h3 := Nat.mul_pos (Nat.mul_pos hp (Nat.two_pow_pos 1074)) (Nat.two_pow_pos b)
        rw [← h, h1] at h3
        clear h
        generalize 2 ^ a = P at h3
        rw [Nat.zero_mul] at h3
        exact absurd h3 (Nat.lt_irrefl 0)
      · exact h1
    rw [nearest_exact neg m place r a b hm hr (by rw [hv]; exact h) hab]
    exact isI_word neg hr hv hs
theorem isI_of (n : Int) (hn : n.natAbs < 9007199254740992) : isI (floatOfInt .f64 n) n :=
  isI_nearest (decide (n < 0)) n.natAbs 0 1074 0 n (by rw [Nat.pow_zero, Nat.mul_one]) (by decide) hn (fun _ => rfl)
end Go.Proofs.Ytdljnhdhigbefaa

/- Layer 14, the document's start vectors. No condition. -/
namespace Go.Proofs.Ytdljnhdhigbefaa
open Go Go.RowKit
set_option maxRecDepth 1000000
set_option linter.unusedSimpArgs false
set_option linter.unusedVariables false

theorem tmsW_zero {x : Nat} {p : Int} (h : x % 9223372036854775808 = 0) : timesW x p = x := by
  unfold timesW timesW.ffinW
  rw [if_pos (.inr h)]
theorem mul52 {x : Nat} (hx : x < 18446744073709551616) (hf : x % 9223372036854775808 < 9218868437227405312) : fmul x 4372995238176751616 = timesW x (-52) := by
  by_cases h0 : x % 9223372036854775808 = 0
  · rw [tmsW_zero h0]
    have h : x = 0 ∨ x = 9223372036854775808 := by omega
    have k0 : fmul 0 4372995238176751616 = 0 := by kernel_rfl
    have k1 : fmul 9223372036854775808 4372995238176751616 = 9223372036854775808 := by kernel_rfl
    rcases h with h | h <;> rw [h]
    · exact k0
    · exact k1
  · rw [timesW_fin hf (by omega), mul_pow_r (B := 4503599627370496) (k := -52) (by decide) (by kernel_rfl) hf (by omega)]
theorem floInt_lt (n : Int) : floatOfInt .f64 n < 18446744073709551616 := by
  have h := floatOfInt_wf .f64 n
  unfold Lit.wf at h
  simpa using h
theorem floInt52 (h : Nat) (hh : h < 18446744073709551616) : fmul (floatOfInt .f64 (((h / 2048 : Nat) : Int) - 4503599627370496)) 4372995238176751616 = timesW (floatOfInt .f64 (((h / 2048 : Nat) : Int) - 4503599627370496)) (-52) :=
  mul52 (floInt_lt _) (isI_of _ (by omega)).fin
set_option maxHeartbeats 1000000 in
theorem ldexpFin (x : Nat) (p : Int) (hx : x < 18446744073709551616) (hf : x % 9223372036854775808 < 9218868437227405312) (hp1 : -5000 ≤ p) (hp2 : p ≤ 5000) (w : World) :
    Calls Try.prog 83 #[.float .f64 x, .int .i64 p] w fun e w' => e = .returned (.float .f64 (timesW x p)) ∧ Below w.heap.size w w' := by
  by_cases h0 : x % 9223372036854775808 = 0
  · rw [tmsW_zero h0]
    have hz := feq_zero (isnan_fin hf)
    rw [decide_eq_true h0] at hz
    clear h0 hf hx
    go_enter Try.func83, Try.ntmps83
    go_wp2
    go_ret
    exact ⟨rfl, Below.refl _ _⟩
  · exact ldexp_fin x p hx hf (by omega) hp1 hp2 w
set_option maxHeartbeats 1000000 in
theorem LdexpFin (x : Nat) (p : Int) (hx : x < 18446744073709551616) (hf : x % 9223372036854775808 < 9218868437227405312) (hp1 : -5000 ≤ p) (hp2 : p ≤ 5000) (w : World) :
    Calls Try.prog 49 #[.float .f64 x, .int .i64 p] w fun e w' => e = .returned (.float .f64 (timesW x p)) ∧ Below w.heap.size w w' := by
  have H := Lib.hid (ldexpFin x p hx hf hp1 hp2 w)
  go_enter Try.func49, Try.ntmps49
  go_wp2_with fail
  refine H.out.mono ?_
  rintro e w1 ⟨rfl, hb1⟩
  go_wp2
  go_ret
  exact ⟨rfl, hb1⟩
theorem Ldexp52 (h : Nat) (hh : h < 18446744073709551616) (w : World) :
    Calls Try.prog 49 #[.float .f64 (floatOfInt .f64 (((h / 2048 : Nat) : Int) - 4503599627370496)), .int .i64 (-52)] w fun e w' => e = .returned (.float .f64 (fmul (floatOfInt .f64 (((h / 2048 : Nat) : Int) - 4503599627370496)) 4372995238176751616)) ∧ Below w.heap.size w w' := by
  rw [floInt52 h hh]
  exact LdexpFin _ (-52) (floInt_lt _) (isI_of _ (by omega)).fin (by decide) (by decide) w
set_option maxHeartbeats 8000000 in
theorem RStart14 (w : World) (n j : Nat) (hn : n ≤ 512) (hj : j ≤ 9223372036854775807) :
    Calls Try.prog 35 #[.int .i64 n, .int .i64 j] w fun e w' => (∃ v, e = .returned v ∧ OwnF w' w.heap.size v (srtI j n)) ∧ Below w.heap.size w w' := by
  go_enter Try.func35, Try.ntmps35
  go_wp2_with fail
  go_loopw [5, 6, 7] (fun s6 s7 s23 wr => ∃ k : Nat, s6 = .int .u64 (stH j k) ∧ OwnF wr w.heap.size s7 (srtI j k) ∧ s23 = .int .i64 k ∧ k ≤ n ∧ Below w.heap.size w wr) (fun _ _ s23 _ => n - (intOf s23).toNat)
  case atStart =>
    have hw0 : IntKind.u64.wrap (IntKind.u64.wrap (wrap64 ((j : Int) + 1)) * 6364136223846793005) = ((stH j 0 : Nat) : Int) := by
      unfold stH
      rw [IntKind.wrap_u64, IntKind.wrap_u64]
      unfold wrap64
      omega
    exact ⟨0, by rw [hw0], OwnF.nil _ _, rfl, Nat.zero_le _, Below.refl _ _⟩
  case round =>
    obtain ⟨k, rfl, hO, rfl, hk, hB⟩ := hrel
    by_cases hlt : k < n
    case pos =>
      go_upto_region 7 with fail
      have hw1 : IntKind.u64.wrap (IntKind.u64.wrap (((stH j k : Nat) : Int) * 6364136223846793005) + 1442695040888963407) = ((stH j (k + 1) : Nat) : Int) := by
        rw [stH, IntKind.wrap_u64, IntKind.wrap_u64]
        omega
      have hw2 : stH j (k + 1) < 18446744073709551616 := Nat.mod_lt _ (by decide)
      rw [hw1]
      obtain ⟨h, hh⟩ : ∃ h, h = stH j (k + 1) := ⟨_, rfl⟩
      have HN := Lib.hid (show srtI j (k + 1) = srtI j k ++ [fmul (floatOfInt .f64 (((h / 2048 : Nat) : Int) - 4503599627370496)) 4372995238176751616] by rw [hh]; rfl)
      rw [← hh] at hw1 hw2 ⊢
      have HH := Lib.hid hh
      clear hh hw1
      have hcv : (h : Int) / 2048 = ((h / 2048 : Nat) : Int) := by omega
      have HL := (fun W => Ldexp52 h hw2 W)
      obtain ⟨fv, hfv⟩ : ∃ f, f = fmul (floatOfInt .f64 (((h / 2048 : Nat) : Int) - 4503599627370496)) 4372995238176751616 := ⟨_, rfl⟩
      rw [← hfv] at HN
      simp only [← hfv] at HL
      simp only [← hcv] at HL
      obtain ⟨sr, hsr⟩ := raw_self (show fv < 18446744073709551616 by rw [hfv]; exact fmul_lt _ _)
      have HLD := Lib.hid (fun W => by
        have r := HL W
        rw [hsr] at r
        exact r)
      clear hsr
      clear hfv
      have HO := Lib.hid hO
      have HB := Lib.hid hB
      have HCV := Lib.hid hcv
      clear hO hB hcv HL HCV
      go_wp2_with fail
      refine (HLD.out wr).mono ?_
      rintro e w2 ⟨rfl, hb⟩
      have HO2 := Lib.hid (HO.out.below hb)
      have hB2 := below_step HB.out HB.out.size hb
      have HB2 := Lib.hid hB2
      clear hb hB2 HO HB
      dsimp only
      go_wp2_with (at_builtin; refine wpList_append_oneG rfl _ _ rfl w.heap.size _ (srtI j k) rfl HO2.out _ _ _ rfl (by rw [srtI_len]; omega) HB2.out.size ?_; intro v' w6 hO6 hb6)
      go_roundw
      case rel => exact ⟨k + 1, by rw [HH.out], by rw [HN.out]; exact hO6, by go_num, hlt, HB2.out.trans hb6⟩
      case measure => simp [intOf]; omega
    case neg =>
      obtain rfl : k = n := by omega
      have HB := Lib.hid (show _ ∧ _ from ⟨hO, hB⟩)
      clear hB hk hO
      go_wp2_with fail
      go_ret
      exact ⟨⟨_, rfl, HB.out.1⟩, HB.out.2⟩
end Go.Proofs.Ytdljnhdhigbefaa

/- 'plumblinelaw14.InverseNil' answers true (printed by gen_jc.py). No condition. -/
namespace Go.Proofs.Ytdljnhdhigbefaa
open Go Go.RowKit
set_option maxRecDepth 1000000
set_option linter.unusedSimpArgs false
set_option linter.unusedVariables false

set_option maxHeartbeats 2000000 in
theorem Start_err (w : World) (n j : Int) (h : n < 0 ∨ 512 < n ∨ j < 0) :
    Calls Try.prog 32 #[.int .i64 n, .int .i64 j] w fun e w' => e = .returned (.tuple #[.slice none 0 0, .int .i64 2]) ∧ w = w' := by
  by_cases h1 : n < 0
  · clear h
    go_enter Try.func32, Try.ntmps32
    go_wp2_with fail
    exact bodyPost_ret (results_two rfl (rv_tmp rfl) (rv_tmp rfl)) rfl ⟨rfl, rfl⟩
  · by_cases h2 : 512 < n
    · clear h
      go_enter Try.func32, Try.ntmps32
      go_wp2_with fail
      exact bodyPost_ret (results_two rfl (rv_tmp rfl) (rv_tmp rfl)) rfl ⟨rfl, rfl⟩
    · have h3 : j < 0 := by omega
      clear h
      go_enter Try.func32, Try.ntmps32
      go_wp2_with fail
      exact bodyPost_ret (results_two rfl (rv_tmp rfl) (rv_tmp rfl)) rfl ⟨rfl, rfl⟩
theorem knl1 : (let v := vcsL [9218868437227405311, 18442240474082181119] [9218868437227405311] [9218868437227405311] [0] 1; decide (1 ≤ v.steps) && decide (v.steps ≤ 3)) = true := by kernel_rfl
theorem knl2 : (let v := vcsL [0] [] [0] [0] 1; v.ok && decide (v.steps = 3)) = true := by kernel_rfl
theorem vkn1 (w : World) (a b m : Addr) (ha : Fls w (some a) [9218868437227405311, 18442240474082181119]) (hb : Fls w (some b) [9218868437227405311]) (hm : Fls w (some m) [9218868437227405311]) :
    Calls Try.prog 33 #[.agg #[.slice (some a) 2 2, .slice (some b) 1 1], .slice (some m) 1 1] w fun e w' => (∃ (r c : Int) (x : Option Addr) (y z : Nat) (st : Nat) (q : Int), e = .returned (.tuple #[.agg #[.int .i64 r, .int .i64 c, .slice x y z], .int .i64 st, .int .i64 q]) ∧ (q = 7 ∨ q = 0) ∧ 1 ≤ st ∧ st ≤ 3) ∧ Below w.heap.size w w' := by
  have hT : TrI w (some a) (some b) [9218868437227405311, 18442240474082181119] [9218868437227405311] 2 1 := ⟨ha, hb, (fun h => by cases h), (fun h => by cases h), wordsI_of (by kernel_rfl)⟩
  have hc : cluI [9218868437227405311, 18442240474082181119] [9218868437227405311] [9218868437227405311] = [0] := by kernel_rfl
  refine (Vectors_of w (some a) (some b) (some m) _ _ _ 2 1 1 2 1 1 rfl rfl rfl hT hm (wordsI_of (by kernel_rfl)) (by kernel_rfl) (fun x => askS [9218868437227405311, 18442240474082181119] [9218868437227405311] [x] = 0 ∧ x < 18446744073709551616) (fun h0 W x j ka kl kc cl h1 h2 => spec_fin w (some a) (some b) _ _ 2 1 2 1 rfl rfl h0 hT W x j ka kl kc cl h1 h2.1) (fun x hx => ⟨by have h := (askS_zero hx.1).2.2.2; exact isnan_ffinq (by simpa using h), hx.2⟩) (fun j hj _ => ?_)).mono ?_
  · rw [hc]
    match j, hj with
    | 0, _ => exact ⟨(by kernel_rfl : askS [9218868437227405311, 18442240474082181119] [9218868437227405311] [9218868437227405311] = 0), by decide⟩
  · rw [hc]
    rintro e w' ⟨h1, h2, h3⟩
    have k3 := knl1
    dsimp only at k3
    generalize vcsL [9218868437227405311, 18442240474082181119] [9218868437227405311] [9218868437227405311] [0] 1 = v at *
    simp only [Bool.and_eq_true, decide_eq_true_eq] at k3
    cases ho : v.ok
    · exact ⟨⟨_, _, _, _, _, _, _, h2 ho, .inl rfl, k3.1, k3.2⟩, h3⟩
    · obtain ⟨D, rfl, _⟩ := h1 ho
      exact ⟨⟨_, _, _, _, _, _, _, rfl, .inr rfl, k3.1, k3.2⟩, h3⟩
theorem vkn2 (w : World) (a m : Addr) (ha : Fls w (some a) [0]) (hm : Fls w (some m) [0]) :
    Calls Try.prog 33 #[.agg #[.slice (some a) 1 1, .slice none 0 0], .slice (some m) 1 1] w fun e w' => (∃ D, e = .returned (.tuple #[.agg #[.int .i64 1, .int .i64 1, .slice (some ⟨D, 0, none⟩) 1 1], .int .i64 3, .int .i64 0])) ∧ Below w.heap.size w w' := by
  have hT : TrI w (some a) none [0] [] 1 0 := ⟨ha, (fun h => absurd rfl h), (fun h => by cases h), (fun _ => ⟨rfl, rfl⟩), wordsI_of (by kernel_rfl)⟩
  have hc : cluI [0] [] [0] = [0] := by kernel_rfl
  refine (Vectors_of w (some a) none (some m) _ _ _ 1 0 1 1 0 1 rfl rfl rfl hT hm (wordsI_of (by kernel_rfl)) (by kernel_rfl) (fun x => askS [0] [] [x] = 0 ∧ x < 18446744073709551616) (fun h0 W x j ka kl kc cl h1 h2 => spec_fin w (some a) none _ _ 1 0 1 0 rfl rfl h0 hT W x j ka kl kc cl h1 h2.1) (fun x hx => ⟨by have h := (askS_zero hx.1).2.2.2; exact isnan_ffinq (by simpa using h), hx.2⟩) (fun j hj _ => ?_)).mono ?_
  · rw [hc]
    match j, hj with
    | 0, _ => exact ⟨(by kernel_rfl : askS [0] [] [0] = 0), by decide⟩
  · rw [hc]
    rintro e w' ⟨h1, h2, h3⟩
    have k3 := knl2
    dsimp only at k3
    generalize vcsL [0] [] [0] [0] 1 = v at *
    simp only [Bool.and_eq_true, decide_eq_true_eq] at k3
    obtain ⟨D, rfl, _⟩ := h1 k3.1
    exact ⟨⟨D, by rw [k3.2]; rfl⟩, h3⟩
set_option maxHeartbeats 16000000 in
theorem nil14 (w : World) : Calls Try.prog 7 #[] w fun e w' => e = .returned (.bool true) ∧ Below w.heap.size w w' := by
  go_enter Try.func7, Try.ntmps7
  have HN := Lib.hid num14
  have HK := Lib.hid known14_any
  have BW := Lib.hid (show Below w.heap.size w w from Below.refl _ _)
  go_upto_region 1 with (fail)
  go_wp2_with fail
  have hs := Start_ok w 512 0 (by decide) (by decide)
  refine (hs).mono ?_
  rintro e V1 ⟨⟨v, rfl, hO⟩, hb⟩
  replace BW := Lib.hid (below_step BW.out BW.out.size hb)
  dsimp only
  obtain ⟨sa, sc, rfl, hF⟩ := hO.fls
  have hl : (srtI 0 512).length = 512 := srtI_len 0 512
  rw [hl]
  clear hs hO hF hl hb
  go_wp2_with fail
  refine (Start_err _ 513 0 (by decide)).mono ?_
  rintro e w' ⟨rfl, rfl⟩
  dsimp only
  go_wp2_with fail
  have hso := isolve_ok V1 none none none none none none [] [] [] [] [] [] 0 0 0 0 0 0 0 0 (fun h => absurd rfl h) (fun h => absurd rfl h) (fun h => absurd rfl h) (fun h => absurd rfl h) (fun h => absurd rfl h) (fun h => absurd rfl h) (fun _ => rfl) (fun x hx => by cases hx) (by decide) rfl rfl rfl rfl rfl rfl rfl
  refine (hso).mono ?_
  rintro e V2 ⟨a1, c1, b1, rfl, _, _, _, hb⟩
  replace BW := Lib.hid (below_step BW.out BW.out.size hb)
  dsimp only
  clear hso hb
  go_wp2_with fail
  have hl := litI2 V2 [4607182418800017408] [4607182418800017408] (by kernel_rfl) (by kernel_rfl)
  simp only [List.map_cons, List.map_nil] at hl
  obtain ⟨V3, hV⟩ : ∃ V, V = ((V2.alloc (.cells #[.float .f64 4607182418800017408] 40)).alloc (.cells #[.float .f64 4607182418800017408] 40)) := ⟨_, rfl⟩
  rw [← hV] at hl ⊢
  obtain ⟨hl1, hl2, hlb⟩ := hl
  replace BW := Lib.hid (below_step BW.out BW.out.size hlb)
  obtain ⟨pA1, hp0⟩ : ∃ p, p = V2.heap.size := ⟨_, rfl⟩
  obtain ⟨pB1, hp1⟩ : ∃ p, p = V2.heap.size + 1 := ⟨_, rfl⟩
  rw [← hp1] at hl2 ⊢
  rw [← hp0] at hl1 ⊢
  have A1 := Lib.hid (show Fls V3 (some ⟨pA1, 0, none⟩) [4607182418800017408] from hl1)
  have B1 := Lib.hid (show Fls V3 (some ⟨pB1, 0, none⟩) [4607182418800017408] from hl2)
  clear hl1 hlb hV hp0 hp1 hl2
  have hse := isolve_err V3 (some ⟨pA1, 0, none⟩) none none none none (some ⟨pB1, 0, none⟩) 1 1 0 0 0 0 1 0 0 0 0 1 (by decide) ⟨by unfold maxLen; decide, by unfold maxLen; decide, by unfold maxLen; decide, by unfold maxLen; decide, by unfold maxLen; decide⟩ (by kernel_rfl)
  refine (hse).mono ?_
  rintro e V4 ⟨rfl, hb⟩
  replace BW := Lib.hid (below_step BW.out BW.out.size hb)
  dsimp only
  clear A1 B1 hb hse
  go_wp2_with fail
  have hl := litI2 V4 [9218868437227405311, 18442240474082181119] [9218868437227405311] (by kernel_rfl) (by kernel_rfl)
  simp only [List.map_cons, List.map_nil] at hl
  obtain ⟨V5, hV⟩ : ∃ V, V = ((V4.alloc (.cells #[.float .f64 9218868437227405311, .float .f64 18442240474082181119] 40)).alloc (.cells #[.float .f64 9218868437227405311] 40)) := ⟨_, rfl⟩
  rw [← hV] at hl ⊢
  obtain ⟨hl1, hl2, hlb⟩ := hl
  replace BW := Lib.hid (below_step BW.out BW.out.size hlb)
  obtain ⟨pA2, hp0⟩ : ∃ p, p = V4.heap.size := ⟨_, rfl⟩
  obtain ⟨pB2, hp1⟩ : ∃ p, p = V4.heap.size + 1 := ⟨_, rfl⟩
  rw [← hp1] at hl2 ⊢
  rw [← hp0] at hl1 ⊢
  have A2 := Lib.hid (show Fls V5 (some ⟨pA2, 0, none⟩) [9218868437227405311, 18442240474082181119] from hl1)
  have B2 := Lib.hid (show Fls V5 (some ⟨pB2, 0, none⟩) [9218868437227405311] from hl2)
  clear hl1 hlb hV hp0 hp1 hl2
  refine (tri14 _ _ _ _ _ _ _).mono ?_
  rintro e V6 ⟨rfl, hb⟩
  replace BW := Lib.hid (below_step BW.out BW.out.size hb)
  replace A2 := Lib.hid (A2.out.below hb)
  replace B2 := Lib.hid (B2.out.below hb)
  dsimp only
  clear hb
  go_wp2_with fail
  have hl := litI1 V6 [9218868437227405311] (by kernel_rfl)
  simp only [List.map_cons, List.map_nil] at hl
  obtain ⟨V7, hV⟩ : ∃ V, V = (V6.alloc (.cells #[.float .f64 9218868437227405311] 40)) := ⟨_, rfl⟩
  rw [← hV] at hl ⊢
  obtain ⟨hl1, hlb⟩ := hl
  replace BW := Lib.hid (below_step BW.out BW.out.size hlb)
  replace A2 := Lib.hid (A2.out.below hlb)
  replace B2 := Lib.hid (B2.out.below hlb)
  obtain ⟨pC2, hp0⟩ : ∃ p, p = V6.heap.size := ⟨_, rfl⟩
  rw [← hp0] at hl1 ⊢
  have C2 := Lib.hid (show Fls V7 (some ⟨pC2, 0, none⟩) [9218868437227405311] from hl1)
  clear hl1 hlb hV hp0
  refine (vkn1 _ _ _ _ A2.out B2.out C2.out).mono ?_
  rintro e V8 ⟨⟨r2, k2, x2, y2, z2, st, qc, rfl, hq, hs1, hs2⟩, hb⟩
  replace BW := Lib.hid (below_step BW.out BW.out.size hb)
  dsimp only
  clear A2 B2 C2 hb
  have HQ := Lib.hid (And.intro hq (And.intro hs1 hs2))
  clear hq hs1 hs2
  go_upto_region 6 with (fail)
  have hm := Box.newA V8 [.int .i64 r2, .int .i64 k2, .slice x2 y2 z2] 26 rfl
  have hb := (Below.refl V8.heap.size V8).alloc (Nat.le_refl _) (.cells #[.int .i64 r2, .int .i64 k2, .slice x2 y2 z2] 26)
  obtain ⟨V9, hV⟩ : ∃ V, V = V8.alloc (.cells #[.int .i64 r2, .int .i64 k2, .slice x2 y2 z2] 26) := ⟨_, rfl⟩
  have hm2 : Box V9 V8.heap.size [.int .i64 r2, .int .i64 k2, .slice x2 y2 z2] := hV ▸ hm
  rw [← hV] at hb ⊢
  replace BW := Lib.hid (below_step BW.out BW.out.size hb)
  obtain ⟨pM1, hp⟩ : ∃ p, p = V8.heap.size := ⟨_, rfl⟩
  rw [← hp] at hm2 ⊢
  have M1 := Lib.hid (show Box V9 pM1 [.int .i64 r2, .int .i64 k2, .slice x2 y2 z2] from hm2)
  clear hm hm2 hb hV hp
  go_wp2_with fail
  have hl := litI1 V9 [0] (by kernel_rfl)
  simp only [List.map_cons, List.map_nil] at hl
  obtain ⟨V10, hV⟩ : ∃ V, V = (V9.alloc (.cells #[.float .f64 0] 40)) := ⟨_, rfl⟩
  rw [← hV] at hl ⊢
  obtain ⟨hl1, hlb⟩ := hl
  replace BW := Lib.hid (below_step BW.out BW.out.size hlb)
  replace M1 := Lib.hid (M1.out.below hlb)
  obtain ⟨pA3, hp0⟩ : ∃ p, p = V9.heap.size := ⟨_, rfl⟩
  rw [← hp0] at hl1 ⊢
  have A3 := Lib.hid (show Fls V10 (some ⟨pA3, 0, none⟩) [0] from hl1)
  clear hl1 hlb hV hp0
  refine (tri14 _ _ _ _ _ _ _).mono ?_
  rintro e V11 ⟨rfl, hb⟩
  replace BW := Lib.hid (below_step BW.out BW.out.size hb)
  replace M1 := Lib.hid (M1.out.below hb)
  replace A3 := Lib.hid (A3.out.below hb)
  dsimp only
  clear hb
  go_wp2_with fail
  have hl := litI1 V11 [0] (by kernel_rfl)
  simp only [List.map_cons, List.map_nil] at hl
  obtain ⟨V12, hV⟩ : ∃ V, V = (V11.alloc (.cells #[.float .f64 0] 40)) := ⟨_, rfl⟩
  rw [← hV] at hl ⊢
  obtain ⟨hl1, hlb⟩ := hl
  replace BW := Lib.hid (below_step BW.out BW.out.size hlb)
  replace M1 := Lib.hid (M1.out.below hlb)
  replace A3 := Lib.hid (A3.out.below hlb)
  obtain ⟨pC3, hp0⟩ : ∃ p, p = V11.heap.size := ⟨_, rfl⟩
  rw [← hp0] at hl1 ⊢
  have C3 := Lib.hid (show Fls V12 (some ⟨pC3, 0, none⟩) [0] from hl1)
  clear hl1 hlb hV hp0
  refine (vkn2 _ _ _ A3.out C3.out).mono ?_
  rintro e V13 ⟨⟨D3, rfl⟩, hb⟩
  replace BW := Lib.hid (below_step BW.out BW.out.size hb)
  replace M1 := Lib.hid (M1.out.below hb)
  dsimp only
  clear A3 C3 hb
  go_upto_region 7 with (fail)
  have hm := Box.newA V13 [.int .i64 1, .int .i64 1, .slice (some ⟨D3, 0, none⟩) 1 1] 26 rfl
  have hb := (Below.refl V13.heap.size V13).alloc (Nat.le_refl _) (.cells #[.int .i64 1, .int .i64 1, .slice (some ⟨D3, 0, none⟩) 1 1] 26)
  obtain ⟨V14, hV⟩ : ∃ V, V = V13.alloc (.cells #[.int .i64 1, .int .i64 1, .slice (some ⟨D3, 0, none⟩) 1 1] 26) := ⟨_, rfl⟩
  have hm2 : Box V14 V13.heap.size [.int .i64 1, .int .i64 1, .slice (some ⟨D3, 0, none⟩) 1 1] := hV ▸ hm
  rw [← hV] at hb ⊢
  replace BW := Lib.hid (below_step BW.out BW.out.size hb)
  replace M1 := Lib.hid (M1.out.below hb)
  obtain ⟨pM3, hp⟩ : ∃ p, p = V13.heap.size := ⟨_, rfl⟩
  rw [← hp] at hm2 ⊢
  have M3 := Lib.hid (show Box V14 pM3 [.int .i64 1, .int .i64 1, .slice (some ⟨D3, 0, none⟩) 1 1] from hm2)
  clear hm hm2 hb hV hp
  obtain ⟨f1, f2, f3⟩ := M3.out.facts
  have hs1 : (1 : Int) ≤ (st : Int) := by have := HQ.out.2.1; omega
  have hs2 : (st : Int) ≤ 3 := by have := HQ.out.2.2; omega
  have hs3 : 1 ≤ st := HQ.out.2.1
  have hs4 : st ≤ 3 := HQ.out.2.2
  rcases HQ.out.1 with rfl | rfl
  · skip
    go_wp2_with (go_at_call 30; refine (HN.out _ _).mono ?_; rintro e w' ⟨rfl, rfl⟩)
    refine (HK.out _).mono ?_
    rintro e w9 ⟨rfl, hb⟩
    have hf := below_step BW.out BW.out.size hb
    dsimp only
    go_wp2_with fail
    go_ret
    exact ⟨rfl, hf⟩
  · skip
    go_wp2_with (go_at_call 30; refine (HN.out _ _).mono ?_; rintro e w' ⟨rfl, rfl⟩)
    refine (HK.out _).mono ?_
    rintro e w9 ⟨rfl, hb⟩
    have hf := below_step BW.out BW.out.size hb
    dsimp only
    go_wp2_with fail
    go_ret
    exact ⟨rfl, hf⟩
end Go.Proofs.Ytdljnhdhigbefaa

/- 'plumblinelaw14.InverseStarts' answers true (printed by gen_jn.py). No condition. -/
namespace Go.Proofs.Ytdljnhdhigbefaa
open Go Go.RowKit
set_option maxRecDepth 1000000
set_option linter.unusedSimpArgs false
set_option linter.unusedVariables false

set_option maxHeartbeats 8000000 in
theorem starts14 (w : World) (n j : Int) (hjm : j ≤ 9223372036854775807) :
    Calls Try.prog 8 #[.int .i64 n, .int .i64 j] w fun e w' => e = .returned (.bool true) ∧ Below w.heap.size w w' := by
  have HK := Lib.hid known14_any
  have HN := Lib.hid num14
  by_cases h : n < 0 ∨ 512 < n ∨ j < 0
  case pos =>
    have HS := Lib.hid (fun W => Start_err W n j h)
    by_cases h1 : n < 0
    case pos =>
      clear h
      go_enter Try.func8, Try.ntmps8
      go_wp2_with fail
      refine (HS.out _).mono ?_
      rintro e w1 ⟨rfl, rfl⟩
      dsimp only
      go_wp2_with fail
      refine (HN.out _ _).mono ?_
      rintro e w' ⟨rfl, rfl⟩
      go_wp2_with fail
      refine (HK.out _).mono ?_
      rintro e w9 ⟨rfl, hb⟩
      have hf := hb
      dsimp only
      go_wp2_with fail
      go_ret
      exact ⟨rfl, hf⟩
    case neg =>
      by_cases h2 : 512 < n
      case pos =>
        clear h
        go_enter Try.func8, Try.ntmps8
        go_wp2_with fail
        refine (HS.out _).mono ?_
        rintro e w1 ⟨rfl, rfl⟩
        dsimp only
        go_wp2_with fail
        refine (HN.out _ _).mono ?_
        rintro e w' ⟨rfl, rfl⟩
        go_wp2_with fail
        refine (HK.out _).mono ?_
        rintro e w9 ⟨rfl, hb⟩
        have hf := hb
        dsimp only
        go_wp2_with fail
        go_ret
        exact ⟨rfl, hf⟩
      case neg =>
        have h3 : j < 0 := by omega
        clear h
        go_enter Try.func8, Try.ntmps8
        go_wp2_with fail
        refine (HS.out _).mono ?_
        rintro e w1 ⟨rfl, rfl⟩
        dsimp only
        go_wp2_with fail
        refine (HN.out _ _).mono ?_
        rintro e w' ⟨rfl, rfl⟩
        go_wp2_with fail
        refine (HK.out _).mono ?_
        rintro e w9 ⟨rfl, hb⟩
        have hf := hb
        dsimp only
        go_wp2_with fail
        go_ret
        exact ⟨rfl, hf⟩
  case neg =>
    obtain ⟨n, rfl⟩ : ∃ k : Nat, n = (k : Int) := ⟨n.toNat, by omega⟩
    obtain ⟨j, rfl⟩ : ∃ k : Nat, j = (k : Int) := ⟨j.toNat, by omega⟩
    have hn : n ≤ 512 := by omega
    have HS := Lib.hid (fun W => Start_ok W n j hn (by omega))
    have HR := Lib.hid (fun W => RStart14 W n j hn (by omega))
    have h1 : ¬ (n : Int) < 0 := by omega
    have h2 : ¬ (512 : Int) < (n : Int) := by omega
    have h3 : ¬ (j : Int) < 0 := by omega
    clear h hjm
    go_enter Try.func8, Try.ntmps8
    go_wp2_with fail
    refine (HS.out _).mono ?_
    rintro e w1 ⟨⟨v, rfl, hO⟩, hb⟩
    have BW := Lib.hid hb
    obtain ⟨ao, bo, co, rfl, _, hcm, _, hFo, hlo⟩ := hO.fs
    rw [srtI_len]
    have O1 := Lib.hid hFo.fls
    clear hO hFo hlo hcm hb
    dsimp only
    go_upto_region 4 with (fail)
    by_cases h4 : 60 < n
    case pos =>
      have h5 : (60 : Int) < (n : Int) := by omega
      have t5 : decide ((60 : Int) < (n : Int)) = true := decide_eq_true h5
      go_wp2_with fail
      refine (HN.out _ _).mono ?_
      rintro e w' ⟨rfl, rfl⟩
      go_wp2_with fail
      refine (HK.out _).mono ?_
      rintro e w9 ⟨rfl, hb⟩
      have hf := below_step BW.out BW.out.size hb
      dsimp only
      go_wp2_with fail
      go_ret
      exact ⟨rfl, hf⟩
    case neg =>
      have h5 : ¬ (60 : Int) < (n : Int) := by omega
      have t5 : decide ((60 : Int) < (n : Int)) = false := decide_eq_false h5
      go_wp2_with fail
      refine (HN.out _ _).mono ?_
      rintro e w' ⟨rfl, rfl⟩
      go_wp2_with fail
      refine (HR.out _).mono ?_
      rintro e w2 ⟨⟨v, rfl, hO⟩, hb⟩
      obtain ⟨ap, bp, cp, rfl, _, hcm, _, hFo, hlo⟩ := hO.fs
      rw [srtI_len]
      have O2 := Lib.hid hFo.fls
      replace O1 := Lib.hid (O1.out.below hb)
      replace BW := Lib.hid (below_step BW.out BW.out.size hb)
      clear hO hFo hlo hcm hb
      dsimp only
      go_wp2_with fail
      refine (same14 w2 ao ap (srtI j n) n co cp (srtI_len j n) O1.out O2.out (srtI_words j n) (by omega)).mono ?_
      rintro e w3 ⟨rfl, hb⟩
      replace BW := Lib.hid (below_step BW.out BW.out.size hb)
      clear hb O1 O2
      dsimp only
      go_wp2_with fail
      refine (HK.out _).mono ?_
      rintro e w9 ⟨rfl, hb⟩
      have hf := below_step BW.out BW.out.size hb
      dsimp only
      go_wp2_with fail
      go_ret
      exact ⟨rfl, hf⟩
end Go.Proofs.Ytdljnhdhigbefaa

/- Arguments opened: slices of floats; a way up for results. No condition. -/
namespace Go.Proofs.Ytdljnhdhigbefaa
open Go Go.RowKit Go.ChangeShapes Go.WideShapes Go.Deep

section
variable {H : Type} {enc : TypeId × Value → H} {P : Program} {w : World} {base : Nat} {spare : Nat → Bool} {held : Bool}

theorem trod_f64 {fuel : Nat} {t : TypeId} {cs : List Value} {x : DataW H × List MemPlace} (ht : P.underlying t = some (.float .f64)) (h : DataW.trod enc P w base spare held fuel t cs = some x) : ∃ n, cs = [.float .f64 n] ∧ x = (.lit (.float .f64 n), []) ∧ n < 18446744073709551616 := by
  cases fuel with
  | zero => simp [DataW.trod] at h
  | succ n =>
    unfold DataW.trod at h
    rw [ht] at h
    split at h <;> simp_all
    rename_i k k' b hk
    subst hk
    obtain ⟨⟨rfl, hw⟩, rfl⟩ := h
    simp [Lit.wf] at hw
    exact hw

/-- A slice of floats: where it lies, its floats. -/
theorem open_fls {t e : TypeId} {fuel : Nat} {v : Value} {x : DataW H × List MemPlace} (ht : P.underlying t = some (.slice e)) (he : P.underlying e = some (.float .f64)) (hc : P.cellsOf e = 1) (h : DataW.trod enc P w base spare held fuel t [v] = some x) :
    ∃ (a : Option Addr) (zs : List Nat) (cap : Nat), v = .slice a zs.length cap ∧ Fls w a zs ∧ Words zs ∧ zs.length ≤ maxLen := by
  rcases open_slice1 ht hc h with ⟨h1, h2⟩ | ⟨a, len, cap, m, n, V, D, Pl, h1, hb, hl, hm, hmm, h2, hx⟩
  · simp only [List.cons.injEq, and_true] at h1
    subst h1
    exact ⟨none, [], 0, rfl, fun hz => absurd rfl hz, fun v hv => (by cases hv), Nat.zero_le _⟩
  · simp only [List.cons.injEq, and_true] at h1
    subst h1
    have hlm : len ≤ m := by rw [hmm]; split <;> omega
    obtain ⟨F, hF⟩ := choose_lt (α := Nat) (p := fun i x => w.cell? (a.add i) = some (.float .f64 x) ∧ x < 18446744073709551616) (n := len) (fun i hi => by
      obtain ⟨c, ht2⟩ := hx i (by omega)
      obtain ⟨x, hx1, _, hx2⟩ := trod_f64 he ht2
      simp only [List.cons.injEq, and_true] at hx1
      exact ⟨x, by rw [c, hx1], hx2⟩)
    refine ⟨some a, (List.range len).map F, cap, by simp, ?_, ?_, by simp; omega⟩
    · intro hz
      have hlen : 0 < len := by
        cases len with
        | zero => exact absurd rfl hz
        | succ n => omega
      have h0 := (hF 0 hlen).1
      obtain ⟨b, off, spot⟩ := a
      have hsp : spot = none ∧ b < w.heap.size := by
        unfold Addr.add World.cell? at h0
        simp only [if_true] at h0
        cases hh : w.heap[b]? with
        | none => rw [hh] at h0; cases h0
        | some o =>
          rw [hh] at h0
          refine ⟨?_, (Array.getElem?_eq_some_iff.1 hh).1⟩
          cases o with
          | cells c T r => simp only [] at h0; cases spot with
            | none => rfl
            | some s => simp at h0
          | _ => simp at h0
      obtain ⟨rfl, hbl⟩ := hsp
      refine ⟨b, off, rfl, hbl, fun i v hv => ?_⟩
      simp only [List.getElem?_map, Option.map_eq_some_iff] at hv
      obtain ⟨j, hj, rfl⟩ := hv
      have hi : i < len := by
        by_cases hi : i < len
        · exact hi
        · rw [List.getElem?_eq_none (by simp; omega)] at hj; cases hj
      rw [List.getElem?_range hi] at hj
      cases hj
      have := (hF i hi).1
      have ha : (Addr.add ⟨b, off, none⟩ i) = ⟨b, off + i, none⟩ := by
        unfold Addr.add
        split
        · subst_vars; rfl
        · rfl
      rw [ha] at this
      obtain ⟨s, hs⟩ := raw_self (hF i hi).2
      exact ⟨s, by rw [this, ← hs]⟩
    · intro v hv
      simp only [List.mem_map, List.mem_range] at hv
      obtain ⟨i, hi, rfl⟩ := hv
      exact (hF i hi).2
end
end Go.Proofs.Ytdljnhdhigbefaa

/- A law's row closed: the result is true, nothing that was there has turned, each argument reads as it did. No condition. -/
namespace Go.Proofs.Ytdljnhdhigbefaa
open Go Go.RowKit Go.ChangeShapes Go.WideShapes

section
variable {H : Type} {enc : TypeId × Value → H} {P : Program}

theorem trodAll_stays (hl : laidOutB P = true) {W W' : World} {sp : Nat → Bool} : ∀ {ts : List TypeId} {vs : List Value} {ds : List (DataW H)} {ps : List MemPlace},
    ts.all (fun t => P.readableRec t && decide (t < P.types.size)) = true → DataW.TrodAll enc P W 0 (fun _ => true) true ts vs ds ps → (∀ p ∈ ps, W.sameAt W' p) → (∀ p ∈ ps, sp p.block = true) → DataW.TrodAll enc P W' 0 sp true ts vs ds ps
  | [], _, _, _, _, h, _, _ => by
    obtain ⟨rfl, rfl, rfl⟩ := trodAll_nil h
    rfl
  | t :: ts, _, _, _, ht, h, h1, h2 => by
    obtain ⟨v, vs, d, ds, p, q, rfl, rfl, rfl, hd, hr⟩ := trodAll_cons h
    simp only [List.all_cons, Bool.and_eq_true, decide_eq_true_eq] at ht
    refine ⟨p, q, WideElems.Trod_stays hl ht.1.1 ht.1.2 hd (fun x hx => h1 x (by simp [hx])) (fun x hx => h2 x (by simp [hx])), trodAll_stays hl ht.2 hr (fun x hx => h1 x (by simp [hx])) (fun x hx => h2 x (by simp [hx])), rfl⟩

/-- What a law's row asks in the end. -/
theorem post_of_below {f : Func} {s : ChangeSpec} {apart fresh handsOn again : Bool} {W W' : World} {args : Array Value} {ds : List (DataW H)} {before : List MemPlace} {tb : TypeId}
    (hl : laidOutB P = true) (hread : f.params.toList.all (fun t => P.readableRec t && decide (t < P.types.size)) = true) (hv : s.vars = [])
    (hW : DataW.Whole enc P f.params.toList s.vars apart W args.toList ds [] before)
    (hs : s.fn H ds = { results := [.lit (.bool true)], args := ds }) (hb : Below W.heap.size W W') (hr : f.resultTypes = #[tb]) (htb : P.underlying tb = some .bool) :
    s.post enc P f apart fresh handsOn again W args (.bool true) W' := by
  have hlt : ∀ p ∈ before, p.block < W.heap.size := fun p hp => hW.lt p hp
  have hsame : ∀ p ∈ before, W.sameAt W' p := fun p hp => hb.same (hlt p hp)
  have hW0 := hW
  obtain ⟨p, q, hA, hV, rfl, hz, hn⟩ := hW0
  have hq : q = [] := by rw [hv] at hV; exact hV
  subst hq
  rw [List.append_nil] at hlt hsame hz hn
  have hres : ∀ (b : Nat) (sp : Nat → Bool) (hd : Bool), DataW.TrodAll enc P W' b sp hd f.resultTypes.toList ((Value.bool true).resultList f.resultTypes.size) (s.fn H (ds ++ [])).results [] := by
    intro b sp hd
    rw [List.append_nil, hs, hr]
    exact trodAll_mk1 (shut_bool htb _)
  have hargs : ∀ sp : Nat → Bool, (∀ x ∈ p, sp x.block = true) → DataW.TrodAll enc P W' 0 sp true f.params.toList args.toList (s.fn H (ds ++ [])).args p := by
    intro sp hsp
    rw [List.append_nil, hs]
    exact trodAll_stays hl hread hA hsame hsp
  have hvars : ∀ sp : Nat → Bool, DataW.TrodVars enc P W' sp s.vars (s.fn H (ds ++ [])).vars [] := by
    intro sp
    rw [List.append_nil, hs, hv]
    rfl
  have hold : ∀ x ∈ p, (fun b => decide (b < W.heap.size)) x.block = true := fun x hx => by simpa using hlt x hx
  refine ⟨ds, [], p ++ [], [], p, [], hW, hres _ _ _, hargs _ hold, hvars _, hb.frame _, fun _ => ?_⟩
  refine ⟨?_, _, _, ([] ++ p) ++ [], ⟨[] ++ p, [], trodAll_append (hargs _ (fun _ _ => rfl)) (hres _ _ _), hvars _, rfl, ?_, ?_⟩, ?_⟩
  · exact ok_one hr rfl (okWide_bool_mk htb _)
  · intro b off hp
    have h1 := hlt (MemPlace.cell b off) (by simpa using hp)
    rw [hb.frozen (p := ⟨b, off, none⟩) h1]
    exact hz b off (by simpa using hp)
  · intro ha
    have := hn ha
    simpa using this
  · intro x hx _
    simpa using hx
end
end Go.Proofs.Ytdljnhdhigbefaa

/- An argument opened: a float. No condition. -/
namespace Go.Proofs.Ytdljnhdhigbefaa
open Go Go.RowKit Go.ChangeShapes Go.WideShapes Go.Deep

section
variable {H : Type} {enc : TypeId × Value → H} {P : Program} {w : World} {base : Nat} {spare : Nat → Bool} {held : Bool}
theorem open_f64w {r : Reach} {b0 : Nat} {t : TypeId} {v : Value} {d : DataW H} {ps : List MemPlace} (ht : P.underlying t = some (.float .f64)) (hval : Value.okWide P w r b0 t v) (hd : DataW.Trod enc P w base spare held t v d ps) :
    ∃ n, v = .float .f64 n ∧ d = .lit (.float .f64 n) ∧ ps = [] ∧ n < 18446744073709551616 := by
  obtain ⟨n, rfl⟩ : ∃ n, v = .float .f64 n := by
    simp only [Value.okWide, ht, Cell.okWide] at hval
    cases v <;> simp_all [Cell.ok]
  obtain ⟨fuel, hf⟩ := hd
  obtain ⟨n', h, hx, hw⟩ := trod_f64 ht hf
  simp [Value.cells] at h
  subst h
  simp only [Prod.mk.injEq] at hx
  exact ⟨n, rfl, hx.1, hx.2, hw⟩
end
end Go.Proofs.Ytdljnhdhigbefaa
