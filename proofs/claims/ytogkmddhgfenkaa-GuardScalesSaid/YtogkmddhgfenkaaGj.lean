/- The document's Power. -/
import Derived.Test.YtogkmddhgfenkaaGi
namespace Go.Proofs.Ytogkmddhgfenkaa
open Go Go.RowKit
set_option maxRecDepth 100000
@[go_sem] theorem run_neg_f64 {P : Program} (x : Nat) (w : World) : (Op.unary .neg (.float .f64 x)).run P w = .ok (.float .f64 (Op.negFloat .f64 x)) w := rfl
theorem neg_hi {x : Nat} (hx : x < 18446744073709551616) (h : x / 9223372036854775808 % 2 = 1) : Op.negFloat .f64 x = x % 9223372036854775808 := by
  show x ^^^ 9223372036854775808 = _
  have h1 : x = 2 ^ 63 * 1 + x % 9223372036854775808 := by rw [show (2 : Nat) ^ 63 = 9223372036854775808 from by decide]; omega
  have h2 : x % 9223372036854775808 < 2 ^ 63 := Nat.lt_of_lt_of_le (Nat.mod_lt _ (by decide)) (by decide)
  have h3 := Nat.two_pow_add_eq_or_of_lt h2 1
  have h4 : x ^^^ 9223372036854775808 = (2 ^ 63 * 1 + x % 9223372036854775808) ^^^ 9223372036854775808 := by rw [← h1]
  rw [h4, h3]
  generalize x % 9223372036854775808 = r at h2
  apply Nat.eq_of_testBit_eq
  intro i
  rw [show (9223372036854775808 : Nat) = 2 ^ 63 from by decide, Nat.mul_one]
  simp only [Nat.testBit_xor, Nat.testBit_or, Nat.testBit_two_pow]
  by_cases hi : 63 = i
  · subst hi
    have : r.testBit 63 = false := Nat.testBit_lt_two_pow h2
    simp [this]
  · simp [hi]
theorem dbl_round {r : Nat} (h0 : 0 < r) (h : expR r + 1 ≤ 2046) : roundR (sigR r) (expR r + 1) = (if r < 4503599627370496 then 2 * r else r + 4503599627370496) := by
  have hb := sig_bnd h0
  unfold roundR
  by_cases h1 : r < 4503599627370496
  · have hl := log2_lt52 h1 h0
    have hs : sigR r = r * 2 ^ (52 - r.log2) := by unfold sigR; rw [if_pos h1]
    have he : expR r = (r.log2 : Int) - 51 := by unfold expR; rw [if_pos h1]
    rw [if_pos h1, he, if_neg (by omega)]
    by_cases h2 : (1 : Int) ≤ (r.log2 : Int) - 51 + 1
    · have hl2 : r.log2 = 51 := by omega
      rw [if_pos h2, hl2]
      rw [hl2] at hs
      rw [hs] at hb ⊢
      simp only [Nat.reduceSub, Nat.pow_one] at hb ⊢
      omega
    · rw [if_neg h2, if_neg (by omega)]
      have e1 : (1 - ((r.log2 : Int) - 51 + 1)).toNat = 51 - r.log2 := by omega
      have e2 : sigR r = 2 * r * 2 ^ (51 - r.log2) := by
        rw [hs, show 52 - r.log2 = (51 - r.log2) + 1 by omega, Nat.pow_succ, Nat.mul_comm 2 r, Nat.mul_assoc, Nat.mul_comm 2]
      have hp : 0 < 2 ^ (51 - r.log2) := Nat.two_pow_pos _
      rw [e1, e2, Nat.mul_div_cancel _ hp, Nat.mul_mod_left]
      rw [if_neg (by rintro (h | ⟨h, _⟩) <;> omega)]
      rfl
  · have hs : sigR r = 4503599627370496 + r % 4503599627370496 := by unfold sigR; rw [if_neg h1]
    have he : expR r = (r / 4503599627370496 : Nat) := by unfold expR; rw [if_neg h1]
    rw [if_neg h1]
    rw [he] at h ⊢
    rw [if_neg (by omega), if_pos (by omega), hs]
    omega
theorem dbl_exp {r : Nat} (h0 : 0 < r) : expR (if r < 4503599627370496 then 2 * r else r + 4503599627370496) = expR r + 1 := by
  by_cases h1 : r < 4503599627370496
  · have hl := log2_lt52 h1 h0
    rw [if_pos h1]
    have hlog := log2_scale r 1 h0
    rw [Nat.pow_one, Nat.mul_comm] at hlog
    unfold expR
    rw [if_pos h1]
    by_cases h2 : 2 * r < 4503599627370496
    · rw [if_pos h2, hlog]; omega
    · rw [if_neg h2]
      have h3 : r.log2 = 51 := by
        have := (Nat.log2_eq_iff (show r ≠ 0 by omega)).1 rfl
        rcases Nat.lt_or_ge r.log2 51 with h4 | h4
        · have : 2 ^ (r.log2 + 1) ≤ 2 ^ 51 := Nat.pow_le_pow_right (by decide) (by omega)
          rw [show (2 : Nat) ^ 51 = 2251799813685248 from by decide] at this
          omega
        · omega
      rw [h3]
      omega
  · rw [if_neg h1]
    unfold expR
    rw [if_neg h1, if_neg (by omega)]
    omega
theorem hlf_round {r : Nat} (h : 2 ≤ expR r) (h2 : expR r ≤ 2046) : roundR (sigR r) (expR r - 1) = r - 4503599627370496 ∧ expR (r - 4503599627370496) = expR r - 1 ∧ 0 < r - 4503599627370496 := by
  have h1 : ¬ r < 4503599627370496 := by
    intro hc
    unfold expR at h
    rw [if_pos hc] at h
    rcases Nat.eq_zero_or_pos r with h0 | h0
    · subst h0; simp at h
    · have := log2_lt52 hc h0
      omega
  have hs : sigR r = 4503599627370496 + r % 4503599627370496 := by unfold sigR; rw [if_neg h1]
  have he : expR r = (r / 4503599627370496 : Nat) := by unfold expR; rw [if_neg h1]
  rw [he] at h h2 ⊢
  unfold roundR
  rw [if_neg (by omega), if_pos (by omega), hs]
  refine ⟨by omega, ?_, by omega⟩
  unfold expR
  rw [if_neg (by omega)]
  omega
theorem exp_ge {r : Nat} {E : Nat} (hE : 1 ≤ E) : (E : Int) ≤ expR r ↔ E * 4503599627370496 ≤ r := by
  unfold expR
  by_cases h : r < 4503599627370496
  · rw [if_pos h]
    rcases Nat.eq_zero_or_pos r with h0 | h0
    · subst h0; simp; omega
    · have := log2_lt52 h h0
      omega
  · rw [if_neg h]
    omega
theorem one_le {r : Nat} (hf : r < 9218868437227405312) : fle 4607182418800017408 r = decide (1023 ≤ expR r) := by
  have hn : isnan r = false := isnan_fin (by rw [Nat.mod_eq_of_lt (by omega)]; exact hf)
  rw [fle_key (by kernel_rfl) hn, fkey_small (r := r) (by omega), show fkey 4607182418800017408 = 4607182418800017408 from by decide, Bool.eq_iff_iff]
  have := exp_ge (r := r) (E := 1023) (by decide)
  simp only [decide_eq_true_eq]
  omega
theorem half_lt {r : Nat} (hf : r < 9218868437227405312) : flt r 4602678819172646912 = decide (expR r < 1022) := by
  have hn : isnan r = false := isnan_fin (by rw [Nat.mod_eq_of_lt (by omega)]; exact hf)
  rw [flt_key hn (by kernel_rfl), fkey_small (r := r) (by omega), show fkey 4602678819172646912 = 4602678819172646912 from by decide, Bool.eq_iff_iff]
  have := exp_ge (r := r) (E := 1022) (by decide)
  simp only [decide_eq_true_eq]
  omega
theorem pos_word {r : Nat} (h : r < 9223372036854775808) : r % 9223372036854775808 = r ∧ fsgn r = false ∧ ∀ q, Ieee.double.word (fsgn r) q = q := by
  have hs : fsgn r = false := by unfold fsgn; rw [Nat.div_eq_of_lt h]; rfl
  exact ⟨Nat.mod_eq_of_lt h, hs, fun q => by rw [hs, word_val]; rfl⟩
set_option maxHeartbeats 16000000 in
theorem RPower_any (w : World) (a : Option Addr) (zs : List Nat) (ac : Nat) (hZ : Cel w a zs) (hW : Words zs) (hn : zs.length ≤ 262144) (hf : zs.all ffin = true) :
    Calls Try.prog 28 #[.slice a zs.length ac] w fun e w' => e = .returned (.int .i64 (powR (mostF zs zs.length))) ∧ Below w.heap.size w w' := by
  have HF := Lib.hid hf
  have HZ := Lib.hid hZ
  have HW := Lib.hid hW
  obtain ⟨R, hR⟩ : ∃ R, R = powR (mostF zs zs.length) := ⟨_, rfl⟩
  rw [← hR]
  have HRes := Lib.hid hR
  clear hf hZ hW hR
  go_enter Try.func28, Try.ntmps28
  go_wp2
  go_loopw [3, 4] (fun s3 s4 wr => ∃ k : Nat, k ≤ zs.length ∧ s4 = .int .i64 k ∧ s3 = .float .f64 (mostF zs k) ∧ Below w.heap.size w wr) (fun _ s4 _ => zs.length - (intOf s4).toNat)
  case atStart => exact ⟨0, Nat.zero_le _, rfl, rfl, Below.refl _ _⟩
  case round =>
    obtain ⟨k, hk, rfl, rfl, hB⟩ := hrel
    have hml := most_lt zs HF.out k
    by_cases hlt : k < zs.length
    · obtain ⟨b, o, rfl, hb, c1⟩ := (HZ.out.below hB).at hlt
      have hv := HW.out.at k
      have hfk := fin_at HF.out hlt
      have HM : Hid (mostF zs (k + 1) = if mostF zs k < zs.getD k 0 % 9223372036854775808 then zs.getD k 0 % 9223372036854775808 else mostF zs k) := rfl
      generalize zs.getD k 0 = x at *
      generalize mostF zs k = mo at *
      have hnx := isnan_fin hfk
      have hnm : isnan mo = false := isnan_fin (by rw [Nat.mod_eq_of_lt (by omega)]; exact hml)
      have hl := flt_zero hnx
      by_cases hs : x / 9223372036854775808 % 2 = 1 ∧ 0 < x % 9223372036854775808
      · rw [decide_eq_true hs] at hl
        have hng := neg_hi hv hs.1
        have hy : flt mo (x % 9223372036854775808) = decide (mo < x % 9223372036854775808) := by
          have hn2 : isnan (x % 9223372036854775808) = false := isnan_fin (by rw [Nat.mod_mod]; exact hfk)
          rw [flt_key hnm hn2, fkey_small (r := mo) (by omega), fkey_small (r := x % 9223372036854775808) (by omega), Bool.eq_iff_iff]
          simp only [decide_eq_true_eq]
          omega
        clear hs hv
        generalize x % 9223372036854775808 = y at *
        by_cases hgt : mo < y
        · rw [decide_eq_true hgt] at hy
          have HM2 : Hid (mostF zs (k + 1) = y) := by unfold Hid; rw [HM.out, if_pos hgt]
          clear hgt hml hfk hnx hnm
          go_wp2
          go_roundw
          case rel => exact ⟨k + 1, by omega, by go_num, by rw [HM2.out], hB⟩
          case measure => simp [intOf]; omega
        · rw [decide_eq_false hgt] at hy
          have HM2 : Hid (mostF zs (k + 1) = mo) := by unfold Hid; rw [HM.out, if_neg hgt]
          clear hgt hml hfk hnx hnm
          go_wp2
          go_roundw
          case rel => exact ⟨k + 1, by omega, by go_num, by rw [HM2.out], hB⟩
          case measure => simp [intOf]; omega
      · rw [decide_eq_false hs] at hl
        have hy : flt mo x = decide (mo < x % 9223372036854775808) := by
          rw [flt_key hnm hnx, fkey_small (r := mo) (by omega), Bool.eq_iff_iff]
          unfold fkey
          simp only [decide_eq_true_eq]
          split <;> omega
        by_cases hgt : mo < x % 9223372036854775808
        · rw [decide_eq_true hgt] at hy
          have hxx : x = x % 9223372036854775808 := by omega
          have HM2 : Hid (mostF zs (k + 1) = x) := by unfold Hid; rw [HM.out, if_pos hgt, ← hxx]
          clear hgt hml hfk hnx hnm hs hv hxx
          go_wp2
          go_roundw
          case rel => exact ⟨k + 1, by omega, by go_num, by rw [HM2.out], hB⟩
          case measure => simp [intOf]; omega
        · rw [decide_eq_false hgt] at hy
          have HM2 : Hid (mostF zs (k + 1) = mo) := by unfold Hid; rw [HM.out, if_neg hgt]
          clear hgt hml hfk hnx hnm hs hv
          go_wp2
          go_roundw
          case rel => exact ⟨k + 1, by omega, by go_num, by rw [HM2.out], hB⟩
          case measure => simp [intOf]; omega
    · obtain rfl : k = zs.length := by omega
      generalize mostF zs zs.length = mo at *
      have hnm : isnan mo = false := isnan_fin (by rw [Nat.mod_eq_of_lt (by omega)]; exact hml)
      have hz := feq_zero hnm
      rw [Nat.mod_eq_of_lt (by omega)] at hz
      by_cases h0 : mo = 0
      · subst h0
        rw [decide_eq_true rfl] at hz
        clear hml hnm
        go_wp2
        go_ret
        exact ⟨by rw [HRes.out]; rfl, hB⟩
      · rw [decide_eq_false h0] at hz
        have hpw : powR mo = expR mo - 1022 := by unfold powR; rw [if_neg h0]
        have heb := exp_bnd (show 0 < mo by omega) hml
        rw [hpw] at HRes
        have HP := Lib.hid (show 0 < mo ∧ mo < 9218868437227405312 from ⟨by omega, hml⟩)
        generalize hE : expR mo = e0 at *
        clear h0 hml hnm hpw
        go_wp2
        obtain ⟨w1, rfl⟩ : ∃ w1 : World, w1 = wr := ⟨_, rfl⟩
        go_loopw [3, 6] (fun s3 s6 wr => ∃ r : Nat, 0 < r ∧ r < 9218868437227405312 ∧ s3 = .float .f64 r ∧ s6 = .int .i64 (e0 - expR r) ∧ expR r ≤ e0 ∧ (expR r = e0 ∨ 1022 ≤ expR r) ∧ Below w.heap.size w wr) (fun _ s6 _ => (3000 - intOf s6).toNat)
        case atStart => exact ⟨mo, HP.out.1, HP.out.2, rfl, by rw [hE, Int.sub_self], by omega, .inl hE, hB⟩
        case round =>
          obtain ⟨r, hr0, hr1, rfl, rfl, hre, hrl, hB1⟩ := hrel
          clear hB hz
          have hone := one_le hr1
          have hxb := exp_bnd hr0 hr1
          by_cases hge : 1023 ≤ expR r
          · rw [decide_eq_true hge] at hone
            have hh := hlf_round (r := r) (by omega) (by omega)
            have hpw := pos_word (r := r) (by omega)
            have hd := div_two (x := r) (by rw [hpw.1]; exact hr1) (by rw [hpw.1]; exact hr0)
            rw [hpw.2.2, hpw.1, hh.1] at hd
            have hnn : isnan (fdiv r 4611686018427387904) = false := by rw [hd]; exact isnan_fin (by rw [Nat.mod_eq_of_lt (by omega)]; omega)
            have HD := Lib.hid (show _ ∧ _ ∧ _ from ⟨hd, fun s => raw_of_not hnn s, hh⟩)
            have HR := Lib.hid (show _ ∧ _ ∧ _ ∧ _ ∧ _ from ⟨hr0, hr1, hre, hxb, hge⟩)
            have hb1 : 0 ≤ e0 - expR r := by omega
            have hb2 : e0 - expR r ≤ 2100 := by omega
            clear hr0 hr1 hre hxb hge hh hpw hd hnn hrl
            obtain ⟨er, her⟩ : ∃ er, e0 - expR r = er := ⟨_, rfl⟩
            rw [her] at hb1 hb2
            have HEr := Lib.hid her
            rw [her]
            clear her
            go_wp2_with (first | (refine wpList_flt rfl rfl rfl rfl rfl ?_; intro K hK _ _; go_frame; refine hK _ _ ?_; clear hK K))
            go_roundw
            case rel => exact ⟨r - 4503599627370496, HD.out.2.2.2.2, by have := HR.out.2.1; omega, by rw [HD.out.2.1, HD.out.1], by rw [HD.out.2.2.2.1, ← HEr.out]; congr 1; omega, by rw [HD.out.2.2.2.1]; have := HR.out.2.2.1; omega, by rw [HD.out.2.2.2.1]; have := HR.out.2.2.2.2; omega, below_drewN _ hB1⟩
            case measure => simp [intOf]; omega
          · rw [decide_eq_false hge] at hone
            have HR := Lib.hid (show _ ∧ _ ∧ _ ∧ _ ∧ _ from ⟨hr0, hr1, hre, hrl, hge⟩)
            clear hr0 hr1 hre hrl hge hxb
            have hbr : -2100 ≤ e0 - expR r ∧ e0 - expR r ≤ 2100 := by have := exp_bnd HR.out.1 HR.out.2.1; omega
            clear hbr
            go_wp2
            obtain ⟨w2, rfl⟩ : ∃ w2 : World, w2 = wr := ⟨_, rfl⟩
            clear hone
            go_loopw [3, 6] (fun s3 s6 wr => ∃ r : Nat, 0 < r ∧ r < 9218868437227405312 ∧ s3 = .float .f64 r ∧ s6 = .int .i64 (e0 - expR r) ∧ expR r ≤ 1022 ∧ Below w.heap.size w wr) (fun _ s6 _ => (intOf s6 + 3000).toNat)
            case atStart => exact ⟨r, HR.out.1, HR.out.2.1, rfl, rfl, by have := HR.out.2.2.2.2; omega, hB1⟩
            case round =>
              clear HR hB1
              obtain ⟨r, hr0, hr1, rfl, rfl, hre, hB1⟩ := hrel
              have hhf := half_lt hr1
              have hxb := exp_bnd hr0 hr1
              by_cases hge : expR r < 1022
              · rw [decide_eq_true hge] at hhf
                have hh := dbl_round hr0 (by omega)
                have he := dbl_exp hr0
                have hpw := pos_word (r := r) (by omega)
                have hd := mul_pow_r (k := 1) (B := 2 ^ 52) (c := 4611686018427387904) rfl (by decide) (show r % 9223372036854775808 < 9218868437227405312 by rw [hpw.1]; exact hr1) (by rw [hpw.1]; exact hr0)
                rw [hpw.2.2, hpw.1, hh] at hd
                generalize hr2 : (if r < 4503599627370496 then 2 * r else r + 4503599627370496) = r2 at *
                have hr3 : 0 < r2 ∧ r2 < 9218868437227405312 := by
                  have hx := exp_ge (r := r2) (E := 2047) (by decide)
                  rw [← hr2]; split
                  · omega
                  · rw [if_neg (by assumption)] at hr2; omega
                have hnn : isnan (fmul r 4611686018427387904) = false := by rw [hd]; exact isnan_fin (by rw [Nat.mod_eq_of_lt (by omega)]; exact hr3.2)
                have HD := Lib.hid (show _ ∧ _ ∧ _ ∧ _ from ⟨hd, fun s => raw_of_not hnn s, he, hr3⟩)
                have HR := Lib.hid (show _ ∧ _ ∧ _ from ⟨hr0, hr1, hge⟩)
                have hb1 : -2100 ≤ e0 - expR r := by omega
                have hb2 : e0 - expR r ≤ 2100 := by omega
                clear hr0 hr1 hre hxb hge hh hpw hd hnn he hr2 hr3
                obtain ⟨er, her⟩ : ∃ er, e0 - expR r = er := ⟨_, rfl⟩
                rw [her] at hb1 hb2
                have HEr := Lib.hid her
                rw [her]
                clear her
                go_wp2_with (first | (refine wpList_flt rfl rfl rfl rfl rfl ?_; intro K hK _ _; go_frame; refine hK _ _ ?_; clear hK K))
                go_roundw
                case rel => exact ⟨r2, HD.out.2.2.2.1, HD.out.2.2.2.2, by rw [HD.out.2.1, HD.out.1], by rw [HD.out.2.2.1, ← HEr.out]; congr 1; omega, by rw [HD.out.2.2.1]; have := HR.out.2.2; omega, below_drewN _ hB1⟩
                case measure => simp [intOf]; omega
              · rw [decide_eq_false hge] at hhf
                have hfin : e0 - expR r = e0 - 1022 := by omega
                rw [hfin]
                clear hr0 hr1 hre hxb hge hfin
                go_wp2
                go_ret
                exact ⟨by rw [HRes.out]; rfl, hB1⟩
end Go.Proofs.Ytogkmddhgfenkaa
