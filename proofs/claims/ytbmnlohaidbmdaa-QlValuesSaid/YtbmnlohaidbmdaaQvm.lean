/- 'QlValues': the law's call. No condition but on lengths. -/
import Derived.Test.YtbmnlohaidbmdaaQvl
namespace Go.Proofs.Ytbmnlohaidbmdaa
open Go Go.RowKit
set_option maxRecDepth 1000000

set_option maxHeartbeats 32000000 in
theorem qlValues_any (w : World) (da ea : Option Addr) (d e : List Nat) (dc ec : Nat) (hd : Fls w da d) (he : Fls w ea e) (hda : da = none → d = []) (hea : ea = none → e = []) (hWd : Words d) (hWe : Words e) (hld : d.length ≤ maxLen) (hle : e.length ≤ maxLen) :
    Calls Try.prog 4 #[.agg #[.slice da d.length dc, .slice ea e.length ec]] w fun x w' => x = .returned (.bool true) ∧ Below w.heap.size w w' := by
  have HF := Lib.hid (fun W => few_any W da ea none d.length e.length 0 dc ec 0 0 0 hld hle (Nat.zero_le _))
  have HM := Lib.hid (fun W => RMay10 W da ea d.length e.length dc ec hld hle)
  have HV := Lib.hid (fun W (h : Below w.heap.size w W) h1 h2 => vals_any W da ea d e dc ec (hd.below h) (he.below h) hda hea hWd hWe h1 h2)
  have HS := Lib.hid (fun W (h : Below w.heap.size w W) za zc hz h1 h2 h3 h4 => sols_any W da ea za d e dc ec zc (hd.below h) (he.below h) hz hda hea h1 hWd hWe h2 h3 h4)
  have HSe := Lib.hid (fun W (h : Below w.heap.size w W) hE => Solve_err W da ea none d e [] dc ec 0 0 0 (hd.below h) (he.below h) (Fls.none0 _ _) hWd hWe (fun _ h => by cases h) hld hle (Nat.zero_le _) hE)
  have x1 : Box (w.alloc (.cells #[.slice da d.length dc, .slice ea e.length ec] 24)) w.heap.size [.slice da d.length dc, .slice ea e.length ec] := Box.newA w [_, _] _ rfl
  have hB0 : Below w.heap.size w (w.alloc (.cells #[.slice da d.length dc, .slice ea e.length ec] 24)) := (Below.refl _ _).alloc (Nat.le_refl _) _
  have HX := Lib.hid (show _ ∧ _ from ⟨hB0, x1⟩)
  clear hB0 x1 hd he hda hea hWd hWe
  by_cases hfew : (decide (d.length ≤ 24) && decide (e.length ≤ 24) && decide (0 ≤ 300)) = false
  · rw [hfew] at HF
    clear HM HV HS HSe hfew
    go_enter Try.func4, Try.ntmps4
    go_wp2_with fail
    refine (HF.out _).mono ?_
    rintro e w1 ⟨rfl, hb1⟩
    have hB1 := below_step HX.out.1 HX.out.1.size hb1
    clear hb1 HX
    go_wp2_with fail
    refine (known12_any _).mono ?_
    rintro e w2 ⟨rfl, hb2⟩
    go_wp2
    go_ret
    exact ⟨rfl, below_step hB1 hB1.size hb2⟩
  · have hfew' := hfew
    rw [Bool.not_eq_false] at hfew
    rw [hfew] at HF
    simp only [Bool.and_eq_true, decide_eq_true_eq] at hfew
    obtain ⟨⟨hn1, hn2⟩, _⟩ := hfew
    have HV' := Lib.hid (fun W h => HV.out W h (by omega) (by omega))
    have HL := Lib.hid (show _ ∧ _ ∧ (∀ k, 0 < k → k < (valS d e).length → flt ((valS d e).getD k 0) ((valS d e).getD (k - 1) 0) = false) from ⟨valS_len d e, valM_len d e, fun k h1 h2 => valS_rise d e h1 h2⟩)
    have HC0 := Lib.hid (show mayT d.length e.length = false → valS d e = [] ∧ valM d e = 0 ∧ valC d e = 2 from fun h => by
      have h0 : wrongQ d e 0 (d.length : Nat) [] = 2 := by unfold wrongQ; rw [h]; rfl
      unfold valS valM valC
      rw [h0]
      exact ⟨rfl, rfl, rfl⟩)
    have HSe' := Lib.hid (fun (h : mayT d.length e.length = false) W hW => HSe.out W hW (show wrongQ d e 0 0 [] ≠ 0 by unfold wrongQ; rw [h, if_pos rfl]; decide))
    have HE0 := Lib.hid (show mayT d.length e.length = false → wrongQ d e 0 0 [] = 2 from fun h => by unfold wrongQ; rw [h]; rfl)
    clear hfew' HSe HV hld hle
    generalize valS d e = S at *
    generalize valM d e = m at *
    generalize valC d e = C at *
    generalize wrongQ d e 0 0 [] = C0 at *
    go_enter Try.func4, Try.ntmps4
    go_wp2_with fail
    refine (HF.out _).mono ?_
    rintro x w1 ⟨rfl, hb1⟩
    obtain ⟨hB0, x1⟩ := HX.out
    have hB1 := below_step hB0 hB0.size hb1
    have y1 := x1.below hb1
    have HV1 := Lib.hid (HV'.out _ hB1)
    obtain ⟨q1, q2, q3⟩ := y1.facts
    have HX1 := Lib.hid (show _ ∧ _ from ⟨hB1, y1⟩)
    clear hB0 x1 hb1 hB1 y1 HX HF HV'
    go_wp2_with fail
    refine HV1.out.mono ?_
    rintro x w2 ⟨a2, c2, rfl, hF2, hb2⟩
    obtain ⟨hB1, y1⟩ := HX1.out
    have hB2 := below_step hB1 hB1.size hb2
    replace y1 := y1.below hb2
    have hlt2 := y1.lt
    have hF22 := Lib.hid hF2
    have hbA : Below w2.heap.size w2 (w2.alloc (.cells #[.int .i64 0, .int .i64 0, .slice none 0 0] 26)) := (Below.refl _ _).alloc (Nat.le_refl _) _
    have y6 := Box.newA w2 [.int .i64 0, .int .i64 0, .slice none 0 0] 26 rfl
    replace y1 := y1.below hbA
    replace hB2 := below_step hB2 hB2.size hbA
    clear hb2 q1 q2 q3 hB1 HX1 HV1
    go_upto_region 5 with (fail)
    generalize hW3 : w2.alloc (.cells #[.int .i64 0, .int .i64 0, .slice none 0 0] 26) = w3 at *
    have hs6 := y6.lt
    have hne : w.heap.size ≤ w2.heap.size ∧ w.heap.size ≠ w2.heap.size := by omega
    generalize hP6 : w2.heap.size = P6 at *
    have HP6 := Lib.hid hP6
    clear hP6
    have HMay := Lib.hid (HM.out w3)
    obtain ⟨q1, q2, q3⟩ := y1.facts
    have HX3 := Lib.hid (show _ ∧ _ ∧ _ ∧ _ from ⟨hB2, y1, y6, hbA⟩)
    clear hB2 y1 y6 hF2 hbA hW3 hlt2
    cases hmay : mayT d.length e.length
    · obtain ⟨rfl, rfl, rfl⟩ := HC0.out hmay
      obtain rfl := HE0.out hmay
      rw [hmay] at HMay HM
      go_wp2_with fail
      refine HMay.out.mono ?_
      rintro x w4 ⟨rfl, hb4⟩
      obtain ⟨hB3, y1, y6, _⟩ := HX3.out
      have hB4 := below_step hB3 hB3.size hb4
      replace y1 := y1.below hb4
      replace y6 := y6.below hb4
      have HS4 := Lib.hid (HSe'.out hmay _ hB4)
      unfold SolveE at HS4
      have HX4 := Lib.hid (show _ ∧ _ from ⟨hB4, y1⟩)
      clear q1 q2 q3
      obtain ⟨q1, q2, q3⟩ := y1.facts
      obtain ⟨p1, p2, p3⟩ := y6.facts
      clear hB3 hb4 hB4 y1 y6 HX3 HMay HSe' HS HC0 HE0 hmay HL
      dsimp only
      go_wp2_with fail
      refine HS4.out.mono ?_
      rintro x w5 ⟨rfl, hb5⟩
      obtain ⟨hB4, y1⟩ := HX4.out
      have hbA : Below w5.heap.size w5 (w5.alloc (.cells #[.int .i64 0, .int .i64 0, .slice none 0 0] 26)) := (Below.refl _ _).alloc (Nat.le_refl _) _
      replace hbA := below_step hb5 hb5.size hbA
      have hB5 := below_step hB4 hB4.size hbA
      replace y1 := y1.below hbA
      clear q1 q2 q3 p1 p2 p3
      obtain ⟨q1, q2, q3⟩ := y1.facts
      have HB5 := Lib.hid hB5
      clear hB4 hB5 hb5 hbA y1 HX4 HS4
      go_wp2_with fail
      refine (HM.out _).mono ?_
      rintro x w6 ⟨rfl, hb6⟩
      have hB6 := below_step HB5.out HB5.out.size hb6
      clear hb6 HB5 q1 q2 q3
      dsimp only
      go_wp2_with fail
      refine (known12_any _).mono ?_
      rintro e w7 ⟨rfl, hb7⟩
      go_wp2
      go_ret
      exact ⟨rfl, below_step hB6 hB6.size hb7⟩
    · have HS' := Lib.hid (fun W hW za zc h1 h2 => HS.out W hW za zc h1 h2 (by omega) (by omega) hmay)
      rw [hmay] at HMay HM
      go_wp2_with fail
      refine HMay.out.mono ?_
      rintro x w4 ⟨rfl, hb4⟩
      obtain ⟨hB3, y1, y6, hb2⟩ := HX3.out
      have hB4 := below_step hB3 hB3.size hb4
      replace hb2 := hb2.trans (hb4.mono (by omega))
      replace y1 := y1.below hb4
      replace y6 := y6.below hb4
      have HO4 := Lib.hid (One10 w4 d.length (by omega))
      have HX4 := Lib.hid (show _ ∧ _ ∧ _ ∧ _ from ⟨hB4, y1, y6, hb2⟩)
      clear q1 q2 q3
      obtain ⟨q1, q2, q3⟩ := y1.facts
      obtain ⟨p1, p2, p3⟩ := y6.facts
      clear hB3 hb4 hB4 y1 y6 HX3 HMay HSe' HS HC0 HE0 hmay hb2
      dsimp only
      go_wp2_with fail
      refine HO4.out.mono ?_
      rintro x w5 ⟨a5, b5, c5, rfl, hFz, hne5, hb5⟩
      obtain ⟨hB4, y1, y6, hb2⟩ := HX4.out
      have hB5 := below_step hB4 hB4.size hb5
      replace hb2 := hb2.trans (hb5.mono (by have := y6.lt; omega))
      replace y1 := y1.below hb5
      replace y6 := y6.below hb5
      obtain ⟨b5', hFz', hne5'⟩ : ∃ b5', FS w5 a5 b5' (oneL d.length d.length) ∧ b5' ≠ P6 := by
        by_cases h0 : oneL d.length d.length = []
        · exact ⟨P6 + 1, .inl h0, by omega⟩
        · refine ⟨b5, hFz, fun h1 => ?_⟩
          obtain ⟨s, hs⟩ := (hFz.flb (List.length_pos_iff.2 h0)).2.at (i := 0) (List.length_pos_iff.2 h0)
          have h2 := y6.cell 0
          rw [← h1, hs] at h2
          simp at h2
      have hz6 := (hFz'.put3 hne5' (.int .i64 (d.length : Nat)) (.int .i64 (d.length : Nat)) (.slice a5 (d.length * d.length) c5)).fls
      have y1' := Box.put3o y1 hne.2 (.int .i64 (d.length : Nat)) (.int .i64 (d.length : Nat)) (.slice a5 (d.length * d.length) c5)
      have y6' := y6.put3 (.int .i64 (d.length : Nat)) (.int .i64 (d.length : Nat)) (.slice a5 (d.length * d.length) c5)
      have hB6 := below_put3 hB5 hne.1 (.int .i64 (d.length : Nat)) (.int .i64 (d.length : Nat)) (.slice a5 (d.length * d.length) c5)
      have hb26 := below_put3 hb2 (Nat.le_refl _) (.int .i64 (d.length : Nat)) (.int .i64 (d.length : Nat)) (.slice a5 (d.length * d.length) c5)
      have hf6 := y6.frozen
      have HX5 := Lib.hid (show _ ∧ _ ∧ _ ∧ _ ∧ _ from ⟨hB6, y1', y6', hb26, hz6⟩)
      clear q1 q2 q3 p1 p2 p3 hB4 hB5 hb5 y1 hb2 hFz hFz' hz6 y1' y6' hB6 hb26 HX4 HO4
      obtain ⟨p1, p2, p3⟩ := y6.facts
      dsimp only
      go_upto_region 7 with (fail)
      generalize (((w5.setCell ⟨P6, 0, none⟩ (.int .i64 (d.length : Nat))).setCell ⟨P6, 1, none⟩ (.int .i64 (d.length : Nat))).setCell ⟨P6, 2, none⟩ (.slice a5 (d.length * d.length) c5)) = w6 at *
      obtain ⟨hB6, y1, y6', hb26, hz6⟩ := HX5.out
      have HS6 := Lib.hid (HS'.out _ hB6 _ c5 hz6 hne5)
      clear p1 p2 p3 hf6 y6
      obtain ⟨q1, q2, q3⟩ := y1.facts
      obtain ⟨p1, p2, p3⟩ := y6'.facts
      have HX6 := Lib.hid (show _ ∧ _ ∧ _ from ⟨hB6, y1, hb26⟩)
      clear hB6 y1 y6' hb26 hz6 HX5 HS' hne5'
      go_wp2_with fail
      refine HS6.out.mono ?_
      rintro x w7 ⟨a7, c7, r', c', za', nz, zc', rfl, hF7, hb7⟩
      obtain ⟨hB6, y1, hb26⟩ := HX6.out
      have hbA : Below w7.heap.size w7 (w7.alloc (.cells #[.int .i64 r', .int .i64 c', .slice za' nz zc'] 26)) := (Below.refl _ _).alloc (Nat.le_refl _) _
      replace hF7 := hF7.below hbA
      replace hbA := below_step hb7 hb7.size hbA
      have hB8 := below_step hB6 hB6.size hbA
      replace y1 := y1.below hbA
      replace hb26 := hb26.trans (hbA.mono (HP6.out ▸ hb26.size))
      clear q1 q2 q3 p1 p2 p3
      go_upto_region 8 with (fail)
      generalize w7.alloc (.cells #[.int .i64 r', .int .i64 c', .slice za' nz zc'] 26) = w8 at *
      have HM8 := Lib.hid (HM.out w8)
      obtain ⟨q1, q2, q3⟩ := y1.facts
      have HX8 := Lib.hid (show _ ∧ _ ∧ _ ∧ _ from ⟨hB8, y1, hb26, hF7⟩)
      clear hB8 y1 hb26 hF7 hB6 hb7 hbA HX6 HS6 HM
      go_wp2_with fail
      refine HM8.out.mono ?_
      rintro x w9 ⟨rfl, hb9⟩
      obtain ⟨hB8, y1, hb26, hF7⟩ := HX8.out
      have hB9 := below_step hB8 hB8.size hb9
      replace y1 := y1.below hb9
      replace hb26 := hb26.trans (hb9.mono (HP6.out ▸ hb26.size))
      replace hF7 := hF7.below hb9
      have hlen := HL.out.1
      have HA9 := Lib.hid (SameAllF w9 a2 a7 S c2 c7 (hF22.out.below (HP6.out ▸ hb26)) hF7 (by omega))
      have HX9 := Lib.hid (show _ ∧ _ ∧ _ from ⟨hB9, y1, hb26⟩)
      have t1 : (C != C) = false := bne_self_eq_false _
      have t2 : ((m : Int) != (m : Int)) = false := bne_self_eq_false _
      clear q1 q2 q3 hB8 hb9 hB9 y1 hb26 hF7 HX8 HM8 hlen
      dsimp only
      go_wp2_with fail
      refine HA9.out.mono ?_
      rintro x w10 ⟨rfl, hb10⟩
      obtain ⟨hB9, y1, hb26⟩ := HX9.out
      have hB10 := below_step hB9 hB9.size hb10
      replace y1 := y1.below hb10
      replace hb26 := hb26.trans (hb10.mono (HP6.out ▸ hb26.size))
      have hF10 := hF22.out.below (HP6.out ▸ hb26)
      have hm := HL.out.2.1
      have t3 : wrap64 (30 * (d.length : Int)) = 30 * (d.length : Int) := by unfold wrap64; omega
      have t4 : decide (30 * (d.length : Int) < (m : Int)) = false := decide_eq_false (by omega)
      obtain ⟨q1, q2, q3⟩ := y1.facts
      have HG10 := Lib.hid (show _ ∧ _ from ⟨hB10, hF10⟩)
      clear hB9 hB10 hb10 hb26 hF10 y1 HX9 HA9 hm t1 t2
      dsimp only
      go_wp2_with fail
      clear t3 t4 q1 q2 q3
      go_loopw [11] (fun s11 wr => ∃ i : Nat, 1 ≤ i ∧ (i ≤ S.length ∨ i = 1) ∧ s11 = .int .i64 i ∧ Below w10.heap.size w10 wr) (fun s11 _ => S.length - (intOf s11).toNat)
      case atStart => exact ⟨1, Nat.le_refl _, .inr rfl, rfl, Below.refl _ _⟩
      case round =>
        obtain ⟨i, hi1, hi2, rfl, hBr⟩ := hrel
        have hSl := HL.out.1
        by_cases hlt : i < S.length
        · obtain ⟨bb, off, e2, hlt2, hc2⟩ := (HG10.out.2.below hBr) (fun h => by rw [h] at hlt; simp at hlt)
          subst e2
          obtain ⟨s1, c1⟩ := hc2 i (S.getD i 0) (by simp [hlt])
          obtain ⟨s2, c2⟩ := hc2 (i - 1) (S.getD (i - 1) 0) (by rw [List.getD_eq_getElem?_getD, List.getElem?_eq_getElem (by omega)]; rfl)
          have t1 : flt (raw (S.getD i 0) s1) (raw (S.getD (i - 1) 0) s2) = false := by rw [flt_rawl, flt_rawr]; exact HL.out.2.2 i (by omega) hlt
          generalize raw (S.getD i 0) s1 = v1 at *
          generalize raw (S.getD (i - 1) 0) s2 = v0 at *
          have hwk : IntKind.i64.wrap ((i : Int) - 1) = (i : Int) - 1 := by rw [IntKind.wrap_i64]; omega
          have hwk' : wrap64 ((i : Int) - 1) = (i : Int) - 1 := by unfold wrap64; omega
          have i1 : ((i : Int) - 1).toNat = i - 1 := by omega
          have i2 : 0 ≤ (i : Int) - 1 := by omega
          have i3 : (i : Int) - 1 < (S.length : Int) := by omega
          clear hc2 hi1 hi2
          generalize i - 1 = kj at *
          have HW := Lib.hid (And.intro hBr hlt)
          clear hBr
          go_wp2_with fail
          refine wp_region_nqb 9 (fun _ _ _ => False) (by kernel_rfl) (by kernel_rfl) ?_
          intro Cw Rw hc hb' hb2 hd hRw
          simp only [List.take_succ_cons, List.take_zero]
          repeat (
            first
              | (refine nqW_skip rfl (fun K hK => ?_); go_frame; refine hK _ ?_; clear hK K)
              | ((first | (refine nqW_plain (fun K hK => ?_)) | (refine nqW_want rfl (fun K hK => ?_)) | (refine nqW_step (fun K hK => ?_); go_simp))
                 first
                   | (refine nq_move rfl ?_; go_simp; refine hK _ ?_; clear hK K)
                   | (refine nq_assign rfl ?_; go_simp; refine hK _ ?_; clear hK K)
                   | (refine nq_flt rfl rfl rfl rfl hd ?_; intro _; go_frame; refine hK _ ?_; clear hK K)
                   | (refine nq_same ?_; intro w' hw'; go_simp; (try go_bits); refine hK _ ?_; clear hK K hw' w')
                   | (refine nq_same ?_; intro w' hw'; go_simp; rw [if_pos (by omega)]; go_simp; (try go_bits); refine hK _ ?_; clear hK K hw' w')
                   | (go_simp; refine hK _ ?_; clear hK K)))
          refine nqW_nil (hRw _ ?_)
          clear hc hb' hb2 hd hRw
          intro w' hw'
          simp only [List.drop]
          go_wp2_with fail
          go_roundw
          case rel => exact ⟨i + 1, by omega, .inl HW.out.2, by go_num, below_step HW.out.1 HW.out.1.size hw'⟩
          case measure => have := HW.out.2; simp [intOf]; omega
        · have hB := below_step HG10.out.1 HG10.out.1.size hBr
          clear hBr hi1 hi2
          go_wp2_with fail
          refine (known12_any _).mono ?_
          rintro e w11 ⟨rfl, hb11⟩
          go_wp2
          go_ret
          exact ⟨rfl, below_step hB hB.size hb11⟩
end Go.Proofs.Ytbmnlohaidbmdaa
