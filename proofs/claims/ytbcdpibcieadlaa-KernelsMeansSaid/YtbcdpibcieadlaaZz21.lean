/- Layer 8, the document: a triangle times a matrix (printed by gen_lg.py). No condition but on lengths. -/
import Derived.Test.YtbcdpibcieadlaaZz20
import Derived.Test.YtbcdpibcieadlaaKkZ
import Derived.Test.YtbcdpibcieadlaaZz15
namespace Go.Proofs.Ytbcdpibcieadlaa
open Go Go.RowKit
set_option maxRecDepth 1000000

set_option maxHeartbeats 16000000 in
theorem RTrmm_low (w : World) (unit : Bool) (r cm : Nat) (ta ma : Option Addr) (zt zm : List Nat) (pt pm : Nat) (hT : Fls w ta zt) (hM : Fls w ma zm) (hnt : zt.length = r * r) (hnm : zm.length = r * cm) (hlt' : zt.length ≤ 262144) (hlm : zm.length ≤ 262144) (hr : r ≤ 512) (hc : cm ≤ 512) :
    Calls Try.prog 35 #[.bool false, .bool unit, .agg #[.int .i64 r, .int .i64 r, .slice ta zt.length pt], .agg #[.int .i64 r, .int .i64 cm, .slice ma zm.length pm]] w fun e w' => (∃ a' c', e = .returned (.agg #[.int .i64 r, .int .i64 cm, .slice a' zm.length c']) ∧ Fls w' a' (fillL (trmmD false unit zt r zm cm r) cm zm (r * cm))) ∧ Below w.heap.size w w' := by
  obtain ⟨W0, hW0⟩ : ∃ W0, W0 = ((w.alloc (.cells #[.int .i64 r, .int .i64 r, .slice ta zt.length pt] 24)).alloc (.cells #[.int .i64 r, .int .i64 cm, .slice ma zm.length pm] 24)).alloc (.cells #[.int .i64 0, .int .i64 0, .slice none 0 0] 24) := ⟨_, rfl⟩
  have hB0 : Below w.heap.size w W0 := hW0 ▸ (((Below.refl _ _).alloc (Nat.le_refl _) _).alloc (by simp) _).alloc (by simp; omega) _
  have x0 : Box W0 w.heap.size [.int .i64 r, .int .i64 r, .slice ta zt.length pt] := hW0 ▸ ((Box.newA w [.int .i64 r, .int .i64 r, .slice ta zt.length pt] _ rfl).alloc _).alloc _
  have x1 : Box W0 (w.heap.size + 1) [.int .i64 r, .int .i64 cm, .slice ma zm.length pm] := hW0 ▸ (Box.newA _ [.int .i64 r, .int .i64 cm, .slice ma zm.length pm] _ (by simp)).alloc _
  have x2 : Box W0 (w.heap.size + 1 + 1) [.int .i64 0, .int .i64 0, .slice none 0 0] := hW0 ▸ Box.newA _ [.int .i64 0, .int .i64 0, .slice none 0 0] _ (by simp)
  have S0 := Lib.hid (show BoxS w W0 [(w.heap.size, [.int .i64 r, .int .i64 r, .slice ta zt.length pt]), (w.heap.size + 1, [.int .i64 r, .int .i64 cm, .slice ma zm.length pm]), (w.heap.size + 1 + 1, [.int .i64 0, .int .i64 0, .slice none 0 0])] from ⟨fun p hp => by
    simp only [List.mem_cons, List.not_mem_nil, or_false] at hp
    rcases hp with rfl | rfl | rfl
    · exact x0
    · exact x1
    · exact x2
    , hB0⟩)
  have HAt := Lib.hid (fun W (h : Below w.heap.size w W) i k (hi : i < r) (hk : k < r) => RAt_any W r r i k ta zt pt (hT.below h) hlt' (by rw [hnt]; exact place8 hi hk))
  have HAm := Lib.hid (fun W (h : Below w.heap.size w W) k j (hk : k < r) (hj : j < cm) => RAt_any W r cm k j ma zm pm (hM.below h) hlm (by rw [hnm]; exact place8 hk hj))
  have HCp := Lib.hid (fun W (h : Below w.heap.size w W) => RCopy_any W r cm ma zm pm (hM.below h) hlm)
  have HN := Lib.hid (show _ ∧ _ from ⟨hnm, hlm⟩)
  clear hB0 x0 x1 x2 hT hM hnt hnm hlt' hlm
  go_enter Try.func35, Try.ntmps35
  go_upto_region 1 with (fail)
  rw [← hW0]
  clear hW0
  obtain ⟨f01, f02, f03⟩ := (S0.out.get 1 rfl).facts
  go_wp2_with fail
  refine (HCp.out _ S0.out.below).mono ?_
  rintro e w1 ⟨⟨ra, b, rc, rfl, hMem⟩, hb⟩
  have D0 := Lib.hid (BoxS.copy (cs := [.int .i64 r, .int .i64 cm, .slice ra zm.length rc]) (S0.out.step hb) S0.out hMem)
  clear f01 f02 f03 hMem hb HCp S0
  dsimp only
  go_upto_region 2 with (fail)
  obtain ⟨P, hPP⟩ : ∃ P, P = w1.heap.size := ⟨_, rfl⟩
  simp only [← hPP] at D0 ⊢
  generalize w1.alloc (.cells #[.int .i64 r, .int .i64 cm, .slice ra zm.length rc] 24) = V0 at *
  clear hPP
  replace D0 : Hid (DocW w V0 ([(w.heap.size, [.int .i64 r, .int .i64 r, .slice ta zt.length pt]), (w.heap.size + 1, [.int .i64 r, .int .i64 cm, .slice ma zm.length pm]), (w.heap.size + 1 + 1, [.int .i64 0, .int .i64 0, .slice none 0 0])] ++ [(P, [.int .i64 r, .int .i64 cm, .slice ra zm.length rc])]) ra b (fillL (trmmD false unit zt r zm cm r) cm zm (0 * cm))) := by rw [Nat.zero_mul]; exact D0
  go_wp2_with fail
  go_loopw [10] (fun s10 wr => ∃ i : Nat, i ≤ r ∧ s10 = .int .i64 i ∧ DocW w wr ([(w.heap.size, [.int .i64 r, .int .i64 r, .slice ta zt.length pt]), (w.heap.size + 1, [.int .i64 r, .int .i64 cm, .slice ma zm.length pm]), (w.heap.size + 1 + 1, [.int .i64 0, .int .i64 0, .slice none 0 0])] ++ [(P, [.int .i64 r, .int .i64 cm, .slice ra zm.length rc])]) ra b (fillL (trmmD false unit zt r zm cm r) cm zm (i * cm))) (fun s10 _ => r - (intOf s10).toNat)
  case atStart => exact ⟨0, Nat.zero_le _, rfl, D0.out⟩
  case round =>
    obtain ⟨i, hi, rfl, hD⟩ := hrel
    have D1 := Lib.hid hD
    clear hD D0
    by_cases hir : i < r
    · skip
      obtain ⟨f11, f12, f13⟩ := (D1.out.get 1 rfl).facts
      go_wp2_with fail
      clear f11 f12 f13
      go_loopw [13] (fun s13 wr => ∃ j : Nat, j ≤ cm ∧ s13 = .int .i64 j ∧ DocW w wr ([(w.heap.size, [.int .i64 r, .int .i64 r, .slice ta zt.length pt]), (w.heap.size + 1, [.int .i64 r, .int .i64 cm, .slice ma zm.length pm]), (w.heap.size + 1 + 1, [.int .i64 0, .int .i64 0, .slice none 0 0])] ++ [(P, [.int .i64 r, .int .i64 cm, .slice ra zm.length rc])]) ra b (fillL (trmmD false unit zt r zm cm r) cm zm (i * cm + j))) (fun s13 _ => cm - (intOf s13).toNat)
      case atStart => exact ⟨0, Nat.zero_le _, rfl, D1.out⟩
      case round =>
        obtain ⟨j, hj, rfl, hD⟩ := hrel
        have D2 := Lib.hid hD
        clear hD D1
        by_cases hjc : j < cm
        · skip
          obtain ⟨f11, f12, f13⟩ := (D2.out.get 1 rfl).facts
          go_wp2_with fail
          clear f11 f12 f13
          go_loopw [14, 15] (fun s14 s15 wr => ∃ k s : Nat, k ≤ (i + 1) ∧ s14 = .float .f64 (raw (sumG (fun k => trmmX unit zt r i k) (fun k => zm.getD (k * cm + j) 0) 0 k) s) ∧ s15 = .int .i64 (0 + k : Nat) ∧ DocW w wr ([(w.heap.size, [.int .i64 r, .int .i64 r, .slice ta zt.length pt]), (w.heap.size + 1, [.int .i64 r, .int .i64 cm, .slice ma zm.length pm]), (w.heap.size + 1 + 1, [.int .i64 0, .int .i64 0, .slice none 0 0])] ++ [(P, [.int .i64 r, .int .i64 cm, .slice ra zm.length rc])]) ra b (fillL (trmmD false unit zt r zm cm r) cm zm (i * cm + j))) (fun _ s15 _ => 0 + (i + 1) - (intOf s15).toNat)
          case atStart => exact ⟨0, 0, Nat.zero_le _, by rw [sumG, raw_of_not (by kernel_rfl)], by go_num, D2.out⟩
          case round =>
            obtain ⟨k, s, hk, rfl, rfl, hD⟩ := hrel
            have D3 := Lib.hid hD
            clear hD D2
            obtain ⟨kk, hkk⟩ : ∃ kk, kk = 0 + k := ⟨_, rfl⟩
            rw [← hkk]
            by_cases hkn : k < (i + 1)
            · skip
              have hkr : kk < r := by omega
              have HK := Lib.hid (show kk = 0 + k ∧ k < (i + 1) from ⟨hkk, hkn⟩)
              obtain ⟨AC, hAC⟩ : ∃ AC, AC = sumG (fun k => trmmX unit zt r i k) (fun k => zm.getD (k * cm + j) 0) 0 k := ⟨_, rfl⟩
              have hAC' : sumG (fun k => trmmX unit zt r i k) (fun k => zm.getD (k * cm + j) 0) 0 (k + 1) = fadd AC (fmul (trmmX unit zt r i kk) (zm.getD (kk * cm + j) 0)) := by rw [sumG, ← hAC, hkk]
              rw [← hAC]
              have HAC := Lib.hid hAC'
              clear hAC hAC'
              have hx : trmmX unit zt r i kk = if decide (kk = i) && unit then 4607182418800017408 else zt.getD (i * r + kk) 0 := rfl
              have tki : ((kk : Int) == (i : Int)) = decide (kk = i) := by rw [Bool.eq_iff_iff]; simp; omega
              have HA1 := Lib.hid (HAt.out wr D3.out.below i kk hir hkr)
              obtain ⟨f01, f02, f03⟩ := (D3.out.get 0 rfl).facts
              have tle : (kk : Int) ≤ (i : Int) := by omega
              clear hk hkn hkk
              generalize decide (kk = i) = qk at *
              generalize zt.getD (i * r + kk) 0 = xv at *
              have HX := Lib.hid hx
              clear hx
              go_wp2_with fail
              refine HA1.out.mono ?_
              rintro e w2 ⟨⟨s2, rfl⟩, hb⟩
              have D4 := Lib.hid (D3.out.step hb)
              clear hb f01 f02 f03 D3 HA1
              dsimp only
              obtain ⟨f11, f12, f13⟩ := (D4.out.get 1 rfl).facts
              have HA2 := Lib.hid (HAm.out w2 D4.out.below kk j hkr hjc)
              generalize zm.getD (kk * cm + j) 0 = yv at *
              cases qk <;> cases unit
              · skip
                go_wp2_with fail
                refine HA2.out.mono ?_
                rintro e w3 ⟨⟨s3, rfl⟩, hb⟩
                have D5 := Lib.hid (D4.out.step hb)
                clear hb f11 f12 f13 D4 HA2
                dsimp only
                go_wp2_with (first | (fail) | (refine wpList_flt rfl rfl rfl rfl rfl ?_; intro K hK _ _; go_frame; refine hK _ _ ?_; clear hK K))
                go_roundw
                case rel =>
                  have hxx : (if (false && false) = true then (4607182418800017408 : Nat) else xv) = _ := HX.out.symm
                  exact ⟨k + 1, _, HK.out.2, by rw [HAC.out, HX.out]; simp only [fadd_rawl, fadd_rawr, fmul_rawl, fmul_rawr]; rfl, by have := HK.out.1; go_num, D5.out.step (below_drewN _ (Below.refl _ _))⟩
                case measure => have := HK.out; simp [intOf]; omega
              · skip
                go_wp2_with fail
                refine HA2.out.mono ?_
                rintro e w3 ⟨⟨s3, rfl⟩, hb⟩
                have D5 := Lib.hid (D4.out.step hb)
                clear hb f11 f12 f13 D4 HA2
                dsimp only
                go_wp2_with (first | (fail) | (refine wpList_flt rfl rfl rfl rfl rfl ?_; intro K hK _ _; go_frame; refine hK _ _ ?_; clear hK K))
                go_roundw
                case rel =>
                  have hxx : (if (false && true) = true then (4607182418800017408 : Nat) else xv) = _ := HX.out.symm
                  exact ⟨k + 1, _, HK.out.2, by rw [HAC.out, HX.out]; simp only [fadd_rawl, fadd_rawr, fmul_rawl, fmul_rawr]; rfl, by have := HK.out.1; go_num, D5.out.step (below_drewN _ (Below.refl _ _))⟩
                case measure => have := HK.out; simp [intOf]; omega
              · skip
                go_wp2_with fail
                refine HA2.out.mono ?_
                rintro e w3 ⟨⟨s3, rfl⟩, hb⟩
                have D5 := Lib.hid (D4.out.step hb)
                clear hb f11 f12 f13 D4 HA2
                dsimp only
                go_wp2_with (first | (fail) | (refine wpList_flt rfl rfl rfl rfl rfl ?_; intro K hK _ _; go_frame; refine hK _ _ ?_; clear hK K))
                go_roundw
                case rel =>
                  have hxx : (if (true && false) = true then (4607182418800017408 : Nat) else xv) = _ := HX.out.symm
                  exact ⟨k + 1, _, HK.out.2, by rw [HAC.out, HX.out]; simp only [fadd_rawl, fadd_rawr, fmul_rawl, fmul_rawr]; rfl, by have := HK.out.1; go_num, D5.out.step (below_drewN _ (Below.refl _ _))⟩
                case measure => have := HK.out; simp [intOf]; omega
              · skip
                go_wp2_with fail
                refine HA2.out.mono ?_
                rintro e w3 ⟨⟨s3, rfl⟩, hb⟩
                have D5 := Lib.hid (D4.out.step hb)
                clear hb f11 f12 f13 D4 HA2
                dsimp only
                go_wp2_with (first | (fail) | (refine wpList_flt rfl rfl rfl rfl rfl ?_; intro K hK _ _; go_frame; refine hK _ _ ?_; clear hK K))
                go_roundw
                case rel =>
                  have hxx : (if (true && true) = true then (4607182418800017408 : Nat) else xv) = _ := HX.out.symm
                  exact ⟨k + 1, _, HK.out.2, by rw [HAC.out, HX.out]; simp only [fadd_rawl, fadd_rawr, fmul_rawl, fmul_rawr]; rfl, by have := HK.out.1; go_num, D5.out.step (below_drewN _ (Below.refl _ _))⟩
                case measure => have := HK.out; simp [intOf]; omega
            · skip
              obtain rfl : k = (i + 1) := by omega
              have tle : ¬ (kk : Int) ≤ (i : Int) := by omega
              have hV : sumG (fun k => trmmX unit zt r i k) (fun k => zm.getD (k * cm + j) 0) 0 (i + 1) = trmmD false unit zt r zm cm r i j := rfl
              rw [hV]
              have hpl := place8 hir hjc
              have hlen := fillL_len (trmmD false unit zt r zm cm r) cm zm (i * cm + j)
              obtain ⟨rfl, hF⟩ := D3.out.flb (k := i * cm + j) (by rw [hlen, HN.out.1]; exact hpl)
              have hF1 := hF.lt
              have hF2 := hF.frozen
              obtain ⟨sf, hF3⟩ := hF.at (i := i * cm + j) (by rw [hlen, HN.out.1]; exact hpl)
              have D4 := Lib.hid (show DocW w (wr.setCell ⟨b, i * cm + j, none⟩ (.float .f64 (raw (trmmD false unit zt r zm cm r i j) s))) ([(w.heap.size, [.int .i64 r, .int .i64 r, .slice ta zt.length pt]), (w.heap.size + 1, [.int .i64 r, .int .i64 cm, .slice ma zm.length pm]), (w.heap.size + 1 + 1, [.int .i64 0, .int .i64 0, .slice none 0 0])] ++ [(P, [.int .i64 r, .int .i64 cm, .slice (some ⟨b, 0, none⟩) zm.length rc])]) (some ⟨b, 0, none⟩) b (fillL (trmmD false unit zt r zm cm r) cm zm (i * cm + (j + 1))) from by
                rw [← Nat.add_assoc, fillL_at _ _ _ hjc]
                exact D3.out.set (by rw [hlen, HN.out.1]; exact hpl) _ s)
              obtain ⟨f11, f12, f13⟩ := (D3.out.get 1 rfl).facts
              obtain ⟨f21, f22, f23⟩ := (D3.out.get 3 rfl).facts
              generalize trmmD false unit zt r zm cm r i j = tv at *
              have hzl := HN.out.1
              obtain ⟨PP, hPP⟩ : ∃ PP, PP = i * cm := ⟨_, rfl⟩
              have t1 : wrap64 ((i : Int) * (cm : Int)) = (PP : Int) := w64m PP (by rw [hPP]; push_cast; rfl) (by have := HN.out.2; omega)
              rw [← hPP] at hF3 D4 hpl
              have hpz : PP + j < zm.length := by rw [hzl]; exact hpl
              have hzz := HN.out.2
              have HPP := Lib.hid hPP
              clear hk hkn hF hlen hV hPP hpl hzl D3
              go_wp2_with fail
              go_roundw
              case rel => exact ⟨j + 1, hjc, by go_num, by rw [← HPP.out]; exact D4.out⟩
              case measure => simp [intOf]; omega
        · skip
          obtain rfl : j = cm := by omega
          obtain ⟨f11, f12, f13⟩ := (D2.out.get 1 rfl).facts
          go_wp2_with fail
          go_roundw
          case rel => exact ⟨i + 1, hir, by go_num, by rw [Nat.succ_mul]; exact D2.out⟩
          case measure => simp [intOf]; omega
    · skip
      obtain rfl : i = r := by omega
      obtain ⟨f11, f12, f13⟩ := (D1.out.get 1 rfl).facts
      obtain ⟨f31, f32, f33⟩ := (D1.out.get 3 rfl).facts
      obtain ⟨f21, f22, f23⟩ := (D1.out.get 2 rfl).facts
      go_wp2_with fail
      have hx2 := D1.out.get 2 rfl
      have hne := D1.out.ne
      have hfs := D1.out.fs
      have hbl := D1.out.below
      refine bodyPost_ret (results_one rfl (rv_cell (g := w.heap.size + 1 + 1) rfl (hx2.put3 _ _ _) rfl Try.underlying24 (by kernel_rfl))) rfl ⟨⟨ra, rc, rfl, ?_⟩, ?_⟩
      · have hq : ∀ u0 u1 u2, Fls (((wr.setCell ⟨w.heap.size + 1 + 1, 0, none⟩ u0).setCell ⟨w.heap.size + 1 + 1, 1, none⟩ u1).setCell ⟨w.heap.size + 1 + 1, 2, none⟩ u2) ra (fillL (trmmD false unit zt i zm cm i) cm zm (i * cm)) := fun u0 u1 u2 => by
          by_cases hz : fillL (trmmD false unit zt i zm cm i) cm zm (i * cm) = []
          · rw [hz]; exact fun h => absurd rfl h
          · rcases hfs with h | ⟨e, hF⟩
            · exact absurd h hz
            · subst e
              have hn := hne hz (w.heap.size + 1 + 1, [.int .i64 0, .int .i64 0, .slice none 0 0]) (List.mem_of_getElem? (i := 2) rfl)
              exact (((hF.other (Ne.symm hn) _ _).other (Ne.symm hn) _ _).other (Ne.symm hn) _ _).fls
        exact hq _ _ _
      · exact below_put3 hbl (by omega) _ _ _
set_option maxHeartbeats 16000000 in
theorem RTrmm_up (w : World) (unit : Bool) (r cm : Nat) (ta ma : Option Addr) (zt zm : List Nat) (pt pm : Nat) (hT : Fls w ta zt) (hM : Fls w ma zm) (hnt : zt.length = r * r) (hnm : zm.length = r * cm) (hlt' : zt.length ≤ 262144) (hlm : zm.length ≤ 262144) (hr : r ≤ 512) (hc : cm ≤ 512) :
    Calls Try.prog 35 #[.bool true, .bool unit, .agg #[.int .i64 r, .int .i64 r, .slice ta zt.length pt], .agg #[.int .i64 r, .int .i64 cm, .slice ma zm.length pm]] w fun e w' => (∃ a' c', e = .returned (.agg #[.int .i64 r, .int .i64 cm, .slice a' zm.length c']) ∧ Fls w' a' (fillL (trmmD true unit zt r zm cm r) cm zm (r * cm))) ∧ Below w.heap.size w w' := by
  obtain ⟨W0, hW0⟩ : ∃ W0, W0 = ((w.alloc (.cells #[.int .i64 r, .int .i64 r, .slice ta zt.length pt] 24)).alloc (.cells #[.int .i64 r, .int .i64 cm, .slice ma zm.length pm] 24)).alloc (.cells #[.int .i64 0, .int .i64 0, .slice none 0 0] 24) := ⟨_, rfl⟩
  have hB0 : Below w.heap.size w W0 := hW0 ▸ (((Below.refl _ _).alloc (Nat.le_refl _) _).alloc (by simp) _).alloc (by simp; omega) _
  have x0 : Box W0 w.heap.size [.int .i64 r, .int .i64 r, .slice ta zt.length pt] := hW0 ▸ ((Box.newA w [.int .i64 r, .int .i64 r, .slice ta zt.length pt] _ rfl).alloc _).alloc _
  have x1 : Box W0 (w.heap.size + 1) [.int .i64 r, .int .i64 cm, .slice ma zm.length pm] := hW0 ▸ (Box.newA _ [.int .i64 r, .int .i64 cm, .slice ma zm.length pm] _ (by simp)).alloc _
  have x2 : Box W0 (w.heap.size + 1 + 1) [.int .i64 0, .int .i64 0, .slice none 0 0] := hW0 ▸ Box.newA _ [.int .i64 0, .int .i64 0, .slice none 0 0] _ (by simp)
  have S0 := Lib.hid (show BoxS w W0 [(w.heap.size, [.int .i64 r, .int .i64 r, .slice ta zt.length pt]), (w.heap.size + 1, [.int .i64 r, .int .i64 cm, .slice ma zm.length pm]), (w.heap.size + 1 + 1, [.int .i64 0, .int .i64 0, .slice none 0 0])] from ⟨fun p hp => by
    simp only [List.mem_cons, List.not_mem_nil, or_false] at hp
    rcases hp with rfl | rfl | rfl
    · exact x0
    · exact x1
    · exact x2
    , hB0⟩)
  have HAt := Lib.hid (fun W (h : Below w.heap.size w W) i k (hi : i < r) (hk : k < r) => RAt_any W r r i k ta zt pt (hT.below h) hlt' (by rw [hnt]; exact place8 hi hk))
  have HAm := Lib.hid (fun W (h : Below w.heap.size w W) k j (hk : k < r) (hj : j < cm) => RAt_any W r cm k j ma zm pm (hM.below h) hlm (by rw [hnm]; exact place8 hk hj))
  have HCp := Lib.hid (fun W (h : Below w.heap.size w W) => RCopy_any W r cm ma zm pm (hM.below h) hlm)
  have HN := Lib.hid (show _ ∧ _ from ⟨hnm, hlm⟩)
  clear hB0 x0 x1 x2 hT hM hnt hnm hlt' hlm
  go_enter Try.func35, Try.ntmps35
  go_upto_region 1 with (fail)
  rw [← hW0]
  clear hW0
  obtain ⟨f01, f02, f03⟩ := (S0.out.get 1 rfl).facts
  go_wp2_with fail
  refine (HCp.out _ S0.out.below).mono ?_
  rintro e w1 ⟨⟨ra, b, rc, rfl, hMem⟩, hb⟩
  have D0 := Lib.hid (BoxS.copy (cs := [.int .i64 r, .int .i64 cm, .slice ra zm.length rc]) (S0.out.step hb) S0.out hMem)
  clear f01 f02 f03 hMem hb HCp S0
  dsimp only
  go_upto_region 2 with (fail)
  obtain ⟨P, hPP⟩ : ∃ P, P = w1.heap.size := ⟨_, rfl⟩
  simp only [← hPP] at D0 ⊢
  generalize w1.alloc (.cells #[.int .i64 r, .int .i64 cm, .slice ra zm.length rc] 24) = V0 at *
  clear hPP
  replace D0 : Hid (DocW w V0 ([(w.heap.size, [.int .i64 r, .int .i64 r, .slice ta zt.length pt]), (w.heap.size + 1, [.int .i64 r, .int .i64 cm, .slice ma zm.length pm]), (w.heap.size + 1 + 1, [.int .i64 0, .int .i64 0, .slice none 0 0])] ++ [(P, [.int .i64 r, .int .i64 cm, .slice ra zm.length rc])]) ra b (fillL (trmmD true unit zt r zm cm r) cm zm (0 * cm))) := by rw [Nat.zero_mul]; exact D0
  go_wp2_with fail
  go_loopw [10] (fun s10 wr => ∃ i : Nat, i ≤ r ∧ s10 = .int .i64 i ∧ DocW w wr ([(w.heap.size, [.int .i64 r, .int .i64 r, .slice ta zt.length pt]), (w.heap.size + 1, [.int .i64 r, .int .i64 cm, .slice ma zm.length pm]), (w.heap.size + 1 + 1, [.int .i64 0, .int .i64 0, .slice none 0 0])] ++ [(P, [.int .i64 r, .int .i64 cm, .slice ra zm.length rc])]) ra b (fillL (trmmD true unit zt r zm cm r) cm zm (i * cm))) (fun s10 _ => r - (intOf s10).toNat)
  case atStart => exact ⟨0, Nat.zero_le _, rfl, D0.out⟩
  case round =>
    obtain ⟨i, hi, rfl, hD⟩ := hrel
    have D1 := Lib.hid hD
    clear hD D0
    by_cases hir : i < r
    · skip
      obtain ⟨f11, f12, f13⟩ := (D1.out.get 1 rfl).facts
      go_upto_region 7 with (fail)
      have hdr : Below wr.heap.size wr wr.drew := below_drewN 1 (Below.refl _ wr)
      have D1' := Lib.hid (D1.out.step hdr)
      refine wp_region_items 5 [(true, 0), (true, 1), (true, 2), (true, 3), (true, 4)] (fun W => ∀ i, W.cell? ⟨w.heap.size + 1, i, none⟩ = ([.int .i64 r, .int .i64 cm, .slice ma zm.length pm] : List Value)[i]?) (by kernel_rfl) (by kernel_rfl) (D1'.out.get 1 rfl).cell ?_
      generalize wr.drew = wq at *
      clear hdr f11 f12 f13 D1
      have D1 := D1'
      clear D1'
      iterate 5 (refine iW_take (v := ?_) rfl rfl ?_ ?_; rotate_left; (next => (intro w' hSw; (try dsimp only at hSw); go_simp; (try (rw [if_pos (by omega)]; go_simp)); (try with_reducible rfl))); (simp only [Act.put, List.setIfInBounds_toArray, List.set_cons_zero, List.set_cons_succ]))
      refine iW_nil ?_
      go_simp
      go_wp2_with fail
      refine NoPanic.normal ?_
      go_wp2_with fail
      go_loopw [13] (fun s13 wr => ∃ j : Nat, j ≤ cm ∧ s13 = .int .i64 j ∧ DocW w wr ([(w.heap.size, [.int .i64 r, .int .i64 r, .slice ta zt.length pt]), (w.heap.size + 1, [.int .i64 r, .int .i64 cm, .slice ma zm.length pm]), (w.heap.size + 1 + 1, [.int .i64 0, .int .i64 0, .slice none 0 0])] ++ [(P, [.int .i64 r, .int .i64 cm, .slice ra zm.length rc])]) ra b (fillL (trmmD true unit zt r zm cm r) cm zm (i * cm + j))) (fun s13 _ => cm - (intOf s13).toNat)
      case atStart => exact ⟨0, Nat.zero_le _, rfl, D1.out⟩
      case round =>
        obtain ⟨j, hj, rfl, hD⟩ := hrel
        have D2 := Lib.hid hD
        clear hD D1
        by_cases hjc : j < cm
        · skip
          obtain ⟨f11, f12, f13⟩ := (D2.out.get 1 rfl).facts
          go_wp2_with fail
          clear f11 f12 f13
          go_loopw [14, 15] (fun s14 s15 wr => ∃ k s : Nat, k ≤ (r - i) ∧ s14 = .float .f64 (raw (sumG (fun k => trmmX unit zt r i k) (fun k => zm.getD (k * cm + j) 0) i k) s) ∧ s15 = .int .i64 (i + k : Nat) ∧ DocW w wr ([(w.heap.size, [.int .i64 r, .int .i64 r, .slice ta zt.length pt]), (w.heap.size + 1, [.int .i64 r, .int .i64 cm, .slice ma zm.length pm]), (w.heap.size + 1 + 1, [.int .i64 0, .int .i64 0, .slice none 0 0])] ++ [(P, [.int .i64 r, .int .i64 cm, .slice ra zm.length rc])]) ra b (fillL (trmmD true unit zt r zm cm r) cm zm (i * cm + j))) (fun _ s15 _ => i + (r - i) - (intOf s15).toNat)
          case atStart => exact ⟨0, 0, Nat.zero_le _, by rw [sumG, raw_of_not (by kernel_rfl)], by go_num, D2.out⟩
          case round =>
            obtain ⟨k, s, hk, rfl, rfl, hD⟩ := hrel
            have D3 := Lib.hid hD
            clear hD D2
            obtain ⟨kk, hkk⟩ : ∃ kk, kk = i + k := ⟨_, rfl⟩
            rw [← hkk]
            by_cases hkn : k < (r - i)
            · skip
              have hkr : kk < r := by omega
              have HK := Lib.hid (show kk = i + k ∧ k < (r - i) from ⟨hkk, hkn⟩)
              obtain ⟨AC, hAC⟩ : ∃ AC, AC = sumG (fun k => trmmX unit zt r i k) (fun k => zm.getD (k * cm + j) 0) i k := ⟨_, rfl⟩
              have hAC' : sumG (fun k => trmmX unit zt r i k) (fun k => zm.getD (k * cm + j) 0) i (k + 1) = fadd AC (fmul (trmmX unit zt r i kk) (zm.getD (kk * cm + j) 0)) := by rw [sumG, ← hAC, hkk]
              rw [← hAC]
              have HAC := Lib.hid hAC'
              clear hAC hAC'
              have hx : trmmX unit zt r i kk = if decide (kk = i) && unit then 4607182418800017408 else zt.getD (i * r + kk) 0 := rfl
              have tki : ((kk : Int) == (i : Int)) = decide (kk = i) := by rw [Bool.eq_iff_iff]; simp; omega
              have HA1 := Lib.hid (HAt.out wr D3.out.below i kk hir hkr)
              obtain ⟨f01, f02, f03⟩ := (D3.out.get 0 rfl).facts
              have tle : (kk : Int) ≤ ((r : Int) - 1) := by omega
              clear hk hkn hkk
              generalize decide (kk = i) = qk at *
              generalize zt.getD (i * r + kk) 0 = xv at *
              have HX := Lib.hid hx
              clear hx
              go_wp2_with fail
              refine HA1.out.mono ?_
              rintro e w2 ⟨⟨s2, rfl⟩, hb⟩
              have D4 := Lib.hid (D3.out.step hb)
              clear hb f01 f02 f03 D3 HA1
              dsimp only
              obtain ⟨f11, f12, f13⟩ := (D4.out.get 1 rfl).facts
              have HA2 := Lib.hid (HAm.out w2 D4.out.below kk j hkr hjc)
              generalize zm.getD (kk * cm + j) 0 = yv at *
              cases qk <;> cases unit
              · skip
                go_wp2_with fail
                refine HA2.out.mono ?_
                rintro e w3 ⟨⟨s3, rfl⟩, hb⟩
                have D5 := Lib.hid (D4.out.step hb)
                clear hb f11 f12 f13 D4 HA2
                dsimp only
                go_wp2_with (first | (fail) | (refine wpList_flt rfl rfl rfl rfl rfl ?_; intro K hK _ _; go_frame; refine hK _ _ ?_; clear hK K))
                go_roundw
                case rel =>
                  have hxx : (if (false && false) = true then (4607182418800017408 : Nat) else xv) = _ := HX.out.symm
                  exact ⟨k + 1, _, HK.out.2, by rw [HAC.out, HX.out]; simp only [fadd_rawl, fadd_rawr, fmul_rawl, fmul_rawr]; rfl, by have := HK.out.1; go_num, D5.out.step (below_drewN _ (Below.refl _ _))⟩
                case measure => have := HK.out; simp [intOf]; omega
              · skip
                go_wp2_with fail
                refine HA2.out.mono ?_
                rintro e w3 ⟨⟨s3, rfl⟩, hb⟩
                have D5 := Lib.hid (D4.out.step hb)
                clear hb f11 f12 f13 D4 HA2
                dsimp only
                go_wp2_with (first | (fail) | (refine wpList_flt rfl rfl rfl rfl rfl ?_; intro K hK _ _; go_frame; refine hK _ _ ?_; clear hK K))
                go_roundw
                case rel =>
                  have hxx : (if (false && true) = true then (4607182418800017408 : Nat) else xv) = _ := HX.out.symm
                  exact ⟨k + 1, _, HK.out.2, by rw [HAC.out, HX.out]; simp only [fadd_rawl, fadd_rawr, fmul_rawl, fmul_rawr]; rfl, by have := HK.out.1; go_num, D5.out.step (below_drewN _ (Below.refl _ _))⟩
                case measure => have := HK.out; simp [intOf]; omega
              · skip
                go_wp2_with fail
                refine HA2.out.mono ?_
                rintro e w3 ⟨⟨s3, rfl⟩, hb⟩
                have D5 := Lib.hid (D4.out.step hb)
                clear hb f11 f12 f13 D4 HA2
                dsimp only
                go_wp2_with (first | (fail) | (refine wpList_flt rfl rfl rfl rfl rfl ?_; intro K hK _ _; go_frame; refine hK _ _ ?_; clear hK K))
                go_roundw
                case rel =>
                  have hxx : (if (true && false) = true then (4607182418800017408 : Nat) else xv) = _ := HX.out.symm
                  exact ⟨k + 1, _, HK.out.2, by rw [HAC.out, HX.out]; simp only [fadd_rawl, fadd_rawr, fmul_rawl, fmul_rawr]; rfl, by have := HK.out.1; go_num, D5.out.step (below_drewN _ (Below.refl _ _))⟩
                case measure => have := HK.out; simp [intOf]; omega
              · skip
                go_wp2_with fail
                refine HA2.out.mono ?_
                rintro e w3 ⟨⟨s3, rfl⟩, hb⟩
                have D5 := Lib.hid (D4.out.step hb)
                clear hb f11 f12 f13 D4 HA2
                dsimp only
                go_wp2_with (first | (fail) | (refine wpList_flt rfl rfl rfl rfl rfl ?_; intro K hK _ _; go_frame; refine hK _ _ ?_; clear hK K))
                go_roundw
                case rel =>
                  have hxx : (if (true && true) = true then (4607182418800017408 : Nat) else xv) = _ := HX.out.symm
                  exact ⟨k + 1, _, HK.out.2, by rw [HAC.out, HX.out]; simp only [fadd_rawl, fadd_rawr, fmul_rawl, fmul_rawr]; rfl, by have := HK.out.1; go_num, D5.out.step (below_drewN _ (Below.refl _ _))⟩
                case measure => have := HK.out; simp [intOf]; omega
            · skip
              obtain rfl : k = (r - i) := by omega
              have tle : ¬ (kk : Int) ≤ ((r : Int) - 1) := by omega
              have hV : sumG (fun k => trmmX unit zt r i k) (fun k => zm.getD (k * cm + j) 0) i (r - i) = trmmD true unit zt r zm cm r i j := rfl
              rw [hV]
              have hpl := place8 hir hjc
              have hlen := fillL_len (trmmD true unit zt r zm cm r) cm zm (i * cm + j)
              obtain ⟨rfl, hF⟩ := D3.out.flb (k := i * cm + j) (by rw [hlen, HN.out.1]; exact hpl)
              have hF1 := hF.lt
              have hF2 := hF.frozen
              obtain ⟨sf, hF3⟩ := hF.at (i := i * cm + j) (by rw [hlen, HN.out.1]; exact hpl)
              have D4 := Lib.hid (show DocW w (wr.setCell ⟨b, i * cm + j, none⟩ (.float .f64 (raw (trmmD true unit zt r zm cm r i j) s))) ([(w.heap.size, [.int .i64 r, .int .i64 r, .slice ta zt.length pt]), (w.heap.size + 1, [.int .i64 r, .int .i64 cm, .slice ma zm.length pm]), (w.heap.size + 1 + 1, [.int .i64 0, .int .i64 0, .slice none 0 0])] ++ [(P, [.int .i64 r, .int .i64 cm, .slice (some ⟨b, 0, none⟩) zm.length rc])]) (some ⟨b, 0, none⟩) b (fillL (trmmD true unit zt r zm cm r) cm zm (i * cm + (j + 1))) from by
                rw [← Nat.add_assoc, fillL_at _ _ _ hjc]
                exact D3.out.set (by rw [hlen, HN.out.1]; exact hpl) _ s)
              obtain ⟨f11, f12, f13⟩ := (D3.out.get 1 rfl).facts
              obtain ⟨f21, f22, f23⟩ := (D3.out.get 3 rfl).facts
              generalize trmmD true unit zt r zm cm r i j = tv at *
              have hzl := HN.out.1
              obtain ⟨PP, hPP⟩ : ∃ PP, PP = i * cm := ⟨_, rfl⟩
              have t1 : wrap64 ((i : Int) * (cm : Int)) = (PP : Int) := w64m PP (by rw [hPP]; push_cast; rfl) (by have := HN.out.2; omega)
              rw [← hPP] at hF3 D4 hpl
              have hpz : PP + j < zm.length := by rw [hzl]; exact hpl
              have hzz := HN.out.2
              have HPP := Lib.hid hPP
              clear hk hkn hF hlen hV hPP hpl hzl D3
              go_wp2_with fail
              go_roundw
              case rel => exact ⟨j + 1, hjc, by go_num, by rw [← HPP.out]; exact D4.out⟩
              case measure => simp [intOf]; omega
        · skip
          obtain rfl : j = cm := by omega
          obtain ⟨f11, f12, f13⟩ := (D2.out.get 1 rfl).facts
          go_wp2_with fail
          go_roundw
          case rel => exact ⟨i + 1, hir, by go_num, by rw [Nat.succ_mul]; exact D2.out⟩
          case measure => simp [intOf]; omega
    · skip
      obtain rfl : i = r := by omega
      obtain ⟨f11, f12, f13⟩ := (D1.out.get 1 rfl).facts
      obtain ⟨f31, f32, f33⟩ := (D1.out.get 3 rfl).facts
      obtain ⟨f21, f22, f23⟩ := (D1.out.get 2 rfl).facts
      go_wp2_with fail
      have hx2 := D1.out.get 2 rfl
      have hne := D1.out.ne
      have hfs := D1.out.fs
      have hbl := D1.out.below
      refine bodyPost_ret (results_one rfl (rv_cell (g := w.heap.size + 1 + 1) rfl (hx2.put3 _ _ _) rfl Try.underlying24 (by kernel_rfl))) rfl ⟨⟨ra, rc, rfl, ?_⟩, ?_⟩
      · have hq : ∀ u0 u1 u2, Fls (((wr.setCell ⟨w.heap.size + 1 + 1, 0, none⟩ u0).setCell ⟨w.heap.size + 1 + 1, 1, none⟩ u1).setCell ⟨w.heap.size + 1 + 1, 2, none⟩ u2) ra (fillL (trmmD true unit zt i zm cm i) cm zm (i * cm)) := fun u0 u1 u2 => by
          by_cases hz : fillL (trmmD true unit zt i zm cm i) cm zm (i * cm) = []
          · rw [hz]; exact fun h => absurd rfl h
          · rcases hfs with h | ⟨e, hF⟩
            · exact absurd h hz
            · subst e
              have hn := hne hz (w.heap.size + 1 + 1, [.int .i64 0, .int .i64 0, .slice none 0 0]) (List.mem_of_getElem? (i := 2) rfl)
              exact (((hF.other (Ne.symm hn) _ _).other (Ne.symm hn) _ _).other (Ne.symm hn) _ _).fls
        exact hq _ _ _
      · exact below_put3 hbl (by omega) _ _ _
end Go.Proofs.Ytbcdpibcieadlaa

/- Layer 8: places set row by row; a triangle times a matrix, plainly. No condition but on lengths. -/
namespace Go.Proofs.Ytbcdpibcieadlaa
open Go Go.RowKit
set_option maxRecDepth 1000000

theorem plcs_zero (c : Nat) : plcs c 0 = [] := rfl
theorem div_mod8 {n r c : Nat} (h : n < r * c) : n / c < r ∧ n % c < c ∧ n / c * c + n % c = n := by
  have hc : 0 < c := Nat.pos_of_ne_zero fun e => by rw [e, Nat.mul_zero] at h; omega
  refine ⟨by rw [Nat.div_lt_iff_lt_mul hc]; exact h, Nat.mod_lt _ hc, ?_⟩
  rw [Nat.mul_comm]
  exact Nat.div_add_mod n c
theorem puts_spec {v : Vw} {r c : Nat} (h : OfI v r c) (er : v.r = r) (ec : v.c = c) (V : Nat × Nat → List Nat → Nat) (ws : List Nat) (hl : ws.length = r * c) (D : Nat → Nat → Nat)
    (hV : ∀ i j us, i < r → j < c → us.length = r * c → v.get us i j = v.get ws i j → V (i, j) us = D i j) :
    ∀ n, n ≤ r * c → ((plcs c n).foldl (fun s p => v.put s p.1 p.2 (V p s)) ws).length = r * c ∧ ∀ i j, i < r → j < c → v.get ((plcs c n).foldl (fun s p => v.put s p.1 p.2 (V p s)) ws) i j = if i * c + j < n then D i j else v.get ws i j
  | 0, _ => ⟨hl, fun i j _ _ => by rw [plcs_zero, if_neg (Nat.not_lt_zero _)]; rfl⟩
  | n + 1, hn => by
    obtain ⟨h1, h2⟩ := puts_spec h er ec V ws hl D hV n (by omega)
    obtain ⟨d1, d2, d3⟩ := div_mod8 (show n < r * c by omega)
    rw [plcs_succ, List.foldl_append]
    generalize (plcs c n).foldl (fun s p => v.put s p.1 p.2 (V p s)) ws = us at *
    have e1 := h2 (n / c) (n % c) d1 d2
    rw [d3, if_neg (Nat.lt_irrefl _)] at e1
    have e2 := hV (n / c) (n % c) us d1 d2 h1 e1
    show (v.put us ((n / c : Nat) : Int) ((n % c : Nat) : Int) (V (n / c, n % c) us)).length = _ ∧ ∀ i j, i < r → j < c → v.get (v.put us ((n / c : Nat) : Int) ((n % c : Nat) : Int) (V (n / c, n % c) us)) i j = _
    rw [e2]
    refine ⟨by rw [put_len8]; exact h1, fun i j hi hj => ?_⟩
    rw [h.get_put er ec us h1 d1 d2 hi hj, h2 i j hi hj]
    by_cases e : n / c = i ∧ n % c = j
    · obtain ⟨rfl, rfl⟩ := e
      rw [if_pos ⟨rfl, rfl⟩, if_pos (by rw [d3]; omega)]
    · rw [if_neg e]
      have hne : i * c + j ≠ n := fun e3 => e (by rw [← d3] at e3; obtain ⟨k1, k2⟩ := place8_inj hj d2 e3; exact ⟨k1.symm, k2.symm⟩)
      by_cases e4 : i * c + j < n
      · rw [if_pos e4, if_pos (by omega)]
      · rw [if_neg e4, if_neg (by omega)]
/-- A matrix filled, as a view shows it. -/
theorem fill_rw (v : Vw) (us : List Nat) (r c : Nat) (er : v.r = r) (ec : v.c = c) (D : Nat → Nat → Nat) (zs : List Nat) (hn : zs.length = r * c) (h : ∀ i j, i < r → j < c → ∃ s, v.get us i j = raw (D i j) s) : Rw (v.list us) (fillL D c zs (r * c)) :=
  list_rw v us r c er ec _ (by rw [fillL_len, hn]) fun i j hi hj => by
    obtain ⟨s, hs⟩ := h i j hi hj
    have hk := place8 hi hj
    have h1 : (i * c + j) / c = i := by rw [Nat.mul_comm, Nat.mul_add_div (by omega), Nat.div_eq_of_lt hj, Nat.add_zero]
    have h2 : (i * c + j) % c = j := by rw [Nat.mul_comm, Nat.mul_add_mod, Nat.mod_eq_of_lt hj]
    exact ⟨s, by rw [hs, fillL_get D c zs _ _ (by rw [hn]; exact hk), if_pos hk, h1, h2]⟩

/-! ### A triangle times a matrix -/
def fitTr (rk ck rm : Nat) : Bool := decide (rk = ck) && decide (rk = rm)
section
variable {k m : Vw} {sk sm rk ck rm cm : Nat} {zk zm ks ms us : List Nat} {u o : Bool}
theorem trmm_code (Pk : OfP k sk rk ck zk ks) (Pm : OfP m sm rm cm zm ms) : openE [k, m] (fits_Trmm k m) = if fitTr rk ck rm then 0 else 8 := by
  unfold fits_Trmm openE fitTr
  rw [Pk.er, Pk.ec, Pm.er]
  simp [Pk.ep, Pm.ep]
theorem trmm_bad (Pk : OfP k sk rk ck zk ks) (Pm : OfP m sm rm cm zm ms) (hnm : zm.length = rm * cm) (hf : fitTr rk ck rm = false) (hR : Rw us (trmmL u o k m ks ms)) : Rw (m.list us) zm := by
  unfold trmmL at hR
  rw [trmm_code Pk Pm, hf] at hR
  exact Pm.same hnm hR
theorem trmm_good (Pk : OfP k sk rk ck zk ks) (Pm : OfP m sm rm cm zm ms) (Im : OfI m rm cm) (hlm : ms.length = rm * cm) (hnm : zm.length = rm * cm) (hf : fitTr rk ck rm = true) (hR : Rw us (trmmL u o k m ks ms)) :
    Rw (m.list us) (fillL (trmmD u o zk ck zm cm rm) cm zm (rm * cm)) := by
  unfold trmmL at hR
  rw [trmm_code Pk Pm, hf] at hR
  simp only [if_true] at hR
  unfold fitTr at hf
  simp only [Bool.and_eq_true, decide_eq_true_eq] at hf
  obtain ⟨e1, e2⟩ := hf
  have hD : ∀ i j, i < rm → j < cm → trV u o k ks m ms (i, j) = trmmD u o zk ck zm cm rm i j := fun i j hi hj => by
    unfold trV trmmD
    rw [Pk.er]
    have hN : ((if u then rk else i + 1) - (if u then i else 0)) = if u then rm - i else i + 1 := by cases u <;> simp [e2]
    show sumG _ _ (if u then i else 0) ((if u then rk else i + 1) - (if u then i else 0)) = _
    rw [hN]
    refine sumG_congr _ fun q hq => ?_
    have hq2 : (if u then i else 0) + q < rm := by cases u <;> simp at hq ⊢ <;> omega
    generalize (if u then i else 0) + q = x at hq2 ⊢
    refine ⟨?_, Pm.get x j hq2 hj⟩
    unfold triW trmmX
    have hg := Pk.get i x (by omega) (by omega)
    rw [hg]
    have ed : (o && decide (i = x)) = (decide (x = i) && o) := by
      rw [Bool.eq_iff_iff]; simp; constructor
      · rintro ⟨a, b⟩; exact ⟨b.symm, a⟩
      · rintro ⟨a, b⟩; exact ⟨b, a.symm⟩
    first | rw [ed] | skip
  obtain ⟨_, h2⟩ := puts_spec Im Pm.er Pm.ec (fun p _ => trV u o k ks m ms p) ms hlm (trmmD u o zk ck zm cm rm) (fun i j _ hi hj _ _ => hD i j hi hj) (rm * cm) (Nat.le_refl _)
  refine fill_rw m us rm cm Pm.er Pm.ec _ zm hnm fun i j hi hj => ?_
  obtain ⟨s, hs⟩ := hR.get m i j
  refine ⟨s, ?_⟩
  rw [hs]
  have e := h2 i j hi hj
  rw [if_pos (place8 hi hj)] at e
  unfold trL
  rw [Pm.er, Pm.ec, e]
end
theorem RTrmm_any (w : World) (upper unit : Bool) (rt ct rm cm : Nat) (ta ma : Option Addr) (zt zm : List Nat) (pt pm : Nat) (hT : Fls w ta zt) (hM : Fls w ma zm) (hnt : zt.length = rt * ct) (hnm : zm.length = rm * cm) (hlt' : zt.length ≤ 262144) (hlm : zm.length ≤ 262144) (hr : rm ≤ 512) (hc : cm ≤ 512) (e1 : rt = ct) (e2 : rt = rm) :
    Calls Try.prog 35 #[.bool upper, .bool unit, .agg #[.int .i64 rt, .int .i64 ct, .slice ta zt.length pt], .agg #[.int .i64 rm, .int .i64 cm, .slice ma zm.length pm]] w fun e w' => (∃ a' c', e = .returned (.agg #[.int .i64 rm, .int .i64 cm, .slice a' (fillL (trmmD upper unit zt ct zm cm rm) cm zm (rm * cm)).length c']) ∧ Fls w' a' (fillL (trmmD upper unit zt ct zm cm rm) cm zm (rm * cm))) ∧ Below w.heap.size w w' := by
  subst e2
  subst e1
  rw [fillL_len]
  cases upper
  · exact RTrmm_low w unit rt cm ta ma zt zm pt pm hT hM hnt hnm hlt' hlm hr hc
  · exact RTrmm_up w unit rt cm ta ma zt zm pt pm hT hM hnt hnm hlt' hlm hr hc
end Go.Proofs.Ytbcdpibcieadlaa

/- Layer 8: what kernels hold on to that range over a view which they write. No condition. -/
namespace Go.Proofs.Ytbcdpibcieadlaa
open Go Go.RowKit
set_option maxRecDepth 1000000

/-- Boxes, and views, apart from a block that is written. -/
structure KerW (W : World) (bs : List (Nat × List Value)) (cs : List (Vw × Nat × List Nat)) (sm : Nat) : Prop where
  bx : ∀ p ∈ bs, Box W p.1 p.2
  ne : ∀ p ∈ bs, p.1 ≠ sm
  ap : ∀ q ∈ cs, q.1.Apart W q.2.1 q.2.2 sm
section
variable {W W' : World} {bs : List (Nat × List Value)} {cs : List (Vw × Nat × List Nat)} {sm : Nat}
theorem KerW.bel (h : KerW W bs cs sm) (hb : Bel W.heap.size sm W W') : KerW W' bs cs sm := ⟨fun p hp => (h.bx p hp).bel (h.ne p hp) hb, h.ne, fun q hq => (h.ap q hq).bel hb⟩
theorem KerW.below (h : KerW W bs cs sm) (hb : Below W.heap.size W W') : KerW W' bs cs sm := h.bel (Bel.of hb)
theorem KerW.still {b : Nat} (h : KerW W bs cs sm) (hs : StillC b W W') : KerW W' bs cs sm := ⟨fun p hp => (h.bx p hp).still hs, h.ne, fun q hq => ⟨(h.ap q hq).1.still hs, (h.ap q hq).2⟩⟩
theorem KerW.get (h : KerW W bs cs sm) (k : Nat) {n : Nat} {vs : List Value} (hk : bs[k]? = some (n, vs)) : Box W n vs := h.bx (n, vs) (List.mem_of_getElem? hk)
theorem KerW.vw (h : KerW W bs cs sm) (k : Nat) {v : Vw} {sb : Nat} {ws : List Nat} (hk : cs[k]? = some (v, sb, ws)) : v.Apart W sb ws sm := h.ap (v, sb, ws) (List.mem_of_getElem? hk)
theorem KerW.box {n : Nat} {vs : List Value} (h : KerW W bs cs sm) (hb : Box W n vs) (hn : n ≠ sm) : KerW W (bs ++ [(n, vs)]) cs sm :=
  ⟨fun p hp => by
    rcases List.mem_append.1 hp with hp | hp
    · exact h.bx p hp
    · simp only [List.mem_cons, List.not_mem_nil, or_false] at hp
      subst hp; exact hb,
   fun p hp => by
    rcases List.mem_append.1 hp with hp | hp
    · exact h.ne p hp
    · simp only [List.mem_cons, List.not_mem_nil, or_false] at hp
      subst hp; exact hn, h.ap⟩
end
/-- What a copy is. -/
structure CpyF (x : Vw) (xs : List Nat) (st : Nat) (y : Vw) : Prop where
  p : y.p = some ⟨st, 0, none⟩
  r : y.r = x.r
  c : y.c = x.c
  bnd : y.Bnd 0
  get : ∀ i k : Nat, i < x.r → k < x.c → y.get (x.list xs) i k = x.get xs i k
  vec : vecV x.p x.r x.c = true → ∀ k : Nat, k < lenV x.p x.r x.c → y.getVec (x.list xs) k = x.getVec xs k
theorem CpyF.of {x : Vw} (xs : List Nat) (st : Nat) (h : x.p.isSome = true) (h1 : x.r ≤ 512) (h2 : x.c ≤ 512) : CpyF x xs st (cpyV x st) := by
  have e := cpy_new h st
  exact ⟨by rw [e]; rfl, by rw [e]; rfl, by rw [e]; rfl, by rw [e]; exact newV_bnd h1 h2, fun i k hi hk => cpy_get x xs st i k h hi hk, fun hv k hk => cpy_getVec x xs st k hv hk⟩
theorem row_getVec {v : Vw} {ws : List Nat} {i k : Nat} (hp : v.p.isSome = true) (hc : v.c ≤ 512) (hi : i < v.r) (hk : k < v.c) : (v.row i).getVec ws k = v.get ws i k := by
  have hrow : v.row i = ⟨v.p, 1, v.c, v.o + i * v.d + 0 * v.u, v.d, v.u⟩ := by
    unfold Vw.row Vw.part
    rw [hp]
    rw [if_pos (by unfold fitsV; simp; omega)]
    simp
  rw [hrow]
  unfold Vw.getVec
  rw [if_pos (by unfold vecV; rw [hp]; simp)]
  unfold Vw.al Vw.get
  simp only [if_true]
  rw [if_pos (by unfold inV; simp; omega), if_pos (by unfold inV; simp; omega)]
  try simp
theorem ok_uniq {v : Vw} {w : World} {sb : Nat} {ws us : List Nat} (h : v.Ok w sb ws) (k : v.Ok w sb us) (hp : v.p ≠ none) : ws = us := by
  have h1 := (ok_box h hp).cell
  have h2 := (ok_box k hp).cell
  refine List.ext_getElem? fun i => ?_
  have e := (h1 i).symm.trans (h2 i)
  rw [List.getElem?_map, List.getElem?_map] at e
  cases h3 : ws[i]? <;> cases h4 : us[i]? <;> rw [h3, h4] at e <;> simp_all
theorem bothW_raw (b o a s k : Nat) : bothW b (raw o k) a s = bothW b o a s := by unfold bothW; rw [fmul_rawr]
theorem val_ne {x y : Vw} {a b : Nat} (hx : x.p = some ⟨a, 0, none⟩) (hy : y.p = some ⟨b, 0, none⟩) (h : a ≠ b) : x.val ≠ y.val := fun e => by
  obtain ⟨p, r, c, o, d, u⟩ := x
  obtain ⟨p', r', c', o', d', u'⟩ := y
  dsimp only at hx hy
  subst hx hy
  unfold Vw.val at e
  simp at e
  try exact absurd e.1 h
end Go.Proofs.Ytbcdpibcieadlaa
