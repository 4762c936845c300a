/- The document's sturm: bounds (printed by gen_rb.py). -/
import Derived.Test.YtogkmddhgfenkaaRf
import Derived.Test.YtogkmddhgfenkaaFb
namespace Go.Proofs.Ytogkmddhgfenkaa
open Go Go.RowKit
set_option maxRecDepth 100000

theorem abs_raw_any (v s : Nat) (W : World) (hv : v < 18446744073709551616) : Calls Try.prog 75 #[.float .f64 (raw v s)] W fun e w' => FR e (fabs v) ∧ W = w' := by
  refine (Abs_any (raw v s) (raw_lt hv s) W).mono ?_
  rintro e w' ⟨rfl, rfl⟩
  obtain ⟨t, ht⟩ := fabs_raw v s
  exact ⟨⟨t, by rw [ht]⟩, rfl⟩

set_option maxHeartbeats 8000000 in
theorem RBounds_any (w : World) (da ea : Option Addr) (ds es : List Nat) (dc ec : Nat) (hD : Fls w da ds) (hE : Fls w ea es) (hW : Words es) (hl : ds.length ≤ 1000) (hlen : es.length = ds.length - 1) :
    Calls Try.prog 39 #[.agg #[.slice da ds.length dc, .slice ea es.length ec]] w fun e w' => (∃ s1 s2, e = .returned (.tuple #[.float .f64 (raw (bndL ds es ds.length).1 s1), .float .f64 (raw (bndL ds es ds.length).2 s2)])) ∧ Below w.heap.size w w' := by
  have x0 : Box (w.alloc (.cells #[.slice da ds.length dc, .slice ea es.length ec] 51)) w.heap.size [.slice da ds.length dc, .slice ea es.length ec] := Box.newA w [_, _] _ rfl
  have hB0 : Below w.heap.size w (w.alloc (.cells #[.slice da ds.length dc, .slice ea es.length ec] 51)) := (Below.refl _ _).alloc (Nat.le_refl _) _
  have HAbs := Lib.hid (fun v s W hv => abs_raw_any v s W hv)
  have HLen := Lib.hid hlen
  have HWs := Lib.hid hW
  have hD0 := hD.below hB0
  have hE0 := hE.below hB0
  clear hD hE hlen hW
  go_enter Try.func39, Try.ntmps39
  go_wp2_with fail
  generalize w.alloc (.cells #[.slice da ds.length dc, .slice ea es.length ec] 51) = w0 at *
  go_loopw [4, 5, 6] (fun s4 s5 s6 wr => ∃ k : Nat, k ≤ ds.length ∧ s6 = .int .i64 k ∧ IsF s4 (bndL ds es k).1 ∧ IsF s5 (bndL ds es k).2 ∧ Below w0.heap.size w0 wr) (fun _ _ s6 _ => ds.length - (intOf s6).toNat)
  case atStart => exact ⟨0, Nat.zero_le _, rfl, IsF.const (by kernel_rfl), IsF.const (by kernel_rfl), Below.refl _ _⟩
  case round =>
    obtain ⟨k, hk, rfl, ⟨sl, rfl⟩, ⟨sh, rfl⟩, hB⟩ := hrel
    have x1 := x0.below hB
    obtain ⟨a1, a2, a3⟩ := x1.facts
    have hHB := Lib.hid (show _ ∧ _ from ⟨hB0, hB⟩)
    have hD1 := hD0.below hB
    have hE1 := hE0.below hB
    clear hB x1
    by_cases hlt : k < ds.length
    · obtain ⟨db, do', sd, rfl, hdb, c1⟩ := hD1.at hlt
      have hw1 : wrap64 ((k : Int) - 1) = (k : Int) - 1 := by unfold wrap64; omega
      have e1 : (bndL ds es (k + 1)).1 = (if k = 0 ∨ flt (fsub (ds.getD k 0) (fadd (besA es ((k : Int) - 1)) (besA es k))) (bndL ds es k).1 = true then fsub (ds.getD k 0) (fadd (besA es ((k : Int) - 1)) (besA es k)) else (bndL ds es k).1) := rfl
      have e2 : (bndL ds es (k + 1)).2 = (if k = 0 ∨ flt (bndL ds es k).2 (fadd (ds.getD k 0) (fadd (besA es ((k : Int) - 1)) (besA es k))) = true then fadd (ds.getD k 0) (fadd (besA es ((k : Int) - 1)) (besA es k)) else (bndL ds es k).2) := rfl
      have hkb : k + 1 ≤ 1000 := by omega
      generalize ds.getD k 0 = d at *
      generalize (bndL ds es k).1 = lo at *
      generalize (bndL ds es k).2 = hi at *
      have hleft : k = 0 ∧ besA es ((k : Int) - 1) = 0 ∨ ∃ j, k = j + 1 ∧ j < es.length ∧ besA es ((k : Int) - 1) = fabs (es.getD j 0) := by
        cases k with
        | zero => exact .inl ⟨rfl, by unfold besA; rw [if_neg (by omega)]⟩
        | succ j =>
          have hj : j < es.length := by rw [HLen.out]; omega
          refine .inr ⟨j, rfl, hj, ?_⟩
          unfold besA
          rw [if_pos (by omega)]
          congr 2
          omega
      have hright : k < es.length ∧ besA es (k : Int) = fabs (es.getD k 0) ∨ ¬ k < es.length ∧ besA es (k : Int) = 0 := by
        by_cases h : k < es.length
        · exact .inl ⟨h, by unfold besA; rw [if_pos (by omega), Int.toNat_natCast]⟩
        · exact .inr ⟨h, by unfold besA; rw [if_neg (by omega)]⟩
      rcases hleft with ⟨rfl, hbl⟩ | ⟨j, rfl, hj, hbl⟩
      · have HV1 : Hid True := trivial
        have t0 : ((((0 : Nat) : Int)) == 0) = true := by decide
        clear hw1
        rw [Nat.add_zero] at c1
        rcases hright with ⟨hr, hbr⟩ | ⟨hr, hbr⟩
        · obtain ⟨eb, eo, s2, hea, heb, c3⟩ := hE1.at hr
          subst hea
          rw [Nat.add_zero] at c3
          have HV2 := Lib.hid (HWs.out.at 0)
          rw [hbl, hbr] at e1 e2
          generalize hy2 : es.getD 0 0 = y2 at *
          have HY2 := Lib.hid hy2
          have HK : Hid (0 + 1 ≤ ds.length) := hlt
          have hr2 : ((0 : Nat) : Int) < (es.length : Int) := by omega
          clear hbl hbr hy2 hk
          rw [if_pos (.inl rfl)] at e1 e2
          have E1 := Lib.hid e1
          have E2 := Lib.hid e2
          clear e1 e2

          go_upto_region 11 with (first | (go_at_call 75; refine (HAbs.out _ _ _ (by first | exact HV1.out | exact HV2.out)).mono ?_; rintro e w' ⟨⟨_, rfl⟩, rfl⟩) | (refine wpList_flt rfl rfl rfl rfl rfl ?_; intro K hK _ _; go_frame; refine hK _ _ ?_; clear hK K))
          go_upto_region 12 with (fail)
          go_upto_region 13 with (first | (go_at_call 75; refine (HAbs.out _ _ _ (by first | exact HV1.out | exact HV2.out)).mono ?_; rintro e w' ⟨⟨_, rfl⟩, rfl⟩) | (refine wpList_flt rfl rfl rfl rfl rfl ?_; intro K hK _ _; go_frame; refine hK _ _ ?_; clear hK K))
          go_upto_region 14 with (fail)
          go_wp2_with (first | (go_at_call 75; refine (HAbs.out _ _ _ (by first | exact HV1.out | exact HV2.out)).mono ?_; rintro e w' ⟨⟨_, rfl⟩, rfl⟩) | (refine wpList_flt rfl rfl rfl rfl rfl ?_; intro K hK _ _; go_frame; refine hK _ _ ?_; clear hK K))
          go_roundw
          case rel => first | exact ⟨1, HK.out, by go_num, IsF.of (by first | (rw [E1.out]; done) | (rw [E1.out]; simp [go_sem])), IsF.of (by first | (rw [E2.out]; done) | (rw [E2.out]; simp [go_sem])), below_drewN _ hHB.out.2⟩ | ((repeat apply Exists.intro); exact ⟨⟨1, HK.out, by go_num, IsF.of (by first | (rw [E1.out]; done) | (rw [E1.out]; simp [go_sem])), IsF.of (by first | (rw [E2.out]; done) | (rw [E2.out]; simp [go_sem])), below_drewN _ hHB.out.2⟩, rfl⟩)
          case measure => simp [intOf]; omega
        · skip
          rw [hbl, hbr] at e1 e2
          have HV2 : Hid True := trivial
          have HK : Hid (0 + 1 ≤ ds.length) := hlt
          have tr : decide (((0 : Nat) : Int) < (es.length : Int)) = false := decide_eq_false (by omega)
          have tr' : decide (0 < es.length) = false := decide_eq_false hr
          clear hbl hbr hk
          rw [if_pos (.inl rfl)] at e1 e2
          have E1 := Lib.hid e1
          have E2 := Lib.hid e2
          clear e1 e2

          go_upto_region 11 with (first | (go_at_call 75; refine (HAbs.out _ _ _ (by first | exact HV1.out | exact HV2.out)).mono ?_; rintro e w' ⟨⟨_, rfl⟩, rfl⟩) | (refine wpList_flt rfl rfl rfl rfl rfl ?_; intro K hK _ _; go_frame; refine hK _ _ ?_; clear hK K))
          go_upto_region 12 with (fail)
          go_upto_region 13 with (first | (go_at_call 75; refine (HAbs.out _ _ _ (by first | exact HV1.out | exact HV2.out)).mono ?_; rintro e w' ⟨⟨_, rfl⟩, rfl⟩) | (refine wpList_flt rfl rfl rfl rfl rfl ?_; intro K hK _ _; go_frame; refine hK _ _ ?_; clear hK K))
          go_upto_region 14 with (fail)
          go_wp2_with (first | (go_at_call 75; refine (HAbs.out _ _ _ (by first | exact HV1.out | exact HV2.out)).mono ?_; rintro e w' ⟨⟨_, rfl⟩, rfl⟩) | (refine wpList_flt rfl rfl rfl rfl rfl ?_; intro K hK _ _; go_frame; refine hK _ _ ?_; clear hK K))
          go_roundw
          case rel => first | exact ⟨1, HK.out, by go_num, IsF.of (by first | (rw [E1.out]; done) | (rw [E1.out]; simp [go_sem])), IsF.of (by first | (rw [E2.out]; done) | (rw [E2.out]; simp [go_sem])), below_drewN _ hHB.out.2⟩ | ((repeat apply Exists.intro); exact ⟨⟨1, HK.out, by go_num, IsF.of (by first | (rw [E1.out]; done) | (rw [E1.out]; simp [go_sem])), IsF.of (by first | (rw [E2.out]; done) | (rw [E2.out]; simp [go_sem])), below_drewN _ hHB.out.2⟩, rfl⟩)
          case measure => simp [intOf]; omega
      · obtain ⟨eb1, eo1, s1, hea1, heb1, c2⟩ := hE1.at hj
        have HV1 := Lib.hid (HWs.out.at j)
        generalize hy1 : es.getD j 0 = y1 at *
        have HY1 := Lib.hid hy1
        clear hy1
        have t0 : (((j + 1 : Nat) : Int) == 0) = false := by rw [beq_eq_false_iff_ne]; omega
        have t1 : decide ((0 : Int) < ((j + 1 : Nat) : Int)) = true := decide_eq_true (by omega)
        have hw2 : ((j + 1 : Nat) : Int) - 1 = (j : Int) := by omega
        rw [hw2] at hw1
        rcases hright with ⟨hr, hbr⟩ | ⟨hr, hbr⟩
        · obtain ⟨eb, eo, s2, hea, heb, c3⟩ := hE1.at hr
          rw [hea] at hea1
          obtain ⟨rfl, rfl⟩ : eb = eb1 ∧ eo = eo1 := by cases hea1; exact ⟨rfl, rfl⟩
          subst hea
          clear hea1
          have HV2 := Lib.hid (HWs.out.at (j + 1))
          rw [hbl, hbr] at e1 e2
          generalize hy2 : es.getD (j + 1) 0 = y2 at *
          have HY2 := Lib.hid hy2
          have HK : Hid ((j + 1) + 1 ≤ ds.length) := hlt
          have hr2 : (((j + 1) : Nat) : Int) < (es.length : Int) := by omega
          clear hbl hbr hy2 hk
          cases hlo : flt (fsub d (fadd (fabs y1) (fabs y2))) lo
          · rw [if_neg (by rintro (h | h); omega; rw [hlo] at h; cases h)] at e1
            have E1 := Lib.hid e1
            clear e1
            cases hhi : flt hi (fadd d (fadd (fabs y1) (fabs y2)))
            · rw [if_neg (by rintro (h | h); omega; rw [hhi] at h; cases h)] at e2
              have E2 := Lib.hid e2
              clear e2
              go_wp2_with (first | (go_at_call 75; refine (HAbs.out _ _ _ (by first | exact HV1.out | exact HV2.out)).mono ?_; rintro e w' ⟨⟨_, rfl⟩, rfl⟩) | (refine wpList_fltB rfl rfl rfl rfl rfl ?_; intro K hK _ _; go_frame; refine hK _ _ ?_; clear hK K))
              go_roundw
              case rel => first | exact ⟨j + 1 + 1, HK.out, by go_num, IsF.of (by first | (rw [E1.out]; done) | (rw [E1.out]; simp [go_sem])), IsF.of (by first | (rw [E2.out]; done) | (rw [E2.out]; simp [go_sem])), below_drewN _ hHB.out.2⟩ | ((repeat apply Exists.intro); exact ⟨⟨j + 1 + 1, HK.out, by go_num, IsF.of (by first | (rw [E1.out]; done) | (rw [E1.out]; simp [go_sem])), IsF.of (by first | (rw [E2.out]; done) | (rw [E2.out]; simp [go_sem])), below_drewN _ hHB.out.2⟩, rfl⟩)
              case measure => simp [intOf]; omega
            · rw [if_pos (.inr hhi)] at e2
              have E2 := Lib.hid e2
              clear e2
              go_wp2_with (first | (go_at_call 75; refine (HAbs.out _ _ _ (by first | exact HV1.out | exact HV2.out)).mono ?_; rintro e w' ⟨⟨_, rfl⟩, rfl⟩) | (refine wpList_fltB rfl rfl rfl rfl rfl ?_; intro K hK _ _; go_frame; refine hK _ _ ?_; clear hK K))
              go_roundw
              case rel => first | exact ⟨j + 1 + 1, HK.out, by go_num, IsF.of (by first | (rw [E1.out]; done) | (rw [E1.out]; simp [go_sem])), IsF.of (by first | (rw [E2.out]; done) | (rw [E2.out]; simp [go_sem])), below_drewN _ hHB.out.2⟩ | ((repeat apply Exists.intro); exact ⟨⟨j + 1 + 1, HK.out, by go_num, IsF.of (by first | (rw [E1.out]; done) | (rw [E1.out]; simp [go_sem])), IsF.of (by first | (rw [E2.out]; done) | (rw [E2.out]; simp [go_sem])), below_drewN _ hHB.out.2⟩, rfl⟩)
              case measure => simp [intOf]; omega
          · rw [if_pos (.inr hlo)] at e1
            have E1 := Lib.hid e1
            clear e1
            cases hhi : flt hi (fadd d (fadd (fabs y1) (fabs y2)))
            · rw [if_neg (by rintro (h | h); omega; rw [hhi] at h; cases h)] at e2
              have E2 := Lib.hid e2
              clear e2
              go_wp2_with (first | (go_at_call 75; refine (HAbs.out _ _ _ (by first | exact HV1.out | exact HV2.out)).mono ?_; rintro e w' ⟨⟨_, rfl⟩, rfl⟩) | (refine wpList_fltB rfl rfl rfl rfl rfl ?_; intro K hK _ _; go_frame; refine hK _ _ ?_; clear hK K))
              go_roundw
              case rel => first | exact ⟨j + 1 + 1, HK.out, by go_num, IsF.of (by first | (rw [E1.out]; done) | (rw [E1.out]; simp [go_sem])), IsF.of (by first | (rw [E2.out]; done) | (rw [E2.out]; simp [go_sem])), below_drewN _ hHB.out.2⟩ | ((repeat apply Exists.intro); exact ⟨⟨j + 1 + 1, HK.out, by go_num, IsF.of (by first | (rw [E1.out]; done) | (rw [E1.out]; simp [go_sem])), IsF.of (by first | (rw [E2.out]; done) | (rw [E2.out]; simp [go_sem])), below_drewN _ hHB.out.2⟩, rfl⟩)
              case measure => simp [intOf]; omega
            · rw [if_pos (.inr hhi)] at e2
              have E2 := Lib.hid e2
              clear e2
              go_wp2_with (first | (go_at_call 75; refine (HAbs.out _ _ _ (by first | exact HV1.out | exact HV2.out)).mono ?_; rintro e w' ⟨⟨_, rfl⟩, rfl⟩) | (refine wpList_fltB rfl rfl rfl rfl rfl ?_; intro K hK _ _; go_frame; refine hK _ _ ?_; clear hK K))
              go_roundw
              case rel => first | exact ⟨j + 1 + 1, HK.out, by go_num, IsF.of (by first | (rw [E1.out]; done) | (rw [E1.out]; simp [go_sem])), IsF.of (by first | (rw [E2.out]; done) | (rw [E2.out]; simp [go_sem])), below_drewN _ hHB.out.2⟩ | ((repeat apply Exists.intro); exact ⟨⟨j + 1 + 1, HK.out, by go_num, IsF.of (by first | (rw [E1.out]; done) | (rw [E1.out]; simp [go_sem])), IsF.of (by first | (rw [E2.out]; done) | (rw [E2.out]; simp [go_sem])), below_drewN _ hHB.out.2⟩, rfl⟩)
              case measure => simp [intOf]; omega
        · subst hea1
          rw [hbl, hbr] at e1 e2
          have HV2 : Hid True := trivial
          have HK : Hid ((j + 1) + 1 ≤ ds.length) := hlt
          have tr : decide ((((j + 1) : Nat) : Int) < (es.length : Int)) = false := decide_eq_false (by omega)
          have tr' : decide ((j + 1) < es.length) = false := decide_eq_false hr
          have tr2 : decide ((j : Int) + 1 < (es.length : Int)) = false := decide_eq_false (by omega)
          have tr3 : ¬ (j : Int) + 1 < (es.length : Int) := by omega
          clear hbl hbr hk
          cases hlo : flt (fsub d (fadd (fabs y1) 0)) lo
          · rw [if_neg (by rintro (h | h); omega; rw [hlo] at h; cases h)] at e1
            have E1 := Lib.hid e1
            clear e1
            cases hhi : flt hi (fadd d (fadd (fabs y1) 0))
            · rw [if_neg (by rintro (h | h); omega; rw [hhi] at h; cases h)] at e2
              have E2 := Lib.hid e2
              clear e2
              go_wp2_with (first | (go_at_call 75; refine (HAbs.out _ _ _ (by first | exact HV1.out | exact HV2.out)).mono ?_; rintro e w' ⟨⟨_, rfl⟩, rfl⟩) | (refine wpList_fltB rfl rfl rfl rfl rfl ?_; intro K hK _ _; go_frame; refine hK _ _ ?_; clear hK K))
              go_roundw
              case rel => first | exact ⟨j + 1 + 1, HK.out, by go_num, IsF.of (by first | (rw [E1.out]; done) | (rw [E1.out]; simp [go_sem])), IsF.of (by first | (rw [E2.out]; done) | (rw [E2.out]; simp [go_sem])), below_drewN _ hHB.out.2⟩ | ((repeat apply Exists.intro); exact ⟨⟨j + 1 + 1, HK.out, by go_num, IsF.of (by first | (rw [E1.out]; done) | (rw [E1.out]; simp [go_sem])), IsF.of (by first | (rw [E2.out]; done) | (rw [E2.out]; simp [go_sem])), below_drewN _ hHB.out.2⟩, rfl⟩)
              case measure => simp [intOf]; omega
            · rw [if_pos (.inr hhi)] at e2
              have E2 := Lib.hid e2
              clear e2
              go_wp2_with (first | (go_at_call 75; refine (HAbs.out _ _ _ (by first | exact HV1.out | exact HV2.out)).mono ?_; rintro e w' ⟨⟨_, rfl⟩, rfl⟩) | (refine wpList_fltB rfl rfl rfl rfl rfl ?_; intro K hK _ _; go_frame; refine hK _ _ ?_; clear hK K))
              go_roundw
              case rel => first | exact ⟨j + 1 + 1, HK.out, by go_num, IsF.of (by first | (rw [E1.out]; done) | (rw [E1.out]; simp [go_sem])), IsF.of (by first | (rw [E2.out]; done) | (rw [E2.out]; simp [go_sem])), below_drewN _ hHB.out.2⟩ | ((repeat apply Exists.intro); exact ⟨⟨j + 1 + 1, HK.out, by go_num, IsF.of (by first | (rw [E1.out]; done) | (rw [E1.out]; simp [go_sem])), IsF.of (by first | (rw [E2.out]; done) | (rw [E2.out]; simp [go_sem])), below_drewN _ hHB.out.2⟩, rfl⟩)
              case measure => simp [intOf]; omega
          · rw [if_pos (.inr hlo)] at e1
            have E1 := Lib.hid e1
            clear e1
            cases hhi : flt hi (fadd d (fadd (fabs y1) 0))
            · rw [if_neg (by rintro (h | h); omega; rw [hhi] at h; cases h)] at e2
              have E2 := Lib.hid e2
              clear e2
              go_wp2_with (first | (go_at_call 75; refine (HAbs.out _ _ _ (by first | exact HV1.out | exact HV2.out)).mono ?_; rintro e w' ⟨⟨_, rfl⟩, rfl⟩) | (refine wpList_fltB rfl rfl rfl rfl rfl ?_; intro K hK _ _; go_frame; refine hK _ _ ?_; clear hK K))
              go_roundw
              case rel => first | exact ⟨j + 1 + 1, HK.out, by go_num, IsF.of (by first | (rw [E1.out]; done) | (rw [E1.out]; simp [go_sem])), IsF.of (by first | (rw [E2.out]; done) | (rw [E2.out]; simp [go_sem])), below_drewN _ hHB.out.2⟩ | ((repeat apply Exists.intro); exact ⟨⟨j + 1 + 1, HK.out, by go_num, IsF.of (by first | (rw [E1.out]; done) | (rw [E1.out]; simp [go_sem])), IsF.of (by first | (rw [E2.out]; done) | (rw [E2.out]; simp [go_sem])), below_drewN _ hHB.out.2⟩, rfl⟩)
              case measure => simp [intOf]; omega
            · rw [if_pos (.inr hhi)] at e2
              have E2 := Lib.hid e2
              clear e2
              go_wp2_with (first | (go_at_call 75; refine (HAbs.out _ _ _ (by first | exact HV1.out | exact HV2.out)).mono ?_; rintro e w' ⟨⟨_, rfl⟩, rfl⟩) | (refine wpList_fltB rfl rfl rfl rfl rfl ?_; intro K hK _ _; go_frame; refine hK _ _ ?_; clear hK K))
              go_roundw
              case rel => first | exact ⟨j + 1 + 1, HK.out, by go_num, IsF.of (by first | (rw [E1.out]; done) | (rw [E1.out]; simp [go_sem])), IsF.of (by first | (rw [E2.out]; done) | (rw [E2.out]; simp [go_sem])), below_drewN _ hHB.out.2⟩ | ((repeat apply Exists.intro); exact ⟨⟨j + 1 + 1, HK.out, by go_num, IsF.of (by first | (rw [E1.out]; done) | (rw [E1.out]; simp [go_sem])), IsF.of (by first | (rw [E2.out]; done) | (rw [E2.out]; simp [go_sem])), below_drewN _ hHB.out.2⟩, rfl⟩)
              case measure => simp [intOf]; omega
    · obtain rfl : k = ds.length := by omega
      go_wp2
      exact bodyPost_ret (results_tmp2 rfl _ _ _) rfl ⟨⟨sl, sh, rfl⟩, hHB.out.1.trans (hHB.out.2.mono hHB.out.1.size)⟩
end Go.Proofs.Ytogkmddhgfenkaa
