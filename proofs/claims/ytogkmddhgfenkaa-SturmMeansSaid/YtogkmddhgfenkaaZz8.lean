/- The document's sturm: bounds (printed by gen_rb.py). -/
import Derived.Test.YtogkmddhgfenkaaZz7
import Derived.Test.YtogkmddhgfenkaaZz4
import Derived.Maps.OwnSet
import Derived.OrdersHeld
import Derived.StillTail
import Derived.Tactics
import Derived.Deep.RegionHeld3
import Derived.Test.YtogkmddhgfenkaaZz2
namespace Go.Proofs.Ytogkmddhgfenkaa
open Go Go.RowKit
set_option maxRecDepth 100000

theorem abs_raw_any (v s : Nat) (W : World) (hv : v < 18446744073709551616) : Calls Try.prog 75 #[.float .f64 (raw v s)] W fun e w' => FR e (fabs v) ∧ W = w' := by
  refine (Abs_any (raw v s) (raw_lt hv s) W).mono ?_
  rintro e w' ⟨rfl, rfl⟩
  obtain ⟨t, ht⟩ := fabs_raw v s
  exact ⟨⟨t, by rw [ht]⟩, rfl⟩

set_option maxHeartbeats 8000000 in
theorem RBounds_any (w : World) (da ea : Option Addr) (ds es : List Nat) (dc ec : Nat) (hD : Fls w da ds) (hE : Fls w ea es) (hW : Words es) (hl : ds.length ≤ 1000) (hlen : es.length = ds.length - 1) :
    Calls Try.prog 39 #[.agg #[.slice da ds.length dc, .slice ea es.length ec]] w fun e w' => (∃ s1 s2, e = .returned (.tuple #[.float .f64 (raw (bndL ds es ds.length).1 s1), .float .f64 (raw (bndL ds es ds.length).2 s2)])) ∧ Below w.heap.size w w' := by
  have x0 : Box (w.alloc (.cells #[.slice da ds.length dc, .slice ea es.length ec] 51)) w.heap.size [.slice da ds.length dc, .slice ea es.length ec] := Box.newA w [_, _] _ rfl
  have hB0 : Below w.heap.size w (w.alloc (.cells #[.slice da ds.length dc, .slice ea es.length ec] 51)) := (Below.refl _ _).alloc (Nat.le_refl _) _
  have HAbs := Lib.hid (fun v s W hv => abs_raw_any v s W hv)
  have HLen := Lib.hid hlen
  have HWs := Lib.hid hW
  have hD0 := hD.below hB0
  have hE0 := hE.below hB0
  clear hD hE hlen hW
  go_enter Try.func39, Try.ntmps39
  go_wp2_with fail
  generalize w.alloc (.cells #[.slice da ds.length dc, .slice ea es.length ec] 51) = w0 at *
  go_loopw [4, 5, 6] (fun s4 s5 s6 wr => ∃ k : Nat, k ≤ ds.length ∧ s6 = .int .i64 k ∧ IsF s4 (bndL ds es k).1 ∧ IsF s5 (bndL ds es k).2 ∧ Below w0.heap.size w0 wr) (fun _ _ s6 _ => ds.length - (intOf s6).toNat)
  case atStart => exact ⟨0, Nat.zero_le _, rfl, IsF.const (by kernel_rfl), IsF.const (by kernel_rfl), Below.refl _ _⟩
  case round =>
    obtain ⟨k, hk, rfl, ⟨sl, rfl⟩, ⟨sh, rfl⟩, hB⟩ := hrel
    have x1 := x0.below hB
    obtain ⟨a1, a2, a3⟩ := x1.facts
    have hHB := Lib.hid (show _ ∧ _ from ⟨hB0, hB⟩)
    have hD1 := hD0.below hB
    have hE1 := hE0.below hB
    clear hB x1
    by_cases hlt : k < ds.length
    · obtain ⟨db, do', sd, rfl, hdb, c1⟩ := hD1.at hlt
      have hw1 : wrap64 ((k : Int) - 1) = (k : Int) - 1 := by unfold wrap64; omega
      have e1 : (bndL ds es (k + 1)).1 = (if k = 0 ∨ flt (fsub (ds.getD k 0) (fadd (besA es ((k : Int) - 1)) (besA es k))) (bndL ds es k).1 = true then fsub (ds.getD k 0) (fadd (besA es ((k : Int) - 1)) (besA es k)) else (bndL ds es k).1) := rfl
      have e2 : (bndL ds es (k + 1)).2 = (if k = 0 ∨ flt (bndL ds es k).2 (fadd (ds.getD k 0) (fadd (besA es ((k : Int) - 1)) (besA es k))) = true then fadd (ds.getD k 0) (fadd (besA es ((k : Int) - 1)) (besA es k)) else (bndL ds es k).2) := rfl
      have hkb : k + 1 ≤ 1000 := by omega
      generalize ds.getD k 0 = d at *
      generalize (bndL ds es k).1 = lo at *
      generalize (bndL ds es k).2 = hi at *
      have hleft : k = 0 ∧ besA es ((k : Int) - 1) = 0 ∨ ∃ j, k = j + 1 ∧ j < es.length ∧ besA es ((k : Int) - 1) = fabs (es.getD j 0) := by
        cases k with
        | zero => exact .inl ⟨rfl, by unfold besA; rw [if_neg (by omega)]⟩
        | succ j =>
          have hj : j < es.length := by rw [HLen.out]; omega
          refine .inr ⟨j, rfl, hj, ?_⟩
          unfold besA
          rw [if_pos (by omega)]
          congr 2
          omega
      have hright : k < es.length ∧ besA es (k : Int) = fabs (es.getD k 0) ∨ ¬ k < es.length ∧ besA es (k : Int) = 0 := by
        by_cases h : k < es.length
        · exact .inl ⟨h, by unfold besA; rw [if_pos (by omega), Int.toNat_natCast]⟩
        · exact .inr ⟨h, by unfold besA; rw [if_neg (by omega)]⟩
      rcases hleft with ⟨rfl, hbl⟩ | ⟨j, rfl, hj, hbl⟩
      · have HV1 : Hid True := trivial
        have t0 : ((((0 : Nat) : Int)) == 0) = true := by decide
        clear hw1
        rw [Nat.add_zero] at c1
        rcases hright with ⟨hr, hbr⟩ | ⟨hr, hbr⟩
        · obtain ⟨eb, eo, s2, hea, heb, c3⟩ := hE1.at hr
          subst hea
          rw [Nat.add_zero] at c3
          have HV2 := Lib.hid (HWs.out.at 0)
          rw [hbl, hbr] at e1 e2
          generalize hy2 : es.getD 0 0 = y2 at *
          have HY2 := Lib.hid hy2
          have HK : Hid (0 + 1 ≤ ds.length) := hlt
          have hr2 : ((0 : Nat) : Int) < (es.length : Int) := by omega
          clear hbl hbr hy2 hk
          rw [if_pos (.inl rfl)] at e1 e2
          have E1 := Lib.hid e1
          have E2 := Lib.hid e2
          clear e1 e2

          go_upto_region 11 with (first | (go_at_call 75; refine (HAbs.out _ _ _ (by first | exact HV1.out | exact HV2.out)).mono ?_; rintro e w' ⟨⟨_, rfl⟩, rfl⟩) | (refine wpList_flt rfl rfl rfl rfl rfl ?_; intro K hK _ _; go_frame; refine hK _ _ ?_; clear hK K))
          go_upto_region 12 with (fail)
          go_upto_region 13 with (first | (go_at_call 75; refine (HAbs.out _ _ _ (by first | exact HV1.out | exact HV2.out)).mono ?_; rintro e w' ⟨⟨_, rfl⟩, rfl⟩) | (refine wpList_flt rfl rfl rfl rfl rfl ?_; intro K hK _ _; go_frame; refine hK _ _ ?_; clear hK K))
          go_upto_region 14 with (fail)
          go_wp2_with (first | (go_at_call 75; refine (HAbs.out _ _ _ (by first | exact HV1.out | exact HV2.out)).mono ?_; rintro e w' ⟨⟨_, rfl⟩, rfl⟩) | (refine wpList_flt rfl rfl rfl rfl rfl ?_; intro K hK _ _; go_frame; refine hK _ _ ?_; clear hK K))
          go_roundw
          case rel => first | exact ⟨1, HK.out, by go_num, IsF.of (by first | (rw [E1.out]; done) | (rw [E1.out]; simp [go_sem])), IsF.of (by first | (rw [E2.out]; done) | (rw [E2.out]; simp [go_sem])), below_drewN _ hHB.out.2⟩ | ((repeat apply Exists.intro); exact ⟨⟨1, HK.out, by go_num, IsF.of (by first | (rw [E1.out]; done) | (rw [E1.out]; simp [go_sem])), IsF.of (by first | (rw [E2.out]; done) | (rw [E2.out]; simp [go_sem])), below_drewN _ hHB.out.2⟩, rfl⟩)
          case measure => simp [intOf]; omega
        · skip
          rw [hbl, hbr] at e1 e2
          have HV2 : Hid True := trivial
          have HK : Hid (0 + 1 ≤ ds.length) := hlt
          have tr : decide (((0 : Nat) : Int) < (es.length : Int)) = false := decide_eq_false (by omega)
          have tr' : decide (0 < es.length) = false := decide_eq_false hr
          clear hbl hbr hk
          rw [if_pos (.inl rfl)] at e1 e2
          have E1 := Lib.hid e1
          have E2 := Lib.hid e2
          clear e1 e2

          go_upto_region 11 with (first | (go_at_call 75; refine (HAbs.out _ _ _ (by first | exact HV1.out | exact HV2.out)).mono ?_; rintro e w' ⟨⟨_, rfl⟩, rfl⟩) | (refine wpList_flt rfl rfl rfl rfl rfl ?_; intro K hK _ _; go_frame; refine hK _ _ ?_; clear hK K))
          go_upto_region 12 with (fail)
          go_upto_region 13 with (first | (go_at_call 75; refine (HAbs.out _ _ _ (by first | exact HV1.out | exact HV2.out)).mono ?_; rintro e w' ⟨⟨_, rfl⟩, rfl⟩) | (refine wpList_flt rfl rfl rfl rfl rfl ?_; intro K hK _ _; go_frame; refine hK _ _ ?_; clear hK K))
          go_upto_region 14 with (fail)
          go_wp2_with (first | (go_at_call 75; refine (HAbs.out _ _ _ (by first | exact HV1.out | exact HV2.out)).mono ?_; rintro e w' ⟨⟨_, rfl⟩, rfl⟩) | (refine wpList_flt rfl rfl rfl rfl rfl ?_; intro K hK _ _; go_frame; refine hK _ _ ?_; clear hK K))
          go_roundw
          case rel => first | exact ⟨1, HK.out, by go_num, IsF.of (by first | (rw [E1.out]; done) | (rw [E1.out]; simp [go_sem])), IsF.of (by first | (rw [E2.out]; done) | (rw [E2.out]; simp [go_sem])), below_drewN _ hHB.out.2⟩ | ((repeat apply Exists.intro); exact ⟨⟨1, HK.out, by go_num, IsF.of (by first | (rw [E1.out]; done) | (rw [E1.out]; simp [go_sem])), IsF.of (by first | (rw [E2.out]; done) | (rw [E2.out]; simp [go_sem])), below_drewN _ hHB.out.2⟩, rfl⟩)
          case measure => simp [intOf]; omega
      · obtain ⟨eb1, eo1, s1, hea1, heb1, c2⟩ := hE1.at hj
        have HV1 := Lib.hid (HWs.out.at j)
        generalize hy1 : es.getD j 0 = y1 at *
        have HY1 := Lib.hid hy1
        clear hy1
        have t0 : (((j + 1 : Nat) : Int) == 0) = false := by rw [beq_eq_false_iff_ne]; omega
        have t1 : decide ((0 : Int) < ((j + 1 : Nat) : Int)) = true := decide_eq_true (by omega)
        have hw2 : ((j + 1 : Nat) : Int) - 1 = (j : Int) := by omega
        rw [hw2] at hw1
        rcases hright with ⟨hr, hbr⟩ | ⟨hr, hbr⟩
        · obtain ⟨eb, eo, s2, hea, heb, c3⟩ := hE1.at hr
          rw [hea] at hea1
          obtain ⟨rfl, rfl⟩ : eb = eb1 ∧ eo = eo1 := by cases hea1; exact ⟨rfl, rfl⟩
          subst hea
          clear hea1
          have HV2 := Lib.hid (HWs.out.at (j + 1))
          rw [hbl, hbr] at e1 e2
          generalize hy2 : es.getD (j + 1) 0 = y2 at *
          have HY2 := Lib.hid hy2
          have HK : Hid ((j + 1) + 1 ≤ ds.length) := hlt
          have hr2 : (((j + 1) : Nat) : Int) < (es.length : Int) := by omega
          clear hbl hbr hy2 hk
          cases hlo : flt (fsub d (fadd (fabs y1) (fabs y2))) lo
          · rw [if_neg (by rintro (h | h); omega; rw [hlo] at h; cases h)] at e1
            have E1 := Lib.hid e1
            clear e1
            cases hhi : flt hi (fadd d (fadd (fabs y1) (fabs y2)))
            · rw [if_neg (by rintro (h | h); omega; rw [hhi] at h; cases h)] at e2
              have E2 := Lib.hid e2
              clear e2
              go_wp2_with (first | (go_at_call 75; refine (HAbs.out _ _ _ (by first | exact HV1.out | exact HV2.out)).mono ?_; rintro e w' ⟨⟨_, rfl⟩, rfl⟩) | (refine wpList_fltB rfl rfl rfl rfl rfl ?_; intro K hK _ _; go_frame; refine hK _ _ ?_; clear hK K))
              go_roundw
              case rel => first | exact ⟨j + 1 + 1, HK.out, by go_num, IsF.of (by first | (rw [E1.out]; done) | (rw [E1.out]; simp [go_sem])), IsF.of (by first | (rw [E2.out]; done) | (rw [E2.out]; simp [go_sem])), below_drewN _ hHB.out.2⟩ | ((repeat apply Exists.intro); exact ⟨⟨j + 1 + 1, HK.out, by go_num, IsF.of (by first | (rw [E1.out]; done) | (rw [E1.out]; simp [go_sem])), IsF.of (by first | (rw [E2.out]; done) | (rw [E2.out]; simp [go_sem])), below_drewN _ hHB.out.2⟩, rfl⟩)
              case measure => simp [intOf]; omega
            · rw [if_pos (.inr hhi)] at e2
              have E2 := Lib.hid e2
              clear e2
              go_wp2_with (first | (go_at_call 75; refine (HAbs.out _ _ _ (by first | exact HV1.out | exact HV2.out)).mono ?_; rintro e w' ⟨⟨_, rfl⟩, rfl⟩) | (refine wpList_fltB rfl rfl rfl rfl rfl ?_; intro K hK _ _; go_frame; refine hK _ _ ?_; clear hK K))
              go_roundw
              case rel => first | exact ⟨j + 1 + 1, HK.out, by go_num, IsF.of (by first | (rw [E1.out]; done) | (rw [E1.out]; simp [go_sem])), IsF.of (by first | (rw [E2.out]; done) | (rw [E2.out]; simp [go_sem])), below_drewN _ hHB.out.2⟩ | ((repeat apply Exists.intro); exact ⟨⟨j + 1 + 1, HK.out, by go_num, IsF.of (by first | (rw [E1.out]; done) | (rw [E1.out]; simp [go_sem])), IsF.of (by first | (rw [E2.out]; done) | (rw [E2.out]; simp [go_sem])), below_drewN _ hHB.out.2⟩, rfl⟩)
              case measure => simp [intOf]; omega
          · rw [if_pos (.inr hlo)] at e1
            have E1 := Lib.hid e1
            clear e1
            cases hhi : flt hi (fadd d (fadd (fabs y1) (fabs y2)))
            · rw [if_neg (by rintro (h | h); omega; rw [hhi] at h; cases h)] at e2
              have E2 := Lib.hid e2
              clear e2
              go_wp2_with (first | (go_at_call 75; refine (HAbs.out _ _ _ (by first | exact HV1.out | exact HV2.out)).mono ?_; rintro e w' ⟨⟨_, rfl⟩, rfl⟩) | (refine wpList_fltB rfl rfl rfl rfl rfl ?_; intro K hK _ _; go_frame; refine hK _ _ ?_; clear hK K))
              go_roundw
              case rel => first | exact ⟨j + 1 + 1, HK.out, by go_num, IsF.of (by first | (rw [E1.out]; done) | (rw [E1.out]; simp [go_sem])), IsF.of (by first | (rw [E2.out]; done) | (rw [E2.out]; simp [go_sem])), below_drewN _ hHB.out.2⟩ | ((repeat apply Exists.intro); exact ⟨⟨j + 1 + 1, HK.out, by go_num, IsF.of (by first | (rw [E1.out]; done) | (rw [E1.out]; simp [go_sem])), IsF.of (by first | (rw [E2.out]; done) | (rw [E2.out]; simp [go_sem])), below_drewN _ hHB.out.2⟩, rfl⟩)
              case measure => simp [intOf]; omega
            · rw [if_pos (.inr hhi)] at e2
              have E2 := Lib.hid e2
              clear e2
              go_wp2_with (first | (go_at_call 75; refine (HAbs.out _ _ _ (by first | exact HV1.out | exact HV2.out)).mono ?_; rintro e w' ⟨⟨_, rfl⟩, rfl⟩) | (refine wpList_fltB rfl rfl rfl rfl rfl ?_; intro K hK _ _; go_frame; refine hK _ _ ?_; clear hK K))
              go_roundw
              case rel => first | exact ⟨j + 1 + 1, HK.out, by go_num, IsF.of (by first | (rw [E1.out]; done) | (rw [E1.out]; simp [go_sem])), IsF.of (by first | (rw [E2.out]; done) | (rw [E2.out]; simp [go_sem])), below_drewN _ hHB.out.2⟩ | ((repeat apply Exists.intro); exact ⟨⟨j + 1 + 1, HK.out, by go_num, IsF.of (by first | (rw [E1.out]; done) | (rw [E1.out]; simp [go_sem])), IsF.of (by first | (rw [E2.out]; done) | (rw [E2.out]; simp [go_sem])), below_drewN _ hHB.out.2⟩, rfl⟩)
              case measure => simp [intOf]; omega
        · subst hea1
          rw [hbl, hbr] at e1 e2
          have HV2 : Hid True := trivial
          have HK : Hid ((j + 1) + 1 ≤ ds.length) := hlt
          have tr : decide ((((j + 1) : Nat) : Int) < (es.length : Int)) = false := decide_eq_false (by omega)
          have tr' : decide ((j + 1) < es.length) = false := decide_eq_false hr
          have tr2 : decide ((j : Int) + 1 < (es.length : Int)) = false := decide_eq_false (by omega)
          have tr3 : ¬ (j : Int) + 1 < (es.length : Int) := by omega
          clear hbl hbr hk
          cases hlo : flt (fsub d (fadd (fabs y1) 0)) lo
          · rw [if_neg (by rintro (h | h); omega; rw [hlo] at h; cases h)] at e1
            have E1 := Lib.hid e1
            clear e1
            cases hhi : flt hi (fadd d (fadd (fabs y1) 0))
            · rw [if_neg (by rintro (h | h); omega; rw [hhi] at h; cases h)] at e2
              have E2 := Lib.hid e2
              clear e2
              go_wp2_with (first | (go_at_call 75; refine (HAbs.out _ _ _ (by first | exact HV1.out | exact HV2.out)).mono ?_; rintro e w' ⟨⟨_, rfl⟩, rfl⟩) | (refine wpList_fltB rfl rfl rfl rfl rfl ?_; intro K hK _ _; go_frame; refine hK _ _ ?_; clear hK K))
              go_roundw
              case rel => first | exact ⟨j + 1 + 1, HK.out, by go_num, IsF.of (by first | (rw [E1.out]; done) | (rw [E1.out]; simp [go_sem])), IsF.of (by first | (rw [E2.out]; done) | (rw [E2.out]; simp [go_sem])), below_drewN _ hHB.out.2⟩ | ((repeat apply Exists.intro); exact ⟨⟨j + 1 + 1, HK.out, by go_num, IsF.of (by first | (rw [E1.out]; done) | (rw [E1.out]; simp [go_sem])), IsF.of (by first | (rw [E2.out]; done) | (rw [E2.out]; simp [go_sem])), below_drewN _ hHB.out.2⟩, rfl⟩)
              case measure => simp [intOf]; omega
            · rw [if_pos (.inr hhi)] at e2
              have E2 := Lib.hid e2
              clear e2
              go_wp2_with (first | (go_at_call 75; refine (HAbs.out _ _ _ (by first | exact HV1.out | exact HV2.out)).mono ?_; rintro e w' ⟨⟨_, rfl⟩, rfl⟩) | (refine wpList_fltB rfl rfl rfl rfl rfl ?_; intro K hK _ _; go_frame; refine hK _ _ ?_; clear hK K))
              go_roundw
              case rel => first | exact ⟨j + 1 + 1, HK.out, by go_num, IsF.of (by first | (rw [E1.out]; done) | (rw [E1.out]; simp [go_sem])), IsF.of (by first | (rw [E2.out]; done) | (rw [E2.out]; simp [go_sem])), below_drewN _ hHB.out.2⟩ | ((repeat apply Exists.intro); exact ⟨⟨j + 1 + 1, HK.out, by go_num, IsF.of (by first | (rw [E1.out]; done) | (rw [E1.out]; simp [go_sem])), IsF.of (by first | (rw [E2.out]; done) | (rw [E2.out]; simp [go_sem])), below_drewN _ hHB.out.2⟩, rfl⟩)
              case measure => simp [intOf]; omega
          · rw [if_pos (.inr hlo)] at e1
            have E1 := Lib.hid e1
            clear e1
            cases hhi : flt hi (fadd d (fadd (fabs y1) 0))
            · rw [if_neg (by rintro (h | h); omega; rw [hhi] at h; cases h)] at e2
              have E2 := Lib.hid e2
              clear e2
              go_wp2_with (first | (go_at_call 75; refine (HAbs.out _ _ _ (by first | exact HV1.out | exact HV2.out)).mono ?_; rintro e w' ⟨⟨_, rfl⟩, rfl⟩) | (refine wpList_fltB rfl rfl rfl rfl rfl ?_; intro K hK _ _; go_frame; refine hK _ _ ?_; clear hK K))
              go_roundw
              case rel => first | exact ⟨j + 1 + 1, HK.out, by go_num, IsF.of (by first | (rw [E1.out]; done) | (rw [E1.out]; simp [go_sem])), IsF.of (by first | (rw [E2.out]; done) | (rw [E2.out]; simp [go_sem])), below_drewN _ hHB.out.2⟩ | ((repeat apply Exists.intro); exact ⟨⟨j + 1 + 1, HK.out, by go_num, IsF.of (by first | (rw [E1.out]; done) | (rw [E1.out]; simp [go_sem])), IsF.of (by first | (rw [E2.out]; done) | (rw [E2.out]; simp [go_sem])), below_drewN _ hHB.out.2⟩, rfl⟩)
              case measure => simp [intOf]; omega
            · rw [if_pos (.inr hhi)] at e2
              have E2 := Lib.hid e2
              clear e2
              go_wp2_with (first | (go_at_call 75; refine (HAbs.out _ _ _ (by first | exact HV1.out | exact HV2.out)).mono ?_; rintro e w' ⟨⟨_, rfl⟩, rfl⟩) | (refine wpList_fltB rfl rfl rfl rfl rfl ?_; intro K hK _ _; go_frame; refine hK _ _ ?_; clear hK K))
              go_roundw
              case rel => first | exact ⟨j + 1 + 1, HK.out, by go_num, IsF.of (by first | (rw [E1.out]; done) | (rw [E1.out]; simp [go_sem])), IsF.of (by first | (rw [E2.out]; done) | (rw [E2.out]; simp [go_sem])), below_drewN _ hHB.out.2⟩ | ((repeat apply Exists.intro); exact ⟨⟨j + 1 + 1, HK.out, by go_num, IsF.of (by first | (rw [E1.out]; done) | (rw [E1.out]; simp [go_sem])), IsF.of (by first | (rw [E2.out]; done) | (rw [E2.out]; simp [go_sem])), below_drewN _ hHB.out.2⟩, rfl⟩)
              case measure => simp [intOf]; omega
    · obtain rfl : k = ds.length := by omega
      go_wp2
      exact bodyPost_ret (results_tmp2 rfl _ _ _) rfl ⟨⟨sl, sh, rfl⟩, hHB.out.1.trans (hHB.out.2.mono hHB.out.1.size)⟩
end Go.Proofs.Ytogkmddhgfenkaa

/- Package sturm: counts that are kept. -/
namespace Go.Proofs.Ytogkmddhgfenkaa
open Go Go.RowKit Go.Shelf
set_option maxRecDepth 100000

theorem keyedU : Maps.Keyed Try.prog 111 := Maps.Keyed.of_law (WideMaps.ArrKey.law (n := 1) (e := 34) ⟨Try.underlying111, by kernel_rfl, by kernel_rfl, by kernel_rfl⟩)
/-- A word, as a key reads. -/
def keyW (n : Nat) : Lit := .string (keyBytes [.int .u64 n])
theorem keyOfW (n : Nat) (h : n < 18446744073709551616) : keyOf Try.prog 111 (.agg #[.int .u64 n]) = some (keyW n) := by
  have hk : Try.prog.keyType 111 = true := by kernel_rfl
  have hs : ∃ m, Try.prog.types.size = m + 1 := ⟨Try.prog.types.size - 1, by kernel_rfl⟩
  obtain ⟨m, hm⟩ := hs
  have c1 : Try.prog.cellsOf 111 = 1 := by kernel_rfl
  have c2 : Try.prog.cellsOf 34 = 1 := by kernel_rfl
  have hw : (Lit.int .u64 (n : Int)).wf = true := by simp [Lit.wf, IntKind.min, IntKind.max, IntKind.bits, IntKind.signed]; omega
  unfold keyOf
  rw [Try.underlying111]
  simp only [hk, Bool.true_and]
  have hf : (Value.agg #[Value.int .u64 (n : Int)]).formed Try.prog 111 = true := by
    simp [Value.formed, Try.underlying111, c1]
  rw [if_pos hf, hm]
  unfold Program.keyLits
  rw [Try.underlying111]
  simp only [Value.cells, c1, c2]
  unfold Program.keyLits
  rw [Try.underlying34]
  simp [hw, keyW]
theorem keyW_inj {a b : Nat} (ha : a < 18446744073709551616) (hb : b < 18446744073709551616) (h : keyW a = keyW b) : a = b := by
  have h1 := keyOfW a ha
  have h2 := keyOfW b hb
  rw [h] at h1
  have := keyedU.inj h1 h2
  simp at this
  omega
/-- What is kept is as the counts are. -/
def Kept (c : Nat → Nat) (D : DataW Unit) : Prop := Maps.IsMap D ∧ ∀ k, k < 18446744073709551616 → Maps.has D (keyW k) = true → D.atKey (keyW k) (.lit (.int .i64 0)) = .lit (.int .i64 (c k))
theorem Kept.nil (c : Nat → Nat) : Kept c (.map []) := ⟨⟨_, rfl⟩, fun _ _ h => by cases h⟩
theorem Kept.put {c : Nat → Nat} {D : DataW Unit} (h : Kept c D) {k : Nat} (hk : k < 18446744073709551616) (hD : Maps.IsMap (D.put (keyW k) (.lit (.int .i64 (c k))))) : Kept c (D.put (keyW k) (.lit (.int .i64 (c k)))) := by
  refine ⟨hD, fun j hj hh => ?_⟩
  by_cases e : j = k
  · subst e
    rw [Maps.atKey_put_same h.1 (keyedU.key (keyOfW j hk))]
  · have hne : keyW j ≠ keyW k := fun e' => e (keyW_inj hj hk e')
    rw [Maps.atKey_put_other hne, h.2 j hj]
    rw [Maps.has_put_other hne] at hh
    exact hh
theorem atN_lt (p : Int) : atN p < 18446744073709551616 := by
  unfold atN
  split
  · decide
  · split
    · decide
    · split <;> omega
theorem bel_grown {W W' : World} {s : Nat} (h : W.grownBy W' (some s)) (B : Nat) (hB : B ≤ W.heap.size) : Bel B s W W' := ⟨h.os, h.tape, h.output, h.size, fun k hk hne => h.block k (by omega) (fun e => hne (by cases e; rfl))⟩

set_option maxHeartbeats 8000000 in
theorem kept_any (w : World) (da ea : Option Addr) (ds es : List Nat) (dc ec : Nat) (mb Bm Bt n : Nat) (D : DataW Unit) (p : Int) (hD : Fls w da ds) (hE : Fls w ea es) (hl : ds.length ≤ 1000) (hl' : es.length ≤ 1000)
    (hm : w.ownsMap (H := Unit) Try.prog 111 (plainElem Try.prog 3) mb n D) (hk : Kept (cntN ds es) D) (hn : n < maxLen) (xm : Box w Bm [.map (some mb)]) (xt : Box w Bt [.slice da ds.length dc, .slice ea es.length ec]) :
    Calls Try.prog 97 #[.int .i64 p, .pointer (some ⟨Bm, 0, none⟩), .pointer (some ⟨Bt, 0, none⟩)] w fun e w' => e = .returned (.int .i64 (cntN ds es (atN p))) ∧ (∃ D', w'.ownsMap (H := Unit) Try.prog 111 (plainElem Try.prog 3) mb (n + 1) D' ∧ Kept (cntN ds es) D') ∧ Bel w.heap.size mb w w' := by
  have hlt := atN_lt p
  have HKey := Lib.hid (keyOfW (atN p) hlt)
  have hkp := Lib.hid (fun (c : Int) (h1 : Maps.has D (keyW (atN p)) = true) (h2 : D.atKey (keyW (atN p)) (.lit (.int .i64 0)) = .lit (.int .i64 c)) => (show c = (cntN ds es (atN p) : Int) from by
    have := (hk.2 (atN p) hlt h1).symm.trans h2
    simp only [DataW.lit.injEq, Lit.int.injEq, true_and] at this
    exact this.symm))
  have hput := Lib.hid (fun hD' => hk.put (k := atN p) hlt hD')
  have HKe := Lib.hid hk
  have hcl : cntN ds es (atN p) ≤ 1000 := by
    unfold cntN
    split
    · exact Nat.le_trans (cntL_le ds es (atN p) (List.range ds.length)) (by rw [List.length_range]; exact hl)
    · omega
  have HC : Hid (∀ W, Below w.heap.size w W → Calls Try.prog 82 #[.agg #[.slice da ds.length dc, .slice ea es.length ec], .float .f64 (atN p)] W fun e w' => e = .returned (.int .i64 (cntN ds es (atN p))) ∧ Below W.heap.size W w') := fun W hW => by
    obtain ⟨sx, hsx⟩ := raw_self hlt
    have := count_any W da ea ds es dc ec (atN p) sx (hD.below hW) (hE.below hW) hl hl'
    rw [← hsx] at this
    exact this
  generalize cntN ds es (atN p) = cn at *
  clear hD hE hl hl' hk
  obtain ⟨m1, m2, m3⟩ := xm.facts
  obtain ⟨t1, t2, t3⟩ := xt.facts
  have hA : Below w.heap.size w (w.alloc (.cells #[.int .u64 (atN p : Int)] 111)) := (Below.refl _ _).alloc (Nat.le_refl _) _
  have hHM := Lib.hid (hm.alloc (.cells #[.int .u64 (atN p : Int)] 111))
  have hml := hm.lt
  have xk : Box (w.alloc (.cells #[.int .u64 (atN p : Int)] 111)) w.heap.size [.int .u64 (atN p : Int)] := Box.newA w [_] _ rfl
  go_enter Try.func97, Try.ntmps97
  cases hh : Maps.has D (keyW (atN p))
  · go_wp2_with (first | (go_at_call 45; refine (At13_any p _).mono ?_; rintro e w' ⟨rfl, rfl⟩) | (at_lookup; refine wpList_lookup_own_ok_int _ rfl _ _ 110 rfl 111 3 .i64 keyedU Try.underlying110 Try.underlying3 (Try.zeroValue3 _) mb n D rfl hHM.out _ _ rfl HKey.out ?_; intro c hat hwc; rw [hh]))
    refine (HC.out _ hA).mono ?_
    rintro e w3 ⟨rfl, hb3⟩
    have hm3 := ownsMap_below hHM.out hb3
    have x3 := (xm.below hA).below hb3
    have xk3 := xk.below hb3
    have hB3 := below_step hA hA.size hb3
    clear m1 m2 m3 t1 t2 t3 hat hwc
    obtain ⟨m1, m2, m3⟩ := x3.facts
    obtain ⟨k1, k2, k3⟩ := xk3.facts
    go_wp2_with (at_mapUpdate; refine wpList_mapUpdate_own _ rfl _ _ _ 110 rfl 111 3 keyedU Try.underlying110 _ mb n D rfl hm3 hn _ _ (keyW (atN p)) rfl rfl HKey.out (.lit (.int .i64 cn)) [] (plainElem_int Try.underlying3 (by simp [Lit.wf, IntKind.min, IntKind.max, IntKind.bits, IntKind.signed]; omega)) ?_; intro w4 hown4 hgrow4)
    go_ret
    refine ⟨rfl, ⟨_, hown4, hput.out hown4.isMap⟩, ?_⟩
    have := bel_grown hgrow4 w.heap.size hB3.size
    exact (Bel.of hB3).trans this
  · go_wp2_with (first | (go_at_call 45; refine (At13_any p _).mono ?_; rintro e w' ⟨rfl, rfl⟩) | (at_lookup; refine wpList_lookup_own_ok_int _ rfl _ _ 110 rfl 111 3 .i64 keyedU Try.underlying110 Try.underlying3 (Try.zeroValue3 _) mb n D rfl hHM.out _ _ rfl HKey.out ?_; intro c hat hwc; rw [hh]; obtain rfl := hkp.out c hh hat))
    go_ret
    exact ⟨rfl, ⟨D, hHM.out.mono (by omega), HKe.out⟩, Bel.of hA⟩
end Go.Proofs.Ytogkmddhgfenkaa

/- Regions that draw their order: operations that yield the same in every world of a class are taken first, in an order told; then others, one by one, that may change the world within the class; then a tail in one order. Conditions: none of the region's own; the class is kept by the operations that are carried out ahead of the tail. -/
namespace Go.Proofs.Ytogkmddhgfenkaa
open Go Go.RowKit
section
variable {P : Program} {ops : Array Oper} {Q : Exit → Act → World → Prop} {md : Region.Mode} {S : World → Prop} {n : Nat} {L : Array Bool → Act → World → Prop}

def wpAnyS (P : Program) (md : Region.Mode) (ops : Array Oper) (Q : Exit → Act → World → Prop) (S : World → Prop) (n : Nat) (L : Array Bool → Act → World → Prop) : Nat → Array Bool → Act → World → Prop
  | 0, listed, a, w => L listed a w
  | f + 1, listed, a, w =>
    Region.ready md ops listed ≠ [] ∧ ∀ i ∈ Region.ready md ops listed, i < n ∧ wpOp P ops Q i (fun a' w' => S w' ∧ wpAnyS P md ops Q S n L f (listed.setIfInBounds i true) a' w') a w

theorem wpAny_of_S {g : Nat} (hL : ∀ listed a w, L listed a w → wpAny P md ops Q g listed a w) :
    ∀ (f : Nat) (listed : Array Bool) (a : Act) (w : World), wpAnyS P md ops Q S n L f listed a w → wpAny P md ops Q (f + g) listed a w
  | 0, listed, a, w, h => by rw [Nat.zero_add]; exact hL _ _ _ h
  | f + 1, listed, a, w, h => by
    rw [show f + 1 + g = (f + g) + 1 by omega]
    exact ⟨fun h0 => absurd h0 h.1, fun i hi => wpOp_mono (fun a' w' h' => wpAny_of_S hL f _ a' w' h'.2) (h.2 i hi).2⟩

theorem wpAnyS_first {i : Nat} {oi : Oper} {v : Value} (hi : ops[i]? = some oi) (hsel : ∀ (j : Nat) (o : Oper) cs b, ops[j]? = some o → o.op ≠ .select cs b)
    (hQ : ∀ c a w, Q (.panic c) (a.put oi.dst v) w → Q (.panic c) a w)
    (hs : Region.sinkB md ops n = true) (hc : Region.chainB md ops n = true) (hn : n < ops.size) (hin : i < n)
    (hdone : ∀ listed a w, L listed a w → ∀ j ∈ Region.ready md ops listed, n ≤ j) :
    ∀ (f : Nat) (listed : Array Bool) (a : Act) (w : World), HeadInv md ops n listed →
      (∀ j oj, ops[j]? = some oj → j ≠ i → listed.getD j true = false → (∀ e ∈ oj.after, Region.binds md e = true → e.on ≠ i) → oi.apart ops oj = true) →
      i ∈ Region.ready md ops listed → YieldsIf P ops S oi v a → S w →
      wpAnyS P md ops Q S n L f (listed.setIfInBounds i true) (a.put oi.dst v) w → wpAnyS P md ops Q S n L (f + 1) listed a w := by
  intro f
  induction f with
  | zero =>
    intro listed a w inv _ hr hy hS H
    have hun := (mem_ready.1 hr).1
    refine ⟨fun h => (by rw [h] at hr; cases hr), fun j hj => ?_⟩
    have hjn : j < n := by
      rcases Nat.lt_or_ge j n with h | h
      · exact h
      · exact absurd hj (tail_waits hs hc hn inv _ i rfl hin hun j h)
    refine ⟨hjn, ?_⟩
    by_cases hji : j = i
    · subst hji; exact hy.wpOp hi hS ⟨hS, H⟩
    · have := hdone _ _ _ H j (ready_mono hj hji)
      omega
  | succ f ih =>
    intro listed a w inv hfree hr hy hS H
    have hun := (mem_ready.1 hr).1
    refine ⟨fun h => (by rw [h] at hr; cases hr), fun j hj => ?_⟩
    have hjn : j < n := by
      rcases Nat.lt_or_ge j n with h | h
      · exact h
      · exact absurd hj (tail_waits hs hc hn inv _ i rfl hin hun j h)
    refine ⟨hjn, ?_⟩
    by_cases hji : j = i
    · subst hji; exact hy.wpOp hi hS ⟨hS, H⟩
    · have h1 := (H.2 j (ready_mono hj hji)).2
      obtain ⟨hjun, oj, hoj, hall⟩ := mem_ready.1 hj
      have hnot : ∀ e ∈ oj.after, Region.binds md e = true → e.on ≠ i := fun e he hb heq => by
        have h1 := hall e he hb
        rw [heq, getD_both hun] at h1
        cases h1
      have h2 := wpOp_putIf hoj (hfree j oj hoj hji hjun hnot) (fun cs b => hsel i oi cs b hi) (fun cs b => hsel j oj cs b hoj) hQ hy h1
      have hfree' : ∀ k ok, ops[k]? = some ok → k ≠ i → (listed.setIfInBounds j true).getD k true = false →
          (∀ e ∈ ok.after, Region.binds md e = true → e.on ≠ i) → oi.apart ops ok = true := fun k ok hk hki hun hno => by
        refine hfree k ok hk hki ?_ hno
        by_cases hjk : j = k
        · subst hjk; exact hjun
        · rw [getD_set_ne true hjk] at hun; exact hun
      refine wpOp_mono (fun a' w' h3 => ⟨h3.2.1, ih (listed.setIfInBounds j true) a' w' (inv.set hj hjn) hfree' (ready_mono hr (Ne.symm hji)) h3.1 h3.2.1 ?_⟩) h2
      rw [Array.setIfInBounds_comm _ _ hji]
      exact h3.2.2

/-- The operations taken first; those that follow one by one; the tail. -/
def midB (md : Region.Mode) (ops : Array Oper) (n : Nat) : List Nat → Array Bool → Bool
  | [], listed => Region.seqB md ops (ops.size - n) n listed
  | m :: ms, listed => decide (Region.ready md ops listed = [m]) && decide (m < n) && midB md ops n ms (listed.setIfInBounds m true)
def headB (md : Region.Mode) (ops : Array Oper) (n : Nat) (ms : List Nat) : List Nat → Array Bool → Bool
  | [], listed => midB md ops n ms listed
  | p :: ps, listed => (Region.ready md ops listed).contains p && Region.free md ops listed p && decide (p < n) && headB md ops n ms ps (listed.setIfInBounds p true)

def pW (P : Program) (ops : Array Oper) (S : World → Prop) (K : Act → Prop) : List Nat → Act → Prop
  | [], a => K a
  | i :: l, a => ∃ o, ops.toList[i]? = some o ∧ ∃ v, YieldsIf P ops S o v a ∧ pW P ops S K l (a.put o.dst v)
def mW (P : Program) (ops : Array Oper) (Q : Exit → Act → World → Prop) (S : World → Prop) (K : Act → World → Prop) : List Nat → Act → World → Prop
  | [], a, w => K a w
  | i :: l, a, w => ∃ o, ops.toList[i]? = some o ∧ Region.wanted o (yielded ops a.tmps) = true ∧ Oper.wp P o a w (fun a' w' => S w' ∧ mW P ops Q S K l a' w') Q

theorem pW_take {K : Act → Prop} {i : Nat} {l : List Nat} {a : Act} {o : Oper} {v : Value} (ho : ops.toList[i]? = some o) (hw : Region.wanted o (yielded ops a.tmps) = true) (hv : ∀ w, S w → (execOp a.eval o).run P w = .ok (.value v) w)
    (h : pW P ops S K l (a.put o.dst v)) : pW P ops S K (i :: l) a := ⟨o, ho, v, .inl ⟨hw, hv⟩, h⟩
theorem pW_skip {K : Act → Prop} {i : Nat} {l : List Nat} {a : Act} {o : Oper} (ho : ops.toList[i]? = some o) (hw : Region.wanted o (yielded ops a.tmps) = false) (h : pW P ops S K l (a.put o.dst undef)) : pW P ops S K (i :: l) a := ⟨o, ho, undef, .inr ⟨hw, rfl⟩, h⟩
theorem pW_nil {K : Act → Prop} {a : Act} (h : K a) : pW P ops S K [] a := h
theorem mW_take {K : Act → World → Prop} {i : Nat} {l : List Nat} {a : Act} {w : World} {o : Oper} (ho : ops.toList[i]? = some o) (hg : Region.wanted o (yielded ops a.tmps) = true) (h : Oper.wp P o a w (fun a' w' => S w' ∧ mW P ops Q S K l a' w') Q) : mW P ops Q S K (i :: l) a w := ⟨o, ho, hg, h⟩
theorem mW_nil {K : Act → World → Prop} {a : Act} {w : World} (h : K a w) : mW P ops Q S K [] a w := h
theorem wpAnyS_mid {K : Act → World → Prop} : ∀ (ms : List Nat) (listed : Array Bool) (a : Act) (w : World), midB md ops n ms listed = true →
    mW P ops Q S K ms a w → wpAnyS P md ops Q S n (fun listed a w => Region.seqB md ops (ops.size - n) n listed = true ∧ K a w) ms.length listed a w
  | [], listed, a, w, hB, h => ⟨by simpa only [midB] using hB, h⟩
  | m :: ms, listed, a, w, hB, h => by
    simp only [midB, Bool.and_eq_true, decide_eq_true_eq] at hB
    obtain ⟨⟨hr, hmn⟩, hB⟩ := hB
    obtain ⟨o, ho', hg, hw⟩ := h
    have ho : ops[m]? = some o := by simpa using ho'
    refine ⟨by rw [hr]; simp, fun i hi => ?_⟩
    rw [hr] at hi
    obtain rfl : i = m := by simpa using hi
    refine ⟨hmn, ?_⟩
    unfold wpOp
    simp only [ho]
    rw [if_pos hg]
    exact .inl (Oper.wp_mono (fun a' w' h' => ⟨h'.1, wpAnyS_mid ms _ a' w' hB h'.2⟩) hw)

theorem wpAnyS_walk {K : Act → World → Prop} {w : World} (hsel : Region.noSelect ops = true) (hQ : ∀ c a d v w, Q (.panic c) (Act.put a d v) w → Q (.panic c) a w)
    (hs : Region.sinkB md ops n = true) (hc : Region.chainB md ops n = true) (hn : n < ops.size) (hS : S w) (ms : List Nat) :
    ∀ (ps : List Nat) (listed : Array Bool) (a : Act), HeadInv md ops n listed → headB md ops n ms ps listed = true →
    pW P ops S (fun a' => mW P ops Q S K ms a' w) ps a → wpAnyS P md ops Q S n (fun listed a w => Region.seqB md ops (ops.size - n) n listed = true ∧ K a w) (ps.length + ms.length) listed a w
  | [], listed, a, inv, hB, h => by
    rw [List.length_nil, Nat.zero_add]
    exact wpAnyS_mid ms listed a w hB h
  | p :: ps, listed, a, inv, hB, h => by
    simp only [headB, Bool.and_eq_true, decide_eq_true_eq] at hB
    obtain ⟨⟨⟨hr, hf⟩, hpn⟩, hB⟩ := hB
    obtain ⟨o, ho', v, hy, hK⟩ := h
    have ho : ops[p]? = some o := by simpa using ho'
    have hr' : p ∈ Region.ready md ops listed := by simpa using hr
    rw [show (p :: ps).length + ms.length = (ps.length + ms.length) + 1 by simp; omega]
    exact wpAnyS_first ho (Region.noSelect_spec hsel) (fun c a w => hQ c a _ _ w) hs hc hn hpn (fun listed' a' w' hL => seqB_ready hL.1) _ listed a w inv (Region.free_spec ho hf) hr' hy hS
      (wpAnyS_walk hsel hQ hs hc hn hS ms ps _ _ (inv.set hr' hpn) hB hK)

def firstB (l : List Oper) (n : Nat) (ps ms : List Nat) : Bool :=
  Region.noSelect l.toArray && decide (n < l.toArray.size) && decide (n = ps.length + ms.length) && Region.sinkB .any l.toArray n && Region.chainB .any l.toArray n && headB .any l.toArray n ms ps (Array.replicate l.toArray.size false)

theorem wp_region_first0 {id : Nat} {a : Act} {w : World} {l : List Oper} (n : Nat) (ps ms : List Nat) (S : World → Prop) (hm : P.follows .mixedOrders = true) (hB : firstB l n ps ms = true)
    (hQ : ∀ c a d v w, Q (.panic c) (Act.put a d v) w → Q (.panic c) a w) (hS : S w.drew)
    (h : pW P l.toArray S (fun a' => mW P l.toArray Q S (fun a'' w'' => wpList P l.toArray Q (l.drop n) a'' w'') ms a' w.drew) ps a) : (Code.region id l.toArray true).wp P Q a w := by
  simp only [firstB, Bool.and_eq_true, decide_eq_true_eq] at hB
  obtain ⟨⟨⟨⟨⟨hsel, hn⟩, hlen⟩, hs⟩, hc⟩, hH⟩ := hB
  refine wp_region_any hm ?_
  have hsz : l.toArray.size = (ps.length + ms.length) + (l.toArray.size - n) := by omega
  have inv : HeadInv .any l.toArray n (Array.replicate l.toArray.size false) :=
    ⟨by simp, fun j oj _ hl => (by rw [getD_replicate_false] at hl; cases hl), fun t _ ht => getD_in (by rw [Array.size_replicate]; exact ht) (getD_replicate_false _ _)⟩
  have hW := wpAnyS_walk hsel hQ hs hc hn hS ms ps _ a inv hH h
  refine (congrArg (fun k => wpAny P .any l.toArray Q k (Array.replicate l.toArray.size false) a w.drew) hsz).mpr ?_
  refine wpAny_of_S (fun listed a w hL => ?_) _ _ _ _ hW
  have hd : (l.drop n).length = l.toArray.size - n := by simp
  have := wpAny_of_seq (Q' := Q) (l.drop n) n listed a w (fun j => by simp) (by rw [hd]; exact hL.1) hL.2
  rw [hd] at this
  exact this
/-- **THE REGION.** -/
theorem wp_region_first {id : Nat} {a : Act} {w : World} {l : List Oper} (n : Nat) (ps ms : List Nat) (S : World → Prop) (hm : P.follows .mixedOrders = true) (hB : firstB l n ps ms = true) (hS : S w.drew)
    (h : pW P l.toArray S (fun a' => mW P l.toArray (NoPanic Q) S (fun a'' w'' => wpList P l.toArray (NoPanic Q) (l.drop n) a'' w'') ms a' w.drew) ps a) : (Code.region id l.toArray true).wp P Q a w :=
  wp_region_noPanic (wp_region_first0 n ps ms S hm hB (fun _ _ _ _ _ h => h) hS h)
end
end Go.Proofs.Ytogkmddhgfenkaa

/- Regions that draw their order: operations taken first and operations carried out one by one, in turns. No condition. -/
namespace Go.Proofs.Ytogkmddhgfenkaa
open Go Go.RowKit
section
variable {P : Program} {ops : Array Oper} {Q : Exit → Act → World → Prop} {md : Region.Mode} {S : World → Prop} {n : Nat} {L : Array Bool → Act → World → Prop}
/-- true: taken first; false: the only one that may come. -/
def itemsB (md : Region.Mode) (ops : Array Oper) (n : Nat) : List (Bool × Nat) → Array Bool → Bool
  | [], listed => Region.seqB md ops (ops.size - n) n listed
  | (b, i) :: l, listed => (if b then (Region.ready md ops listed).contains i && Region.free md ops listed i else decide (Region.ready md ops listed = [i])) && decide (i < n) && itemsB md ops n l (listed.setIfInBounds i true)
def iW (P : Program) (ops : Array Oper) (Q : Exit → Act → World → Prop) (S : World → Prop) (K : Act → World → Prop) : List (Bool × Nat) → Act → World → Prop
  | [], a, w => K a w
  | (true, i) :: l, a, w => ∃ o, ops.toList[i]? = some o ∧ ∃ v, YieldsIf P ops S o v a ∧ iW P ops Q S K l (a.put o.dst v) w
  | (false, i) :: l, a, w => ∃ o, ops.toList[i]? = some o ∧ Region.wanted o (yielded ops a.tmps) = true ∧ Oper.wp P o a w (fun a' w' => S w' ∧ iW P ops Q S K l a' w') Q
theorem iW_take {K : Act → World → Prop} {i : Nat} {l : List (Bool × Nat)} {a : Act} {w : World} {o : Oper} {v : Value} (ho : ops.toList[i]? = some o) (hw : Region.wanted o (yielded ops a.tmps) = true) (hv : ∀ w, S w → (execOp a.eval o).run P w = .ok (.value v) w)
    (h : iW P ops Q S K l (a.put o.dst v) w) : iW P ops Q S K ((true, i) :: l) a w := ⟨o, ho, v, .inl ⟨hw, hv⟩, h⟩
theorem iW_skip {K : Act → World → Prop} {i : Nat} {l : List (Bool × Nat)} {a : Act} {w : World} {o : Oper} (ho : ops.toList[i]? = some o) (hw : Region.wanted o (yielded ops a.tmps) = false) (h : iW P ops Q S K l (a.put o.dst undef) w) : iW P ops Q S K ((true, i) :: l) a w := ⟨o, ho, undef, .inr ⟨hw, rfl⟩, h⟩
theorem iW_mid {K : Act → World → Prop} {i : Nat} {l : List (Bool × Nat)} {a : Act} {w : World} {o : Oper} (ho : ops.toList[i]? = some o) (hw : Region.wanted o (yielded ops a.tmps) = true) (h : Oper.wp P o a w (fun a' w' => S w' ∧ iW P ops Q S K l a' w') Q) : iW P ops Q S K ((false, i) :: l) a w := ⟨o, ho, hw, h⟩
theorem iW_nil {K : Act → World → Prop} {a : Act} {w : World} (h : K a w) : iW P ops Q S K [] a w := h

theorem wpAnyS_items {K : Act → World → Prop} (hsel : Region.noSelect ops = true) (hQ : ∀ c a d v w, Q (.panic c) (Act.put a d v) w → Q (.panic c) a w)
    (hs : Region.sinkB md ops n = true) (hc : Region.chainB md ops n = true) (hn : n < ops.size) :
    ∀ (l : List (Bool × Nat)) (listed : Array Bool) (a : Act) (w : World), HeadInv md ops n listed → itemsB md ops n l listed = true → S w →
    iW P ops Q S K l a w → wpAnyS P md ops Q S n (fun listed a w => Region.seqB md ops (ops.size - n) n listed = true ∧ K a w) l.length listed a w
  | [], listed, a, w, _, hB, _, h => ⟨by simpa only [itemsB] using hB, h⟩
  | (true, p) :: l, listed, a, w, inv, hB, hS, h => by
    simp only [itemsB, if_true, Bool.and_eq_true, decide_eq_true_eq] at hB
    obtain ⟨⟨⟨hr, hf⟩, hpn⟩, hB⟩ := hB
    obtain ⟨o, ho', v, hy, hK⟩ := h
    have ho : ops[p]? = some o := by simpa using ho'
    have hr' : p ∈ Region.ready md ops listed := by simpa using hr
    exact wpAnyS_first ho (Region.noSelect_spec hsel) (fun c a w => hQ c a _ _ w) hs hc hn hpn (fun listed' a' w' hL => seqB_ready hL.1) _ listed a w inv (Region.free_spec ho hf) hr' hy hS
      (wpAnyS_items hsel hQ hs hc hn l _ _ w (inv.set hr' hpn) hB hS hK)
  | (false, m) :: l, listed, a, w, inv, hB, hS, h => by
    simp only [itemsB, Bool.false_eq_true, if_false, Bool.and_eq_true, decide_eq_true_eq] at hB
    obtain ⟨⟨hr, hmn⟩, hB⟩ := hB
    obtain ⟨o, ho', hg, hw⟩ := h
    have ho : ops[m]? = some o := by simpa using ho'
    have hr' : m ∈ Region.ready md ops listed := by rw [hr]; simp
    refine ⟨by rw [hr]; simp, fun i hi => ?_⟩
    rw [hr] at hi
    obtain rfl : i = m := by simpa using hi
    refine ⟨hmn, ?_⟩
    unfold wpOp
    simp only [ho]
    rw [if_pos hg]
    exact .inl (Oper.wp_mono (fun a' w' h' => ⟨h'.1, wpAnyS_items hsel hQ hs hc hn l _ a' w' (inv.set hr' hmn) hB h'.1 h'.2⟩) hw)

def itemsR (l : List Oper) (n : Nat) (is : List (Bool × Nat)) : Bool :=
  Region.noSelect l.toArray && decide (n < l.toArray.size) && decide (n = is.length) && Region.sinkB .any l.toArray n && Region.chainB .any l.toArray n && itemsB .any l.toArray n is (Array.replicate l.toArray.size false)
/-- **THE REGION.** -/
theorem wp_region_items {id : Nat} {a : Act} {w : World} {l : List Oper} (n : Nat) (is : List (Bool × Nat)) (S : World → Prop) (hm : P.follows .mixedOrders = true) (hB : itemsR l n is = true) (hS : S w.drew)
    (h : iW P l.toArray (NoPanic Q) S (fun a'' w'' => wpList P l.toArray (NoPanic Q) (l.drop n) a'' w'') is a w.drew) : (Code.region id l.toArray true).wp P Q a w := by
  refine wp_region_noPanic ?_
  simp only [itemsR, Bool.and_eq_true, decide_eq_true_eq] at hB
  obtain ⟨⟨⟨⟨⟨hsel, hn⟩, hlen⟩, hs⟩, hc⟩, hH⟩ := hB
  refine wp_region_any hm ?_
  have hsz : l.toArray.size = is.length + (l.toArray.size - n) := by omega
  have inv : HeadInv .any l.toArray n (Array.replicate l.toArray.size false) :=
    ⟨by simp, fun j oj _ hl => (by rw [getD_replicate_false] at hl; cases hl), fun t _ ht => getD_in (by rw [Array.size_replicate]; exact ht) (getD_replicate_false _ _)⟩
  have hW := wpAnyS_items hsel (fun _ _ _ _ _ h => h) hs hc hn is _ a w.drew inv hH hS h
  refine (congrArg (fun k => wpAny P .any l.toArray (NoPanic Q) k (Array.replicate l.toArray.size false) a w.drew) hsz).mpr ?_
  refine wpAny_of_S (fun listed a w hL => ?_) _ _ _ _ hW
  have hd : (l.drop n).length = l.toArray.size - n := by simp
  have := wpAny_of_seq (Q' := NoPanic Q) (l.drop n) n listed a w (fun j => by simp) (by rw [hd]; exact hL.1) hL.2
  rw [hd] at this
  exact this
end
end Go.Proofs.Ytogkmddhgfenkaa
