/- The document's All (printed by gen_ra.py). -/
import Derived.Test.YtogkmddhgfenkaaZz18
import Derived.Test.YtogkmddhgfenkaaZz16
import Derived.Test.YtogkmddhgfenkaaZz15
namespace Go.Proofs.Ytogkmddhgfenkaa
open Go Go.RowKit
set_option maxRecDepth 100000

set_option maxHeartbeats 16000000 in
theorem RAll_ok (w : World) (da ea : Option Addr) (ds es : List Nat) (dc ec : Nat) (hD : Fls w da ds) (hE : Fls w ea es) (hW : Words es) (hl : ds.length ≤ 1000) (hz : allE ds es = 0) :
    Calls Try.prog 59 #[.agg #[.slice da ds.length dc, .slice ea es.length ec]] w fun e w' => ∃ sv, e = .returned (.tuple #[sv, .int .i64 (allM ds es ds.length), .bool true]) ∧ w'.ownsRow w.heap.size 35 1 sv ds.length ((allL ds es ds.length).map (Value.float .f64)) ∧ Below w.heap.size w w' := by
  obtain ⟨i0, hi0, hz0, hz1, hz2⟩ := info_parts info_f64
  have x0 : Box (w.alloc (.cells #[.slice da ds.length dc, .slice ea es.length ec] 51)) w.heap.size [.slice da ds.length dc, .slice ea es.length ec] := Box.newA w [_, _] _ rfl
  have hB0 : Below w.heap.size w (w.alloc (.cells #[.slice da ds.length dc, .slice ea es.length ec] 51)) := (Below.refl _ _).alloc (Nat.le_refl _) _
  have hbz : ds.length ≠ 0 → bndE ds es = 0 := fun hn => by
    unfold allE at hz
    by_cases h : askS ds es [] = 0
    · rw [if_pos ⟨h, hn⟩] at hz; exact hz
    · rw [if_neg (fun k => h k.1)] at hz; exact absurd hz h
  have HF := Lib.hid (fun (W : World) (hW' : Below w.heap.size w W) (k : Int) (hn : ds.length ≠ 0) => RFind_yes W da ea ds es dc ec k (hD.below hW') (hE.below hW') hW hl (hbz hn))
  have hln : ds.length ≤ 9223372036854775807 := by omega
  clear hD hE hW hz hbz
  go_enter Try.func59, Try.ntmps59
  go_wp2_with fail
  have hsz0 : w.heap.size < (w.alloc (.cells #[.slice da ds.length dc, .slice ea es.length ec] 51)).heap.size := by simp
  generalize w.alloc (.cells #[.slice da ds.length dc, .slice ea es.length ec] 51) = w0 at *
  go_loopw [5, 6, 7] (fun s5 s6 s7 wr => ∃ k : Nat, k ≤ ds.length ∧ s7 = .int .i64 k ∧ s6 = .int .i64 (allM ds es k : Nat) ∧ wr.ownsRow w0.heap.size 35 1 s5 k ((allL ds es k).map (Value.float .f64)) ∧ Below w0.heap.size w0 wr) (fun _ _ s7 _ => ds.length - (intOf s7).toNat)
  case atStart => exact ⟨0, Nat.zero_le _, rfl, rfl, World.ownsRow_nil _ _ _ _, Below.refl _ _⟩
  case round =>
    obtain ⟨k, hk, rfl, rfl, hrow, hB⟩ := hrel
    have x1 := x0.below hB
    obtain ⟨a1, a2, a3⟩ := x1.facts
    have hBw := below_step hB0 hB0.size hB
    by_cases hlt : k < ds.length
    · have hkb : k + 1 ≤ 1000 := by omega
      have hmk := allM_le ds es k
      have hvk : (valK ds es k).2 ≤ 0 + 64 := fndS_le _ _ _ _ _ _
      have hM : allM ds es (k + 1) = allM ds es k + (valK ds es k).2 := rfl
      have HM := Lib.hid hM
      clear hM
      have HFk := Lib.hid (HF.out wr hBw (k : Int) (by omega))
      have HI := Lib.hid (show _ ∧ _ from ⟨hrow, hB⟩)
      clear hrow hB hBw x1 hk
      go_wp2_with fail
      refine HFk.out.mono ?_
      rintro e w4 ⟨rfl, hb4⟩
      have row4 := ownsRow_bel HI.out.1 (Bel.of (s := w.heap.size) hb4) hsz0
      have hbel4 := below_step HI.out.2 HI.out.2.size hb4
      have hsz4 := hbel4.size
      have hll := allL_length ds es k
      have HX := Lib.hid (show _ ∧ _ from ⟨row4, hbel4⟩)
      clear a1 a2 a3 hb4 hbel4 HI HFk
      rcases Nat.eq_zero_or_pos k with h0 | h0
      · have t0 : decide ((0 : Int) < (k : Int)) = false := by simp; omega
        have t0' : decide (0 < k) = false := by simp; omega
        have HN := Lib.hid (show allL ds es (k + 1) = allL ds es k ++ [atN (valK ds es (k : Nat)).1] from by rw [allL, if_neg (fun h => absurd h.1 (by omega))])
        clear hll h0 row4
        generalize allM ds es k = am at *
        generalize (valK ds es (k : Nat)).2 = vm at *
        generalize atN (valK ds es (k : Nat)).1 = vx at *
        go_wp2_with (at_builtin; refine wpList_append_lies _ rfl (.tmp 46) (.tmp 48) 24 rfl w0.heap.size 35 i0 (.float .f64 0) 1 8 Try.underlying24 hi0 hz0 hz1 hz2 rfl (by decide) _ (k) _ rfl (HX.out.1.alloc _) _ 1 1 [.float .f64 _] rfl rfl (cell_one_new _ _ _) (by simp [Value.oneCell']) (by decide) (by unfold maxLen; omega) (by omega) (by simp; omega) _ rfl ?_; intro g' cap' w5 hown hgrow hat hlt')
        go_roundw
        case rel =>
          obtain ⟨row4, hbel4⟩ := HX.out
          have hbA : Below w0.heap.size w4 (w4.alloc (.cells #[.float .f64 vx] 35)) := (Below.refl _ _).alloc hsz4 _
          have hb5 : Below w0.heap.size w4 w5 := hbA.grown hgrow (by simp; omega) (fun r e => (row4.lt r e).1)
          refine ⟨k + 1, by omega, by go_num, by rw [HM.out]; go_num, ?_, hbel4.trans hb5⟩
          rw [HN.out, List.map_append]; exact hown
        case measure => simp [intOf]; omega
      · obtain ⟨j, rfl⟩ : ∃ j, k = j + 1 := ⟨k - 1, by omega⟩
        obtain ⟨g, cap, rfl, hc, hgl⟩ := ownsRow_atS row4 (k := j) (by omega)
        have c1 : w4.cell? ⟨g, j, none⟩ = some (.float .f64 ((allL ds es (j + 1)).getD j 0)) := by
          rw [hc, List.getElem?_map]
          simp [show j < (allL ds es (j + 1)).length by omega]
        clear hc row4
        cases hf : flt (atN (valK ds es ((j + 1 : Nat) : Int)).1) ((allL ds es (j + 1)).getD j 0)
        · have HN := Lib.hid (show allL ds es (j + 1 + 1) = allL ds es (j + 1) ++ [atN (valK ds es (j + 1 : Nat)).1] from by rw [allL, if_neg (fun h => by have := h.2; rw [Nat.add_sub_cancel, hf] at this; cases this)])
          clear hll
          generalize allM ds es (j + 1) = am at *
          generalize (valK ds es (j + 1 : Nat)).2 = vm at *
          generalize atN (valK ds es (j + 1 : Nat)).1 = vx at *
          generalize (allL ds es (j + 1)).getD j 0 = wl at *
          go_wp2_with (at_builtin; refine wpList_append_lies _ rfl (.tmp 46) (.tmp 48) 24 rfl w0.heap.size 35 i0 (.float .f64 0) 1 8 Try.underlying24 hi0 hz0 hz1 hz2 rfl (by decide) _ (j + 1) _ rfl (HX.out.1.alloc _) _ 1 1 [.float .f64 _] rfl rfl (cell_one_new _ _ _) (by simp [Value.oneCell']) (by decide) (by unfold maxLen; omega) (by omega) (by simp; omega) _ rfl ?_; intro g' cap' w5 hown hgrow hat hlt')
          go_roundw
          case rel =>
            obtain ⟨row4, hbel4⟩ := HX.out
            have hbA : Below w0.heap.size w4 (w4.alloc (.cells #[.float .f64 vx] 35)) := (Below.refl _ _).alloc hsz4 _
            have hb5 : Below w0.heap.size w4 w5 := hbA.grown hgrow (by simp; omega) (fun r e => (row4.lt r e).1)
            refine ⟨j + 1 + 1, by omega, by go_num, by rw [HM.out]; go_num, ?_, hbel4.trans hb5⟩
            rw [HN.out, List.map_append]; exact hown
          case measure => simp [intOf]; omega
        · have HN := Lib.hid (show allL ds es (j + 1 + 1) = allL ds es (j + 1) ++ [(allL ds es (j + 1)).getD j 0] from by rw [allL, if_pos ⟨Nat.succ_pos _, by rw [Nat.add_sub_cancel]; exact hf⟩, Nat.add_sub_cancel])
          clear hll
          generalize allM ds es (j + 1) = am at *
          generalize (valK ds es (j + 1 : Nat)).2 = vm at *
          generalize atN (valK ds es (j + 1 : Nat)).1 = vx at *
          generalize (allL ds es (j + 1)).getD j 0 = wl at *
          go_wp2_with (at_builtin; refine wpList_append_lies _ rfl (.tmp 46) (.tmp 48) 24 rfl w0.heap.size 35 i0 (.float .f64 0) 1 8 Try.underlying24 hi0 hz0 hz1 hz2 rfl (by decide) _ (j + 1) _ rfl (HX.out.1.alloc _) _ 1 1 [.float .f64 _] rfl rfl (cell_one_new _ _ _) (by simp [Value.oneCell']) (by decide) (by unfold maxLen; omega) (by omega) (by simp; omega) _ rfl ?_; intro g' cap' w5 hown hgrow hat hlt')
          go_roundw
          case rel =>
            obtain ⟨row4, hbel4⟩ := HX.out
            have hbA : Below w0.heap.size w4 (w4.alloc (.cells #[.float .f64 wl] 35)) := (Below.refl _ _).alloc hsz4 _
            have hb5 : Below w0.heap.size w4 w5 := hbA.grown hgrow (by simp; omega) (fun r e => (row4.lt r e).1)
            refine ⟨j + 1 + 1, by omega, by go_num, by rw [HM.out]; go_num, ?_, hbel4.trans hb5⟩
            rw [HN.out, List.map_append]; exact hown
          case measure => simp [intOf]; omega
    · obtain rfl : k = ds.length := by omega
      have HI := Lib.hid (show _ ∧ _ from ⟨ownsRow_monoS hrow (Nat.le_of_lt hsz0), hBw⟩)
      clear hrow hB hBw
      go_wp2
      exact bodyPost_ret (results_tmp3 rfl _ _ _) rfl ⟨_, rfl, HI.out.1, HI.out.2⟩
end Go.Proofs.Ytogkmddhgfenkaa

/- 'SturmCounts': pivots, and how many are below nought. -/
namespace Go.Proofs.Ytogkmddhgfenkaa
open Go Go.RowKit
set_option maxRecDepth 100000

theorem askS_snoc (ds es : List Nat) (x : Nat) : (if askS ds es [] = 0 ∧ ffin x = false then (10 : Int) else askS ds es []) = askS ds es [x] := by
  unfold askS
  rw [← fnS_ffin]
  cases mayS ds.length es.length
  · simp
  · cases ds.all fnS <;> cases es.all fnS <;> cases h : fnS x <;> simp [h]
theorem words_one {x : Nat} (hx : x < 18446744073709551616) : Words [x] := by
  intro v hv
  simp at hv
  subst hv
  exact hx
theorem ask_len1 {ds es ms : List Nat} (h : askS ds es ms = 0) : es.length = ds.length - 1 := by
  unfold askS at h
  cases hm : mayS ds.length es.length
  · rw [hm] at h; cases h
  · unfold mayS at hm; simp at hm; exact hm.2
theorem fls_nil (w : World) : Fls w none [] := fun h => absurd rfl h
set_option maxHeartbeats 8000000 in
theorem counts_raw (w : World) (da ea : Option Addr) (ds es : List Nat) (dc ec x sx : Nat) (leave : Int) (hx : x < 18446744073709551616) (hD : Fls w da ds) (hE : Fls w ea es) (hWd : Words ds) (hW : Words es) (hl : ds.length ≤ maxLen) (hl' : es.length ≤ maxLen) :
    Calls Try.prog 11 #[.agg #[.slice da ds.length dc, .slice ea es.length ec], .float .f64 (raw x sx), .int .i64 leave] w fun e w' => e = .returned (.bool true) ∧ Below w.heap.size w w' := by
  have x0 : Box (w.alloc (.cells #[.slice da ds.length dc, .slice ea es.length ec] 51)) w.heap.size [.slice da ds.length dc, .slice ea es.length ec] := Box.newA w [_, _] _ rfl
  have hB0 : Below w.heap.size w (w.alloc (.cells #[.slice da ds.length dc, .slice ea es.length ec] 51)) := (Below.refl _ _).alloc (Nat.le_refl _) _
  by_cases hbig : 40 < ds.length ∨ 40 < es.length
  · have HB := Lib.hid (fun W => big_yes W da ea ds.length es.length dc ec 40 hbig)
    clear hD hE hWd hW hl hl' hbig
    go_enter Try.func11, Try.ntmps11
    go_wp2_with fail
    refine (HB.out _).mono ?_
    rintro e w1 ⟨rfl, hb1⟩
    have hB1 := below_step hB0 hB0.size hb1
    go_wp2_with fail
    refine (known13 _).mono ?_
    rintro e w2 ⟨rfl, hb2⟩
    go_wp2
    go_ret
    exact ⟨rfl, below_step hB1 hB1.size hb2⟩
  · have hn1 : ¬ 40 < ds.length := fun h => hbig (.inl h)
    have hn2 : ¬ 40 < es.length := fun h => hbig (.inr h)
    have HBig := Lib.hid (fun W => big_no W da ea ds.length es.length dc ec 40 hn1 hn2)
    have HCnt := Lib.hid (fun W (hW' : Below w.heap.size w W) => Count_any W da ea ds es dc ec x sx (hD.below hW') (hE.below hW') (by omega) (by omega))
    have HAsk := Lib.hid (fun W (hW' : Below w.heap.size w W) => askR_askS ds es ▸ RAsk_any W da ea ds es dc ec (hD.below hW') (hE.below hW') hWd hW hl hl')
    have HM1 := Lib.hid (fun (W : World) => May13_any W da ea ds.length es.length dc ec hl hl')
    have HM2 := Lib.hid (fun (W : World) => RMay13_any W da ea ds.length es.length dc ec hl hl')
    have HOn := Lib.hid (fun W (hW' : Below w.heap.size w W) (wa : Option Addr) (ws : List Nat) (wc : Nat) (most : Int) (hF : Fls W wa ws) (hws : ws = onceL ds es x) => once13_any W da ea wa ds es ws dc ec wc x sx most (hD.below hW') (hE.below hW') hF hws (by omega) (by omega))
    have HPv := Lib.hid (fun (h : askS ds es [x] = 0) W (hW' : Below w.heap.size w W) => RPivots_any W da ea ds es dc ec x sx (hD.below hW') (hE.below hW') (by omega) (ask_len1 h))
    have HRc := Lib.hid (fun (h : askS ds es [x] = 0) W (hW' : Below w.heap.size w W) => RCount_any W da ea ds es dc ec x sx (hD.below hW') (hE.below hW') (by omega) (ask_len1 h))
    have HN0 : Hid (askS ds es [x] ≠ 0 → cntN ds es x = 0 ∧ onceL ds es x = []) := fun h => ⟨by unfold cntN; rw [if_neg h], by unfold onceL; rw [if_neg h]⟩
    have HN1 : Hid (askS ds es [x] = 0 → cntN ds es x = cntK ds es x ds.length ∧ onceL ds es x = pivL ds es x) := fun h => ⟨by unfold cntN; rw [if_pos h], by unfold onceL; rw [if_pos h]⟩
    have HS := Lib.hid (askS_snoc ds es x)
    have HNum := Lib.hid (fun n W => num13_any n W)
    have HL := Lib.hid (pivL_length ds es x)
    clear hD hE hWd hW hl hl' hbig hn1 hn2
    generalize mayS ds.length es.length = qm at *
    generalize askS ds es [] = a0 at *
    generalize askS ds es [x] = a1 at *
    generalize cntN ds es x = cN at *
    generalize cntK ds es x ds.length = cK at *
    go_enter Try.func11, Try.ntmps11
    go_wp2_with fail
    refine (HBig.out _).mono ?_
    rintro e w1 ⟨rfl, hb1⟩
    have x1 := x0.below hb1
    have hB1 := below_step hB0 hB0.size hb1
    obtain ⟨q1, q2, q3⟩ := x1.facts
    clear x0 hB0 hb1 HBig
    go_wp2_with fail
    refine (HCnt.out _ hB1).mono ?_
    rintro e w2 ⟨rfl, hb2⟩
    have x2 := x1.below hb2
    have hB2 := below_step hB1 hB1.size hb2
    clear x1 hB1 hb2 q1 q2 q3 HCnt
    obtain ⟨q1, q2, q3⟩ := x2.facts
    go_wp2_with fail
    refine (HAsk.out _ hB2).mono ?_
    rintro e w3 ⟨rfl, hb3⟩
    have x3 := x2.below hb3
    have hB3 := below_step hB2 hB2.size hb3
    clear x2 hB2 hb3 q1 q2 q3 HAsk
    obtain ⟨q1, q2, q3⟩ := x3.facts
    -- the region that asks the float
    by_cases h0 : a0 = 0
    case neg =>
      have h1 : a1 = a0 := by rw [← HS.out, if_neg (fun h => h0 h.1)]
      subst h1
      have HNo := Lib.hid (HN0.out h0)
      have hc0 : cN = 0 := HNo.out.1
      subst hc0
      have t1 : (a1 == 0) = false := by simp [h0]
      have t2 : (a1 != 0) = true := by simp [h0]
      have t3 : (a1 != a1) = false := by simp
      clear h0
      go_upto_region 7 with (fail)
      refine wp_region_nqd 11  (by kernel_rfl) (by kernel_rfl) ?_
      intro Cw Rw hc hb' hb2 hd hRw
      simp only [List.take_succ_cons, List.take_zero]
      repeat (
        first
          | (refine nqW_skip rfl (fun K hK => ?_); go_frame; refine hK _ ?_; clear hK K)
          | ((first | (refine nqW_plain (fun K hK => ?_)) | (refine nqW_want rfl (fun K hK => ?_)) | (refine nqW_step (fun K hK => ?_); go_simp))
             first
               | (refine nq_move rfl ?_; go_simp; refine hK _ ?_; clear hK K)
               | (refine nq_assign rfl ?_; go_simp; refine hK _ ?_; clear hK K)
               | (refine nq_flt rfl rfl rfl rfl hd ?_; intro _; go_frame; refine hK _ ?_; clear hK K)
               | (refine nq_inC rfl ?_; intro w' hw'; go_simp; refine fd_both (V := (.bool qm)) (by kernel_rfl) (fun w2 hw2 => ?_) ?_; (next => (go_at_call 50; exact (HM1.out w2).mono (fun e w3 ⟨he, hb⟩ => ⟨he, hb2 _ _ hw2 hb⟩))); (try go_simp); refine hK _ ?_; clear hK K hw' w')
               | (refine nq_inC rfl ?_; intro w' hw'; go_simp; refine fd_both (V := (.bool qm)) (by kernel_rfl) (fun w2 hw2 => ?_) ?_; (next => (go_at_call 51; exact (HM2.out w2).mono (fun e w3 ⟨he, hb⟩ => ⟨he, hb2 _ _ hw2 hb⟩))); (try go_simp); refine hK _ ?_; clear hK K hw' w')
               | (refine nq_inC rfl ?_; intro w' hw'; go_simp; refine fd_both (V := (.int .i64 a1)) (by kernel_rfl) (fun w2 hw2 => ?_) ?_; (next => (go_at_call 38; exact (((HNum.out a1 w2).mono fun e w' (⟨h1, h2⟩ : e = Ending.returned (.int .i64 a1) ∧ w2 = w') => (⟨h1, h2 ▸ Below.refl _ _⟩ : e = Ending.returned (.int .i64 a1) ∧ Below w2.heap.size w2 w'))).mono (fun e w3 ⟨he, hb⟩ => ⟨he, hb2 _ _ hw2 hb⟩))); (try go_simp); refine hK _ ?_; clear hK K hw' w')
               | (refine nq_same ?_; intro w' hw'; go_simp; (try go_bits); refine hK _ ?_; clear hK K hw' w')
               | (refine nq_same ?_; intro w' hw'; go_simp; rw [if_pos (by omega)]; go_simp; (try go_bits); refine hK _ ?_; clear hK K hw' w')
               | (go_simp; refine hK _ ?_; clear hK K)))
      refine nqW_nil (hRw _ ?_)
      clear hc hb' hb2 hd hRw
      intro w' hw'
      simp only [List.drop]
      have xr := x3.below hw'
      have hBr := below_step hB3 hB3.size hw'
      clear q1 q2 q3 x3 hB3 hw'
      obtain ⟨q1, q2, q3⟩ := xr.facts
      go_wp2_with (fail)
      refine (HOn.out _ hBr none [] 0 0 (fls_nil _) HNo.out.2.symm).mono ?_
      rintro e w8 ⟨rfl, hb8⟩
      have hB8 := below_step hBr hBr.size hb8
      go_wp2_with fail
      refine (known13 _).mono ?_
      rintro e w9 ⟨rfl, hb9⟩
      go_wp2
      go_ret
      exact ⟨rfl, below_step hB8 hB8.size hb9⟩
    case pos =>
      subst h0
      have hA4 : Below w3.heap.size w3 (w3.alloc (.cells #[.float .f64 (raw x sx)] 35)) := (Below.refl _ _).alloc (Nat.le_refl _) _
      have x4 := x3.below hA4
      have hB4 := below_step hB3 hB3.size hA4
      have HFin := Lib.hid (RFinite_any (w3.alloc (.cells #[.float .f64 (raw x sx)] 35)) (some ⟨w3.heap.size, 0, none⟩) [x] 1 (fls_one w3 35 x sx) (words_one hx) (by unfold maxLen; simp))
      have ea : [x].all ffin = ffin x := by simp
      rw [ea] at HFin
      clear ea hA4 x3 hB3
      go_wp2_with fail
      refine HFin.out.mono ?_
      rintro e w' ⟨rfl, rfl⟩
      clear q1 q2 q3
      obtain ⟨q1, q2, q3⟩ := x4.facts
      generalize (w3.alloc (.cells #[.float .f64 (raw x sx)] 35)) = w4 at *
      cases hf : ffin x
      · rw [hf] at HS
        have h1 : a1 = 10 := by rw [← HS.out]; simp
        subst h1
        have HNo := Lib.hid (HN0.out (by decide))
        have hc0 : cN = 0 := HNo.out.1
        subst hc0
        clear hf HS
        go_upto_region 7 with (fail)
        refine wp_region_nqd 11  (by kernel_rfl) (by kernel_rfl) ?_
        intro Cw Rw hc hb' hb2 hd hRw
        simp only [List.take_succ_cons, List.take_zero]
        repeat (
          first
            | (refine nqW_skip rfl (fun K hK => ?_); go_frame; refine hK _ ?_; clear hK K)
            | ((first | (refine nqW_plain (fun K hK => ?_)) | (refine nqW_want rfl (fun K hK => ?_)) | (refine nqW_step (fun K hK => ?_); go_simp))
               first
                 | (refine nq_move rfl ?_; go_simp; refine hK _ ?_; clear hK K)
                 | (refine nq_assign rfl ?_; go_simp; refine hK _ ?_; clear hK K)
                 | (refine nq_flt rfl rfl rfl rfl hd ?_; intro _; go_frame; refine hK _ ?_; clear hK K)
                 | (refine nq_inC rfl ?_; intro w' hw'; go_simp; refine fd_both (V := (.bool qm)) (by kernel_rfl) (fun w2 hw2 => ?_) ?_; (next => (go_at_call 50; exact (HM1.out w2).mono (fun e w3 ⟨he, hb⟩ => ⟨he, hb2 _ _ hw2 hb⟩))); (try go_simp); refine hK _ ?_; clear hK K hw' w')
                 | (refine nq_inC rfl ?_; intro w' hw'; go_simp; refine fd_both (V := (.bool qm)) (by kernel_rfl) (fun w2 hw2 => ?_) ?_; (next => (go_at_call 51; exact (HM2.out w2).mono (fun e w3 ⟨he, hb⟩ => ⟨he, hb2 _ _ hw2 hb⟩))); (try go_simp); refine hK _ ?_; clear hK K hw' w')
                 | (refine nq_inC rfl ?_; intro w' hw'; go_simp; refine fd_both (V := (.int .i64 10)) (by kernel_rfl) (fun w2 hw2 => ?_) ?_; (next => (go_at_call 38; exact (((HNum.out 10 w2).mono fun e w' (⟨h1, h2⟩ : e = Ending.returned (.int .i64 10) ∧ w2 = w') => (⟨h1, h2 ▸ Below.refl _ _⟩ : e = Ending.returned (.int .i64 10) ∧ Below w2.heap.size w2 w'))).mono (fun e w3 ⟨he, hb⟩ => ⟨he, hb2 _ _ hw2 hb⟩))); (try go_simp); refine hK _ ?_; clear hK K hw' w')
                 | (refine nq_same ?_; intro w' hw'; go_simp; (try go_bits); refine hK _ ?_; clear hK K hw' w')
                 | (refine nq_same ?_; intro w' hw'; go_simp; rw [if_pos (by omega)]; go_simp; (try go_bits); refine hK _ ?_; clear hK K hw' w')
                 | (go_simp; refine hK _ ?_; clear hK K)))
        refine nqW_nil (hRw _ ?_)
        clear hc hb' hb2 hd hRw
        intro w' hw'
        simp only [List.drop]
        have xr := x4.below hw'
        have hBr := below_step hB4 hB4.size hw'
        clear q1 q2 q3 x4 hB4 hw'
        obtain ⟨q1, q2, q3⟩ := xr.facts
        go_wp2_with (fail)
        refine (HOn.out _ hBr none [] 0 0 (fls_nil _) HNo.out.2.symm).mono ?_
        rintro e w8 ⟨rfl, hb8⟩
        have hB8 := below_step hBr hBr.size hb8
        go_wp2_with fail
        refine (known13 _).mono ?_
        rintro e w9 ⟨rfl, hb9⟩
        go_wp2
        go_ret
        exact ⟨rfl, below_step hB8 hB8.size hb9⟩
      · rw [hf] at HS
        have h1 : a1 = 0 := by rw [← HS.out]; simp
        subst h1
        have HNo := Lib.hid (HN1.out rfl)
        have hc0 : cN = cK := HNo.out.1
        subst hc0
        have HPv2 := Lib.hid (HPv.out rfl)
        have HRc2 := Lib.hid (HRc.out rfl)
        have t3 : ((cN : Int) == (cN : Int)) = true := by simp
        clear hf HS HPv HRc
        go_upto_region 7 with (fail)
        refine wp_region_nqd 11  (by kernel_rfl) (by kernel_rfl) ?_
        intro Cw Rw hc hb' hb2 hd hRw
        simp only [List.take_succ_cons, List.take_zero]
        repeat (
          first
            | (refine nqW_skip rfl (fun K hK => ?_); go_frame; refine hK _ ?_; clear hK K)
            | ((first | (refine nqW_plain (fun K hK => ?_)) | (refine nqW_want rfl (fun K hK => ?_)) | (refine nqW_step (fun K hK => ?_); go_simp))
               first
                 | (refine nq_move rfl ?_; go_simp; refine hK _ ?_; clear hK K)
                 | (refine nq_assign rfl ?_; go_simp; refine hK _ ?_; clear hK K)
                 | (refine nq_flt rfl rfl rfl rfl hd ?_; intro _; go_frame; refine hK _ ?_; clear hK K)
                 | (refine nq_inC rfl ?_; intro w' hw'; go_simp; refine fd_both (V := (.bool qm)) (by kernel_rfl) (fun w2 hw2 => ?_) ?_; (next => (go_at_call 50; exact (HM1.out w2).mono (fun e w3 ⟨he, hb⟩ => ⟨he, hb2 _ _ hw2 hb⟩))); (try go_simp); refine hK _ ?_; clear hK K hw' w')
                 | (refine nq_inC rfl ?_; intro w' hw'; go_simp; refine fd_both (V := (.bool qm)) (by kernel_rfl) (fun w2 hw2 => ?_) ?_; (next => (go_at_call 51; exact (HM2.out w2).mono (fun e w3 ⟨he, hb⟩ => ⟨he, hb2 _ _ hw2 hb⟩))); (try go_simp); refine hK _ ?_; clear hK K hw' w')
                 | (refine nq_inC rfl ?_; intro w' hw'; go_simp; refine fd_both (V := (.int .i64 0)) (by kernel_rfl) (fun w2 hw2 => ?_) ?_; (next => (go_at_call 38; exact (((HNum.out 0 w2).mono fun e w' (⟨h1, h2⟩ : e = Ending.returned (.int .i64 0) ∧ w2 = w') => (⟨h1, h2 ▸ Below.refl _ _⟩ : e = Ending.returned (.int .i64 0) ∧ Below w2.heap.size w2 w'))).mono (fun e w3 ⟨he, hb⟩ => ⟨he, hb2 _ _ hw2 hb⟩))); (try go_simp); refine hK _ ?_; clear hK K hw' w')
                 | (refine nq_same ?_; intro w' hw'; go_simp; (try go_bits); refine hK _ ?_; clear hK K hw' w')
                 | (refine nq_same ?_; intro w' hw'; go_simp; rw [if_pos (by omega)]; go_simp; (try go_bits); refine hK _ ?_; clear hK K hw' w')
                 | (go_simp; refine hK _ ?_; clear hK K)))
        refine nqW_nil (hRw _ ?_)
        clear hc hb' hb2 hd hRw
        intro w' hw'
        simp only [List.drop]
        have xr := x4.below hw'
        have hBr := below_step hB4 hB4.size hw'
        clear q1 q2 q3 x4 hB4 hw'
        obtain ⟨q1, q2, q3⟩ := xr.facts
        go_wp2_with fail
        refine (HPv2.out _ hBr).mono ?_
        rintro e w8 ⟨⟨pa, pc, rfl, hF⟩, hb8⟩
        have x8 := xr.below hb8
        have hB8 := below_step hBr hBr.size hb8
        clear q1 q2 q3 xr hBr hb8
        obtain ⟨q1, q2, q3⟩ := x8.facts
        go_wp2_with fail
        refine (HRc2.out _ hB8).mono ?_
        rintro e w9 ⟨rfl, hb9⟩
        have x9 := x8.below hb9
        have hB9 := below_step hB8 hB8.size hb9
        have hF9 := hF.below hb9
        clear q1 q2 q3 x8 hB8 hb9 hF
        obtain ⟨q1, q2, q3⟩ := x9.facts
        have HO1 := Lib.hid (HOn.out _ hB9 pa _ pc leave hF9 HNo.out.2.symm)
        rw [HL.out] at HO1
        go_wp2_with fail
        refine HO1.out.mono ?_
        rintro e w10 ⟨rfl, hb10⟩
        have x10 := x9.below hb10
        have hB10 := below_step hB9 hB9.size hb10
        have hF10 := hF9.below hb10
        clear q1 q2 q3 x9 hB9 hb10 hF9 HO1
        obtain ⟨q1, q2, q3⟩ := x10.facts
        have HO2 := Lib.hid (HOn.out _ hB10 pa _ pc 0 hF10 HNo.out.2.symm)
        rw [HL.out] at HO2
        go_wp2_with fail
        refine HO2.out.mono ?_
        rintro e w11 ⟨rfl, hb11⟩
        have hB11 := below_step hB10 hB10.size hb11
        go_wp2_with fail
        refine (known13 _).mono ?_
        rintro e w12 ⟨rfl, hb12⟩
        go_wp2
        go_ret
        exact ⟨rfl, below_step hB11 hB11.size hb12⟩
theorem counts_any (w : World) (da ea : Option Addr) (ds es : List Nat) (dc ec x : Nat) (leave : Int) (hD : Fls w da ds) (hE : Fls w ea es) (hWd : Words ds) (hW : Words es) (hl : ds.length ≤ maxLen) (hl' : es.length ≤ maxLen) (hx : x < 18446744073709551616) :
    Calls Try.prog 11 #[.agg #[.slice da ds.length dc, .slice ea es.length ec], .float .f64 x, .int .i64 leave] w fun e w' => e = .returned (.bool true) ∧ Below w.heap.size w w' := by
  obtain ⟨sx, hsx⟩ := raw_self hx
  have h := counts_raw w da ea ds es dc ec x sx leave hx hD hE hWd hW hl hl'
  rw [← hsx] at h
  exact h
end Go.Proofs.Ytogkmddhgfenkaa
