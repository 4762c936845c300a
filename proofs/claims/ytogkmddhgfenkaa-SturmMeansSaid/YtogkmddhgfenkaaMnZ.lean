/- 'SturmMeans': all values rise; of a diagonal they are its floats, sorted; what each one counts. No condition. -/
import Derived.Test.YtogkmddhgfenkaaZz17
import Derived.Test.YtogkmddhgfenkaaZz18
import Derived.Test.YtogkmddhgfenkaaTaZ
namespace Go.Proofs.Ytogkmddhgfenkaa
open Go Go.RowKit
set_option maxRecDepth 1000000

def dgB (es : List Nat) (i : Nat) : Bool := (List.range i).all fun j => feq (es.getD j 0) 0
theorem dgB_succ (es : List Nat) (i : Nat) : dgB es (i + 1) = (dgB es i && feq (es.getD i 0) 0) := by
  unfold dgB
  rw [List.range_succ, List.all_append, List.all_cons, List.all_nil, Bool.and_true]
theorem dgB_spec {es : List Nat} (hW : Words es) (h : dgB es es.length = true) (i : Nat) (hi : i < es.length) : es.getD i 0 = 0 ∨ es.getD i 0 = 9223372036854775808 :=
  feq_nought (hW.at i) (List.all_eq_true.1 h i (List.mem_range.2 hi))
theorem ask_fin {ds es : List Nat} (h : askS ds es [] = 0) : ∀ v ∈ ds, ffin v = true := by
  unfold askS at h
  cases hm : mayS ds.length es.length
  · rw [hm] at h; cases h
  · cases h1 : ds.all fnS
    · rw [hm, h1] at h; simp at h
    · intro v hv
      rw [← fnS_ffin]
      exact List.all_eq_true.1 h1 v hv
theorem mem_getD {l : List Nat} {i : Nat} (h : i < l.length) : l.getD i 0 ∈ l := by
  rw [List.getD_eq_getElem?_getD, List.getElem?_eq_getElem h]
  exact List.getElem_mem _
theorem find_k (w : World) (da ea : Option Addr) (ds es : List Nat) (dc ec k : Nat) (hD : Fls w da ds) (hE : Fls w ea es) (hW : Words es) (hl : ds.length ≤ 1000) (hl' : es.length ≤ 1000) (hz : bndE ds es = 0) (hk : k < ds.length) :
    Calls Try.prog 43 #[.agg #[.slice da ds.length dc, .slice ea es.length ec], .int .i64 k] w fun e w' => e = .returned (.tuple #[.float .f64 (atN (valK ds es k).1), .int .i64 (valK ds es k).2, .int .i64 0]) ∧ Below w.heap.size w w' := by
  have h0 : findE ds es k = 0 := by
    unfold findE
    have ho : outK ds k = false := by unfold outK; simp; omega
    rw [ho, Bool.and_false, if_neg (by decide), hz]
  have := Find_any w da ea ds es dc ec k hD hE hW hl hl'
  unfold findX findM at this
  rw [if_pos h0, if_pos h0, h0] at this
  exact this
theorem count_x (w : World) (da ea : Option Addr) (ds es : List Nat) (dc ec : Nat) (x : Nat) (hD : Fls w da ds) (hE : Fls w ea es) (hl : ds.length ≤ 1000) (hl' : es.length ≤ 1000) (hx : isnan x = false) :
    Calls Try.prog 44 #[.agg #[.slice da ds.length dc, .slice ea es.length ec], .float .f64 x] w fun e w' => e = .returned (.tuple #[.int .i64 (cntN ds es x), .int .i64 (askS ds es [x])]) ∧ Below w.heap.size w w' := by
  have := Count_any w da ea ds es dc ec x 0 hD hE hl hl'
  rw [raw_of_not hx] at this
  exact this
/-- What is asked of the k-th value. -/
theorem val_parts {ds es : List Nat} (hz : bndE ds es = 0) (k : Nat) : ∃ r : Int, (valK ds es k).1 = r ∧ isnan (atN r) = false ∧ isnan (atN (r + 1)) = false ∧ plN (atN r) = r ∧ plN (atN (r + 1)) = r + 1 ∧ wrap64 (r + 1) = r + 1 ∧
    (¬ (k : Int) < (cntN ds es (atN r) : Int) ∨ ¬ plN (bndL ds es ds.length).1 ≤ r) ∧ ((k : Int) < (cntN ds es (atN (r + 1)) : Int) ∨ ¬ r + 1 ≤ plN (bndL ds es ds.length).2) := by
  obtain ⟨h1, h2, h3, h4, h5⟩ := valK_ok hz k
  refine ⟨_, rfl, (at_key h1 (by omega)).1, (at_key (by omega) (by omega)).1, at_pl h1 (by omega), at_pl (by omega) (by omega), by unfold wrap64; omega, ?_, ?_⟩
  · rcases h4 with h | h
    · exact .inl h
    · exact .inr (by omega)
  · rcases h5 with h | h
    · exact .inl h
    · exact .inr (by omega)

set_option maxHeartbeats 32000000 in
theorem means13_any (w : World) (da ea : Option Addr) (ds es : List Nat) (dc ec : Nat) (hD : Fls w da ds) (hE : Fls w ea es) (hWd : Words ds) (hW : Words es) (hl : ds.length ≤ maxLen) (hl' : es.length ≤ maxLen) :
    Calls Try.prog 9 #[.agg #[.slice da ds.length dc, .slice ea es.length ec]] w fun e w' => e = .returned (.bool true) ∧ Below w.heap.size w w' := by
  have x0 : Box (w.alloc (.cells #[.slice da ds.length dc, .slice ea es.length ec] 51)) w.heap.size [.slice da ds.length dc, .slice ea es.length ec] := Box.newA w [_, _] _ rfl
  have hB0 : Below w.heap.size w (w.alloc (.cells #[.slice da ds.length dc, .slice ea es.length ec] 51)) := (Below.refl _ _).alloc (Nat.le_refl _) _
  by_cases hbig : 8 < ds.length ∨ 8 < es.length
  · have HB := Lib.hid (fun W => big_yes W da ea ds.length es.length dc ec 8 hbig)
    clear hD hE hWd hW hl hl' hbig
    go_enter Try.func9, Try.ntmps9
    go_wp2_with fail
    refine (known13 _).mono ?_
    rintro e w1 ⟨rfl, hb1⟩
    have x1 := x0.below hb1
    have hB1 := below_step hB0 hB0.size hb1
    obtain ⟨q1, q2, q3⟩ := x1.facts
    clear x0 hB0 hb1
    go_wp2_with fail
    refine (HB.out _).mono ?_
    rintro e w2 ⟨rfl, hb2⟩
    go_wp2
    go_ret
    exact ⟨rfl, below_step hB1 hB1.size hb2⟩
  · have hn1 : ¬ 8 < ds.length := fun h => hbig (.inl h)
    have hn2 : ¬ 8 < es.length := fun h => hbig (.inr h)
    have hd8 : ds.length ≤ 1000 := by omega
    have he8 : es.length ≤ 1000 := by omega
    have HBig := Lib.hid (fun W => big_no W da ea ds.length es.length dc ec 8 hn1 hn2)
    have HAsk := Lib.hid (fun W (hW' : Below w.heap.size w W) => askR_askS ds es ▸ RAsk_any W da ea ds es dc ec (hD.below hW') (hE.below hW') hWd hW hl hl')
    have HAe := Lib.hid (fun (h : allE ds es ≠ 0) W (hW' : Below w.heap.size w W) => All_err W da ea ds es dc ec (hD.below hW') (hE.below hW') hW hd8 he8 (allE_bnd h))
    have HAo := Lib.hid (fun (h : allE ds es = 0) W (hW' : Below w.heap.size w W) => All_ok W da ea ds es dc ec (hD.below hW') (hE.below hW') hW hd8 he8 h)
    have HBn := Lib.hid (fun W (hW' : Below w.heap.size w W) => Bounds_any W da ea ds es dc ec (hD.below hW') (hE.below hW') hW hd8 he8)
    have HNum := Lib.hid (fun n W => num13_any n W)
    have hsrt : askS ds es [] = 0 → ds ≠ [] → ∀ W (hW' : Below w.heap.size w W), _ := fun h h1 W hW' => sorted13_any W da ds dc (hD.below hW') h1 hd8 (fun v hv => isnan_ffin (ask_fin h v hv))
    have HSo := Lib.hid hsrt
    have HFk := Lib.hid (fun (hz : bndE ds es = 0) (k : Nat) (hk : k < ds.length) W (hW' : Below w.heap.size w W) => find_k W da ea ds es dc ec k (hD.below hW') (hE.below hW') hW hd8 he8 hz hk)
    have HCt := Lib.hid (fun (x : Nat) (hx : isnan x = false) W (hW' : Below w.heap.size w W) => count_x W da ea ds es dc ec x (hD.below hW') (hE.below hW') hd8 he8 hx)
    have HE := Lib.hid hE
    have HWE := Lib.hid hW
    clear hD hE hWd hW hl hl' hbig hn1 hn2 hsrt
    go_enter Try.func9, Try.ntmps9
    go_wp2_with fail
    refine (known13 _).mono ?_
    rintro e w1 ⟨rfl, hb1⟩
    have x1 := x0.below hb1
    have hB1 := below_step hB0 hB0.size hb1
    obtain ⟨q1, q2, q3⟩ := x1.facts
    clear x0 hB0 hb1
    go_wp2_with fail
    refine (HBig.out _).mono ?_
    rintro e w2 ⟨rfl, hb2⟩
    have x2 := x1.below hb2
    have hB2 := below_step hB1 hB1.size hb2
    clear x1 hB1 q1 q2 q3 hb2
    obtain ⟨q1, q2, q3⟩ := x2.facts
    go_wp2_with fail
    refine (HAsk.out _ hB2).mono ?_
    rintro e w3 ⟨rfl, hb3⟩
    have x3 := x2.below hb3
    have hB3 := below_step hB2 hB2.size hb3
    clear x2 hB2 q1 q2 q3 hb3
    obtain ⟨q1, q2, q3⟩ := x3.facts
    by_cases h0 : askS ds es [] = 0
    case neg =>
      have t1 : (askS ds es [] != 0) = true := by simp [h0]
      clear h0
      generalize askS ds es [] = a0 at *
      go_wp2
      go_ret
      exact ⟨rfl, hB3⟩
    case pos =>
      rw [h0]
      have HP := Lib.hid (alls_parts ds es)
      by_cases hz : allE ds es = 0
      case neg =>
        have HAe2 := Lib.hid (HAe.out hz)
        obtain ⟨h1, h2, h3⟩ := HP.out.2 h0 hz
        rw [h1] at HAe2
        clear hz h1 h2 h3 h0 HAe HAo HP HSo HFk HCt HE HWE
        go_wp2_with fail
        refine (HAe2.out _ hB3).mono ?_
        rintro e w4 ⟨rfl, hb4⟩
        have x4 := x3.below hb4
        have hB4 := below_step hB3 hB3.size hb4
        clear x3 hB3 q1 q2 q3 hb4
        obtain ⟨q1, q2, q3⟩ := x4.facts
        go_wp2_with fail
        refine (HBn.out _ hB4).mono ?_
        rintro e w5 ⟨lo, hi, s1, s2, rfl, _, _, hb5⟩
        have hB5 := below_step hB4 hB4.size hb5
        have x5 := x4.below hb5
        clear x4 hB4 q1 q2 q3 hb5
        obtain ⟨q1, q2, q3⟩ := x5.facts
        generalize raw lo s1 = zl at *
        generalize raw hi s2 = zh at *
        generalize bndE ds es = z5 at *
        go_wp2_with fail
        refine (HNum.out _ _).mono ?_
        rintro e w' ⟨rfl, rfl⟩
        go_wp2_with fail
        refine (HNum.out _ _).mono ?_
        rintro e w' ⟨rfl, rfl⟩
        go_wp2
        go_ret
        exact ⟨rfl, hB5⟩
      case pos =>
        have HAo2 := Lib.hid (HAo.out hz)
        by_cases hn0 : ds.length = 0
        case pos =>
          have hb2 : bndE ds es = 2 := by unfold bndE; rw [if_pos h0, if_pos hn0]
          have HT0 := Lib.hid (show ((ds.length : Int) == 0) = true by rw [hn0]; rfl)
          rw [hb2] at HBn
          clear HAe HAo HP HSo HFk HCt HE HWE hz hb2 hn0
          go_wp2_with fail
          refine (HAo2.out _ hB3).mono ?_
          rintro e w4 ⟨sv, rfl, hr, hb4⟩
          obtain ⟨ua, uc, rfl, uC⟩ := cel_of_row hr
          have hlL := allL_length ds es ds.length
          have x4 := x3.below hb4
          have hB4 := below_step hB3 hB3.size hb4
          clear x3 hB3 q1 q2 q3 hb4 hr uC
          obtain ⟨q1, q2, q3⟩ := x4.facts
          go_wp2_with fail
          refine (HBn.out _ hB4).mono ?_
          rintro e w5 ⟨lo, hi, s1, s2, rfl, _, _, hb5⟩
          have hB5 := below_step hB4 hB4.size hb5
          have x5 := x4.below hb5
          clear x4 hB4 q1 q2 q3 hb5
          obtain ⟨q1, q2, q3⟩ := x5.facts
          (try rw [hlL])
          generalize raw lo s1 = zl at *
          generalize raw hi s2 = zh at *
          generalize allM ds es ds.length = z6 at *
          clear hlL
          have tn0 := HT0.out
          go_wp2_with fail
          refine (HNum.out _ _).mono ?_
          rintro e w' ⟨rfl, rfl⟩
          go_wp2_with fail
          refine (HNum.out _ _).mono ?_
          rintro e w' ⟨rfl, rfl⟩
          go_wp2_with fail
          refine (HNum.out _ _).mono ?_
          rintro e w' ⟨rfl, rfl⟩
          go_wp2
          go_ret
          exact ⟨rfl, hB5⟩
        case neg =>
          have hb0 : bndE ds es = 0 := by unfold allE at hz; rw [if_pos ⟨h0, hn0⟩] at hz; exact hz
          have hdn : ds ≠ [] := fun h => hn0 (by rw [h]; rfl)
          have HEL := Lib.hid (ask_len h0)
          have HSo2 := Lib.hid (HSo.out h0 hdn)
          have HFk2 := Lib.hid (HFk.out hb0)
          have HV := Lib.hid (val_parts hb0)
          have HF := Lib.hid (show _ ∧ _ from ⟨ask_fin h0, bnd_pl hb0⟩)
          have HZ := Lib.hid hb0
          have HM : Hid (∀ k : Nat, (valK ds es k).2 ≤ 64) := fun k => by
            have : (valK ds es k).2 ≤ 0 + 64 := fndS_le _ _ _ _ _ _
            omega
          have tn0 : ((ds.length : Int) == 0) = false := by rw [beq_eq_false_iff_ne]; omega
          rw [hb0] at HBn
          have HN0 := Lib.hid hn0
          clear HAe HAo HP HSo HFk hz hb0 hdn h0 hn0
          go_wp2_with fail
          refine (HAo2.out _ hB3).mono ?_
          rintro e w4 ⟨sv, rfl, hr, hb4⟩
          obtain ⟨ua, uc, rfl, uC⟩ := cel_of_row hr
          have hlL := allL_length ds es ds.length
          have x4 := x3.below hb4
          have hB4 := below_step hB3 hB3.size hb4
          clear x3 hB3 q1 q2 q3 hb4 hr
          obtain ⟨q1, q2, q3⟩ := x4.facts
          go_wp2_with fail
          refine (HBn.out _ hB4).mono ?_
          rintro e w5 ⟨lo, hi, s1, s2, rfl, hlh, _, hb5⟩
          obtain ⟨rfl, rfl⟩ := hlh trivial
          have hB5 := below_step hB4 hB4.size hb5
          have x5 := x4.below hb5
          have uC5 := uC.below hb5
          rw [raw_of_not HF.out.2.1, raw_of_not HF.out.2.2.1]
          clear x4 hB4 q1 q2 q3 hb5 uC
          obtain ⟨q1, q2, q3⟩ := x5.facts
          (try rw [hlL])
          generalize allM ds es ds.length = z6 at *
          go_wp2_with fail
          refine (HNum.out _ _).mono ?_
          rintro e w' ⟨rfl, rfl⟩
          have hdl : ds.length ≤ 9223372036854775807 := by omega
          have hel2 : es.length ≤ 9223372036854775807 := by omega
          go_wp2_with fail
          go_loopw [9, 10] (fun s9 s10 wr => ∃ i : Nat, i ≤ es.length ∧ s9 = .bool (dgB es i) ∧ s10 = .int .i64 i ∧ wr = w5) (fun _ s10 _ => es.length - (intOf s10).toNat)
          case atStart => exact ⟨0, Nat.zero_le _, rfl, rfl, rfl⟩
          case round =>
            obtain ⟨i, hi, rfl, rfl, rfl⟩ := hrel
            by_cases hlt : i < es.length
            · obtain ⟨eb, eo, es1, rfl, heb, hec⟩ := (HE.out.below hB5).at hlt
              have HD := Lib.hid (dgB_succ es i)
              generalize es.getD i 0 = ev at *
              cases hdg : dgB es i
              · go_wp2_with fail
                go_roundw
                case rel => exact ⟨i + 1, by omega, by rw [HD.out, hdg]; rfl, by go_num, trivial⟩
                case measure => simp [intOf]; omega
              · go_wp2_with fail
                go_roundw
                case rel => exact ⟨i + 1, by omega, by rw [HD.out, hdg]; rfl, by go_num, trivial⟩
                case measure => simp [intOf]; omega
            · obtain rfl : i = es.length := by omega
              have HDS := Lib.hid (fun h => dgB_spec (es := es) HWE.out h)
              generalize hdg : dgB es es.length = dg at *
              go_wp2_with fail
              refine (HSo2.out _ hB5).mono ?_
              rintro e w6 ⟨⟨g, c', L, rfl, hP, hS, hL⟩, hb6⟩
              have hB6 := below_step hB5 hB5.size hb6
              have x6 := x5.below hb6
              have uC6 := uC5.below hb6
              clear x5 hB5 q1 q2 q3 hb6 uC5
              obtain ⟨q1, q2, q3⟩ := x6.facts
              have HLL := Lib.hid (show L.length = ds.length from hP.length_eq)
              have hfin : ∀ k, k < ds.length → isnan (L.getD k 0) = false := fun k hk => isnan_ffin (HF.out.1 _ (hP.mem_iff.1 (mem_getD (by rw [hP.length_eq]; exact hk))))
              have hsame : dg = true → ∀ k, k < ds.length → feq ((allL ds es ds.length).getD k 0) (L.getD k 0) = true := fun h k hk => by
                subst h
                exact all_same HZ.out (fun i hi => HF.out.1 _ (mem_getD hi)) (HDS.out rfl) HEL.out hP hS hk
              have hrise : ∀ k, 0 < k → k < ds.length → flt ((allL ds es ds.length).getD k 0) ((allL ds es ds.length).getD (k - 1) 0) = false := fun k h1 h2 => allL_rise ds es h1 h2
              have HSame := Lib.hid hsame
              have HRise := Lib.hid hrise
              have HFin := Lib.hid hfin
              clear hsame hrise hfin hdg hP hS
              have hgl := hL.lt
              have HPlo := Lib.hid (fun W => Place_any (bndL ds es ds.length).1 (bndL_lt ds es ds.length).1 W)
              have HPhi := Lib.hid (fun W => Place_any (bndL ds es ds.length).2 (bndL_lt ds es ds.length).2 W)
              generalize (bndL ds es ds.length).1 = flo at *
              generalize (bndL ds es ds.length).2 = fhi at *
              generalize plN flo = plo at *
              generalize plN fhi = phi at *
              generalize allL ds es ds.length = ws at *
              obtain ⟨ub, uo, rfl, hub, uc6⟩ := uC6 (by intro h; rw [h] at hlL; exact HN0.out hlL.symm)
              have HUC := Lib.hid uc6
              clear uC6 uc6
              have huc : ∀ k, k < ds.length → w6.cell? ⟨ub, uo + k, none⟩ = some (.float .f64 (ws.getD k 0)) := fun k hk => HUC.out k _ (by rw [List.getD_eq_getElem?_getD, List.getElem?_eq_getElem (by omega)]; rfl)
              have HU := Lib.hid huc
              clear huc HUC
              cases dg
              case true =>
                go_wp2_with fail
                go_loopw [12] (fun s12 wr => ∃ i : Nat, i ≤ ds.length ∧ s12 = .int .i64 i ∧ Below w6.heap.size w6 wr) (fun s12 _ => ds.length - (intOf s12).toNat)
                case atStart => exact ⟨0, Nat.zero_le _, rfl, Below.refl _ _⟩
                case round =>
                  obtain ⟨i, hi, rfl, hBr⟩ := hrel
                  by_cases hlt : i < ds.length
                  · have c1 := ((below_cells hBr).1 _ (uo + i) hub).trans (HU.out i hlt)
                    obtain ⟨sl, c2⟩ := (hL.below hBr).at (i := i) (by rw [HLL.out]; exact hlt)
                    rw [raw_of_not (HFin.out i hlt)] at c2
                    have t1 := HSame.out trivial i hlt
                    have hsz := hBr.size
                    generalize ws.getD i 0 = wi at *
                    generalize L.getD i 0 = li at *
                    -- BEGIN
                    have hub2 : ub < wr.heap.size := by omega
                    have hgl2 : g < wr.heap.size := by omega
                    go_wp2_with fail
                    refine wp_region_nqb 9 (fun _ _ _ => False) (by kernel_rfl) (by kernel_rfl) ?_
                    intro Cw Rw hc hb' hb2 hd hRw
                    simp only [List.take_succ_cons, List.take_zero]
                    repeat (
                      first
                        | (refine nqW_skip rfl (fun K hK => ?_); go_frame; refine hK _ ?_; clear hK K)
                        | ((first | (refine nqW_plain (fun K hK => ?_)) | (refine nqW_want rfl (fun K hK => ?_)) | (refine nqW_step (fun K hK => ?_); go_simp))
                           first
                             | (refine nq_move rfl ?_; go_simp; refine hK _ ?_; clear hK K)
                             | (refine nq_assign rfl ?_; go_simp; refine hK _ ?_; clear hK K)
                             | (refine nq_flt rfl rfl rfl rfl hd ?_; intro _; go_frame; refine hK _ ?_; clear hK K)
                             | (refine nq_same ?_; intro w' hw'; go_simp; (try go_bits); refine hK _ ?_; clear hK K hw' w')
                             | (refine nq_same ?_; intro w' hw'; go_simp; rw [if_pos (by omega)]; go_simp; (try go_bits); refine hK _ ?_; clear hK K hw' w')
                             | (go_simp; refine hK _ ?_; clear hK K)))
                    refine nqW_nil (hRw _ ?_)
                    clear hc hb' hb2 hd hRw
                    intro w' hw'
                    simp only [List.drop]
                    go_wp2_with fail
                    go_roundw
                    case rel => exact ⟨i + 1, by omega, by go_num, below_step hBr hBr.size hw'⟩
                    case measure => simp [intOf]; omega
                  · obtain rfl : i = ds.length := by omega
                    go_wp2_with fail
                    go_loopw [13] (fun s13 wr => ∃ k : Nat, k ≤ ds.length ∧ s13 = .int .i64 k ∧ Below w6.heap.size w6 wr) (fun s13 _ => ds.length - (intOf s13).toNat)
                    case atStart => exact ⟨0, Nat.zero_le _, rfl, hBr⟩
                    case round =>
                      obtain ⟨k, hk, rfl, hBr⟩ := hrel
                      by_cases hlt : k < ds.length
                      · obtain ⟨r, hr, n1, n2, p1, p2, wr1, hA, hBb⟩ := HV.out k
                        have HFind := Lib.hid (HFk2.out k hlt)
                        rw [hr] at HFind
                        have hm := HM.out k
                        have HCx := Lib.hid (HCt.out (atN r) n1)
                        have HCy := Lib.hid (HCt.out (atN (r + 1)) n2)
                        have HPx := Lib.hid (fun W => p1 ▸ Place_any (atN r) (atN_lt r) W)
                        have HPy := Lib.hid (fun W => p2 ▸ Place_any (atN (r + 1)) (atN_lt (r + 1)) W)
                        have HAt := Lib.hid (fun W => At13_any (r + 1) W)
                        have HW1 := Lib.hid wr1
                        clear hr n1 n2 p1 p2 wr1
                        generalize (valK ds es (k : Int)).2 = m at *
                        generalize cntN ds es (atN r) = ca at *
                        generalize cntN ds es (atN (r + 1)) = cb at *
                        generalize askS ds es [atN r] = ya at *
                        generalize askS ds es [atN (r + 1)] = yb at *
                        generalize atN (r + 1) = y at *
                        generalize atN r = x at *
                        have hBw := below_step hB6 hB6.size hBr
                        have xr := x6.below hBr
                        obtain ⟨q4, q5, q6⟩ := xr.facts
                        have hmm : decide (64 < (m : Int)) = false := decide_eq_false (by omega)
                        go_wp2_with fail
                        refine (HFind.out _ hBw).mono ?_
                        rintro e w8 ⟨rfl, hb8⟩
                        have hB8 := below_step hBr hBr.size hb8
                        have x8 := xr.below hb8
                        have hs8 := hB8.size
                        clear q4 q5 q6 xr hb8 hBw hBr
                        obtain ⟨q4, q5, q6⟩ := x8.facts
                        have HXA := Lib.hid (show _ ∧ _ from ⟨hA, hBb⟩)
                        clear hA hBb
                        by_cases k0 : k = 0
                        · skip
                          have tk : decide (0 < (k : Int)) = false := decide_eq_false (by omega)
                          have tk' : decide (0 < k) = false := decide_eq_false (by omega)
                          clear k0
                          go_wp2_with fail
                          refine wp_region_nqb 18 (fun _ _ _ => False) (by kernel_rfl) (by kernel_rfl) ?_
                          intro Cw Rw hc hb' hb2 hd hRw
                          simp only [List.take_succ_cons, List.take_zero]
                          repeat (
                            first
                              | (refine nqW_skip rfl (fun K hK => ?_); go_frame; refine hK _ ?_; clear hK K)
                              | ((first | (refine nqW_plain (fun K hK => ?_)) | (refine nqW_want rfl (fun K hK => ?_)) | (refine nqW_step (fun K hK => ?_); go_simp))
                                 first
                                   | (refine nq_move rfl ?_; go_simp; refine hK _ ?_; clear hK K)
                                   | (refine nq_assign rfl ?_; go_simp; refine hK _ ?_; clear hK K)
                                   | (refine nq_flt rfl rfl rfl rfl hd ?_; intro _; go_frame; refine hK _ ?_; clear hK K)
                                   | (refine nq_same ?_; intro w' hw'; go_simp; (try go_bits); refine hK _ ?_; clear hK K hw' w')
                                   | (refine nq_same ?_; intro w' hw'; go_simp; rw [if_pos (by omega)]; go_simp; (try go_bits); refine hK _ ?_; clear hK K hw' w')
                                   | (go_simp; refine hK _ ?_; clear hK K)))
                          refine nqW_nil (hRw _ ?_)
                          clear hc hb' hb2 hd hRw
                          intro w' hw'
                          simp only [List.drop]
                          have hB9 := below_step hB8 hB8.size hw'
                          have x9 := x8.below hw'
                          clear q4 q5 q6 x8 hw' hs8
                          obtain ⟨q4, q5, q6⟩ := x9.facts
                          have hBw9 := below_step hB6 hB6.size hB9
                          go_wp2_with fail
                          refine (HCx.out _ hBw9).mono ?_
                          rintro e w10 ⟨rfl, hb10⟩
                          have hB10 := below_step hB9 hB9.size hb10
                          have x10 := x9.below hb10
                          clear q4 q5 q6 x9 hb10 hB9 hBw9
                          obtain ⟨q4, q5, q6⟩ := x10.facts
                          have hBw10 := below_step hB6 hB6.size hB10
                          have hw9 := HW1.out
                          go_wp2_with fail
                          refine (HPx.out _).mono ?_
                          rintro e w' ⟨rfl, rfl⟩
                          go_wp2_with fail
                          simp only [hw9]
                          refine (HAt.out _).mono ?_
                          rintro e w' ⟨rfl, rfl⟩
                          clear hw9
                          go_wp2_with fail
                          refine (HCy.out _ hBw10).mono ?_
                          rintro e w11 ⟨rfl, hb11⟩
                          have hB11 := below_step hB10 hB10.size hb11
                          clear q4 q5 q6 x10 hb11 hB10 hBw10
                          obtain ⟨hA, hBb⟩ := HXA.out
                          by_cases a1 : (k : Int) < (ca : Int)
                          · have a2 := decide_eq_true a1
                            have a2' : decide (k < ca) = true := decide_eq_true (by omega)
                            have a3 : decide (plo ≤ r) = false := decide_eq_false (by omega)
                            by_cases b1 : (k : Int) < (cb : Int)
                            · have b2 : decide ((cb : Int) ≤ (k : Int)) = false := decide_eq_false (by omega)
                              have b2' : decide (cb ≤ k) = false := decide_eq_false (by omega)
                              clear hA hBb a1 b1
                              go_wp2_with fail
                              refine (HPx.out _).mono ?_
                              rintro e w' ⟨rfl, rfl⟩
                              go_wp2_with fail
                              refine (HPlo.out _).mono ?_
                              rintro e w' ⟨rfl, rfl⟩
                              go_wp2_with fail
                              go_roundw
                              case rel => exact ⟨k + 1, by omega, by go_num, hB11⟩
                              case measure => simp [intOf]; omega
                            · have b2 : decide ((cb : Int) ≤ (k : Int)) = true := decide_eq_true (by omega)
                              have b2' : decide (cb ≤ k) = true := decide_eq_true (by omega)
                              have b3 : decide (r + 1 ≤ phi) = false := decide_eq_false (by omega)
                              clear hA hBb a1 b1
                              go_wp2_with fail
                              refine (HPx.out _).mono ?_
                              rintro e w' ⟨rfl, rfl⟩
                              go_wp2_with fail
                              refine (HPlo.out _).mono ?_
                              rintro e w' ⟨rfl, rfl⟩
                              go_wp2_with fail
                              refine (HPy.out _).mono ?_
                              rintro e w' ⟨rfl, rfl⟩
                              go_wp2_with fail
                              refine (HPhi.out _).mono ?_
                              rintro e w' ⟨rfl, rfl⟩
                              go_wp2_with fail
                              go_roundw
                              case rel => exact ⟨k + 1, by omega, by go_num, hB11⟩
                              case measure => simp [intOf]; omega
                          · have a2 := decide_eq_false a1
                            have a2' : decide (k < ca) = false := decide_eq_false (by omega)
                            by_cases b1 : (k : Int) < (cb : Int)
                            · have b2 : decide ((cb : Int) ≤ (k : Int)) = false := decide_eq_false (by omega)
                              have b2' : decide (cb ≤ k) = false := decide_eq_false (by omega)
                              clear hA hBb a1 b1
                              go_wp2_with fail
                              go_roundw
                              case rel => exact ⟨k + 1, by omega, by go_num, hB11⟩
                              case measure => simp [intOf]; omega
                            · have b2 : decide ((cb : Int) ≤ (k : Int)) = true := decide_eq_true (by omega)
                              have b2' : decide (cb ≤ k) = true := decide_eq_true (by omega)
                              have b3 : decide (r + 1 ≤ phi) = false := decide_eq_false (by omega)
                              clear hA hBb a1 b1
                              go_wp2_with fail
                              refine (HPy.out _).mono ?_
                              rintro e w' ⟨rfl, rfl⟩
                              go_wp2_with fail
                              refine (HPhi.out _).mono ?_
                              rintro e w' ⟨rfl, rfl⟩
                              go_wp2_with fail
                              go_roundw
                              case rel => exact ⟨k + 1, by omega, by go_num, hB11⟩
                              case measure => simp [intOf]; omega
                        · skip
                          have tk : decide (0 < (k : Int)) = true := decide_eq_true (by omega)
                          have tk' : decide (0 < k) = true := decide_eq_true (by omega)
                          have c1 := ((below_cells hB8).1 _ (uo + k) hub).trans (HU.out k hlt)
                          have c2 := ((below_cells hB8).1 _ (uo + (k - 1)) hub).trans (HU.out (k - 1) (by omega))
                          have t1 := HRise.out k (by omega) hlt
                          have hub8 : ub < w8.heap.size := by omega
                          have hwk : IntKind.i64.wrap ((k : Int) - 1) = (k : Int) - 1 := by rw [IntKind.wrap_i64]; omega
                          have hwk' : wrap64 ((k : Int) - 1) = (k : Int) - 1 := by unfold wrap64; omega
                          have i1 : ((k : Int) - 1).toNat = k - 1 := by omega
                          have i2 : 0 ≤ (k : Int) - 1 := by omega
                          have i3 : (k : Int) - 1 < (ds.length : Int) := by omega
                          clear k0
                          generalize ws.getD k 0 = v1 at *
                          generalize ws.getD (k - 1) 0 = v0 at *
                          generalize k - 1 = kj at *
                          go_wp2_with fail
                          refine wp_region_nqb 18 (fun _ _ _ => False) (by kernel_rfl) (by kernel_rfl) ?_
                          intro Cw Rw hc hb' hb2 hd hRw
                          simp only [List.take_succ_cons, List.take_zero]
                          repeat (
                            first
                              | (refine nqW_skip rfl (fun K hK => ?_); go_frame; refine hK _ ?_; clear hK K)
                              | ((first | (refine nqW_plain (fun K hK => ?_)) | (refine nqW_want rfl (fun K hK => ?_)) | (refine nqW_step (fun K hK => ?_); go_simp))
                                 first
                                   | (refine nq_move rfl ?_; go_simp; refine hK _ ?_; clear hK K)
                                   | (refine nq_assign rfl ?_; go_simp; refine hK _ ?_; clear hK K)
                                   | (refine nq_flt rfl rfl rfl rfl hd ?_; intro _; go_frame; refine hK _ ?_; clear hK K)
                                   | (refine nq_same ?_; intro w' hw'; go_simp; (try go_bits); refine hK _ ?_; clear hK K hw' w')
                                   | (refine nq_same ?_; intro w' hw'; go_simp; rw [if_pos (by omega)]; go_simp; (try go_bits); refine hK _ ?_; clear hK K hw' w')
                                   | (go_simp; refine hK _ ?_; clear hK K)))
                          refine nqW_nil (hRw _ ?_)
                          clear hc hb' hb2 hd hRw
                          intro w' hw'
                          simp only [List.drop]
                          have hB9 := below_step hB8 hB8.size hw'
                          have x9 := x8.below hw'
                          clear q4 q5 q6 x8 hw' hs8 c1 c2 t1 hub8 hwk hwk' i1 i2 i3
                          obtain ⟨q4, q5, q6⟩ := x9.facts
                          have hBw9 := below_step hB6 hB6.size hB9
                          go_wp2_with fail
                          refine (HCx.out _ hBw9).mono ?_
                          rintro e w10 ⟨rfl, hb10⟩
                          have hB10 := below_step hB9 hB9.size hb10
                          have x10 := x9.below hb10
                          clear q4 q5 q6 x9 hb10 hB9 hBw9
                          obtain ⟨q4, q5, q6⟩ := x10.facts
                          have hBw10 := below_step hB6 hB6.size hB10
                          have hw9 := HW1.out
                          go_wp2_with fail
                          refine (HPx.out _).mono ?_
                          rintro e w' ⟨rfl, rfl⟩
                          go_wp2_with fail
                          simp only [hw9]
                          refine (HAt.out _).mono ?_
                          rintro e w' ⟨rfl, rfl⟩
                          clear hw9
                          go_wp2_with fail
                          refine (HCy.out _ hBw10).mono ?_
                          rintro e w11 ⟨rfl, hb11⟩
                          have hB11 := below_step hB10 hB10.size hb11
                          clear q4 q5 q6 x10 hb11 hB10 hBw10
                          obtain ⟨hA, hBb⟩ := HXA.out
                          by_cases a1 : (k : Int) < (ca : Int)
                          · have a2 := decide_eq_true a1
                            have a2' : decide (k < ca) = true := decide_eq_true (by omega)
                            have a3 : decide (plo ≤ r) = false := decide_eq_false (by omega)
                            by_cases b1 : (k : Int) < (cb : Int)
                            · have b2 : decide ((cb : Int) ≤ (k : Int)) = false := decide_eq_false (by omega)
                              have b2' : decide (cb ≤ k) = false := decide_eq_false (by omega)
                              clear hA hBb a1 b1
                              go_wp2_with fail
                              refine (HPx.out _).mono ?_
                              rintro e w' ⟨rfl, rfl⟩
                              go_wp2_with fail
                              refine (HPlo.out _).mono ?_
                              rintro e w' ⟨rfl, rfl⟩
                              go_wp2_with fail
                              go_roundw
                              case rel => exact ⟨k + 1, by omega, by go_num, hB11⟩
                              case measure => simp [intOf]; omega
                            · have b2 : decide ((cb : Int) ≤ (k : Int)) = true := decide_eq_true (by omega)
                              have b2' : decide (cb ≤ k) = true := decide_eq_true (by omega)
                              have b3 : decide (r + 1 ≤ phi) = false := decide_eq_false (by omega)
                              clear hA hBb a1 b1
                              go_wp2_with fail
                              refine (HPx.out _).mono ?_
                              rintro e w' ⟨rfl, rfl⟩
                              go_wp2_with fail
                              refine (HPlo.out _).mono ?_
                              rintro e w' ⟨rfl, rfl⟩
                              go_wp2_with fail
                              refine (HPy.out _).mono ?_
                              rintro e w' ⟨rfl, rfl⟩
                              go_wp2_with fail
                              refine (HPhi.out _).mono ?_
                              rintro e w' ⟨rfl, rfl⟩
                              go_wp2_with fail
                              go_roundw
                              case rel => exact ⟨k + 1, by omega, by go_num, hB11⟩
                              case measure => simp [intOf]; omega
                          · have a2 := decide_eq_false a1
                            have a2' : decide (k < ca) = false := decide_eq_false (by omega)
                            by_cases b1 : (k : Int) < (cb : Int)
                            · have b2 : decide ((cb : Int) ≤ (k : Int)) = false := decide_eq_false (by omega)
                              have b2' : decide (cb ≤ k) = false := decide_eq_false (by omega)
                              clear hA hBb a1 b1
                              go_wp2_with fail
                              go_roundw
                              case rel => exact ⟨k + 1, by omega, by go_num, hB11⟩
                              case measure => simp [intOf]; omega
                            · have b2 : decide ((cb : Int) ≤ (k : Int)) = true := decide_eq_true (by omega)
                              have b2' : decide (cb ≤ k) = true := decide_eq_true (by omega)
                              have b3 : decide (r + 1 ≤ phi) = false := decide_eq_false (by omega)
                              clear hA hBb a1 b1
                              go_wp2_with fail
                              refine (HPy.out _).mono ?_
                              rintro e w' ⟨rfl, rfl⟩
                              go_wp2_with fail
                              refine (HPhi.out _).mono ?_
                              rintro e w' ⟨rfl, rfl⟩
                              go_wp2_with fail
                              go_roundw
                              case rel => exact ⟨k + 1, by omega, by go_num, hB11⟩
                              case measure => simp [intOf]; omega
                      · obtain rfl : k = ds.length := by omega
                        go_wp2
                        go_ret
                        exact ⟨rfl, below_step hB6 hB6.size hBr⟩
              case false =>
                go_wp2_with fail
                go_loopw [13] (fun s13 wr => ∃ k : Nat, k ≤ ds.length ∧ s13 = .int .i64 k ∧ Below w6.heap.size w6 wr) (fun s13 _ => ds.length - (intOf s13).toNat)
                case atStart => exact ⟨0, Nat.zero_le _, rfl, Below.refl _ _⟩
                case round =>
                  obtain ⟨k, hk, rfl, hBr⟩ := hrel
                  by_cases hlt : k < ds.length
                  · obtain ⟨r, hr, n1, n2, p1, p2, wr1, hA, hBb⟩ := HV.out k
                    have HFind := Lib.hid (HFk2.out k hlt)
                    rw [hr] at HFind
                    have hm := HM.out k
                    have HCx := Lib.hid (HCt.out (atN r) n1)
                    have HCy := Lib.hid (HCt.out (atN (r + 1)) n2)
                    have HPx := Lib.hid (fun W => p1 ▸ Place_any (atN r) (atN_lt r) W)
                    have HPy := Lib.hid (fun W => p2 ▸ Place_any (atN (r + 1)) (atN_lt (r + 1)) W)
                    have HAt := Lib.hid (fun W => At13_any (r + 1) W)
                    have HW1 := Lib.hid wr1
                    clear hr n1 n2 p1 p2 wr1
                    generalize (valK ds es (k : Int)).2 = m at *
                    generalize cntN ds es (atN r) = ca at *
                    generalize cntN ds es (atN (r + 1)) = cb at *
                    generalize askS ds es [atN r] = ya at *
                    generalize askS ds es [atN (r + 1)] = yb at *
                    generalize atN (r + 1) = y at *
                    generalize atN r = x at *
                    have hBw := below_step hB6 hB6.size hBr
                    have xr := x6.below hBr
                    obtain ⟨q4, q5, q6⟩ := xr.facts
                    have hmm : decide (64 < (m : Int)) = false := decide_eq_false (by omega)
                    go_wp2_with fail
                    refine (HFind.out _ hBw).mono ?_
                    rintro e w8 ⟨rfl, hb8⟩
                    have hB8 := below_step hBr hBr.size hb8
                    have x8 := xr.below hb8
                    have hs8 := hB8.size
                    clear q4 q5 q6 xr hb8 hBw hBr
                    obtain ⟨q4, q5, q6⟩ := x8.facts
                    have HXA := Lib.hid (show _ ∧ _ from ⟨hA, hBb⟩)
                    clear hA hBb
                    by_cases k0 : k = 0
                    · skip
                      have tk : decide (0 < (k : Int)) = false := decide_eq_false (by omega)
                      have tk' : decide (0 < k) = false := decide_eq_false (by omega)
                      clear k0
                      go_wp2_with fail
                      refine wp_region_nqb 18 (fun _ _ _ => False) (by kernel_rfl) (by kernel_rfl) ?_
                      intro Cw Rw hc hb' hb2 hd hRw
                      simp only [List.take_succ_cons, List.take_zero]
                      repeat (
                        first
                          | (refine nqW_skip rfl (fun K hK => ?_); go_frame; refine hK _ ?_; clear hK K)
                          | ((first | (refine nqW_plain (fun K hK => ?_)) | (refine nqW_want rfl (fun K hK => ?_)) | (refine nqW_step (fun K hK => ?_); go_simp))
                             first
                               | (refine nq_move rfl ?_; go_simp; refine hK _ ?_; clear hK K)
                               | (refine nq_assign rfl ?_; go_simp; refine hK _ ?_; clear hK K)
                               | (refine nq_flt rfl rfl rfl rfl hd ?_; intro _; go_frame; refine hK _ ?_; clear hK K)
                               | (refine nq_same ?_; intro w' hw'; go_simp; (try go_bits); refine hK _ ?_; clear hK K hw' w')
                               | (refine nq_same ?_; intro w' hw'; go_simp; rw [if_pos (by omega)]; go_simp; (try go_bits); refine hK _ ?_; clear hK K hw' w')
                               | (go_simp; refine hK _ ?_; clear hK K)))
                      refine nqW_nil (hRw _ ?_)
                      clear hc hb' hb2 hd hRw
                      intro w' hw'
                      simp only [List.drop]
                      have hB9 := below_step hB8 hB8.size hw'
                      have x9 := x8.below hw'
                      clear q4 q5 q6 x8 hw' hs8
                      obtain ⟨q4, q5, q6⟩ := x9.facts
                      have hBw9 := below_step hB6 hB6.size hB9
                      go_wp2_with fail
                      refine (HCx.out _ hBw9).mono ?_
                      rintro e w10 ⟨rfl, hb10⟩
                      have hB10 := below_step hB9 hB9.size hb10
                      have x10 := x9.below hb10
                      clear q4 q5 q6 x9 hb10 hB9 hBw9
                      obtain ⟨q4, q5, q6⟩ := x10.facts
                      have hBw10 := below_step hB6 hB6.size hB10
                      have hw9 := HW1.out
                      go_wp2_with fail
                      refine (HPx.out _).mono ?_
                      rintro e w' ⟨rfl, rfl⟩
                      go_wp2_with fail
                      simp only [hw9]
                      refine (HAt.out _).mono ?_
                      rintro e w' ⟨rfl, rfl⟩
                      clear hw9
                      go_wp2_with fail
                      refine (HCy.out _ hBw10).mono ?_
                      rintro e w11 ⟨rfl, hb11⟩
                      have hB11 := below_step hB10 hB10.size hb11
                      clear q4 q5 q6 x10 hb11 hB10 hBw10
                      obtain ⟨hA, hBb⟩ := HXA.out
                      by_cases a1 : (k : Int) < (ca : Int)
                      · have a2 := decide_eq_true a1
                        have a2' : decide (k < ca) = true := decide_eq_true (by omega)
                        have a3 : decide (plo ≤ r) = false := decide_eq_false (by omega)
                        by_cases b1 : (k : Int) < (cb : Int)
                        · have b2 : decide ((cb : Int) ≤ (k : Int)) = false := decide_eq_false (by omega)
                          have b2' : decide (cb ≤ k) = false := decide_eq_false (by omega)
                          clear hA hBb a1 b1
                          go_wp2_with fail
                          refine (HPx.out _).mono ?_
                          rintro e w' ⟨rfl, rfl⟩
                          go_wp2_with fail
                          refine (HPlo.out _).mono ?_
                          rintro e w' ⟨rfl, rfl⟩
                          go_wp2_with fail
                          go_roundw
                          case rel => exact ⟨k + 1, by omega, by go_num, hB11⟩
                          case measure => simp [intOf]; omega
                        · have b2 : decide ((cb : Int) ≤ (k : Int)) = true := decide_eq_true (by omega)
                          have b2' : decide (cb ≤ k) = true := decide_eq_true (by omega)
                          have b3 : decide (r + 1 ≤ phi) = false := decide_eq_false (by omega)
                          clear hA hBb a1 b1
                          go_wp2_with fail
                          refine (HPx.out _).mono ?_
                          rintro e w' ⟨rfl, rfl⟩
                          go_wp2_with fail
                          refine (HPlo.out _).mono ?_
                          rintro e w' ⟨rfl, rfl⟩
                          go_wp2_with fail
                          refine (HPy.out _).mono ?_
                          rintro e w' ⟨rfl, rfl⟩
                          go_wp2_with fail
                          refine (HPhi.out _).mono ?_
                          rintro e w' ⟨rfl, rfl⟩
                          go_wp2_with fail
                          go_roundw
                          case rel => exact ⟨k + 1, by omega, by go_num, hB11⟩
                          case measure => simp [intOf]; omega
                      · have a2 := decide_eq_false a1
                        have a2' : decide (k < ca) = false := decide_eq_false (by omega)
                        by_cases b1 : (k : Int) < (cb : Int)
                        · have b2 : decide ((cb : Int) ≤ (k : Int)) = false := decide_eq_false (by omega)
                          have b2' : decide (cb ≤ k) = false := decide_eq_false (by omega)
                          clear hA hBb a1 b1
                          go_wp2_with fail
                          go_roundw
                          case rel => exact ⟨k + 1, by omega, by go_num, hB11⟩
                          case measure => simp [intOf]; omega
                        · have b2 : decide ((cb : Int) ≤ (k : Int)) = true := decide_eq_true (by omega)
                          have b2' : decide (cb ≤ k) = true := decide_eq_true (by omega)
                          have b3 : decide (r + 1 ≤ phi) = false := decide_eq_false (by omega)
                          clear hA hBb a1 b1
                          go_wp2_with fail
                          refine (HPy.out _).mono ?_
                          rintro e w' ⟨rfl, rfl⟩
                          go_wp2_with fail
                          refine (HPhi.out _).mono ?_
                          rintro e w' ⟨rfl, rfl⟩
                          go_wp2_with fail
                          go_roundw
                          case rel => exact ⟨k + 1, by omega, by go_num, hB11⟩
                          case measure => simp [intOf]; omega
                    · skip
                      have tk : decide (0 < (k : Int)) = true := decide_eq_true (by omega)
                      have tk' : decide (0 < k) = true := decide_eq_true (by omega)
                      have c1 := ((below_cells hB8).1 _ (uo + k) hub).trans (HU.out k hlt)
                      have c2 := ((below_cells hB8).1 _ (uo + (k - 1)) hub).trans (HU.out (k - 1) (by omega))
                      have t1 := HRise.out k (by omega) hlt
                      have hub8 : ub < w8.heap.size := by omega
                      have hwk : IntKind.i64.wrap ((k : Int) - 1) = (k : Int) - 1 := by rw [IntKind.wrap_i64]; omega
                      have hwk' : wrap64 ((k : Int) - 1) = (k : Int) - 1 := by unfold wrap64; omega
                      have i1 : ((k : Int) - 1).toNat = k - 1 := by omega
                      have i2 : 0 ≤ (k : Int) - 1 := by omega
                      have i3 : (k : Int) - 1 < (ds.length : Int) := by omega
                      clear k0
                      generalize ws.getD k 0 = v1 at *
                      generalize ws.getD (k - 1) 0 = v0 at *
                      generalize k - 1 = kj at *
                      go_wp2_with fail
                      refine wp_region_nqb 18 (fun _ _ _ => False) (by kernel_rfl) (by kernel_rfl) ?_
                      intro Cw Rw hc hb' hb2 hd hRw
                      simp only [List.take_succ_cons, List.take_zero]
                      repeat (
                        first
                          | (refine nqW_skip rfl (fun K hK => ?_); go_frame; refine hK _ ?_; clear hK K)
                          | ((first | (refine nqW_plain (fun K hK => ?_)) | (refine nqW_want rfl (fun K hK => ?_)) | (refine nqW_step (fun K hK => ?_); go_simp))
                             first
                               | (refine nq_move rfl ?_; go_simp; refine hK _ ?_; clear hK K)
                               | (refine nq_assign rfl ?_; go_simp; refine hK _ ?_; clear hK K)
                               | (refine nq_flt rfl rfl rfl rfl hd ?_; intro _; go_frame; refine hK _ ?_; clear hK K)
                               | (refine nq_same ?_; intro w' hw'; go_simp; (try go_bits); refine hK _ ?_; clear hK K hw' w')
                               | (refine nq_same ?_; intro w' hw'; go_simp; rw [if_pos (by omega)]; go_simp; (try go_bits); refine hK _ ?_; clear hK K hw' w')
                               | (go_simp; refine hK _ ?_; clear hK K)))
                      refine nqW_nil (hRw _ ?_)
                      clear hc hb' hb2 hd hRw
                      intro w' hw'
                      simp only [List.drop]
                      have hB9 := below_step hB8 hB8.size hw'
                      have x9 := x8.below hw'
                      clear q4 q5 q6 x8 hw' hs8 c1 c2 t1 hub8 hwk hwk' i1 i2 i3
                      obtain ⟨q4, q5, q6⟩ := x9.facts
                      have hBw9 := below_step hB6 hB6.size hB9
                      go_wp2_with fail
                      refine (HCx.out _ hBw9).mono ?_
                      rintro e w10 ⟨rfl, hb10⟩
                      have hB10 := below_step hB9 hB9.size hb10
                      have x10 := x9.below hb10
                      clear q4 q5 q6 x9 hb10 hB9 hBw9
                      obtain ⟨q4, q5, q6⟩ := x10.facts
                      have hBw10 := below_step hB6 hB6.size hB10
                      have hw9 := HW1.out
                      go_wp2_with fail
                      refine (HPx.out _).mono ?_
                      rintro e w' ⟨rfl, rfl⟩
                      go_wp2_with fail
                      simp only [hw9]
                      refine (HAt.out _).mono ?_
                      rintro e w' ⟨rfl, rfl⟩
                      clear hw9
                      go_wp2_with fail
                      refine (HCy.out _ hBw10).mono ?_
                      rintro e w11 ⟨rfl, hb11⟩
                      have hB11 := below_step hB10 hB10.size hb11
                      clear q4 q5 q6 x10 hb11 hB10 hBw10
                      obtain ⟨hA, hBb⟩ := HXA.out
                      by_cases a1 : (k : Int) < (ca : Int)
                      · have a2 := decide_eq_true a1
                        have a2' : decide (k < ca) = true := decide_eq_true (by omega)
                        have a3 : decide (plo ≤ r) = false := decide_eq_false (by omega)
                        by_cases b1 : (k : Int) < (cb : Int)
                        · have b2 : decide ((cb : Int) ≤ (k : Int)) = false := decide_eq_false (by omega)
                          have b2' : decide (cb ≤ k) = false := decide_eq_false (by omega)
                          clear hA hBb a1 b1
                          go_wp2_with fail
                          refine (HPx.out _).mono ?_
                          rintro e w' ⟨rfl, rfl⟩
                          go_wp2_with fail
                          refine (HPlo.out _).mono ?_
                          rintro e w' ⟨rfl, rfl⟩
                          go_wp2_with fail
                          go_roundw
                          case rel => exact ⟨k + 1, by omega, by go_num, hB11⟩
                          case measure => simp [intOf]; omega
                        · have b2 : decide ((cb : Int) ≤ (k : Int)) = true := decide_eq_true (by omega)
                          have b2' : decide (cb ≤ k) = true := decide_eq_true (by omega)
                          have b3 : decide (r + 1 ≤ phi) = false := decide_eq_false (by omega)
                          clear hA hBb a1 b1
                          go_wp2_with fail
                          refine (HPx.out _).mono ?_
                          rintro e w' ⟨rfl, rfl⟩
                          go_wp2_with fail
                          refine (HPlo.out _).mono ?_
                          rintro e w' ⟨rfl, rfl⟩
                          go_wp2_with fail
                          refine (HPy.out _).mono ?_
                          rintro e w' ⟨rfl, rfl⟩
                          go_wp2_with fail
                          refine (HPhi.out _).mono ?_
                          rintro e w' ⟨rfl, rfl⟩
                          go_wp2_with fail
                          go_roundw
                          case rel => exact ⟨k + 1, by omega, by go_num, hB11⟩
                          case measure => simp [intOf]; omega
                      · have a2 := decide_eq_false a1
                        have a2' : decide (k < ca) = false := decide_eq_false (by omega)
                        by_cases b1 : (k : Int) < (cb : Int)
                        · have b2 : decide ((cb : Int) ≤ (k : Int)) = false := decide_eq_false (by omega)
                          have b2' : decide (cb ≤ k) = false := decide_eq_false (by omega)
                          clear hA hBb a1 b1
                          go_wp2_with fail
                          go_roundw
                          case rel => exact ⟨k + 1, by omega, by go_num, hB11⟩
                          case measure => simp [intOf]; omega
                        · have b2 : decide ((cb : Int) ≤ (k : Int)) = true := decide_eq_true (by omega)
                          have b2' : decide (cb ≤ k) = true := decide_eq_true (by omega)
                          have b3 : decide (r + 1 ≤ phi) = false := decide_eq_false (by omega)
                          clear hA hBb a1 b1
                          go_wp2_with fail
                          refine (HPy.out _).mono ?_
                          rintro e w' ⟨rfl, rfl⟩
                          go_wp2_with fail
                          refine (HPhi.out _).mono ?_
                          rintro e w' ⟨rfl, rfl⟩
                          go_wp2_with fail
                          go_roundw
                          case rel => exact ⟨k + 1, by omega, by go_num, hB11⟩
                          case measure => simp [intOf]; omega
                  · obtain rfl : k = ds.length := by omega
                    go_wp2
                    go_ret
                    exact ⟨rfl, below_step hB6 hB6.size hBr⟩
end Go.Proofs.Ytogkmddhgfenkaa
