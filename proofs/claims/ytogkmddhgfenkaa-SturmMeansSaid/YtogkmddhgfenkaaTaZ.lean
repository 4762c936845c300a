/- 'SturmAll': all values, and those between two floats (printed by gen_ta.py). -/
import Derived.Test.YtogkmddhgfenkaaZz19
namespace Go.Proofs.Ytogkmddhgfenkaa
open Go Go.RowKit
set_option maxRecDepth 1000000

theorem sameFs_same (xs : List Nat) : sameFs xs xs = true := by
  have h : ∀ n, sameN xs xs n = true := fun n => by
    induction n with
    | zero => rfl
    | succ n ih => unfold sameN; rw [ih]; simp [sameF]
  unfold sameFs
  rw [h]; simp
theorem allL_words (ds es : List Nat) : ∀ k, Words (allL ds es k)
  | 0 => fun v hv => by cases hv
  | k + 1 => fun v hv => by
    unfold allL at hv
    rcases List.mem_append.1 hv with h | h
    · exact allL_words ds es k v h
    · rw [List.mem_singleton] at h
      rw [h]
      split
      · exact (allL_words ds es k).at _
      · exact atN_lt _
theorem witL_words (ds es : List Nat) (l h : Nat) : Words (witL ds es l h) := fun v hv => allL_words ds es ds.length v (List.mem_of_mem_drop (List.mem_of_mem_take hv))
theorem witL_max (ds es : List Nat) (l h : Nat) : witL ds es l (max l h) = witL ds es l h := by
  unfold witL
  congr 1
  omega
theorem witL_snoc {ds es : List Nat} {l i : Nat} (h1 : l ≤ i) (h2 : i < ds.length) : witL ds es l (i + 1) = witL ds es l i ++ [(allL ds es ds.length).getD i 0] := by
  unfold witL
  have hl := allL_length ds es ds.length
  rw [show i + 1 - l = (i - l) + 1 by omega, List.take_succ_eq_append_getElem (by rw [List.length_drop]; omega), List.getElem_drop]
  congr 2
  rw [List.getD_eq_getElem?_getD, List.getElem?_eq_getElem (by omega)]
  simp only [Option.getD_some]
  congr 1
  omega
theorem alls_parts (ds es : List Nat) : (askS ds es [] ≠ 0 → allE ds es = askS ds es []) ∧ (askS ds es [] = 0 → allE ds es ≠ 0 → allE ds es = 10 ∧ ds.length ≠ 0 ∧ bndE ds es ≠ 0) := by
  refine ⟨fun h => by unfold allE; rw [if_neg (fun k => h k.1)], fun h h1 => ?_⟩
  have hb := allE_bnd h1
  have hn : ds.length ≠ 0 := by
    intro h0
    unfold allE at h1
    rw [if_neg (fun k => k.2 h0)] at h1
    exact h1 h
  refine ⟨?_, hn, hb⟩
  unfold allE
  rw [if_pos ⟨h, hn⟩]
  unfold bndE at hb ⊢
  rw [if_pos h, if_neg hn] at hb ⊢
  split at hb
  · exact absurd rfl hb
  · rename_i hq; rw [if_neg hq]
set_option maxHeartbeats 32000000 in
theorem all_raw (w : World) (da ea : Option Addr) (ds es : List Nat) (dc ec lo sl hi sh : Nat) (hlo : lo < 18446744073709551616) (hhi : hi < 18446744073709551616) (hD : Fls w da ds) (hE : Fls w ea es) (hWd : Words ds) (hW : Words es) (hl : ds.length ≤ maxLen) (hl' : es.length ≤ maxLen) :
    Calls Try.prog 14 #[.agg #[.slice da ds.length dc, .slice ea es.length ec], .float .f64 (raw lo sl), .float .f64 (raw hi sh)] w fun e w' => e = .returned (.bool true) ∧ Below w.heap.size w w' := by
  have x0 : Box (w.alloc (.cells #[.slice da ds.length dc, .slice ea es.length ec] 51)) w.heap.size [.slice da ds.length dc, .slice ea es.length ec] := Box.newA w [_, _] _ rfl
  have hB0 : Below w.heap.size w (w.alloc (.cells #[.slice da ds.length dc, .slice ea es.length ec] 51)) := (Below.refl _ _).alloc (Nat.le_refl _) _
  by_cases hbig : 8 < ds.length ∨ 8 < es.length
  · have HB := Lib.hid (fun W => big_yes W da ea ds.length es.length dc ec 8 hbig)
    clear hD hE hWd hW hl hl' hbig
    go_enter Try.func14, Try.ntmps14
    go_wp2_with fail
    refine (HB.out _).mono ?_
    rintro e w1 ⟨rfl, hb1⟩
    have hB1 := below_step hB0 hB0.size hb1
    go_wp2_with fail
    refine (known13 _).mono ?_
    rintro e w2 ⟨rfl, hb2⟩
    go_wp2
    go_ret
    exact ⟨rfl, below_step hB1 hB1.size hb2⟩
  · have hn1 : ¬ 8 < ds.length := fun h => hbig (.inl h)
    have hn2 : ¬ 8 < es.length := fun h => hbig (.inr h)
    have hd8 : ds.length ≤ 1000 := by omega
    have he8 : es.length ≤ 1000 := by omega
    have HBig := Lib.hid (fun W => big_no W da ea ds.length es.length dc ec 8 hn1 hn2)
    have HAe := Lib.hid (fun (h : allE ds es ≠ 0) W (hW' : Below w.heap.size w W) => All_err W da ea ds es dc ec (hD.below hW') (hE.below hW') hW hd8 he8 (allE_bnd h))
    have HAo := Lib.hid (fun (h : allE ds es = 0) W (hW' : Below w.heap.size w W) => All_ok W da ea ds es dc ec (hD.below hW') (hE.below hW') hW hd8 he8 h)
    have HWe := Lib.hid (fun (h : allE ds es ≠ 0) W (hW' : Below w.heap.size w W) => Within_err W da ea ds es dc ec (raw lo sl) (raw hi sh) (hD.below hW') (hE.below hW') hW hd8 he8 h)
    have HWi := Lib.hid (fun (h : allE ds es = 0) (hf : (ffin lo && ffin hi) = false) W (hW' : Below w.heap.size w W) => Within_inf W da ea ds es dc ec lo sl hi sh (hD.below hW') (hE.below hW') hW hd8 he8 h hf)
    have HWo := Lib.hid (fun (h : allE ds es = 0) (hf : (ffin lo && ffin hi) = true) W (hW' : Below w.heap.size w W) => Within_ok W da ea ds es dc ec lo sl hi sh (hD.below hW') (hE.below hW') hW hd8 he8 h hf)
    have HAsk := Lib.hid (fun W (hW' : Below w.heap.size w W) => askR_askS ds es ▸ RAsk_any W da ea ds es dc ec (hD.below hW') (hE.below hW') hWd hW hl hl')
    have HRn := Lib.hid (fun (h : askS ds es [] = 0) (hn : ds.length ≠ 0) (hb : bndE ds es ≠ 0) W (hW' : Below w.heap.size w W) => RAll_no W da ea ds es dc ec (hD.below hW') (hE.below hW') hW hd8 h hn hb)
    have HRo := Lib.hid (fun (h : allE ds es = 0) W (hW' : Below w.heap.size w W) => RAll_ok W da ea ds es dc ec (hD.below hW') (hE.below hW') hW hd8 h)
    have HC := Lib.hid (fun (h : askS ds es [] = 0) (x s : Nat) (W : World) (hW' : Below w.heap.size w W) => RCount_any W da ea ds es dc ec x s (hD.below hW') (hE.below hW') hd8 (ask_len h))
    have HP := Lib.hid (alls_parts ds es)
    have HNum := Lib.hid (fun n W => num13_any n W)
    have hwL := Lib.hid (allL_words ds es ds.length)
    have hlL := allL_length ds es ds.length
    clear hD hE hWd hW hl hl' hbig hn1 hn2
    go_enter Try.func14, Try.ntmps14
    go_wp2_with fail
    refine (HBig.out _).mono ?_
    rintro e w1 ⟨rfl, hb1⟩
    have x1 := x0.below hb1
    have hB1 := below_step hB0 hB0.size hb1
    obtain ⟨q1, q2, q3⟩ := x1.facts
    clear x0 hB0 hb1 HBig
    by_cases hz : allE ds es = 0
    case neg =>
      have HAe2 := Lib.hid (HAe.out hz)
      have HWe2 := Lib.hid (HWe.out hz)
      by_cases h0 : askS ds es [] = 0
      case neg =>
        have h1 := HP.out.1 h0
        rw [h1] at HAe2 HWe2
        have t1 : (askS ds es [] != 0) = true := by simp [h0]
        have t2 : (askS ds es [] == askS ds es []) = true := by simp
        clear h0 h1 hz HAe HAo HWe HWi HWo HRn HRo HC HP hwL hlL
        generalize askS ds es [] = a0 at *
        go_wp2_with fail
        refine (HAe2.out _ hB1).mono ?_
        rintro e w2 ⟨rfl, hb2⟩
        have x2 := x1.below hb2
        have hB2 := below_step hB1 hB1.size hb2
        clear x1 hB1 hb2 q1 q2 q3
        obtain ⟨q1, q2, q3⟩ := x2.facts
        go_wp2_with fail
        refine (HWe2.out _ hB2).mono ?_
        rintro e w3 ⟨rfl, hb3⟩
        have x3 := x2.below hb3
        have hB3 := below_step hB2 hB2.size hb3
        clear x2 hB2 hb3 q1 q2 q3
        obtain ⟨q1, q2, q3⟩ := x3.facts
        go_wp2_with fail
        refine (HAsk.out _ hB3).mono ?_
        rintro e w4 ⟨rfl, hb4⟩
        have x4 := x3.below hb4
        have hB4 := below_step hB3 hB3.size hb4
        clear x3 hB3 hb4 q1 q2 q3
        obtain ⟨q1, q2, q3⟩ := x4.facts
        go_wp2_with fail
        refine (HNum.out _ _).mono ?_
        rintro e w' ⟨rfl, rfl⟩
        go_wp2_with fail
        refine (HNum.out _ _).mono ?_
        rintro e w' ⟨rfl, rfl⟩
        go_wp2_with fail
        refine (known13 _).mono ?_
        rintro e wz ⟨rfl, hbz⟩
        go_wp2
        go_ret
        exact ⟨rfl, below_step hB4 hB4.size hbz⟩
      case pos =>
        obtain ⟨h1, h2, h3⟩ := HP.out.2 h0 hz
        rw [h1] at HAe2 HWe2
        have HRn2 := Lib.hid (HRn.out h0 h2 h3)
        rw [h0] at HAsk
        clear h0 h1 h2 h3 hz HAe HAo HWe HWi HWo HRn HRo HC HP hwL hlL
        go_wp2_with fail
        refine (HAe2.out _ hB1).mono ?_
        rintro e w2 ⟨rfl, hb2⟩
        have x2 := x1.below hb2
        have hB2 := below_step hB1 hB1.size hb2
        clear x1 hB1 hb2 q1 q2 q3
        obtain ⟨q1, q2, q3⟩ := x2.facts
        go_wp2_with fail
        refine (HWe2.out _ hB2).mono ?_
        rintro e w3 ⟨rfl, hb3⟩
        have x3 := x2.below hb3
        have hB3 := below_step hB2 hB2.size hb3
        clear x2 hB2 hb3 q1 q2 q3
        obtain ⟨q1, q2, q3⟩ := x3.facts
        go_wp2_with fail
        refine (HAsk.out _ hB3).mono ?_
        rintro e w4 ⟨rfl, hb4⟩
        have x4 := x3.below hb4
        have hB4 := below_step hB3 hB3.size hb4
        clear x3 hB3 hb4 q1 q2 q3
        obtain ⟨q1, q2, q3⟩ := x4.facts
        go_wp2_with fail
        refine (HRn2.out _ hB4).mono ?_
        rintro e w5 ⟨rfl, hb5⟩
        have x5 := x4.below hb5
        have hB5 := below_step hB4 hB4.size hb5
        clear x4 hB4 hb5 q1 q2 q3
        obtain ⟨q1, q2, q3⟩ := x5.facts
        go_wp2_with fail
        refine (HNum.out _ _).mono ?_
        rintro e w' ⟨rfl, rfl⟩
        go_wp2_with fail
        refine (HNum.out _ _).mono ?_
        rintro e w' ⟨rfl, rfl⟩
        go_wp2_with fail
        refine (known13 _).mono ?_
        rintro e wz ⟨rfl, hbz⟩
        go_wp2
        go_ret
        exact ⟨rfl, below_step hB5 hB5.size hbz⟩
    case pos =>
      have h0 : askS ds es [] = 0 := by
        by_cases h : askS ds es [] = 0
        · exact h
        · rw [HP.out.1 h] at hz; exact hz
      rw [h0] at HAsk
      have HAo2 := Lib.hid (HAo.out hz)
      have HRo2 := Lib.hid (HRo.out hz)
      have HC2 := Lib.hid (HC.out h0)
      have HFin := Lib.hid (fun (W : World) => RFinite_any (W.alloc (.cells #[.float .f64 (raw lo sl), .float .f64 (raw hi sh)] 35)) (some ⟨W.heap.size, 0, none⟩) [lo, hi] 2 (fls_two W 35 lo sl hi sh) (words_two hlo hhi) (by unfold maxLen; simp))
      have ef : [lo, hi].all ffin = (ffin lo && ffin hi) := by simp
      rw [ef] at HFin
      have HSame := Lib.hid (fun (W : World) (a b : Option Addr) (c d : Nat) (hX : Cel W a (allL ds es ds.length)) (hY : Cel W b (allL ds es ds.length)) => sameFs_same (allL ds es ds.length) ▸ SameFloats_any W a b (allL ds es ds.length) (allL ds es ds.length) c d hX hY hwL.out hwL.out (by unfold maxLen; omega) (by unfold maxLen; omega))
      rw [hlL] at HSame
      have tM : ((allM ds es ds.length : Int) == (allM ds es ds.length : Int)) = true := by simp
      have tM' : ((allM ds es ds.length : Int) != (allM ds es ds.length : Int)) = false := by simp
      cases hf : (ffin lo && ffin hi)
      · rw [hf] at HFin
        have HWi2 := Lib.hid (HWi.out hz hf)
        clear ef h0 hz HAe HAo HWe HWi HWo HRn HRo HC HP hwL HC2 hf
        go_wp2_with fail
        refine (HAo2.out _ hB1).mono ?_
        rintro e w2 ⟨sv, rfl, hr, hb2⟩
        obtain ⟨ua, uc, rfl, uC⟩ := cel_of_row hr
        have x2 := x1.below hb2
        have hB2 := below_step hB1 hB1.size hb2
        clear x1 hB1 q1 q2 q3 hr hb2
        obtain ⟨q1, q2, q3⟩ := x2.facts
        go_wp2_with fail
        refine (HWi2.out _ hB2).mono ?_
        rintro e w3 ⟨rfl, hb3⟩
        have x3 := x2.below hb3
        have hB3 := below_step hB2 hB2.size hb3
        replace uC := uC.below hb3
        clear x2 hB2 q1 q2 q3 hb3
        obtain ⟨q1, q2, q3⟩ := x3.facts
        go_wp2_with fail
        refine (HAsk.out _ hB3).mono ?_
        rintro e w4 ⟨rfl, hb4⟩
        have x4 := x3.below hb4
        have hB4 := below_step hB3 hB3.size hb4
        replace uC := uC.below hb4
        clear x3 hB3 q1 q2 q3 hb4
        obtain ⟨q1, q2, q3⟩ := x4.facts
        go_wp2_with fail
        refine (HRo2.out _ hB4).mono ?_
        rintro e w5 ⟨sv, rfl, hr, hb5⟩
        obtain ⟨va, vc, rfl, vC⟩ := cel_of_row hr
        have x5 := x4.below hb5
        have hB5 := below_step hB4 hB4.size hb5
        replace uC := uC.below hb5
        clear x4 hB4 q1 q2 q3 hr hb5
        obtain ⟨q1, q2, q3⟩ := x5.facts
        go_wp2_with fail
        refine (HSame.out _ _ _ _ _ uC vC).mono ?_
        rintro e w6 ⟨rfl, hb6⟩
        have x6 := x5.below hb6
        have hB6 := below_step hB5 hB5.size hb6
        clear x5 hB5 q1 q2 q3 hb6
        obtain ⟨q1, q2, q3⟩ := x6.facts
        go_wp2_with fail
        refine (HNum.out _ _).mono ?_
        rintro e w' ⟨rfl, rfl⟩
        have hA7 : Below w6.heap.size w6 (w6.alloc (.cells #[.float .f64 (raw lo sl), .float .f64 (raw hi sh)] 35)) := (Below.refl _ _).alloc (Nat.le_refl _) _
        have x7 := x6.below hA7
        have hB7 := below_step hB6 hB6.size hA7
        have HFin2 := Lib.hid (HFin.out w6)
        clear x6 hB6 hA7 q1 q2 q3 HFin
        go_wp2_with fail
        refine HFin2.out.mono ?_
        rintro e w' ⟨rfl, rfl⟩
        generalize (w6.alloc (.cells #[.float .f64 (raw lo sl), .float .f64 (raw hi sh)] 35)) = w7 at *
        obtain ⟨q1, q2, q3⟩ := x7.facts
        go_wp2_with fail
        refine (HNum.out _ _).mono ?_
        rintro e w' ⟨rfl, rfl⟩
        go_wp2_with fail
        refine (known13 _).mono ?_
        rintro e wz ⟨rfl, hbz⟩
        go_wp2
        go_ret
        exact ⟨rfl, below_step hB7 hB7.size hbz⟩
      · rw [hf] at HFin
        have HWo2 := Lib.hid (HWo.out hz hf)
        have hf2 : ffin lo = true ∧ ffin hi = true := by simpa using hf
        have g1 : cntN ds es lo = cntK ds es lo ds.length := by unfold cntN; rw [if_pos (ask_one h0 hf2.1)]
        have g2 : cntN ds es hi = cntK ds es hi ds.length := by unfold cntN; rw [if_pos (ask_one h0 hf2.2)]
        have hk1 := cntK_le ds es lo ds.length
        have hk2 := cntK_le ds es hi ds.length
        rw [g1, g2, witL_max] at HWo2
        have HCl := Lib.hid (fun (W : World) (hW' : Below w.heap.size w W) => HC2.out lo sl W hW')
        have HCh := Lib.hid (fun (W : World) (hW' : Below w.heap.size w W) => HC2.out hi sh W hW')
        have HSn := Lib.hid (fun i (h1 : cntK ds es lo ds.length ≤ i) (h2 : i < ds.length) => witL_snoc (ds := ds) (es := es) h1 h2)
        have HWt := Lib.hid (witL_max ds es (cntK ds es lo ds.length) (cntK ds es hi ds.length))
        have HW0 : Hid (∀ l, witL ds es l l = []) := fun l => by unfold witL; rw [Nat.sub_self]; rfl
        have HWl := Lib.hid (fun (h : cntK ds es lo ds.length ≤ cntK ds es hi ds.length) => witL_length (ds := ds) (es := es) (l := cntK ds es lo ds.length) hk2)
        have HSame2 := Lib.hid (fun (W : World) (a b : Option Addr) (c d : Nat) l h (hX : Cel W a (witL ds es l h)) (hY : Cel W b (witL ds es l h)) => sameFs_same (witL ds es l h) ▸ SameFloats_any W a b (witL ds es l h) (witL ds es l h) c d hX hY (witL_words ds es l h) (witL_words ds es l h) (by unfold witL maxLen; rw [List.length_take, List.length_drop]; omega) (by unfold witL maxLen; rw [List.length_take, List.length_drop]; omega))
        clear ef h0 hz HAe HAo HWe HWi HWo HRn HRo HC HP hwL HC2 hf g1 g2 hf2
        generalize cntK ds es lo ds.length = c1 at *
        generalize cntK ds es hi ds.length = c2 at *
        go_wp2_with fail
        refine (HAo2.out _ hB1).mono ?_
        rintro e w2 ⟨sv, rfl, hr, hb2⟩
        obtain ⟨ua, uc, rfl, uC⟩ := cel_of_row hr
        have x2 := x1.below hb2
        have hB2 := below_step hB1 hB1.size hb2
        clear x1 hB1 q1 q2 q3 hr hb2
        obtain ⟨q1, q2, q3⟩ := x2.facts
        go_wp2_with fail
        refine (HWo2.out _ hB2).mono ?_
        rintro e w3 ⟨⟨pa, pc, rfl, pC⟩, hb3⟩
        have x3 := x2.below hb3
        have hB3 := below_step hB2 hB2.size hb3
        replace uC := uC.below hb3
        clear x2 hB2 q1 q2 q3 hb3
        obtain ⟨q1, q2, q3⟩ := x3.facts
        go_wp2_with fail
        refine (HAsk.out _ hB3).mono ?_
        rintro e w4 ⟨rfl, hb4⟩
        have x4 := x3.below hb4
        have hB4 := below_step hB3 hB3.size hb4
        replace uC := uC.below hb4
        replace pC := pC.below hb4
        clear x3 hB3 q1 q2 q3 hb4
        obtain ⟨q1, q2, q3⟩ := x4.facts
        go_wp2_with fail
        refine (HRo2.out _ hB4).mono ?_
        rintro e w5 ⟨sv, rfl, hr, hb5⟩
        obtain ⟨va, vc, rfl, vC⟩ := cel_of_row hr
        have x5 := x4.below hb5
        have hB5 := below_step hB4 hB4.size hb5
        replace uC := uC.below hb5
        replace pC := pC.below hb5
        clear x4 hB4 q1 q2 q3 hr hb5
        obtain ⟨q1, q2, q3⟩ := x5.facts
        go_wp2_with fail
        refine (HSame.out _ _ _ _ _ uC vC).mono ?_
        rintro e w6 ⟨rfl, hb6⟩
        have x6 := x5.below hb6
        have hB6 := below_step hB5 hB5.size hb6
        replace vC := vC.below hb6
        replace pC := pC.below hb6
        clear x5 hB5 q1 q2 q3 hb6
        obtain ⟨q1, q2, q3⟩ := x6.facts
        go_wp2_with fail
        refine (HNum.out _ _).mono ?_
        rintro e w' ⟨rfl, rfl⟩
        have hA7 : Below w6.heap.size w6 (w6.alloc (.cells #[.float .f64 (raw lo sl), .float .f64 (raw hi sh)] 35)) := (Below.refl _ _).alloc (Nat.le_refl _) _
        have x7 := x6.below hA7
        have hB7 := below_step hB6 hB6.size hA7
        have HFin2 := Lib.hid (HFin.out w6)
        replace vC := vC.below hA7
        replace pC := pC.below hA7
        clear x6 hB6 hA7 q1 q2 q3 HFin
        go_wp2_with fail
        refine HFin2.out.mono ?_
        rintro e w' ⟨rfl, rfl⟩
        generalize (w6.alloc (.cells #[.float .f64 (raw lo sl), .float .f64 (raw hi sh)] 35)) = w7 at *
        obtain ⟨q1, q2, q3⟩ := x7.facts

        generalize raw lo sl = xl at *
        generalize raw hi sh = xh at *
        go_upto_region 15 with (fail)
        refine wp_region_nqd 8  (by kernel_rfl) (by kernel_rfl) ?_
        intro Cw Rw hc hb' hb2 hd hRw
        simp only [List.take_succ_cons, List.take_zero]
        iterate 5 (
          first
            | (refine nqW_skip rfl (fun K hK => ?_); go_frame; refine hK _ ?_; clear hK K)
            | ((first | (refine nqW_plain (fun K hK => ?_)) | (refine nqW_want rfl (fun K hK => ?_)) | (refine nqW_step (fun K hK => ?_); go_simp))
               first
                 | (refine nq_move rfl ?_; go_simp; refine hK _ ?_; clear hK K)
                 | (refine nq_assign rfl ?_; go_simp; refine hK _ ?_; clear hK K)
                 | (refine nq_flt rfl rfl rfl rfl hd ?_; intro _; go_frame; refine hK _ ?_; clear hK K)
                 | (refine nq_inC rfl ?_; intro w' hw'; go_simp; refine fd_both (V := (.int .i64 (c1 : Int))) (by kernel_rfl) (fun w2 hw2 => ?_) ?_; (next => (go_at_call 54; exact (HCl.out w2 (below_step hB7 hB7.size (hb' _ hw2))).mono (fun e w3 ⟨he, hb⟩ => ⟨he, hb2 _ _ hw2 hb⟩))); (try go_simp); refine hK _ ?_; clear hK K hw' w')
                 | (refine nq_same ?_; intro w' hw'; go_simp; (try go_bits); refine hK _ ?_; clear hK K hw' w')
                 | (refine nq_same ?_; intro w' hw'; go_simp; rw [if_pos (by omega)]; go_simp; (try go_bits); refine hK _ ?_; clear hK K hw' w')
                 | (go_simp; refine hK _ ?_; clear hK K)))
        iterate 3 (
          first
            | (refine nqW_skip rfl (fun K hK => ?_); go_frame; refine hK _ ?_; clear hK K)
            | ((first | (refine nqW_plain (fun K hK => ?_)) | (refine nqW_want rfl (fun K hK => ?_)) | (refine nqW_step (fun K hK => ?_); go_simp))
               first
                 | (refine nq_move rfl ?_; go_simp; refine hK _ ?_; clear hK K)
                 | (refine nq_assign rfl ?_; go_simp; refine hK _ ?_; clear hK K)
                 | (refine nq_flt rfl rfl rfl rfl hd ?_; intro _; go_frame; refine hK _ ?_; clear hK K)
                 | (refine nq_inC rfl ?_; intro w' hw'; go_simp; refine fd_both (V := (.int .i64 (c2 : Int))) (by kernel_rfl) (fun w2 hw2 => ?_) ?_; (next => (go_at_call 54; exact (HCh.out w2 (below_step hB7 hB7.size (hb' _ hw2))).mono (fun e w3 ⟨he, hb⟩ => ⟨he, hb2 _ _ hw2 hb⟩))); (try go_simp); refine hK _ ?_; clear hK K hw' w')
                 | (refine nq_same ?_; intro w' hw'; go_simp; (try go_bits); refine hK _ ?_; clear hK K hw' w')
                 | (refine nq_same ?_; intro w' hw'; go_simp; rw [if_pos (by omega)]; go_simp; (try go_bits); refine hK _ ?_; clear hK K hw' w')
                 | (go_simp; refine hK _ ?_; clear hK K)))
        refine nqW_nil (hRw _ ?_)
        clear hc hb' hb2 hd hRw
        intro w' hw'
        simp only [List.drop]
        have x8 := x7.below hw'
        have hB8 := below_step hB7 hB7.size hw'
        have vC8 := vC.below hw'
        have pC8 := pC.below hw'
        obtain ⟨i0, hi0, hz0, hz1, hz2⟩ := info_parts info_f64
        clear x7 hB7 vC pC hw' q1 q2 q3 uC
        have HQ := Lib.hid (show _ ∧ _ from ⟨hB8, pC8⟩)
        have hm12 : c1 ≤ max c1 c2 ∧ max c1 c2 ≤ ds.length := by omega
        have hln : ds.length ≤ 9223372036854775807 := by omega
        clear hB8 pC8
        go_wp2_with fail
        generalize w' = w8 at *
        go_loopw [19, 20] (fun s19 s20 wr => ∃ i : Nat, c1 ≤ i ∧ i ≤ max c1 c2 ∧ s20 = .int .i64 i ∧ wr.ownsRow w8.heap.size 35 1 s19 (i - c1) ((witL ds es c1 i).map (Value.float .f64)) ∧ Below w8.heap.size w8 wr) (fun _ s20 _ => c2 - (intOf s20).toNat)
        case atStart => exact ⟨c1, Nat.le_refl _, hm12.1, rfl, by rw [HW0.out c1, Nat.sub_self]; exact World.ownsRow_nil _ _ _ _, Below.refl _ _⟩
        case round =>
          obtain ⟨i, hi1, hi2, rfl, hrow, hB⟩ := hrel
          by_cases hlt : i < c2
          · have hin : i < ds.length := by omega
            have vCr := vC8.below hB
            obtain ⟨vb, vo, rfl, hvb, hvc⟩ := vCr (by intro h0; rw [h0] at hlL; simp at hlL; omega)
            have c3 := hvc i ((allL ds es ds.length).getD i 0) (by rw [List.getD_eq_getElem?_getD, List.getElem?_eq_getElem (by omega)]; rfl)
            have HN := Lib.hid (HSn.out i hi1 hin)
            have hsw := hB.size
            have HX := Lib.hid (show _ ∧ _ from ⟨hrow, hB⟩)
            have e9 : i + 1 - c1 = i - c1 + 1 := by omega
            have HE9 := Lib.hid e9
            have hi3 : i + 1 ≤ max c1 c2 := by omega
            have hi4 : i + 1 ≤ 1000 := by omega
            have hi5 : i - c1 ≤ 1000 := by omega
            clear hvc hrow hB e9 hm12
            generalize (allL ds es ds.length).getD i 0 = vx at *
            go_wp2_with (at_builtin; refine wpList_append_lies _ rfl (.tmp 156) (.tmp 161) 24 rfl w8.heap.size 35 i0 (.float .f64 0) 1 8 Try.underlying24 hi0 hz0 hz1 hz2 rfl (by decide) _ (i - c1) _ rfl (HX.out.1.alloc _) _ 1 1 [.float .f64 _] rfl rfl (cell_one_new _ _ _) (by simp [Value.oneCell']) (by decide) (by unfold maxLen; omega) (by omega) (by simp; omega) _ rfl ?_; intro g' cap' w5 hown hgrow hat hlt')
            go_roundw
            case rel =>
              obtain ⟨row4, hbel4⟩ := HX.out
              have hbA : Below w8.heap.size wr (wr.alloc (.cells #[.float .f64 vx] 35)) := (Below.refl _ _).alloc hsw _
              have hb5 : Below w8.heap.size wr w5 := hbA.grown hgrow (by simp; omega) (fun r e => (row4.lt r e).1)
              refine ⟨i + 1, by omega, hi3, by go_num, ?_, hbel4.trans hb5⟩
              rw [HN.out, List.map_append, HE9.out]; exact hown
            case measure => simp [intOf]; omega
          · obtain rfl : i = max c1 c2 := by omega
            rw [HWt.out] at hrow
            obtain ⟨ra, rc, rfl, rC⟩ := cel_of_row hrow
            have hB9 := below_step HQ.out.1 HQ.out.1.size hB
            have HSm := Lib.hid (HSame2.out wr pa ra pc rc c1 c2 (HQ.out.2.below hB) rC)
            clear hrow hB
            have tm : decide (((max c1 c2 : Nat) : Int) < (c2 : Int)) = false := decide_eq_false (by omega)
            generalize max c1 c2 = cm at *
            generalize witL ds es c1 c2 = wl at *
            go_wp2_with fail
            refine HSm.out.mono ?_
            rintro e w9 ⟨rfl, hb9⟩
            have hB10 := below_step hB9 hB9.size hb9
            clear hB9 hb9 HSm
            go_wp2_with fail
            refine (HNum.out _ _).mono ?_
            rintro e w' ⟨rfl, rfl⟩
            go_wp2_with fail
            refine (known13 _).mono ?_
            rintro e wz ⟨rfl, hbz⟩
            go_wp2
            go_ret
            exact ⟨rfl, below_step hB10 hB10.size hbz⟩
theorem all13_any (w : World) (da ea : Option Addr) (ds es : List Nat) (dc ec x y : Nat) (hD : Fls w da ds) (hE : Fls w ea es) (hWd : Words ds) (hW : Words es) (hl : ds.length ≤ maxLen) (hl' : es.length ≤ maxLen) (hx : x < 18446744073709551616) (hy : y < 18446744073709551616) :
    Calls Try.prog 14 #[.agg #[.slice da ds.length dc, .slice ea es.length ec], .float .f64 x, .float .f64 y] w fun e w' => e = .returned (.bool true) ∧ Below w.heap.size w w' := by
  obtain ⟨sx, hsx⟩ := raw_self hx
  obtain ⟨sy, hsy⟩ := raw_self hy
  have h := all_raw w da ea ds es dc ec x sx y sy hx hy hD hE hWd hW hl hl'
  rw [← hsx, ← hsy] at h
  exact h
end Go.Proofs.Ytogkmddhgfenkaa
