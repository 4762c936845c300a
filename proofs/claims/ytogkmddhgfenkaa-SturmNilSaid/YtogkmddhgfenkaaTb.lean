/- The sturm laws: bounds. -/
import Derived.Test.YtogkmddhgfenkaaRb
import Derived.Test.YtogkmddhgfenkaaSt14
namespace Go.Proofs.Ytogkmddhgfenkaa
open Go Go.RowKit
set_option maxRecDepth 100000
theorem lt_app {c : Prop} [Decidable c] (h : c) : decide c = true := decide_eq_true h
set_option maxHeartbeats 1000000 in
theorem big_yes (w : World) (da ea : Option Addr) (n m dc ec k : Nat) (h : k < n ∨ k < m) :
    Calls Try.prog 33 #[.agg #[.slice da n dc, .slice ea m ec], .int .i64 k] w fun e w' => e = .returned (.bool true) ∧ Below w.heap.size w w' := by
  have hB0 : Below w.heap.size w (w.alloc (.cells #[.slice da n dc, .slice ea m ec] 51)) := (Below.refl _ _).alloc (Nat.le_refl _) _
  by_cases h1 : k < n
  · have t1 : decide ((k : Int) < (n : Int)) = true := decide_eq_true (by omega)
    have t1' : decide (k < n) = true := decide_eq_true h1
    clear h h1
    go_enter Try.func33, Try.ntmps33
    go_wp2
    go_ret
    exact ⟨rfl, hB0⟩
  · have t1 : decide ((k : Int) < (n : Int)) = false := decide_eq_false (by omega)
    have t1' : decide (k < n) = false := decide_eq_false h1
    have t2 : decide ((k : Int) < (m : Int)) = true := decide_eq_true (by omega)
    have t2' : decide (k < m) = true := decide_eq_true (by omega)
    clear h h1
    go_enter Try.func33, Try.ntmps33
    go_wp2
    go_ret
    exact ⟨rfl, hB0⟩
set_option maxHeartbeats 1000000 in
theorem big_no (w : World) (da ea : Option Addr) (n m dc ec k : Nat) (h : ¬ k < n) (h' : ¬ k < m) :
    Calls Try.prog 33 #[.agg #[.slice da n dc, .slice ea m ec], .int .i64 k] w fun e w' => e = .returned (.bool false) ∧ Below w.heap.size w w' := by
  have hB0 : Below w.heap.size w (w.alloc (.cells #[.slice da n dc, .slice ea m ec] 51)) := (Below.refl _ _).alloc (Nat.le_refl _) _
  have t1 : decide ((k : Int) < (n : Int)) = false := decide_eq_false (by omega)
  have t1' : decide (k < n) = false := decide_eq_false h
  have t2 : decide ((k : Int) < (m : Int)) = false := decide_eq_false (by omega)
  have t2' : decide (k < m) = false := decide_eq_false h'
  clear h h'
  go_enter Try.func33, Try.ntmps33
  go_wp2
  go_ret
  exact ⟨rfl, hB0⟩
set_option maxHeartbeats 1000000 in
theorem float13_raw (x s t : Nat) (hx : x < 18446744073709551616) (w : World) : Calls Try.prog 37 #[.float .f64 (raw x s), .float .f64 (raw x t)] w fun e w' => e = .returned (.bool true) ∧ w = w' := by
  have H1 := Lib.hid (fun W => nm_raw x s ▸ Bits_any (raw x s) (raw_lt hx s) W)
  have H2 := Lib.hid (fun W => nm_raw x t ▸ Bits_any (raw x t) (raw_lt hx t) W)
  have t0 : ((nm x : Int) == (nm x : Int)) = true := beq_self_eq_true _
  generalize nm x = z at *
  go_enter Try.func37, Try.ntmps37
  go_wp2_with fail
  refine (H1.out _).mono ?_
  rintro e w1 ⟨rfl, rfl⟩
  go_wp2_with fail
  refine (H2.out _).mono ?_
  rintro e w2 ⟨rfl, rfl⟩
  go_wp2
  go_ret
  exact ⟨rfl, rfl⟩
theorem float13_zero (w : World) : Calls Try.prog 37 #[.float .f64 0, .float .f64 0] w fun e w' => e = .returned (.bool true) ∧ w = w' := by
  have := float13_raw 0 0 0 (by decide) w
  rw [raw_of_not (by kernel_rfl)] at this
  exact this
theorem words_two {x y : Nat} (hx : x < 18446744073709551616) (hy : y < 18446744073709551616) : Words [x, y] := by
  intro v hv
  simp at hv
  rcases hv with rfl | rfl <;> assumption
theorem ask_len {ds es : List Nat} (h : askS ds es [] = 0) : es.length = ds.length - 1 := by
  unfold askS at h
  cases hm : mayS ds.length es.length
  · rw [hm] at h; cases h
  · unfold mayS at hm; simp at hm; exact hm.2
set_option maxHeartbeats 8000000 in
theorem bounds_any (w : World) (da ea : Option Addr) (ds es : List Nat) (dc ec : Nat) (hD : Fls w da ds) (hE : Fls w ea es) (hWd : Words ds) (hW : Words es) (hl : ds.length ≤ maxLen) (hl' : es.length ≤ maxLen) :
    Calls Try.prog 8 #[.agg #[.slice da ds.length dc, .slice ea es.length ec]] w fun e w' => e = .returned (.bool true) ∧ Below w.heap.size w w' := by
  have x0 : Box (w.alloc (.cells #[.slice da ds.length dc, .slice ea es.length ec] 51)) w.heap.size [.slice da ds.length dc, .slice ea es.length ec] := Box.newA w [_, _] _ rfl
  have hB0 : Below w.heap.size w (w.alloc (.cells #[.slice da ds.length dc, .slice ea es.length ec] 51)) := (Below.refl _ _).alloc (Nat.le_refl _) _
  by_cases hbig : 40 < ds.length ∨ 40 < es.length
  · have HB := Lib.hid (fun W => big_yes W da ea ds.length es.length dc ec 40 hbig)
    clear hD hE hWd hW hl hl' hbig
    go_enter Try.func8, Try.ntmps8
    go_wp2_with fail
    refine (HB.out _).mono ?_
    rintro e w1 ⟨rfl, hb1⟩
    have hB1 := below_step hB0 hB0.size hb1
    go_wp2_with fail
    refine (known13 _).mono ?_
    rintro e w2 ⟨rfl, hb2⟩
    go_wp2
    go_ret
    exact ⟨rfl, below_step hB1 hB1.size hb2⟩
  · have hn1 : ¬ 40 < ds.length := fun h => hbig (.inl h)
    have hn2 : ¬ 40 < es.length := fun h => hbig (.inr h)
    have HBig := Lib.hid (fun W => big_no W da ea ds.length es.length dc ec 40 hn1 hn2)
    have HBn := Lib.hid (fun W (hW' : Below w.heap.size w W) => Bounds_any W da ea ds es dc ec (hD.below hW') (hE.below hW') hW (by omega) (by omega))
    have HAsk := Lib.hid (fun W (hW' : Below w.heap.size w W) => askR_askS ds es ▸ RAsk_any W da ea ds es dc ec (hD.below hW') (hE.below hW') hWd hW hl hl')
    have HRB := Lib.hid (fun (h : askS ds es [] = 0) W (hW' : Below w.heap.size w W) => RBounds_any W da ea ds es dc ec (hD.below hW') (hE.below hW') hW (by omega) (ask_len h))
    have hln : ds.length ≤ 40 := by omega
    have hbl := bndL_lt ds es ds.length
    have HE : Hid (bndE ds es = if askS ds es [] = 0 then (if ds.length = 0 then 2 else if fnS (bndL ds es ds.length).1 && fnS (bndL ds es ds.length).2 then 0 else 10) else askS ds es []) := rfl
    rw [fnS_ffin, fnS_ffin] at HE
    clear hD hE hWd hW hl hl' hbig hn1 hn2
    generalize (bndL ds es ds.length).1 = blo at *
    generalize (bndL ds es ds.length).2 = bhi at *
    generalize bndE ds es = eB at *
    generalize askS ds es [] = ak at *
    go_enter Try.func8, Try.ntmps8
    go_wp2_with fail
    refine (HBig.out _).mono ?_
    rintro e w1 ⟨rfl, hb1⟩
    have x1 := x0.below hb1
    have hB1 := below_step hB0 hB0.size hb1
    obtain ⟨q1, q2, q3⟩ := x1.facts
    clear x0 hB0 hb1 HBig
    go_wp2_with fail
    refine (HBn.out _ hB1).mono ?_
    rintro e w2 ⟨lo, hi, s1, s2, rfl, g0, g1, hb2⟩
    have x2 := x1.below hb2
    have hB2 := below_step hB1 hB1.size hb2
    have G := Lib.hid (And.intro g0 g1)
    clear x1 hB1 hb2 q1 q2 q3 g0 g1 HBn
    obtain ⟨q1, q2, q3⟩ := x2.facts
    go_wp2_with fail
    refine (HAsk.out _ hB2).mono ?_
    rintro e w3 ⟨rfl, hb3⟩
    have x3 := x2.below hb3
    have hB3 := below_step hB2 hB2.size hb3
    clear x2 hB2 hb3 q1 q2 q3 HAsk
    obtain ⟨q1, q2, q3⟩ := x3.facts
    have HZ := Lib.hid (fun W => float13_zero W)
    have HNum := Lib.hid (fun n W => num13_any n W)
    by_cases h0 : ak = 0
    case neg =>
      have hE2 : eB = ak := by rw [HE.out, if_neg h0]
      subst hE2
      obtain ⟨rfl, rfl⟩ := G.out.2 h0
      rw [raw_of_not (show isnan 0 = false by kernel_rfl) s1, raw_of_not (show isnan 0 = false by kernel_rfl) s2]
      have t1 : (eB == 0) = false := by simp [h0]
      have t2 : (eB != 0) = true := by simp [h0]
      have t3 : (eB == eB) = true := beq_self_eq_true _
      clear h0
      go_wp2_with fail
      refine (HZ.out _).mono ?_
      rintro e w' ⟨rfl, rfl⟩
      go_wp2_with fail
      refine (HZ.out _).mono ?_
      rintro e w' ⟨rfl, rfl⟩
      go_wp2_with fail
      refine (HNum.out _ _).mono ?_
      rintro e w' ⟨rfl, rfl⟩
      go_wp2_with fail
      refine (known13 _).mono ?_
      rintro e w4 ⟨rfl, hb4⟩
      go_wp2
      go_ret
      exact ⟨rfl, below_step hB3 hB3.size hb4⟩
    case pos =>
      subst h0
      have HRB2 := Lib.hid (HRB.out rfl)
      by_cases hz : ds.length = 0
      · have hE2 : eB = 2 := by rw [HE.out, if_pos rfl, if_pos hz]
        subst hE2
        obtain ⟨rfl, rfl⟩ := G.out.2 (by decide)
        rw [raw_of_not (show isnan 0 = false by kernel_rfl) s1, raw_of_not (show isnan 0 = false by kernel_rfl) s2]
        have t1 : ((ds.length : Int) == 0) = true := by rw [beq_iff_eq]; omega
        clear hz
        go_wp2_with fail
        refine (HZ.out _).mono ?_
        rintro e w' ⟨rfl, rfl⟩
        go_wp2_with fail
        refine (HZ.out _).mono ?_
        rintro e w' ⟨rfl, rfl⟩
        go_wp2_with fail
        refine (HNum.out _ _).mono ?_
        rintro e w' ⟨rfl, rfl⟩
        go_wp2_with fail
        refine (known13 _).mono ?_
        rintro e w4 ⟨rfl, hb4⟩
        go_wp2
        go_ret
        exact ⟨rfl, below_step hB3 hB3.size hb4⟩
      · have hE2 : eB = if (ffin blo && ffin bhi) = true then 0 else 10 := by rw [HE.out, if_pos rfl, if_neg hz]
        have t1 : ((ds.length : Int) == 0) = false := by rw [beq_eq_false_iff_ne]; omega
        have HE2 := Lib.hid hE2
        clear hz hE2 hln
        go_wp2_with fail
        refine (HRB2.out _ hB3).mono ?_
        rintro e w4 ⟨⟨s3, s4, rfl⟩, hb4⟩
        have hB4 := below_step hB3 hB3.size hb4
        clear q1 q2 q3 x3 hB3 hb4 t1
        have hA5 : Below w4.heap.size w4 (w4.alloc (.cells #[.float .f64 (raw blo s3), .float .f64 (raw bhi s4)] 35)) := (Below.refl _ _).alloc (Nat.le_refl _) _
        have HFin := Lib.hid (RFinite_any (w4.alloc (.cells #[.float .f64 (raw blo s3), .float .f64 (raw bhi s4)] 35)) (some ⟨w4.heap.size, 0, none⟩) [blo, bhi] 2 (fls_two w4 35 blo s3 bhi s4) (words_two hbl.1 hbl.2) (by unfold maxLen; simp))
        have hB5 := below_step hB4 hB4.size hA5
        have ea : [blo, bhi].all ffin = (ffin blo && ffin bhi) := by simp
        rw [ea] at HFin
        clear ea hA5 hB4
        go_wp2_with fail
        refine HFin.out.mono ?_
        rintro e w' ⟨rfl, rfl⟩
        cases hf : (ffin blo && ffin bhi)
        · rw [hf] at HE2
          have hE3 : eB = 10 := HE2.out
          subst hE3
          obtain ⟨rfl, rfl⟩ := G.out.2 (by decide)
          rw [raw_of_not (show isnan 0 = false by kernel_rfl) s1, raw_of_not (show isnan 0 = false by kernel_rfl) s2]
          go_wp2_with fail
          refine (HZ.out _).mono ?_
          rintro e w' ⟨rfl, rfl⟩
          go_wp2_with fail
          refine (HZ.out _).mono ?_
          rintro e w' ⟨rfl, rfl⟩
          go_wp2_with fail
          refine (HNum.out _ _).mono ?_
          rintro e w' ⟨rfl, rfl⟩
          go_wp2_with fail
          refine (known13 _).mono ?_
          rintro e w6 ⟨rfl, hb6⟩
          go_wp2
          go_ret
          exact ⟨rfl, below_step hB5 hB5.size hb6⟩
        · rw [hf] at HE2
          have hE3 : eB = 0 := HE2.out
          subst hE3
          obtain ⟨rfl, rfl⟩ := G.out.1 rfl
          have HF1 := Lib.hid (fun W => float13_raw lo s1 s3 hbl.1 W)
          have HF2 := Lib.hid (fun W => float13_raw hi s2 s4 hbl.2 W)
          go_wp2_with fail
          refine (HF1.out _).mono ?_
          rintro e w' ⟨rfl, rfl⟩
          go_wp2_with fail
          refine (HF2.out _).mono ?_
          rintro e w' ⟨rfl, rfl⟩
          go_wp2_with fail
          refine (HNum.out _ _).mono ?_
          rintro e w' ⟨rfl, rfl⟩
          go_wp2_with fail
          refine (known13 _).mono ?_
          rintro e w6 ⟨rfl, hb6⟩
          go_wp2
          go_ret
          exact ⟨rfl, below_step hB5 hB5.size hb6⟩
end Go.Proofs.Ytogkmddhgfenkaa
