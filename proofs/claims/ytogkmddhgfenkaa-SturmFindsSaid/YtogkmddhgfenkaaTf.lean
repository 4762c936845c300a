/- 'SturmFinds': each value, and its halvings (printed by gen_tf.py). -/
import Derived.Test.YtogkmddhgfenkaaRfi
namespace Go.Proofs.Ytogkmddhgfenkaa
open Go Go.RowKit
set_option maxRecDepth 100000

theorem float13_self {x : Nat} (hx : x < 18446744073709551616) (w : World) : Calls Try.prog 37 #[.float .f64 x, .float .f64 x] w fun e w' => e = .returned (.bool true) ∧ w = w' := by
  obtain ⟨s, hs⟩ := raw_self hx
  have := float13_raw x s s hx w
  rw [← hs] at this
  exact this
theorem ask_may {ds es ms : List Nat} (h : mayS ds.length es.length = false) : askS ds es ms = 2 := by unfold askS; rw [h]; rfl
/-- What is told, and what is asked. -/
theorem finds_parts (ds es : List Nat) (k : Int) :
    ((mayS ds.length es.length && outK ds k) = true → findE ds es k = 2 ∧ findX ds es k = 0 ∧ findM ds es k = 0) ∧
    ((mayS ds.length es.length && outK ds k) = false → askS ds es [] ≠ 0 → findE ds es k = askS ds es [] ∧ findX ds es k = 0 ∧ findM ds es k = 0) ∧
    ((mayS ds.length es.length && outK ds k) = false → askS ds es [] = 0 → outK ds k = false → (ffin (bndL ds es ds.length).1 && ffin (bndL ds es ds.length).2) = false → findE ds es k = 10 ∧ findX ds es k = 0 ∧ findM ds es k = 0) ∧
    ((mayS ds.length es.length && outK ds k) = false → askS ds es [] = 0 → outK ds k = false → (ffin (bndL ds es ds.length).1 && ffin (bndL ds es ds.length).2) = true → bndE ds es = 0 ∧ findE ds es k = 0 ∧ findX ds es k = atN (valK ds es k).1 ∧ findM ds es k = (valK ds es k).2) := by
  have hz : ∀ v : Int, v ≠ 0 → findE ds es k = v → findE ds es k = v ∧ findX ds es k = 0 ∧ findM ds es k = 0 := by
    rintro v hv rfl
    exact ⟨rfl, by unfold findX; rw [if_neg hv], by unfold findM; rw [if_neg hv]⟩
  have ho : outK ds k = false → ds.length ≠ 0 := by
    intro h h0
    unfold outK at h
    rw [h0] at h
    simp at h
    omega
  refine ⟨fun h => hz 2 (by decide) (by unfold findE; rw [h]; rfl), fun h h1 => hz _ h1 ?_, fun h h1 h2 h3 => hz 10 (by decide) ?_, fun h h1 h2 h3 => ?_⟩
  · unfold findE bndE; rw [h, if_neg h1]; rfl
  · unfold findE bndE; rw [h, if_pos h1, if_neg (ho h2), fnS_ffin, fnS_ffin, h3]; rfl
  · have hb : bndE ds es = 0 := by unfold bndE; rw [if_pos h1, if_neg (ho h2), fnS_ffin, fnS_ffin, h3]; rfl
    have hf : findE ds es k = 0 := by unfold findE; rw [h]; exact hb
    exact ⟨hb, hf, by unfold findX; rw [if_pos hf], by unfold findM; rw [if_pos hf]⟩
set_option maxHeartbeats 16000000 in
theorem finds_any (w : World) (da ea : Option Addr) (ds es : List Nat) (dc ec : Nat) (k : Int) (hD : Fls w da ds) (hE : Fls w ea es) (hWd : Words ds) (hW : Words es) (hl : ds.length ≤ maxLen) (hl' : es.length ≤ maxLen) :
    Calls Try.prog 12 #[.agg #[.slice da ds.length dc, .slice ea es.length ec], .int .i64 k] w fun e w' => e = .returned (.bool true) ∧ Below w.heap.size w w' := by
  have x0 : Box (w.alloc (.cells #[.slice da ds.length dc, .slice ea es.length ec] 51)) w.heap.size [.slice da ds.length dc, .slice ea es.length ec] := Box.newA w [_, _] _ rfl
  have hB0 : Below w.heap.size w (w.alloc (.cells #[.slice da ds.length dc, .slice ea es.length ec] 51)) := (Below.refl _ _).alloc (Nat.le_refl _) _
  by_cases hbig : 12 < ds.length ∨ 12 < es.length
  · have HB := Lib.hid (fun W => big_yes W da ea ds.length es.length dc ec 12 hbig)
    clear hD hE hWd hW hl hl' hbig
    go_enter Try.func12, Try.ntmps12
    go_wp2_with fail
    refine (HB.out _).mono ?_
    rintro e w1 ⟨rfl, hb1⟩
    have hB1 := below_step hB0 hB0.size hb1
    go_wp2_with fail
    refine (known13 _).mono ?_
    rintro e w2 ⟨rfl, hb2⟩
    go_wp2
    go_ret
    exact ⟨rfl, below_step hB1 hB1.size hb2⟩
  · have hn1 : ¬ 12 < ds.length := fun h => hbig (.inl h)
    have hn2 : ¬ 12 < es.length := fun h => hbig (.inr h)
    have HBig := Lib.hid (fun W => big_no W da ea ds.length es.length dc ec 12 hn1 hn2)
    have HFn := Lib.hid (fun W (hW' : Below w.heap.size w W) => Find_any W da ea ds es dc ec k (hD.below hW') (hE.below hW') hW (by omega) (by omega))
    have HAsk := Lib.hid (fun W (hW' : Below w.heap.size w W) => askR_askS ds es ▸ RAsk_any W da ea ds es dc ec (hD.below hW') (hE.below hW') hWd hW hl hl')
    have HM2 := Lib.hid (fun (W : World) => RMay13_any W da ea ds.length es.length dc ec hl hl')
    have HR0 := Lib.hid (fun h h' W (hW' : Below w.heap.size w W) => RFind_no W da ea ds es dc ec k (hD.below hW') (hE.below hW') hW (by omega) h h')
    have HR1 := Lib.hid (fun h W (hW' : Below w.heap.size w W) => RFind_yes W da ea ds es dc ec k (hD.below hW') (hE.below hW') hW (by omega) h)
    have HN1 : Hid (mayS ds.length es.length = false → askS ds es [] = 2) := fun h => ask_may h
    have HP := Lib.hid (finds_parts ds es k)
    have hv64 : (valK ds es k).2 ≤ 0 + 64 := fndS_le _ _ _ _ _ _
    have HSelf := Lib.hid (fun W => float13_self (atN_lt (valK ds es k).1) W)
    have HZ := Lib.hid (fun W => float13_zero W)
    have HNum := Lib.hid (fun n W => num13_any n W)
    have hnn : 0 ≤ (ds.length : Int) := Int.natCast_nonneg _
    clear hD hE hWd hW hl hl' hbig hn1 hn2
    unfold outK at HP
    generalize hxv : findX ds es k = fX at *
    generalize hmv : findM ds es k = fM at *
    generalize hev : findE ds es k = fE at *
    generalize mayS ds.length es.length = qm at *
    generalize askS ds es [] = a0 at *
    generalize atN (valK ds es k).1 = vx at *
    generalize (valK ds es k).2 = vm at *
    generalize (ffin (bndL ds es ds.length).1 && ffin (bndL ds es ds.length).2) = qf at *
    generalize bndE ds es = bE at *
    clear hxv hmv hev
    go_enter Try.func12, Try.ntmps12
    go_wp2_with fail
    refine (HBig.out _).mono ?_
    rintro e w1 ⟨rfl, hb1⟩
    have x1 := x0.below hb1
    have hB1 := below_step hB0 hB0.size hb1
    obtain ⟨q1, q2, q3⟩ := x1.facts
    clear x0 hB0 hb1 HBig
    go_wp2_with fail
    refine (HFn.out _ hB1).mono ?_
    rintro e w2 ⟨rfl, hb2⟩
    have x2 := x1.below hb2
    have hB2 := below_step hB1 hB1.size hb2
    clear x1 hB1 hb2 q1 q2 q3 HFn
    obtain ⟨q1, q2, q3⟩ := x2.facts
    go_wp2_with fail
    refine (HAsk.out _ hB2).mono ?_
    rintro e w3 ⟨rfl, hb3⟩
    have x3 := x2.below hb3
    have hB3 := below_step hB2 hB2.size hb3
    clear x2 hB2 hb3 q1 q2 q3 HAsk
    obtain ⟨q1, q2, q3⟩ := x3.facts
    go_wp2_with fail
    refine (HM2.out _).mono ?_
    rintro e w4 ⟨rfl, hb4⟩
    have x4 := x3.below hb4
    have hB4 := below_step hB3 hB3.size hb4
    clear x3 hB3 hb4 q1 q2 q3 HM2
    obtain ⟨q1, q2, q3⟩ := x4.facts
    cases qm
    case false =>
      obtain rfl : a0 = 2 := HN1.out rfl
      obtain ⟨rfl, rfl, rfl⟩ := HP.out.2.1 rfl (by decide)
      go_wp2_with fail
      refine (HZ.out _).mono ?_
      rintro e w' ⟨rfl, rfl⟩
      go_wp2_with fail
      refine (HNum.out _ _).mono ?_
      rintro e w' ⟨rfl, rfl⟩
      go_wp2_with fail
      refine (known13 _).mono ?_
      rintro e w9 ⟨rfl, hb9⟩
      go_wp2
      go_ret
      exact ⟨rfl, below_step hB4 hB4.size hb9⟩
    case true =>
      rw [Bool.true_and] at HP
      by_cases hk0 : k < 0
      · have t1 := decide_eq_true hk0
        obtain ⟨rfl, rfl, rfl⟩ := HP.out.1 (by rw [t1]; rfl)
        clear hk0
        go_wp2_with fail
        refine (HZ.out _).mono ?_
        rintro e w' ⟨rfl, rfl⟩
        go_wp2_with fail
        refine (HNum.out _ _).mono ?_
        rintro e w' ⟨rfl, rfl⟩
        go_wp2_with fail
        refine (known13 _).mono ?_
        rintro e w9 ⟨rfl, hb9⟩
        go_wp2
        go_ret
        exact ⟨rfl, below_step hB4 hB4.size hb9⟩
      · have t1 := decide_eq_false hk0
        clear hk0
        by_cases hk1 : (ds.length : Int) ≤ k
        · have t2 := decide_eq_true hk1
          obtain ⟨rfl, rfl, rfl⟩ := HP.out.1 (by rw [t1, t2]; rfl)
          clear hk1
          go_wp2_with fail
          refine (HZ.out _).mono ?_
          rintro e w' ⟨rfl, rfl⟩
          go_wp2_with fail
          refine (HNum.out _ _).mono ?_
          rintro e w' ⟨rfl, rfl⟩
          go_wp2_with fail
          refine (known13 _).mono ?_
          rintro e w9 ⟨rfl, hb9⟩
          go_wp2
          go_ret
          exact ⟨rfl, below_step hB4 hB4.size hb9⟩
        · have t2 := decide_eq_false hk1
          clear hk1
          have ho : (decide (k < 0) || decide ((ds.length : Int) ≤ k)) = false := by rw [t1, t2]; rfl
          by_cases h0 : a0 = 0
          case neg =>
            obtain ⟨rfl, rfl, rfl⟩ := HP.out.2.1 ho h0
            have t3 : (fE == 0) = false := by simp [h0]
            have t4 : (fE != 0) = true := by simp [h0]
            have t5 : (fE == fE) = true := by simp
            clear h0 ho
            go_wp2_with fail
            refine (HZ.out _).mono ?_
            rintro e w' ⟨rfl, rfl⟩
            go_wp2_with fail
            refine (HNum.out _ _).mono ?_
            rintro e w' ⟨rfl, rfl⟩
            go_wp2_with fail
            refine (known13 _).mono ?_
            rintro e w9 ⟨rfl, hb9⟩
            go_wp2
            go_ret
            exact ⟨rfl, below_step hB4 hB4.size hb9⟩
          case pos =>
            subst h0
            cases qf
            · obtain ⟨rfl, rfl, rfl⟩ := HP.out.2.2.1 ho rfl ho rfl
              have HR := Lib.hid (HR0.out rfl rfl)
              clear ho HR0 HR1
              go_wp2_with fail
              refine (HR.out _ hB4).mono ?_
              rintro e w5 ⟨rfl, hb5⟩
              have hB5 := below_step hB4 hB4.size hb5
              go_wp2_with fail
              refine (HZ.out _).mono ?_
              rintro e w' ⟨rfl, rfl⟩
              go_wp2_with fail
              refine (HNum.out _ _).mono ?_
              rintro e w' ⟨rfl, rfl⟩
              go_wp2_with fail
              refine (known13 _).mono ?_
              rintro e w9 ⟨rfl, hb9⟩
              go_wp2
              go_ret
              exact ⟨rfl, below_step hB5 hB5.size hb9⟩
            · obtain ⟨rfl, rfl, rfl, rfl⟩ := HP.out.2.2.2 ho rfl ho rfl
              have HR := Lib.hid (HR1.out rfl)
              have t3 : decide ((fM : Int) ≤ 64) = true := decide_eq_true (by omega)
              have t3' : decide (fM ≤ 64) = true := decide_eq_true (by omega)
              have t4 : ((fM : Int) == (fM : Int)) = true := by simp
              clear ho HR0 HR1 hv64
              go_wp2_with fail
              refine (HR.out _ hB4).mono ?_
              rintro e w5 ⟨rfl, hb5⟩
              have hB5 := below_step hB4 hB4.size hb5
              go_wp2_with fail
              refine (HSelf.out _).mono ?_
              rintro e w' ⟨rfl, rfl⟩
              go_wp2_with fail
              refine (HNum.out _ _).mono ?_
              rintro e w' ⟨rfl, rfl⟩
              go_wp2_with fail
              refine (known13 _).mono ?_
              rintro e w9 ⟨rfl, hb9⟩
              go_wp2
              go_ret
              exact ⟨rfl, below_step hB5 hB5.size hb9⟩
end Go.Proofs.Ytogkmddhgfenkaa
