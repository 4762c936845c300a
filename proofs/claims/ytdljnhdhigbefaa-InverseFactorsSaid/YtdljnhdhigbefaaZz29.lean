/- Layer 14, the document's: a size; what is asked of values; clusters. No condition but on lengths. -/
import Derived.Test.YtdljnhdhigbefaaZz27
import Derived.Test.YtdljnhdhigbefaaZz28
namespace Go.Proofs.Ytdljnhdhigbefaa
open Go Go.RowKit
set_option maxRecDepth 1000000
set_option linter.unusedSimpArgs false
set_option linter.unusedVariables false

set_option maxHeartbeats 1000000 in
theorem ldexpOne (p : Int) (hp1 : -5000 ≤ p) (hp2 : p ≤ 5000) (w : World) :
    Calls Try.prog 49 #[.float .f64 4607182418800017408, .int .i64 p] w fun e w' => e = .returned (.float .f64 (timesW 4607182418800017408 p)) ∧ Below w.heap.size w w' := by
  have H := Lib.hid (ldexp_fin 4607182418800017408 p (by decide) (by decide) (by decide) hp1 hp2 w)
  go_enter Try.func49, Try.ntmps49
  go_wp2_with fail
  refine H.out.mono ?_
  rintro e w1 ⟨rfl, hb1⟩
  go_wp2
  go_ret
  exact ⟨rfl, hb1⟩
theorem two10 : timesW 4607182418800017408 (-10) = 4562146422526312448 := by kernel_rfl
set_option maxHeartbeats 8000000 in
theorem RSize14 (w : World) (da ea : Option Addr) (ds es : List Nat) (dc ec n m : Nat) (hdl : ds.length = n) (hel : es.length = m) (hT : TrI w da ea ds es dc ec) (hn : n ≤ 1000) (hm : m ≤ 1000) (hf : (ds ++ es).all ffin = true) :
    Calls Try.prog 78 #[.agg #[.slice da n dc, .slice ea m ec]] w fun e w' => e = .returned (.float .f64 (sizI ds es)) ∧ Below w.heap.size w w' := by
  have x0 : Box (w.alloc (.cells #[.slice da n dc, .slice ea m ec] 54)) w.heap.size [.slice da n dc, .slice ea m ec] := Box.newA w [_, _] _ rfl
  have hB0 : Below w.heap.size w (w.alloc (.cells #[.slice da n dc, .slice ea m ec] 54)) := (Below.refl _ _).alloc (Nat.le_refl _) _
  obtain ⟨w1, hw1⟩ : ∃ W, W = (w.alloc (.cells #[.slice da n dc, .slice ea m ec] 54)) := ⟨_, rfl⟩
  rw [← hw1] at x0 hB0
  have X := Lib.hid x0
  have BW := Lib.hid hB0
  have HT := Lib.hid (fun W (h : Below w.heap.size w W) => hT.below h)
  have HW := Lib.hid (And.intro hT.W (szL_num (fin_numI hf)))
  have HF := Lib.hid (fin_numI hf)
  have HL := Lib.hid (show (ds ++ es).length ≤ 2000 ∧ ds.length = n ∧ es.length = m from ⟨by rw [List.length_append]; omega, hdl, hel⟩)
  clear x0 hB0 hT hf hdl hel
  go_enter Try.func78, Try.ntmps78
  go_upto_region 2 with (fail)
  rw [← hw1]
  clear hw1
  have hdr := below_drewN 1 (Below.refl w1.heap.size w1)
  replace X := Lib.hid (show Box w1.drew w.heap.size _ from X.out.below hdr)
  replace BW := Lib.hid (show Below w.heap.size w w1.drew from below_step BW.out BW.out.size hdr)
  refine wp_region_items 5 [(true, 0), (true, 1), (true, 3), (true, 4), (false, 2)] (fun W => ∀ i, W.cell? ⟨w.heap.size, i, none⟩ = ([.slice da n dc, .slice ea m ec] : List Value)[i]?) (by kernel_rfl) (by kernel_rfl) X.out.cell ?_
  generalize w1.drew = y0 at *
  clear hdr
  iterate 4 (refine iW_take (v := ?_) rfl rfl ?_ ?_; rotate_left; (next => (intro w' hSw; (try dsimp only at hSw); go_simp; (try (rw [if_pos (by omega)]; go_simp)); (try with_reducible rfl))); (simp only [Act.put, List.setIfInBounds_toArray, List.set_cons_zero, List.set_cons_succ]))
  refine iW_mid rfl rfl ?_
  refine wp_append_anyF _ _ rfl y0.heap.size _ [] rfl (OwnF.nil _ _) da ds dc (by rw [HL.out.2.1]; rfl) (HT.out _ BW.out).D (HT.out w (Below.refl _ _)).d0 (by have := HL.out; simp; omega) (Nat.le_refl _) ?_
  intro v1 y1 hO1 hb1
  rw [List.nil_append] at hO1
  have O1 := Lib.hid hO1
  have B1 := Lib.hid hb1
  replace X := Lib.hid (X.out.below hb1)
  refine ⟨X.out.cell, ?_⟩
  refine iW_nil ?_
  have hE1 := (HT.out _ (below_step BW.out BW.out.size B1.out)).E
  clear hO1 hb1
  go_simp
  refine wpList_append_anyF rfl _ _ rfl y0.heap.size _ ds rfl O1.out ea es ec (by rw [HL.out.2.2]; rfl) hE1 (HT.out w (Below.refl _ _)).e0 (by have := HL.out.1; rw [List.length_append] at this; omega) B1.out.size ?_
  intro v2 y2 hO2 hb2
  obtain ⟨l, hlq⟩ : ∃ l, l = ds ++ es := ⟨_, rfl⟩
  have hz : sizI ds es = szL l l.length := by rw [hlq]; rfl
  rw [← hlq] at hO2 HW HF HL
  have HZZ := Lib.hid hz
  have HB := Lib.hid (show Below w.heap.size w y2 from below_step BW.out BW.out.size (B1.out.trans hb2))
  obtain ⟨a, cap, rfl, hZ⟩ := hO2.fls
  have HZ := Lib.hid hZ
  clear hlq hz hO2 hb2 hZ hE1 X B1 O1 BW HT
  go_wp2_with fail
  refine NoPanic.normal ?_
  go_wp2_with fail
  go_loopw [3, 5] (fun s3 s5 wr => ∃ i : Nat, s3 = .float .f64 (szL l i) ∧ s5 = .int .i64 i ∧ i ≤ l.length ∧ Below y2.heap.size y2 wr) (fun _ s5 _ => l.length - (intOf s5).toNat)
  case atStart => exact ⟨0, rfl, rfl, Nat.zero_le _, Below.refl _ _⟩
  case round =>
    obtain ⟨i, rfl, rfl, hi, hB⟩ := hrel
    by_cases hlt : i < l.length
    case pos =>
      obtain ⟨b, o, s, rfl, hb, hc⟩ := FlsI.at (HZ.out.below hB) hlt
      rw [raw_of_not (HF.out i)] at hc
      have HA := Lib.hid (fun W => Abs_any (l.getD i 0) (HW.out.1.at i) W)
      have HN := Lib.hid (show szL l (i + 1) = mxW (szL l i) (fabs (l.getD i 0)) from rfl)
      have HBB := Lib.hid hB
      clear hB hb hi
      have hi9 : i < 2000 := by have := HL.out.1; omega
      obtain ⟨x, hx⟩ : ∃ x, x = l.getD i 0 := ⟨_, rfl⟩
      rw [← hx] at hc HA HN
      obtain ⟨s, hs⟩ : ∃ s, s = szL l i := ⟨_, rfl⟩
      rw [← hs] at HN ⊢
      obtain ⟨c, hcc⟩ : ∃ c, c = flt s (fabs x) := ⟨_, rfl⟩
      have hc2 : flt s (fabs x) = c := hcc.symm
      have HC := Lib.hid hc2
      clear hx hs hcc
      go_wp2_with fail
      refine (HA.out _).mono ?_
      rintro e w' ⟨rfl, rfl⟩
      cases c
      · have HE := Lib.hid (show szL l (i + 1) = s by rw [HN.out]; unfold mxW; rw [HC.out]; rfl)
        go_wp2_with fail
        go_roundw
        case rel => exact ⟨i + 1, by rw [HE.out], by go_num, hlt, HBB.out⟩
        case measure => simp [intOf]; omega
      · have HE := Lib.hid (show szL l (i + 1) = fabs x by rw [HN.out]; unfold mxW; rw [HC.out]; rfl)
        go_wp2_with fail
        refine (HA.out _).mono ?_
        rintro e w' ⟨rfl, rfl⟩
        go_wp2_with fail
        go_roundw
        case rel => exact ⟨i + 1, by rw [HE.out], by go_num, hlt, HBB.out⟩
        case measure => simp [intOf]; omega
    case neg =>
      have hil : i = l.length := by omega
      subst hil
      have HBB := Lib.hid (HB.out.trans (hB.mono HB.out.size))
      clear hB hi
      go_wp2_with fail
      go_ret
      exact ⟨by rw [HZZ.out]; rfl, HBB.out⟩
end Go.Proofs.Ytdljnhdhigbefaa

/- Layer 14, the document's: what is asked of values. No condition but on lengths. -/
namespace Go.Proofs.Ytdljnhdhigbefaa
open Go Go.RowKit
set_option maxRecDepth 1000000
set_option linter.unusedSimpArgs false
set_option linter.unusedVariables false

theorem srtB_all {l : List Nat} (h : ∀ i, isnan (l.getD i 0) = false) : ∀ n, srtB l n = true ↔ ∀ t, t < n → flt (l.getD (t + 1) 0) (l.getD t 0) = false
  | 0 => ⟨fun _ t ht => absurd ht (Nat.not_lt_zero _), fun _ => rfl⟩
  | n + 1 => by
    rw [srtB, Bool.and_eq_true, srtB_all h n]
    have e : lssW (l.getD (n + 1) 0) (l.getD n 0) = flt (l.getD (n + 1) 0) (l.getD n 0) := by
      unfold lssW
      rw [h (n + 1)]
      simp
    rw [e]
    constructor
    · rintro ⟨h1, h2⟩ t ht
      by_cases e : t = n
      · subst e
        simpa using h2
      · exact h1 t (by omega)
    · intro h1
      exact ⟨fun t ht => h1 t (by omega), by simpa using h1 n (by omega)⟩
theorem valI_no {ds es ws : List Nat} (h1 : mayS ds.length es.length = true) (h2 : ws.length ≤ ds.length) (h3 : askS ds es [] ≠ 0 ∨ ws.all ffin = false) : valI ds es ws = 10 := by
  have h4 : askS ds es ws ≠ 0 := fun h => by
    obtain ⟨_, a, b, c⟩ := askS_zero h
    rcases h3 with h3 | h3
    · refine h3 ?_
      unfold askS
      rw [h1, all_fnS, all_fnS, a, b]
      rfl
    · rw [c] at h3
      cases h3
  unfold valI
  rw [h1, decide_eq_true h2, decide_eq_false h4]
  rfl
theorem askS_more {ds es ws : List Nat} (h1 : mayS ds.length es.length = true) (h3 : askS ds es [] = 0) (h4 : ws.all ffin = true) : askS ds es ws = 0 := by
  obtain ⟨_, a, b, _⟩ := askS_zero h3
  unfold askS
  rw [h1, all_fnS, all_fnS, all_fnS, a, b, h4]
  rfl
theorem valI_srt {ds es ws : List Nat} (h1 : mayS ds.length es.length = true) (h2 : ws.length ≤ ds.length) (h3 : askS ds es [] = 0) (h4 : ws.all ffin = true) : valI ds es ws = if srtB ws (ws.length - 1) then 0 else 10 := by
  unfold valI
  rw [h1, decide_eq_true h2, askS_more h1 h3 h4]
  rfl
set_option maxHeartbeats 8000000 in
theorem RAsk14 (w : World) (da ea ma : Option Addr) (ds es ws : List Nat) (dc ec mc n m k : Nat) (hdl : ds.length = n) (hel : es.length = m) (hkl : ws.length = k) (hT : TrI w da ea ds es dc ec) (hM : Fls w ma ws) (hW : Words ws) (hn : n ≤ 1000) (hm : m ≤ 1000) (hk : k ≤ 1000) :
    Calls Try.prog 43 #[.agg #[.slice da n dc, .slice ea m ec], .slice ma k mc] w fun e w' => e = .returned (.int .i64 (valI ds es ws)) ∧ Below w.heap.size w w' := by
  have H1 := Lib.hid (fun W => RMay13_any W da ea n m dc ec (by unfold maxLen; omega) (by unfold maxLen; omega))
  have H2 := Lib.hid (fun (W : World) (h : Below w.heap.size w W) => by
    have r := RAsk_any W da ea ds es dc ec (hT.D.below h) (hT.E.below h) hT.wdD hT.wdE (by rw [hdl]; unfold maxLen; omega) (by rw [hel]; unfold maxLen; omega)
    rw [hdl, hel, askR_askS] at r
    exact r)
  have H3 := Lib.hid (fun (W : World) (h : Below w.heap.size w W) => by
    have r := RFinite_any W ma ws mc (hM.below h) hW (by rw [hkl]; unfold maxLen; omega)
    rw [hkl] at r
    exact r)
  have HM := Lib.hid (fun (W : World) (h : Below w.heap.size w W) => hM.below h)
  obtain ⟨R, hR⟩ : ∃ R, R = valI ds es ws := ⟨_, rfl⟩
  rw [← hR]
  have HR := Lib.hid hR
  have HL := Lib.hid (show _ ∧ _ ∧ _ from ⟨hdl, hel, hkl⟩)
  clear hT hM hW hR hdl hel hkl
  have x0 : Box (w.alloc (.cells #[.slice da n dc, .slice ea m ec] 54)) w.heap.size [.slice da n dc, .slice ea m ec] := Box.newA w [_, _] _ rfl
  have hB0 : Below w.heap.size w (w.alloc (.cells #[.slice da n dc, .slice ea m ec] 54)) := (Below.refl _ _).alloc (Nat.le_refl _) _
  obtain ⟨w1, hw1⟩ : ∃ W, W = (w.alloc (.cells #[.slice da n dc, .slice ea m ec] 54)) := ⟨_, rfl⟩
  rw [← hw1] at x0 hB0
  have X := Lib.hid x0
  have BW := Lib.hid hB0
  clear x0 hB0
  go_enter Try.func43, Try.ntmps43
  go_upto_region 1 with (fail)
  rw [← hw1]
  clear hw1
  obtain ⟨f1, f2, f3⟩ := X.out.facts
  go_wp2_with fail
  refine (H1.out _).mono ?_
  rintro e w2 ⟨rfl, hb⟩
  replace X := Lib.hid (X.out.below hb)
  replace BW := Lib.hid (below_step BW.out BW.out.size hb)
  clear hb f1 f2 f3 H1
  obtain ⟨f1, f2, f3⟩ := X.out.facts
  obtain ⟨q0, hq0⟩ : ∃ q, q = mayS n m := ⟨_, rfl⟩
  rw [← hq0]
  have HQ0 := Lib.hid (show mayS ds.length es.length = q0 by rw [HL.out.1, HL.out.2.1]; exact hq0.symm)
  clear hq0
  cases q0
  case false =>
    have hr : R = 2 := by rw [HR.out]; unfold valI; rw [HQ0.out]; rfl
    subst hr
    go_wp2_with fail
    go_ret
    exact ⟨rfl, BW.out⟩
  by_cases hkn : k ≤ n
  case neg =>
    have t1 : decide ((n : Int) < (k : Int)) = true := decide_eq_true (by omega)
    have t1' : (n : Int) < (k : Int) := by omega
    have hr : R = 2 := by
      rw [HR.out]
      unfold valI
      rw [HQ0.out, decide_eq_false (by rw [HL.out.2.2, HL.out.1]; exact hkn)]
      rfl
    subst hr
    go_wp2_with fail
    go_ret
    exact ⟨rfl, BW.out⟩
  have t1 : decide ((n : Int) < (k : Int)) = false := decide_eq_false (by omega)
  have t1' : ¬ (n : Int) < (k : Int) := by omega
  have HKN := Lib.hid (show ws.length ≤ ds.length by rw [HL.out.2.2, HL.out.1]; exact hkn)
  go_wp2_with fail
  refine (H2.out _ BW.out).mono ?_
  rintro e w3 ⟨rfl, hb⟩
  replace BW := Lib.hid (below_step BW.out BW.out.size hb)
  clear hb f1 f2 f3 H2 X t1 t1'
  obtain ⟨q1, hq1⟩ : ∃ q, q = askS ds es [] := ⟨_, rfl⟩
  rw [← hq1]
  have HQ1 := Lib.hid hq1.symm
  clear hq1
  dsimp only
  by_cases h10 : q1 = 0
  case neg =>
    have hr : R = 10 := by rw [HR.out]; exact valI_no HQ0.out HKN.out (.inl (by rw [HQ1.out]; exact h10))
    subst hr
    have t2 : (q1 != 0) = true := by rw [bne_iff_ne]; exact h10
    go_wp2_with fail
    go_ret
    exact ⟨rfl, BW.out⟩
  subst h10
  go_wp2_with fail
  refine (H3.out _ BW.out).mono ?_
  rintro e w4 ⟨rfl, rfl⟩
  obtain ⟨q2, hq2⟩ : ∃ q, q = ws.all ffin := ⟨_, rfl⟩
  rw [← hq2]
  have HQ2 := Lib.hid hq2.symm
  clear hq2 H3
  dsimp only
  cases q2
  case false =>
    have hr : R = 10 := by rw [HR.out]; exact valI_no HQ0.out HKN.out (.inr HQ2.out)
    subst hr
    go_wp2_with fail
    go_ret
    exact ⟨rfl, BW.out⟩
  have HR2 := Lib.hid (show R = if srtB ws (ws.length - 1) then 0 else 10 by rw [HR.out]; exact valI_srt HQ0.out HKN.out HQ1.out HQ2.out)
  have HNN := Lib.hid (fin_numI HQ2.out)
  clear HR HQ0 HQ1 HQ2 HKN
  go_wp2_with fail
  simp only [show decide (n < k) = false from decide_eq_false (by omega)]
  go_loopw [5] (fun s5 wr => ∃ i : Nat, s5 = .int .i64 ((i : Int) + 1) ∧ (i + 1 ≤ k ∨ i = 0) ∧ (∀ t, t < i → flt (ws.getD (t + 1) 0) (ws.getD t 0) = false) ∧ Below w.heap.size w wr) (fun s5 _ => k - (intOf s5).toNat)
  case atStart => exact ⟨0, rfl, .inr rfl, fun t h => absurd h (Nat.not_lt_zero _), BW.out⟩
  case round =>
    obtain ⟨i, rfl, hi, hE, hB⟩ := hrel
    have HE := Lib.hid hE
    have HB := Lib.hid hB
    clear hE hB BW
    obtain ⟨j, hj⟩ : ∃ j, j = i + 1 := ⟨_, rfl⟩
    have hji : (i : Int) + 1 = (j : Int) := by omega
    rw [hji]
    have HJ := Lib.hid hj
    by_cases hlt : j < k
    case pos =>
      have hil : i < k := by omega
      have hk9 : (j : Int) - 1 = i := by omega
      have hwi : IntKind.i64.wrap (i : Int) = i := by rw [IntKind.wrap_i64]; omega
      have hj8 : j < 1000 := by omega
      have hb1 : (j : Int) < (k : Int) := by omega
      have hb2 : (i : Int) < (k : Int) := by omega
      have hb3 : (0 : Int) ≤ j := by omega
      have hb4 : (0 : Int) ≤ i := by omega
      clear hj hji hi
      obtain ⟨b, o, s1, e1, hbl, c1⟩ := FlsI.at (HM.out _ HB.out) (show j < ws.length by rw [HL.out.2.2]; exact hlt)
      obtain ⟨b2, o2, s2, e2, _, c2⟩ := FlsI.at (HM.out _ HB.out) (show i < ws.length by rw [HL.out.2.2]; exact hil)
      subst e1
      obtain ⟨rfl, rfl⟩ : b = b2 ∧ o = o2 := by injection e2 with e1; injection e1 with e4 e5; exact ⟨e4, e5⟩
      clear e2
      obtain ⟨x, hx⟩ : ∃ x, x = ws.getD j 0 := ⟨_, rfl⟩
      obtain ⟨y, hy⟩ : ∃ x, x = ws.getD i 0 := ⟨_, rfl⟩
      rw [← hx] at c1
      rw [← hy] at c2
      have HXY := Lib.hid (And.intro hx hy)
      clear hx hy
      go_upto_region 8 with (fail)
      refine wp_region_items 9 [(true, 0), (true, 1), (true, 2), (true, 3), (true, 4), (true, 5), (true, 6), (true, 7), (true, 8)] (fun W => W.cell? ⟨b, o + j, none⟩ = some (.float .f64 (raw x s1)) ∧ W.cell? ⟨b, o + i, none⟩ = some (.float .f64 (raw y s2))) (by kernel_rfl) (by kernel_rfl) ⟨c1, c2⟩ ?_
      have hdr := Lib.hid (below_step HB.out HB.out.size (below_drewN 1 (Below.refl wr.heap.size wr)))
      clear c1 c2
      iterate 9 (refine iW_take (v := ?_) rfl rfl ?_ ?_; rotate_left; (next => (intro w' hSw; (try dsimp only at hSw); go_simp; (try (rw [if_pos (by omega)]; go_simp)); (try with_reducible rfl))); (simp only [Act.put, List.setIfInBounds_toArray, List.set_cons_zero, List.set_cons_succ]))
      refine iW_nil ?_
      go_simp
      go_wp2_with fail
      refine NoPanic.normal ?_
      (try simp only [flt_rawl, flt_rawr])
      obtain ⟨c, hc⟩ : ∃ c, c = flt x y := ⟨_, rfl⟩
      rw [← hc]
      have HC := Lib.hid hc
      clear hc
      cases c
      · go_wp2_with fail
        go_roundw
        case rel => exact ⟨j, by go_num, .inl hlt, fun t ht => by
          by_cases e : t = i
          · rw [e, ← HJ.out, ← HXY.out.1, ← HXY.out.2]; exact HC.out.symm
          · exact HE.out t (by have := HJ.out; omega), hdr.out⟩
        case measure => simp [intOf]; omega
      · have hr : R = 10 := by
          rw [HR2.out, if_neg]
          intro h
          have h2 := (srtB_all HNN.out _).1 h i (by have := HL.out.2.2; have := HJ.out; omega)
          rw [← HJ.out, ← HXY.out.1, ← HXY.out.2, ← HC.out] at h2
          cases h2
        subst hr
        go_wp2_with fail
        go_ret
        exact ⟨rfl, hdr.out⟩
    case neg =>
      have hr : R = 0 := by
        rw [HR2.out, if_pos]
        exact (srtB_all HNN.out _).2 fun t ht => HE.out t (by have := HL.out.2.2; omega)
      subst hr
      have h0 : ¬ (j : Int) < (k : Int) := by omega
      clear hj hji hi
      go_wp2_with fail
      go_ret
      exact ⟨rfl, HB.out⟩
end Go.Proofs.Ytdljnhdhigbefaa

/- Layer 14, the document's: clusters. No condition but on lengths. -/
namespace Go.Proofs.Ytdljnhdhigbefaa
open Go Go.RowKit
set_option maxRecDepth 1000000
set_option linter.unusedSimpArgs false
set_option linter.unusedVariables false

set_option maxHeartbeats 8000000 in
theorem RClu14 (w : World) (da ea ma : Option Addr) (ds es ms : List Nat) (dc ec mc n m : Nat) (hdl : ds.length = n) (hel : es.length = m) (hT : TrI w da ea ds es dc ec) (hM : Fls w ma ms) (hn : n ≤ 1000) (hm : m ≤ 1000) (hml : ms.length ≤ 512) (hf : (ds ++ es).all ffin = true) :
    Calls Try.prog 45 #[.agg #[.slice da n dc, .slice ea m ec], .slice ma ms.length mc] w fun e w' => (∃ v, e = .returned v ∧ OwnC 3 w' w.heap.size v (intsV (cluI ds es ms))) ∧ Below w.heap.size w w' := by
  have H2 := Lib.hid (fun (W : World) (hW : Below w.heap.size w W) => RSize14 W da ea ds es dc ec n m hdl hel (hT.below hW) hn hm hf)
  have HL10 := Lib.hid (fun (W : World) => by
    have h := ldexpOne (-10) (by decide) (by decide) W
    rw [two10] at h
    exact h)
  have HM := Lib.hid (fun (W : World) (hW : Below w.heap.size w W) => hM.below hW)
  clear hT hM hn hm hf hdl hel
  have x0 : Box (w.alloc (.cells #[.slice da n dc, .slice ea m ec] 54)) w.heap.size [.slice da n dc, .slice ea m ec] := Box.newA w [_, _] _ rfl
  have hB0 : Below w.heap.size w (w.alloc (.cells #[.slice da n dc, .slice ea m ec] 54)) := (Below.refl _ _).alloc (Nat.le_refl _) _
  obtain ⟨w1, hw1⟩ : ∃ W, W = (w.alloc (.cells #[.slice da n dc, .slice ea m ec] 54)) := ⟨_, rfl⟩
  rw [← hw1] at x0 hB0
  have X := Lib.hid x0
  have HB := Lib.hid hB0
  clear x0 hB0
  go_enter Try.func45, Try.ntmps45
  go_upto_region 1 with (fail)
  rw [← hw1]
  clear hw1
  obtain ⟨f1, f2, f3⟩ := X.out.facts
  go_wp2_with fail
  refine (H2.out _ HB.out).mono ?_
  rintro e w2 ⟨rfl, hb2⟩
  replace HB := Lib.hid (below_step HB.out HB.out.size hb2)
  clear hb2 f1 f2 f3 X H2
  dsimp only
  go_wp2_with fail
  refine (HL10.out _).mono ?_
  rintro e w3 ⟨rfl, hb3⟩
  replace HB := Lib.hid (below_step HB.out HB.out.size hb3)
  clear hb3 HL10
  dsimp only
  go_upto_region 2 with (first | (refine wpList_flt rfl rfl rfl rfl rfl ?_; intro K hK sq nq; go_frame; refine hK _ _ ?_; clear hK K))
  replace HB := Lib.hid (HB.out.trans (below_drewN nq (Below.refl _ _)))
  generalize w3.drewN nq = w4 at *
  obtain ⟨gap, hg⟩ : ∃ g, g = fmul (sizI ds es) 4562146422526312448 := ⟨_, rfl⟩
  have HG := Lib.hid (show cluI ds es ms = cluL gap ms ms.length by rw [hg]; rfl)
  rw [← hg]
  clear hg
  go_wp2_with fail
  go_loopw [6, 7] (fun s6 s7 wr => ∃ j : Nat, OwnC 3 wr w.heap.size s6 (intsV (cluL gap ms j)) ∧ s7 = .int .i64 j ∧ j ≤ ms.length ∧ Below w.heap.size w wr) (fun _ s7 _ => ms.length - (intOf s7).toNat)
  case atStart => exact ⟨0, OwnC.nil _ _, rfl, Nat.zero_le _, HB.out⟩
  case round =>
    obtain ⟨j, hO, rfl, hj, hB⟩ := hrel
    have HO2 := Lib.hid hO
    replace HB := Lib.hid hB
    clear hO hB
    by_cases hlt : j < ms.length
    case pos =>
      cases j with
      | zero =>
        have HN := Lib.hid (show cluL gap ms 1 = [0] by rfl)
        go_upto_region 6 with fail
        have e0 : decide ((0 : Int) < ((0 : Nat) : Int)) = false := by decide
        refine wp_region_nqb 16 (fun _ _ _ => False) (by kernel_rfl) (by kernel_rfl) ?_
        intro Cw Rw hc hb' hb2 hd hRw
        simp only [List.take_succ_cons, List.take_zero]
        repeat (
          first
            | (refine nqW_skip rfl (fun K hK => ?_); go_frame; refine hK _ ?_; clear hK K)
            | ((first | (refine nqW_plain (fun K hK => ?_)) | (refine nqW_want rfl (fun K hK => ?_)) | (refine nqW_step (fun K hK => ?_); go_simp))
               first
                 | (refine nq_move rfl ?_; go_simp; refine hK _ ?_; clear hK K)
                 | (refine nq_assign rfl ?_; go_simp; refine hK _ ?_; clear hK K)
                 | (refine nq_flt rfl rfl rfl rfl hd ?_; intro _; go_frame; refine hK _ ?_; clear hK K)
                 | (refine nq_same ?_; intro w' hw'; go_simp; (try go_bits); refine hK _ ?_; clear hK K hw' w')
                 | (refine nq_same ?_; intro w' hw'; go_simp; rw [if_pos (by omega)]; go_simp; (try go_bits); refine hK _ ?_; clear hK K hw' w')
                 | (go_simp; refine hK _ ?_; clear hK K)))
        refine nqW_nil (hRw _ ?_)
        clear hc hb' hb2 hd hRw
        intro w' hw'
        simp only [List.drop]
        replace HO2 := Lib.hid (HO2.out.below hw')
        replace HB := Lib.hid (below_step HB.out HB.out.size hw')
        clear hw'
        go_wp2_with (at_builtin; refine wpList_append_intG rfl _ _ rfl w.heap.size _ (intsV (cluL gap ms 0)) rfl HO2.out _ _ rfl (by rw [intsV_len, cluL_len]; omega) HB.out.size ?_; intro v' w6 hO6 hb6)
        go_roundw
        case rel => exact ⟨1, by rw [HN.out]; exact hO6, by go_num, hlt, HB.out.trans hb6⟩
        case measure => simp [intOf]; omega
      | succ k =>
        obtain ⟨j, hjk⟩ : ∃ j, j = k + 1 := ⟨_, rfl⟩
        rw [← hjk] at hlt HO2 ⊢
        have hkl : k < ms.length := by omega
        have h0 : (0 : Int) < (j : Int) := by omega
        have h0n : 0 < j := by omega
        have h0m : decide (0 < j) = true := decide_eq_true h0n
        have h0' : decide ((0 : Int) < (j : Int)) = true := decide_eq_true h0
        have hk9 : (j : Int) - 1 = k := by omega
        have hj8 : j < 512 := by omega
        have hb1 : (j : Int) < ms.length := by omega
        have hb2 : (k : Int) < ms.length := by omega
        have hb3 : (0 : Int) ≤ j := by omega
        have hb4 : (0 : Int) ≤ k := by omega
        have hwk : IntKind.i64.wrap (k : Int) = k := by rw [IntKind.wrap_i64]; omega
        obtain ⟨b, o, s1, e1, hbl, c1⟩ := FlsI.at (HM.out _ HB.out) hlt
        obtain ⟨b2, o2, s2, e2, _, c2⟩ := FlsI.at (HM.out _ HB.out) hkl
        subst e1
        obtain ⟨rfl, rfl⟩ : b = b2 ∧ o = o2 := by injection e2 with e1; injection e1 with e4 e5; exact ⟨e4, e5⟩
        obtain ⟨bl, cl, e3, hblB, hblS, c3⟩ := HO2.out.at (i := k) (intsV_at (by rw [cluL_len]; omega))
        subst e3
        have HN := Lib.hid (show cluL gap ms (j + 1) = cluL gap ms j ++ [if fle (fsub (ms.getD j 0) (ms.getD k 0)) gap then (cluL gap ms j).getD k 0 else j] by
          rw [cluL]
          have e : decide (0 < j) = true := decide_eq_true (by omega)
          have e' : j - 1 = k := by omega
          rw [e, e', Bool.true_and])
        rw [intsV_len, cluL_len] at HO2 ⊢
        clear hjk e2
        obtain ⟨x, hx⟩ : ∃ x, x = ms.getD j 0 := ⟨_, rfl⟩
        obtain ⟨y, hy⟩ : ∃ x, x = ms.getD k 0 := ⟨_, rfl⟩
        obtain ⟨z, hz⟩ : ∃ x, x = (cluL gap ms j).getD k 0 := ⟨_, rfl⟩
        rw [← hx] at c1 HN
        rw [← hy] at c2 HN
        rw [← hz] at c3 HN
        clear hx hy hz
        go_upto_region 6 with fail
        refine wp_region_nqb 16 (fun _ _ _ => False) (by kernel_rfl) (by kernel_rfl) ?_
        intro Cw Rw hc hb' hb2 hd hRw
        simp only [List.take_succ_cons, List.take_zero]
        repeat (
          first
            | (refine nqW_skip rfl (fun K hK => ?_); go_frame; refine hK _ ?_; clear hK K)
            | ((first | (refine nqW_plain (fun K hK => ?_)) | (refine nqW_want rfl (fun K hK => ?_)) | (refine nqW_step (fun K hK => ?_); go_simp))
               first
                 | (refine nq_move rfl ?_; go_simp; refine hK _ ?_; clear hK K)
                 | (refine nq_assign rfl ?_; go_simp; refine hK _ ?_; clear hK K)
                 | (refine nq_flt rfl rfl rfl rfl hd ?_; intro _; go_frame; refine hK _ ?_; clear hK K)
                 | (refine nq_same ?_; intro w' hw'; go_simp; (try go_bits); refine hK _ ?_; clear hK K hw' w')
                 | (refine nq_same ?_; intro w' hw'; go_simp; rw [if_pos (by omega)]; go_simp; (try go_bits); refine hK _ ?_; clear hK K hw' w')
                 | (go_simp; refine hK _ ?_; clear hK K)))
        refine nqW_nil (hRw _ ?_)
        clear hc hb' hb2 hd hRw
        intro w' hw'
        simp only [List.drop]
        replace HO2 := Lib.hid (HO2.out.below hw')
        replace HB := Lib.hid (below_step HB.out HB.out.size hw')
        have c4 := hw'.block bl hblS
        have c3' : w'.cell? ⟨bl, k, none⟩ = some (.int .i64 (z : Int)) := by rw [World.cell?_of_block c4]; exact c3
        clear c1 c2 c3 c4 hw' hbl
        try simp only [fle_rawl, fle_rawr, fsub_rawl, fsub_rawr]
        obtain ⟨c, hc⟩ : ∃ c, c = fle (fsub x y) gap := ⟨_, rfl⟩
        rw [← hc] at HN ⊢
        clear hc
        cases c
        · replace HN := Lib.hid (show cluL gap ms (j + 1) = cluL gap ms j ++ [j] by rw [HN.out]; simp)
          go_wp2_with (at_builtin; refine wpList_append_intG rfl _ _ rfl w.heap.size _ (intsV (cluL gap ms j)) rfl HO2.out _ _ rfl (by rw [intsV_len, cluL_len]; omega) HB.out.size ?_; intro v' w6 hO6 hb6)
          go_roundw
          case rel => exact ⟨j + 1, by rw [HN.out]; unfold intsV at hO6 ⊢; rw [List.map_append]; exact hO6, by go_num, hlt, HB.out.trans hb6⟩
          case measure => simp [intOf]; omega
        · replace HN := Lib.hid (show cluL gap ms (j + 1) = cluL gap ms j ++ [z] by rw [HN.out]; simp)
          go_wp2_with (at_builtin; refine wpList_append_intG rfl _ _ rfl w.heap.size _ (intsV (cluL gap ms j)) rfl HO2.out _ _ rfl (by rw [intsV_len, cluL_len]; omega) HB.out.size ?_; intro v' w6 hO6 hb6)
          go_roundw
          case rel => exact ⟨j + 1, by rw [HN.out]; unfold intsV at hO6 ⊢; rw [List.map_append]; exact hO6, by go_num, hlt, HB.out.trans hb6⟩
          case measure => simp [intOf]; omega
    case neg =>
      obtain rfl : j = ms.length := by omega
      rw [← HG.out] at HO2
      have HB2 := Lib.hid (And.intro HO2.out HB.out)
      clear HO2 HB
      go_wp2_with fail
      go_ret
      exact ⟨⟨_, rfl, HB2.out.1⟩, HB2.out.2⟩
end Go.Proofs.Ytdljnhdhigbefaa

/- 'plumblinelaw14.InverseClusters' answers true (printed by gen_jg.py). No condition but on lengths. -/
namespace Go.Proofs.Ytdljnhdhigbefaa
open Go Go.RowKit
set_option maxRecDepth 1000000
set_option linter.unusedSimpArgs false
set_option linter.unusedVariables false

set_option maxHeartbeats 2000000 in
theorem big14 (w : World) (da ea : Option Addr) (n dc m ec most : Nat) (hn : n ≤ maxLen) (hm : m ≤ maxLen) (hM : most ≤ 1000) :
    Calls Try.prog 36 #[.agg #[.slice da n dc, .slice ea m ec], .int .i64 most] w fun e w' => e = .returned (.bool (decide (most < n) || decide (most < m))) ∧ Below w.heap.size w w' := by
  unfold maxLen at hn hm
  have x0 : Box (w.alloc (.cells #[.slice da n dc, .slice ea m ec] 54)) w.heap.size [.slice da n dc, .slice ea m ec] := Box.newA w [_, _] _ rfl
  have hB0 := Lib.hid (show Below w.heap.size w (w.alloc (.cells #[.slice da n dc, .slice ea m ec] 54)) from (Below.refl _ _).alloc (Nat.le_refl _) _)
  obtain ⟨a1, a2, a3⟩ := x0.facts
  by_cases h1 : most < n
  · have t1 : decide ((most : Int) < (n : Int)) = true := decide_eq_true (by omega)
    have t1' : (most : Int) < (n : Int) := by omega
    rw [decide_eq_true h1, Bool.true_or]
    go_enter Try.func36, Try.ntmps36
    go_wp2
    go_ret
    exact ⟨rfl, hB0.out⟩
  · have t1 : decide ((most : Int) < (n : Int)) = false := decide_eq_false (by omega)
    have t1' : ¬ (most : Int) < (n : Int) := by omega
    rw [decide_eq_false h1, Bool.false_or]
    by_cases h2 : most < m
    · have t2 : decide ((most : Int) < (m : Int)) = true := decide_eq_true (by omega)
      have t2' : (most : Int) < (m : Int) := by omega
      rw [decide_eq_true h2]
      go_enter Try.func36, Try.ntmps36
      go_wp2
      go_ret
      exact ⟨rfl, hB0.out⟩
    · have t2 : decide ((most : Int) < (m : Int)) = false := decide_eq_false (by omega)
      have t2' : ¬ (most : Int) < (m : Int) := by omega
      rw [decide_eq_false h2]
      go_enter Try.func36, Try.ntmps36
      go_wp2
      go_ret
      exact ⟨rfl, hB0.out⟩
set_option maxHeartbeats 16000000 in
theorem clusters14 (w : World) (da ea ma : Option Addr) (ds es ws : List Nat) (dc ec mc n m k : Nat) (hdl : ds.length = n) (hel : es.length = m) (hkl : ws.length = k) (hT : TrI w da ea ds es dc ec) (hM : Fls w ma ws) (hW : Words ws) (hn : n ≤ maxLen) (hm : m ≤ maxLen) (hk : k ≤ maxLen) :
    Calls Try.prog 10 #[.agg #[.slice da n dc, .slice ea m ec], .slice ma k mc] w fun e w' => e = .returned (.bool true) ∧ Below w.heap.size w w' := by
  have HK := Lib.hid known14_any
  have HN := Lib.hid num14
  have HBG := Lib.hid (fun W => big14 W da ea n dc m ec 40 hn hm (by decide))
  have HP := Lib.hid (show _ ∧ _ ∧ _ from ⟨hT, hM, hW⟩)
  have HL := Lib.hid (show _ ∧ _ ∧ _ from ⟨hdl, hel, hkl⟩)
  unfold maxLen at hn hm hk
  have HLB := Lib.hid (show _ ∧ _ ∧ _ from ⟨hn, hm, hk⟩)
  clear hT hM hW hn hm hk hdl hel hkl
  have x0 : Box (w.alloc (.cells #[.slice da n dc, .slice ea m ec] 54)) w.heap.size [.slice da n dc, .slice ea m ec] := Box.newA w [.slice da n dc, .slice ea m ec] _ rfl
  have hB0 : Below w.heap.size w (w.alloc (.cells #[.slice da n dc, .slice ea m ec] 54)) := (Below.refl _ _).alloc (Nat.le_refl _) _
  obtain ⟨w1, hw1⟩ : ∃ W, W = w.alloc (.cells #[.slice da n dc, .slice ea m ec] 54) := ⟨_, rfl⟩
  rw [← hw1] at x0 hB0
  have X := Lib.hid x0
  have BW := Lib.hid hB0
  clear x0 hB0
  go_enter Try.func10, Try.ntmps10
  go_upto_region 1 with (fail)
  rw [← hw1]
  clear hw1
  obtain ⟨f1, f2, f3⟩ := X.out.facts
  go_wp2_with fail
  refine (HBG.out _).mono ?_
  obtain ⟨B, hBq⟩ : ∃ B, B = (decide (40 < n) || decide (40 < m)) := ⟨_, rfl⟩
  rw [← hBq]
  have HBQ := Lib.hid hBq
  clear hBq HBG
  rintro e w2 ⟨rfl, hb⟩
  replace BW := Lib.hid (below_step BW.out BW.out.size hb)
  replace X := Lib.hid (X.out.below hb)
  clear hb f1 f2 f3
  obtain ⟨f1, f2, f3⟩ := X.out.facts
  dsimp only
  cases B
  case true =>
    go_wp2_with fail
    refine (HK.out _).mono ?_
    rintro e w9 ⟨rfl, hb⟩
    have hf := below_step BW.out BW.out.size hb
    dsimp only
    go_wp2_with fail
    go_ret
    exact ⟨rfl, hf⟩
  case false =>
    have hnm : n ≤ 40 ∧ m ≤ 40 := by
        have h := HBQ.out
        simp only [Bool.false_eq, Bool.or_eq_false_iff, decide_eq_false_iff_not] at h
        omega
    obtain ⟨hn, hm⟩ := hnm
    clear HBQ
    by_cases hk : k ≤ 60
    case neg =>
      have t1 : decide ((60 : Int) < (k : Int)) = true := decide_eq_true (by omega)
      have t1' : (60 : Int) < (k : Int) := by omega
      have t1n : 60 < k := by omega
      go_wp2_with fail
      refine (HK.out _).mono ?_
      rintro e w9 ⟨rfl, hb⟩
      have hf := below_step BW.out BW.out.size hb
      dsimp only
      go_wp2_with fail
      go_ret
      exact ⟨rfl, hf⟩
    case pos =>
      have t1 : decide ((60 : Int) < (k : Int)) = false := decide_eq_false (by omega)
      have t1' : ¬ (60 : Int) < (k : Int) := by omega
      have t1n : ¬ 60 < k := by omega
      obtain ⟨V, hV⟩ : ∃ V, V = valI ds es ws := ⟨_, rfl⟩
      have HV := Lib.hid hV.symm
      clear hV
      have HA := Lib.hid (fun (W : World) (h : Below w.heap.size w W) => by
          have r := RAsk14 W da ea ma ds es ws dc ec mc n m k HL.out.1 HL.out.2.1 HL.out.2.2 (HP.out.1.below h) (HP.out.2.1.below h) HP.out.2.2 (by omega) (by omega) (by omega)
          rw [HV.out] at r
          exact r)
      go_wp2_with fail
      by_cases hv : V = 0
      case neg =>
        have hc := Clusters_err w2 da ea ma ds es ws dc ec mc (HP.out.1.below BW.out) (HP.out.2.1.below BW.out) (by rw [HL.out.1]; omega) (by rw [HL.out.2.1]; omega) (by rw [HL.out.2.2]; omega) (by rw [HV.out]; exact hv)
        rw [HL.out.1, HL.out.2.1, HL.out.2.2, HV.out] at hc
        refine hc.mono ?_
        rintro e w3 ⟨rfl, hb⟩
        clear hc
        replace BW := Lib.hid (below_step BW.out BW.out.size hb)
        replace X := Lib.hid (X.out.below hb)
        clear hb f1 f2 f3
        obtain ⟨f1, f2, f3⟩ := X.out.facts
        dsimp only
        clear t1 t1' t1n
        go_wp2_with fail
        refine (HA.out _ BW.out).mono ?_
        rintro e w4 ⟨rfl, hb⟩
        replace BW := Lib.hid (below_step BW.out BW.out.size hb)
        replace X := Lib.hid (X.out.below hb)
        clear hb f1 f2 f3
        obtain ⟨f1, f2, f3⟩ := X.out.facts
        dsimp only
        have t2 : (V != 0) = true := by rw [bne_iff_ne]; exact hv
        go_wp2_with fail
        refine (HN.out _ _).mono ?_
        rintro e w' ⟨rfl, rfl⟩
        go_wp2_with fail
        refine (HK.out _).mono ?_
        rintro e w9 ⟨rfl, hb⟩
        have hf := below_step BW.out BW.out.size hb
        dsimp only
        go_wp2_with fail
        go_ret
        exact ⟨rfl, hf⟩
      case pos =>
        subst hv
        have hc := Clusters_ok w2 da ea ma ds es ws dc ec mc (HP.out.1.below BW.out) (HP.out.2.1.below BW.out) HV.out
        rw [HL.out.1, HL.out.2.1, HL.out.2.2] at hc
        have HOK := Lib.hid (valI_zero HV.out)
        have HCL := Lib.hid (show (cluI ds es ws).length = k from by unfold cluI; rw [cluL_len]; exact HL.out.2.2)
        obtain ⟨cl, hcl⟩ : ∃ c, c = cluI ds es ws := ⟨_, rfl⟩
        have HR := Lib.hid (fun (W : World) (h : Below w.heap.size w W) => by
            have r := RClu14 W da ea ma ds es ws dc ec mc n m HL.out.1 HL.out.2.1 (HP.out.1.below h) (HP.out.2.1.below h) (by omega) (by omega) (by have := HL.out.2.2; omega) HOK.out.de
            rw [HL.out.2.2, ← hcl] at r
            exact r)
        rw [← hcl] at hc HCL
        clear hcl
        refine hc.mono ?_
        rintro e w3 ⟨⟨v, rfl, hO⟩, hb⟩
        clear hc
        obtain ⟨xa, xc, rfl, hI⟩ := hO.ic
        rw [HCL.out]
        have I1 := Lib.hid hI
        clear hO hI
        replace BW := Lib.hid (below_step BW.out BW.out.size hb)
        replace X := Lib.hid (X.out.below hb)
        clear hb f1 f2 f3
        obtain ⟨f1, f2, f3⟩ := X.out.facts
        dsimp only
        clear t1 t1' t1n
        go_wp2_with fail
        refine (HA.out _ BW.out).mono ?_
        rintro e w4 ⟨rfl, hb⟩
        replace I1 := Lib.hid (I1.out.below hb)
        replace BW := Lib.hid (below_step BW.out BW.out.size hb)
        replace X := Lib.hid (X.out.below hb)
        clear hb f1 f2 f3
        obtain ⟨f1, f2, f3⟩ := X.out.facts
        dsimp only
        go_wp2_with fail
        refine (HR.out _ BW.out).mono ?_
        rintro e w5 ⟨⟨v, rfl, hO⟩, hb⟩
        obtain ⟨ya, yc, rfl, hI⟩ := hO.ic
        rw [HCL.out]
        have I2 := Lib.hid hI
        clear hO hI
        replace I1 := Lib.hid (I1.out.below hb)
        replace BW := Lib.hid (below_step BW.out BW.out.size hb)
        replace X := Lib.hid (X.out.below hb)
        clear hb f1 f2 f3
        obtain ⟨f1, f2, f3⟩ := X.out.facts
        dsimp only
        go_wp2_with fail
        have hi := ints14 w5 xa ya cl cl xc yc I1.out I2.out (by rw [HCL.out]; omega) (by rw [HCL.out]; omega)
        rw [HCL.out, decide_eq_true rfl] at hi
        refine hi.mono ?_
        rintro e w6 ⟨rfl, hb⟩
        clear hi I1 I2
        replace BW := Lib.hid (below_step BW.out BW.out.size hb)
        replace X := Lib.hid (X.out.below hb)
        clear hb f1 f2 f3
        obtain ⟨f1, f2, f3⟩ := X.out.facts
        dsimp only
        go_wp2_with fail
        refine (HN.out _ _).mono ?_
        rintro e w' ⟨rfl, rfl⟩
        go_wp2_with fail
        refine (HK.out _).mono ?_
        rintro e w9 ⟨rfl, hb⟩
        have hf := below_step BW.out BW.out.size hb
        dsimp only
        go_wp2_with fail
        go_ret
        exact ⟨rfl, hf⟩
end Go.Proofs.Ytdljnhdhigbefaa
