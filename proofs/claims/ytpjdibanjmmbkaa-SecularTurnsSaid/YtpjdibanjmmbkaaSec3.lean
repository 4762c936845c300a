/- The equation's exported functions: what May, Find and Side give. -/
import Derived.Test.YtpjdibanjmmbkaaSec2
namespace Go.Proofs.Ytpjdibanjmmbkaa
open Go Go.RowKit
set_option maxRecDepth 100000

theorem May_any (w : World) (da za : Option Addr) (ds zs : List Nat) (dc zc : Nat) (rho : Nat) (hD : Fls w da ds) (hZ : Fls w za zs) (hWD : Words ds) (hWZ : Words zs) (hrho : rho < 18446744073709551616) (hl : ds.length ≤ maxLen) (hlz : zs.length ≤ maxLen) :
    Calls Try.prog 66 #[.agg #[.slice da ds.length dc, .slice za zs.length zc, .float .f64 rho]] w fun e w' => e = .returned (.int .i64 (mayS ds zs rho)) ∧ Below w.heap.size w w' := by
  by_cases h : badS ds zs rho
  · have e : mayS ds zs rho = 2 := by unfold mayS; rw [if_pos h]
    rw [e]
    exact May_no w da za ds zs dc zc rho hl hlz h
  · have e : mayS ds zs rho = mayE ds zs rho := by unfold mayS; rw [if_neg h]
    rw [e]
    have hb := h
    unfold badS at hb
    refine May_yes w da za ds zs dc zc rho hD hZ hWD hWZ hrho (by omega) (by omega) ?_ ?_
    · have := mt (fun h => Or.inr (Or.inr (Or.inl h))) hb
      omega
    · cases h1 : flt 0 rho
      · cases h2 : isnan rho
        · exact absurd (Or.inr (Or.inr (Or.inr ⟨h1, h2⟩))) hb
        · exact .inr rfl
      · exact .inl rfl
theorem mayS_ok {ds zs : List Nat} {rho : Nat} (h : mayS ds zs rho = 0) : 0 < ds.length ∧ ds.length ≤ 512 ∧ zs.length = ds.length := by
  unfold mayS at h
  by_cases hb : badS ds zs rho
  · rw [if_pos hb] at h; cases h
  · unfold badS at hb
    have h1 := mt Or.inl hb
    have h2 := mt (fun h => Or.inr (Or.inl h)) hb
    have h3 := mt (fun h => Or.inr (Or.inr (Or.inl h))) hb
    omega

/-- What Find answers. -/
def FindA (ds zs : List Nat) (rho : Nat) (k : Int) (e : Ending) : Prop :=
  if mayS ds zs rho ≠ 0 then e = .returned (.tuple #[.agg #[.int .i64 0, .float .f64 0], .int .i64 0, .int .i64 (mayS ds zs rho)])
  else if 0 ≤ k ∧ k < ds.length then FindR ds zs rho k.toNat e
  else e = .returned (.tuple #[.agg #[.int .i64 0, .float .f64 0], .int .i64 0, .int .i64 2])

set_option maxHeartbeats 2000000 in
theorem Find_any (w : World) (da za : Option Addr) (ds zs : List Nat) (dc zc : Nat) (rho : Nat) (k : Int) (hD : Fls w da ds) (hZ : Fls w za zs) (hWD : Words ds) (hWZ : Words zs) (hrho : rho < 18446744073709551616) (hl : ds.length ≤ maxLen) (hlz : zs.length ≤ maxLen) :
    Calls Try.prog 14 #[.agg #[.slice da ds.length dc, .slice za zs.length zc, .float .f64 rho], .int .i64 k] w fun e w' => FindA ds zs rho k e ∧ Below w.heap.size w w' := by
  have HM := Lib.hid (fun (W : World) (hB : Below w.heap.size w W) => May_any W da za ds zs dc zc rho (hD.below hB) (hZ.below hB) hWD hWZ hrho hl hlz)
  have HA := Lib.hid (fun (W : World) => at_any da za ds.length dc zs.length zc rho k W hl)
  have hx1 : Box ((w.alloc (.cells #[.slice da ds.length dc, .slice za zs.length zc, .float .f64 rho] 25)).alloc (.cells #[.int .i64 0, .float .f64 0] 28)) w.heap.size [.slice da ds.length dc, .slice za zs.length zc, .float .f64 rho] := (Box.new w _ 25).alloc _
  have hx2 : Box ((w.alloc (.cells #[.slice da ds.length dc, .slice za zs.length zc, .float .f64 rho] 25)).alloc (.cells #[.int .i64 0, .float .f64 0] 28)) (w.heap.size + 1) [.int .i64 0, .float .f64 0] := by
    have h := Box.new (w.alloc (.cells #[.slice da ds.length dc, .slice za zs.length zc, .float .f64 rho] 25)) [.int .i64 0, .float .f64 0] 28
    rw [World.size_alloc] at h; exact h
  have hB0 : Below w.heap.size w ((w.alloc (.cells #[.slice da ds.length dc, .slice za zs.length zc, .float .f64 rho] 25)).alloc (.cells #[.int .i64 0, .float .f64 0] 28)) := ((Below.refl _ _).alloc (Nat.le_refl _) _).alloc (by simp) _
  by_cases hm : mayS ds zs rho = 0
  · have t1 : (mayS ds zs rho != 0) = false := by simp [hm]
    have hin := mayS_ok hm
    have HIN := Lib.hid hin
    have HMz := Lib.hid hm
    clear hm hin
    by_cases hk : 0 ≤ k ∧ k < ds.length
    · obtain ⟨n, rfl⟩ := Int.eq_ofNat_of_zero_le hk.1
      have hk2 : n < ds.length := by have := hk.2; omega
      have HF := Lib.hid (fun (W : World) (hB : Below w.heap.size w W) => find_any W da za ds zs dc zc rho n (hD.below hB) (hZ.below hB) hk2 HIN.out.2.2 HIN.out.2.1)
      have t2 : decide ((0 : Int) ≤ (n : Int) ∧ (n : Int) < (ds.length : Int)) = true := by simp; omega
      go_enter Try.func14, Try.ntmps14
      go_wp2_with fail
      refine (HM.out _ hB0).mono ?_
      rintro e w1 ⟨rfl, hb1⟩
      have y1 := hx1.below hb1
      have y2 := hx2.below hb1
      have hB1 := below_step hB0 hB0.size hb1
      obtain ⟨a1, a2, a3⟩ := y1.facts
      obtain ⟨a4, a5, a6⟩ := y2.facts
      go_wp2_with fail
      refine (HA.out _).mono ?_
      rintro e w2 ⟨rfl, hb2⟩
      rw [t2]
      have z1 := y1.below hb2
      have z2 := y2.below hb2
      have hB2 := below_step hB1 hB1.size hb2
      obtain ⟨c1, c2, c3⟩ := z1.facts
      obtain ⟨c4, c5, c6⟩ := z2.facts
      cases f1 : ffin (greatS ds zs rho n)
      case false =>
        go_wp2_with fail
        refine (HF.out _ hB2).mono ?_
        rintro e w3 ⟨hR, hb3⟩
        unfold FindR at hR
        rw [f1, if_neg (by decide)] at hR
        obtain rfl := hR
        have v2 := z2.below hb3
        obtain ⟨d4, d5, d6⟩ := v2.facts
        go_wp2
        refine bodyPost_ret (results_three rfl (rv_cell (g := w.heap.size + 1) rfl ((v2.set 0 _).set 1 _) rfl Try.underlying28 (by kernel_rfl)) (rv_tmp rfl) (rv_tmp rfl)) rfl ⟨?_, ?_⟩
        · unfold FindA
          rw [if_neg (by rw [HMz.out]; decide), if_pos (by omega)]
          unfold FindR
          rw [Int.toNat_natCast, f1]
          rfl
        · exact ((below_step hB2 hB2.size hb3).setCell (by simp) _).setCell (by simp) _
      case true =>
        go_wp2_with fail
        refine (HF.out _ hB2).mono ?_
        rintro e w3 ⟨hR, hb3⟩
        unfold FindR at hR
        rw [f1, if_pos rfl] at hR
        obtain ⟨s1, rfl⟩ := hR
        have v2 := z2.below hb3
        obtain ⟨d4, d5, d6⟩ := v2.facts
        go_wp2
        refine bodyPost_ret (results_three rfl (rv_cell (g := w.heap.size + 1) rfl ((v2.set 0 _).set 1 _) rfl Try.underlying28 (by kernel_rfl)) (rv_tmp rfl) (rv_tmp rfl)) rfl ⟨?_, ?_⟩
        · unfold FindA
          rw [if_neg (by rw [HMz.out]; decide), if_pos (by omega)]
          unfold FindR
          rw [Int.toNat_natCast, f1]
          exact ⟨s1, rfl⟩
        · exact ((below_step hB2 hB2.size hb3).setCell (by simp) _).setCell (by simp) _
    · have t2 : decide (0 ≤ k ∧ k < (ds.length : Int)) = false := decide_eq_false hk
      have HK := Lib.hid hk
      clear hk
      go_enter Try.func14, Try.ntmps14
      go_wp2_with fail
      refine (HM.out _ hB0).mono ?_
      rintro e w1 ⟨rfl, hb1⟩
      have y1 := hx1.below hb1
      have y2 := hx2.below hb1
      have hB1 := below_step hB0 hB0.size hb1
      obtain ⟨a1, a2, a3⟩ := y1.facts
      obtain ⟨a4, a5, a6⟩ := y2.facts
      go_wp2_with fail
      refine (HA.out _).mono ?_
      rintro e w2 ⟨rfl, hb2⟩
      rw [t2]
      have z1 := y1.below hb2
      have z2 := y2.below hb2
      have hB2 := below_step hB1 hB1.size hb2
      obtain ⟨c1, c2, c3⟩ := z1.facts
      obtain ⟨c4, c5, c6⟩ := z2.facts
      go_wp2
      refine bodyPost_ret (results_three rfl (rv_cell (g := w.heap.size + 1) rfl ((z2.set 0 _).set 1 _) rfl Try.underlying28 (by kernel_rfl)) (rv_tmp rfl) (rv_tmp rfl)) rfl ⟨?_, ?_⟩
      · unfold FindA
        rw [if_neg (by rw [HMz.out]; decide), if_neg HK.out]
        rfl
      · exact (hB2.setCell (by simp) _).setCell (by simp) _
  · have t1 : (mayS ds zs rho != 0) = true := by simp [hm]
    have HMz := Lib.hid hm
    clear hm
    go_enter Try.func14, Try.ntmps14
    go_wp2_with fail
    refine (HM.out _ hB0).mono ?_
    rintro e w1 ⟨rfl, hb1⟩
    have y1 := hx1.below hb1
    have y2 := hx2.below hb1
    have hB1 := below_step hB0 hB0.size hb1
    obtain ⟨a1, a2, a3⟩ := y1.facts
    obtain ⟨a4, a5, a6⟩ := y2.facts
    go_wp2
    refine bodyPost_ret (results_three rfl (rv_cell (g := w.heap.size + 1) rfl ((y2.set 0 _).set 1 _) rfl Try.underlying28 (by kernel_rfl)) (rv_tmp rfl) (rv_tmp rfl)) rfl ⟨?_, ?_⟩
    · unfold FindA
      rw [if_pos HMz.out]
      rfl
    · exact (hB1.setCell (by simp) _).setCell (by simp) _
end Go.Proofs.Ytpjdibanjmmbkaa
