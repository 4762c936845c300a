/- Layer 12: what can't be solved is refused. No condition but on lengths. -/
import Derived.Test.YtbmnlohaidbmdaaQi
import Derived.Test.YtbmnlohaidbmdaaNq10
namespace Go.Proofs.Ytbmnlohaidbmdaa
open Go Go.RowKit
set_option maxRecDepth 1000000

/-- Why a tridiagonal, with a matrix, can't be solved. -/
def wrongQ (d e : List Nat) (r c : Int) (z : List Nat) : Int := if mayT d.length e.length = false then 2 else if mayB r c z.length = false then 2 else if decide (c = (d.length : Int)) = false then 8 else if d.all ffin = false then 10 else if e.all ffin = false then 10 else if z.all ffin = false then 10 else 0
def SolveE (w : World) (code : Int) (e : Ending) (w' : World) : Prop := e = .returned (.tuple #[.slice none 0 0, .agg #[.int .i64 0, .int .i64 0, .slice none 0 0], .int .i64 0, .int .i64 code]) ∧ Below w.heap.size w w'
set_option maxHeartbeats 8000000 in
theorem Solve_err (w : World) (da ea za : Option Addr) (d e z : List Nat) (dc ec zc : Nat) (r c : Int) (hd : Fls w da d) (he : Fls w ea e) (hz : Fls w za z) (hWd : Words d) (hWe : Words e) (hWz : Words z) (hld : d.length ≤ maxLen) (hle : e.length ≤ maxLen) (hlz : z.length ≤ maxLen) (hE : wrongQ d e r c z ≠ 0) :
    Calls Try.prog 10 #[.agg #[.slice da d.length dc, .slice ea e.length ec], .agg #[.int .i64 r, .int .i64 c, .slice za z.length zc]] w (SolveE w (wrongQ d e r c z)) := by
  have HM := Lib.hid (fun W => QMay_any W r c za z.length zc hlz)
  have HT := Lib.hid (fun W => TMay_any W da ea d.length e.length dc ec hld hle)
  have HFd := Lib.hid (fun W (h : Below w.heap.size w W) => QFin_any W da d dc (hd.below h) hWd hld)
  have HFe := Lib.hid (fun W (h : Below w.heap.size w W) => QFin_any W ea e ec (he.below h) hWe hle)
  have HFz := Lib.hid (fun W (h : Below w.heap.size w W) => QFin_any W za z zc (hz.below h) hWz hlz)
  have t1 : (c != (d.length : Int)) = !decide (c = (d.length : Int)) := by rw [Bool.eq_iff_iff]; simp
  obtain ⟨R, hR⟩ : ∃ R, R = wrongQ d e r c z := ⟨_, rfl⟩
  rw [← hR]
  have hRd : R = if mayT d.length e.length = false then 2 else if mayB r c z.length = false then 2 else if decide (c = (d.length : Int)) = false then 8 else if d.all ffin = false then 10 else if e.all ffin = false then 10 else if z.all ffin = false then 10 else 0 := hR
  rw [← hR] at hE
  obtain ⟨W0, hW0⟩ : ∃ W0, W0 = (((w.alloc (.cells #[.slice da d.length dc, .slice ea e.length ec] 24)).alloc (.cells #[.int .i64 r, .int .i64 c, .slice za z.length zc] 26)).alloc (.cells #[.int .i64 0, .int .i64 0, .slice none 0 0] 26)) := ⟨_, rfl⟩
  have hB0 : Below w.heap.size w W0 := hW0 ▸ (((Below.refl _ _).alloc (Nat.le_refl _) _).alloc (by simp) _).alloc (by simp; omega) _
  have x2 : Box W0 w.heap.size [.slice da d.length dc, .slice ea e.length ec] := hW0 ▸ ((Box.newA w [_, _] _ rfl).alloc _).alloc _
  have x3 : Box W0 (w.heap.size + 1) [.int .i64 r, .int .i64 c, .slice za z.length zc] := hW0 ▸ (Box.newA _ [_, _, _] _ (by simp)).alloc _
  have x5 : Box W0 (w.heap.size + 1 + 1) [.int .i64 0, .int .i64 0, .slice none 0 0] := hW0 ▸ Box.newA _ [_, _, _] _ (by simp)
  have HX := Lib.hid (show _ ∧ _ ∧ _ ∧ _ from ⟨hB0, x2, x3, x5⟩)
  have HRd := Lib.hid hRd
  have HE := Lib.hid hE
  have hld' := hld
  unfold maxLen at hld'
  clear hR hd he hz hWd hWe hWz hB0 x2 x3 x5 hRd hE hld hle hlz
  go_enter Try.func10, Try.ntmps10
  go_wp2_with fail
  rw [← hW0]
  clear hW0
  obtain ⟨hB0, x2, x3, x5⟩ := HX.out
  refine (HT.out _).mono ?_
  rintro e W1 ⟨rfl, hb1⟩
  have hB1 := below_step hB0 hB0.size hb1
  have y2 := x2.below hb1
  have y3 := x3.below hb1
  have y5 := x5.below hb1
  have ylt := y5.lt
  obtain ⟨q1, q2, q3⟩ := y2.facts
  obtain ⟨p1, p2, p3⟩ := y3.facts
  obtain ⟨o1, o2, o3⟩ := y5.facts
  have HY := Lib.hid (show _ ∧ _ ∧ _ ∧ _ from ⟨hB1, y2, y3, y5⟩)
  clear HX hB0 x2 x3 x5 y2 y3 hb1 y5 hB1
  have hRd := HRd.out
  have hE := HE.out
  clear HRd HE
  cases hm : mayT d.length e.length
  · rw [hm, if_pos rfl] at hRd
    subst hRd
    clear hm hE
    go_wp2
    exact bodyPost_ret (results_four rfl (rv_tmp rfl) (rv_cell (g := w.heap.size + 1 + 1) rfl (HY.out.2.2.2.put3 _ _ _) rfl Try.underlying26 (by kernel_rfl)) (rv_tmp rfl) (rv_tmp rfl)) rfl ⟨rfl, below_put3 HY.out.1 (by omega) _ _ _⟩
  rw [hm, if_neg (by decide)] at hRd
  have HRd := Lib.hid hRd
  have HE := Lib.hid hE
  clear hRd hE hm
  go_wp2_with fail
  refine (HM.out _).mono ?_
  rintro e W2 ⟨rfl, hb2⟩
  obtain ⟨hB1, y2, y3, y5⟩ := HY.out
  have hB2 := below_step hB1 hB1.size hb2
  replace y2 := y2.below hb2
  replace y3 := y3.below hb2
  replace y5 := y5.below hb2
  have ylt2 := y5.lt
  clear q1 q2 q3 p1 p2 p3 o1 o2 o3 ylt
  obtain ⟨q1, q2, q3⟩ := y2.facts
  obtain ⟨p1, p2, p3⟩ := y3.facts
  obtain ⟨o1, o2, o3⟩ := y5.facts
  have HY2 := Lib.hid (show _ ∧ _ from ⟨hB2, y5⟩)
  clear HY y2 y3 hb2 y5 hB1 hB2
  have hRd := HRd.out
  have hE := HE.out
  clear HRd HE
  cases hm : mayB r c z.length
  · rw [hm, if_pos rfl] at hRd
    subst hRd
    clear hm hE
    go_wp2
    exact bodyPost_ret (results_four rfl (rv_tmp rfl) (rv_cell (g := w.heap.size + 1 + 1) rfl (HY2.out.2.put3 _ _ _) rfl Try.underlying26 (by kernel_rfl)) (rv_tmp rfl) (rv_tmp rfl)) rfl ⟨rfl, below_put3 HY2.out.1 (by omega) _ _ _⟩
  rw [hm, if_neg (by decide)] at hRd
  clear hm
  cases hc : decide (c = (d.length : Int))
  · rw [hc] at t1
    rw [hc, if_pos rfl] at hRd
    subst hRd
    clear hE hc
    go_wp2
    exact bodyPost_ret (results_four rfl (rv_tmp rfl) (rv_cell (g := w.heap.size + 1 + 1) rfl (HY2.out.2.put3 _ _ _) rfl Try.underlying26 (by kernel_rfl)) (rv_tmp rfl) (rv_tmp rfl)) rfl ⟨rfl, below_put3 HY2.out.1 (by omega) _ _ _⟩
  rw [hc] at t1
  rw [hc, if_neg (by decide)] at hRd
  clear hc
  cases h1 : d.all ffin
  · rw [h1] at HFd
    rw [h1, if_pos rfl] at hRd
    subst hRd
    clear hE h1
    go_wp2_with fail
    refine (HFd.out _ HY2.out.1).mono ?_
    rintro e W3 ⟨rfl, rfl⟩
    go_wp2
    exact bodyPost_ret (results_four rfl (rv_tmp rfl) (rv_cell (g := w.heap.size + 1 + 1) rfl (HY2.out.2.put3 _ _ _) rfl Try.underlying26 (by kernel_rfl)) (rv_tmp rfl) (rv_tmp rfl)) rfl ⟨rfl, below_put3 HY2.out.1 (by omega) _ _ _⟩
  rw [h1] at HFd
  rw [h1, if_neg (by decide)] at hRd
  clear h1
  cases h2 : e.all ffin
  · rw [h2] at HFe
    rw [h2, if_pos rfl] at hRd
    subst hRd
    clear hE h2
    go_wp2_with fail
    refine (HFd.out _ HY2.out.1).mono ?_
    rintro e W3 ⟨rfl, rfl⟩
    go_wp2_with fail
    refine (HFe.out _ HY2.out.1).mono ?_
    rintro e W3 ⟨rfl, rfl⟩
    go_wp2
    exact bodyPost_ret (results_four rfl (rv_tmp rfl) (rv_cell (g := w.heap.size + 1 + 1) rfl (HY2.out.2.put3 _ _ _) rfl Try.underlying26 (by kernel_rfl)) (rv_tmp rfl) (rv_tmp rfl)) rfl ⟨rfl, below_put3 HY2.out.1 (by omega) _ _ _⟩
  rw [h2] at HFe
  rw [h2, if_neg (by decide)] at hRd
  clear h2
  cases h3 : z.all ffin
  · rw [h3] at HFz
    rw [h3, if_pos rfl] at hRd
    subst hRd
    clear hE h3
    go_wp2_with fail
    refine (HFd.out _ HY2.out.1).mono ?_
    rintro e W3 ⟨rfl, rfl⟩
    go_wp2_with fail
    refine (HFe.out _ HY2.out.1).mono ?_
    rintro e W3 ⟨rfl, rfl⟩
    go_wp2_with fail
    refine (HFz.out _ HY2.out.1).mono ?_
    rintro e W3 ⟨rfl, rfl⟩
    go_wp2
    exact bodyPost_ret (results_four rfl (rv_tmp rfl) (rv_cell (g := w.heap.size + 1 + 1) rfl (HY2.out.2.put3 _ _ _) rfl Try.underlying26 (by kernel_rfl)) (rv_tmp rfl) (rv_tmp rfl)) rfl ⟨rfl, below_put3 HY2.out.1 (by omega) _ _ _⟩
  · rw [h3, if_neg (by decide)] at hRd
    exact absurd hRd hE
end Go.Proofs.Ytbmnlohaidbmdaa
