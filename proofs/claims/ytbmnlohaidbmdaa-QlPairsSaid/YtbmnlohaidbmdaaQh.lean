/- Layer 12: values, and columns, sorted. No condition but on lengths. -/
import Derived.Test.YtbmnlohaidbmdaaQg
import Derived.Test.YtbmnlohaidbmdaaQp3
import Derived.Test.YtbmnlohaidbmdaaNq8
namespace Go.Proofs.Ytbmnlohaidbmdaa
open Go Go.RowKit
set_option maxRecDepth 1000000

theorem minL_step {w : List Nat} {f j k : Nat} (hf : w.length ≤ j + f) (hj : j < w.length) : ∃ g, f = g + 1 ∧ w.length ≤ (j + 1) + g ∧ minL w f j k = minL w g (j + 1) (if flt (w.getD j 0) (w.getD k 0) then j else k) := by
  cases f with
  | zero => omega
  | succ g => exact ⟨g, rfl, by omega, by rw [minL, if_pos hj]⟩
theorem minL_end {w : List Nat} {f j k : Nat} (hj : ¬ j < w.length) : minL w f j k = k := by
  cases f with
  | zero => rfl
  | succ g => rw [minL, if_neg hj]
/-- Why values, with a matrix, can't be sorted. -/
def sortE (r c : Int) (n : Nat) (l : List Nat) : Int := if mayB r c n = false then 2 else if decide (c = (l.length : Int)) = false then 8 else if l.all ffin = false then 10 else 0
theorem Box.put3 {w : World} {n : Nat} {a0 a1 a2 : Value} (h : Box w n [a0, a1, a2]) (v0 v1 v2 : Value) : Box (((w.setCell ⟨n, 0, none⟩ v0).setCell ⟨n, 1, none⟩ v1).setCell ⟨n, 2, none⟩ v2) n [v0, v1, v2] := ((h.set 0 v0).set 1 v1).set 2 v2
theorem below_put3 {B n : Nat} {a w : World} (h : Below B a w) (hn : B ≤ n) (v0 v1 v2 : Value) : Below B a (((w.setCell ⟨n, 0, none⟩ v0).setCell ⟨n, 1, none⟩ v1).setCell ⟨n, 2, none⟩ v2) := below_set (below_set (below_set h hn _ _) hn _ _) hn _ _
set_option maxHeartbeats 4000000 in
theorem Sorted_err (w : World) (a za : Option Addr) (l : List Nat) (cap n zc : Nat) (r c : Int) (hl : Fls w a l) (hW : Words l) (hn : l.length ≤ maxLen) (hzn : n ≤ maxLen) (hE : sortE r c n l ≠ 0) :
    Calls Try.prog 18 #[.slice a l.length cap, .agg #[.int .i64 r, .int .i64 c, .slice za n zc]] w fun e w' => e = .returned (.tuple #[.slice none 0 0, .agg #[.int .i64 0, .int .i64 0, .slice none 0 0], .int .i64 (sortE r c n l)]) ∧ Below w.heap.size w w' := by
  have HM := Lib.hid (fun W => QMay_any W r c za n zc hzn)
  have HF := Lib.hid (fun W (h : Below w.heap.size w W) => QFin_any W a l cap (hl.below h) hW hn)
  have t1 : (c != (l.length : Int)) = !decide (c = (l.length : Int)) := by rw [Bool.eq_iff_iff]; simp
  obtain ⟨R, hR⟩ : ∃ R, R = sortE r c n l := ⟨_, rfl⟩
  rw [← hR]
  have hRd : R = if mayB r c n = false then 2 else if decide (c = (l.length : Int)) = false then 8 else if l.all ffin = false then 10 else 0 := hR
  rw [← hR] at hE
  obtain ⟨W0, hW0⟩ : ∃ W0, W0 = ((w.alloc (.cells #[.int .i64 r, .int .i64 c, .slice za n zc] 26)).alloc (.cells #[.int .i64 0, .int .i64 0, .slice none 0 0] 26)) := ⟨_, rfl⟩
  have hB0 : Below w.heap.size w W0 := hW0 ▸ ((Below.refl _ _).alloc (Nat.le_refl _) _).alloc (by simp) _
  have x3 : Box W0 w.heap.size [.int .i64 r, .int .i64 c, .slice za n zc] := hW0 ▸ (Box.newA w [_, _, _] _ rfl).alloc _
  have x5 : Box W0 (w.heap.size + 1) [.int .i64 0, .int .i64 0, .slice none 0 0] := hW0 ▸ Box.newA _ [_, _, _] _ (by simp)
  have HX := Lib.hid (show _ ∧ _ ∧ _ from ⟨hB0, x3, x5⟩)
  clear hR hl hW hB0 x3 x5
  go_enter Try.func18, Try.ntmps18
  go_wp2_with fail
  rw [← hW0]
  clear hW0
  obtain ⟨hB0, x3, x5⟩ := HX.out
  refine (HM.out _).mono ?_
  rintro e W1 ⟨rfl, hb1⟩
  have hB1 := below_step hB0 hB0.size hb1
  have y3 := x3.below hb1
  have y5 := x5.below hb1
  have ylt := y5.lt
  obtain ⟨q1, q2, q3⟩ := y3.facts
  obtain ⟨p1, p2, p3⟩ := y5.facts
  have HY := Lib.hid (show _ ∧ _ from ⟨hB1, y5⟩)
  clear HX hB0 x3 x5 y3 hb1 y5 hB1
  cases hm : mayB r c n
  · rw [hm] at hRd
    obtain rfl : R = 2 := by simpa using hRd
    clear hRd t1 hm hE
    go_wp2
    exact bodyPost_ret (results_three rfl (rv_tmp rfl) (rv_cell (g := w.heap.size + 1) rfl (HY.out.2.put3 _ _ _) rfl Try.underlying26 (by kernel_rfl)) (rv_tmp rfl)) rfl ⟨rfl, below_put3 HY.out.1 (by omega) _ _ _⟩
  · rw [hm] at hRd
    clear hm
    cases hc : decide (c = (l.length : Int))
    · rw [hc] at t1 hRd
      obtain rfl : R = 8 := by simpa using hRd
      clear hRd hc hE
      go_wp2
      exact bodyPost_ret (results_three rfl (rv_tmp rfl) (rv_cell (g := w.heap.size + 1) rfl (HY.out.2.put3 _ _ _) rfl Try.underlying26 (by kernel_rfl)) (rv_tmp rfl)) rfl ⟨rfl, below_put3 HY.out.1 (by omega) _ _ _⟩
    · rw [hc] at t1 hRd
      cases hf : l.all ffin
      · rw [hf] at hRd HF
        obtain rfl : R = 10 := by simpa using hRd
        clear hRd hc hE hf
        go_wp2_with fail
        refine (HF.out _ HY.out.1).mono ?_
        rintro e W2 ⟨rfl, rfl⟩
        go_wp2
        exact bodyPost_ret (results_three rfl (rv_tmp rfl) (rv_cell (g := w.heap.size + 1) rfl (HY.out.2.put3 _ _ _) rfl Try.underlying26 (by kernel_rfl)) (rv_tmp rfl)) rfl ⟨rfl, below_put3 HY.out.1 (by omega) _ _ _⟩
      · rw [hf] at hRd
        exact absurd (by simpa using hRd) hE
end Go.Proofs.Ytbmnlohaidbmdaa
