/- Layer 8: the law's helpers; the document's sums. No condition but on lengths. -/
import Derived.Test.YtbcdpibcieadlaaKk
namespace Go.Proofs.Ytbcdpibcieadlaa
open Go Go.RowKit
set_option maxRecDepth 1000000

theorem num8_any (n : Int) (w : World) : Calls Try.prog 22 #[.int .i64 n] w fun e w' => e = .returned (.int .i64 n) ∧ w = w' := by
  go_enter Try.func22, Try.ntmps22
  go_wp2
  go_ret
  exact ⟨rfl, rfl⟩
set_option maxHeartbeats 1000000 in
theorem float8_raw (x s t : Nat) (hx : x < 18446744073709551616) (w : World) : Calls Try.prog 23 #[.float .f64 (raw x s), .float .f64 (raw x t)] w fun e w' => e = .returned (.bool true) ∧ w = w' := by
  have H1 := Lib.hid (fun W => nm_raw x s ▸ Bits_any (raw x s) (raw_lt hx s) W)
  have H2 := Lib.hid (fun W => nm_raw x t ▸ Bits_any (raw x t) (raw_lt hx t) W)
  have t0 : ((nm x : Int) == (nm x : Int)) = true := beq_self_eq_true _
  generalize nm x = z at *
  go_enter Try.func23, Try.ntmps23
  go_wp2_with fail
  refine (H1.out _).mono ?_
  rintro e w1 ⟨rfl, rfl⟩
  go_wp2_with fail
  refine (H2.out _).mono ?_
  rintro e w2 ⟨rfl, rfl⟩
  go_wp2
  go_ret
  exact ⟨rfl, rfl⟩
theorem float8_zero (w : World) : Calls Try.prog 23 #[.float .f64 0, .float .f64 0] w fun e w' => e = .returned (.bool true) ∧ w = w' := by
  have := float8_raw 0 0 0 (by decide) w
  rw [raw_of_not (by kernel_rfl)] at this
  exact this
set_option maxHeartbeats 2000000 in
theorem vec_any (w : World) (a : Option Addr) (l : List Nat) (cap : Nat) (hZ : Cel w a l) (hl : l.length ≤ 512) :
    Calls Try.prog 36 #[.slice a l.length cap] w fun e w' => ∃ st sb, e = .returned (newV st l.length 1).val ∧ w.heap.size ≤ st ∧ w.heap.size ≤ sb ∧ Sto w' (some ⟨st, 0, none⟩) sb l ∧ Below w.heap.size w w' := by
  have hbA : Below w.heap.size w (w.alloc (.cells #[.pointer none, .int .i64 0, .int .i64 0, .int .i64 0, .int .i64 0, .int .i64 0] 29)) := (Below.refl _ _).alloc (Nat.le_refl _) _
  have x2 := Box.newA w [.pointer none, .int .i64 0, .int .i64 0, .int .i64 0, .int .i64 0, .int .i64 0] 29 rfl
  have HO := Lib.hid (Of_yes l.length 1 a l cap _ hl (by decide) (by simp) (hZ.below hbA))
  have HX := Lib.hid (And.intro hbA x2)
  clear hZ hbA x2
  go_enter Try.func36, Try.ntmps36
  go_wp2_with fail
  refine HO.out.mono ?_
  rintro e w1 ⟨st, sb, rfl, k1, k2, hS, hb1⟩
  have hB1 := below_step HX.out.1 HX.out.1.size hb1
  have x2 := HX.out.2.below hb1
  have hbB : Below w1.heap.size w1 (w1.alloc (.cells #[.pointer (some ⟨st, 0, none⟩), .int .i64 l.length, .int .i64 1, .int .i64 0, .int .i64 1, .int .i64 1] 29)) := (Below.refl _ _).alloc (Nat.le_refl _) _
  have x3 : Box (w1.alloc (.cells #[.pointer (some ⟨st, 0, none⟩), .int .i64 l.length, .int .i64 1, .int .i64 0, .int .i64 1, .int .i64 1] 29)) w1.heap.size [.pointer (some ⟨st, 0, none⟩), .int .i64 l.length, .int .i64 (1 : Nat), .int .i64 (0 : Nat), .int .i64 (1 : Nat), .int .i64 (1 : Nat)] := Box.newA _ _ _ rfl
  replace x2 := x2.below hbB
  have hB2 := below_step hB1 hB1.size hbB
  have hlt := sto_lts hS
  have hS2 := hS.below hbB
  have hx := HX.out.1.size
  simp only [World.size_alloc] at k1 k2 hx
  unfold newV Vw.val
  dsimp only
  obtain ⟨p1, p2, p3⟩ := x2.facts
  have x2' := six_box (u := ⟨none, 0, 0, 0, 0, 0⟩) x2 (newV st l.length 1)
  have hB3 := six_below hB2 (Nat.le_refl _) (newV st l.length 1)
  have hS3 := Sto.bel hS2 (by omega) (by omega) (six_bel _ _ w.heap.size (newV st l.length 1))
  have HE := Lib.hid (show _ ∧ _ ∧ _ ∧ _ ∧ _ from ⟨x2', hB3, hS3, k1, k2⟩)
  clear hB1 x2 hbB x3 hB2 hS hlt hS2 hx x2' hB3 hS3 hb1 HX HO k1 k2
  go_wp2
  exact bodyPost_ret (results_one rfl (rv_cell (g := w.heap.size) rfl HE.out.1 rfl Try.underlying29 (by kernel_rfl))) rfl ⟨st, sb, rfl, by have := HE.out.2.2.2.1; omega, by have := HE.out.2.2.2.2; omega, HE.out.2.2.1, HE.out.2.1⟩
set_option maxHeartbeats 2000000 in
theorem two_any (w : World) (a : Option Addr) (l : List Nat) (cap : Nat) (hZ : Cel w a l) (hl : l.length = 4) :
    Calls Try.prog 58 #[.slice a l.length cap] w fun e w' => ∃ st sb, e = .returned (newV st 2 2).val ∧ w.heap.size ≤ st ∧ w.heap.size ≤ sb ∧ Sto w' (some ⟨st, 0, none⟩) sb l ∧ Below w.heap.size w w' := by
  have hbA : Below w.heap.size w (w.alloc (.cells #[.pointer none, .int .i64 0, .int .i64 0, .int .i64 0, .int .i64 0, .int .i64 0] 29)) := (Below.refl _ _).alloc (Nat.le_refl _) _
  have x2 := Box.newA w [.pointer none, .int .i64 0, .int .i64 0, .int .i64 0, .int .i64 0, .int .i64 0] 29 rfl
  have HO := Lib.hid (Of_yes 2 2 a l cap _ (by decide) (by decide) (by simpa using hl) (hZ.below hbA))
  have HX := Lib.hid (And.intro hbA x2)
  clear hZ hbA x2 hl
  go_enter Try.func58, Try.ntmps58
  go_wp2_with fail
  refine HO.out.mono ?_
  rintro e w1 ⟨st, sb, rfl, k1, k2, hS, hb1⟩
  have hB1 := below_step HX.out.1 HX.out.1.size hb1
  have x2 := HX.out.2.below hb1
  have hbB : Below w1.heap.size w1 (w1.alloc (.cells #[.pointer (some ⟨st, 0, none⟩), .int .i64 2, .int .i64 2, .int .i64 0, .int .i64 2, .int .i64 1] 29)) := (Below.refl _ _).alloc (Nat.le_refl _) _
  have x3 : Box (w1.alloc (.cells #[.pointer (some ⟨st, 0, none⟩), .int .i64 2, .int .i64 2, .int .i64 0, .int .i64 2, .int .i64 1] 29)) w1.heap.size [.pointer (some ⟨st, 0, none⟩), .int .i64 (2 : Nat), .int .i64 (2 : Nat), .int .i64 (0 : Nat), .int .i64 (2 : Nat), .int .i64 (1 : Nat)] := Box.newA _ _ _ rfl
  replace x2 := x2.below hbB
  have hB2 := below_step hB1 hB1.size hbB
  have hlt := sto_lts hS
  have hS2 := hS.below hbB
  have hx := HX.out.1.size
  simp only [World.size_alloc] at k1 k2 hx
  unfold newV Vw.val
  dsimp only
  obtain ⟨p1, p2, p3⟩ := x2.facts
  have x2' := six_box (u := ⟨none, 0, 0, 0, 0, 0⟩) x2 (newV st 2 2)
  have hB3 := six_below hB2 (Nat.le_refl _) (newV st 2 2)
  have hS3 := Sto.bel hS2 (by omega) (by omega) (six_bel _ _ w.heap.size (newV st 2 2))
  have HE := Lib.hid (show _ ∧ _ ∧ _ ∧ _ ∧ _ from ⟨x2', hB3, hS3, k1, k2⟩)
  clear hB1 x2 hbB x3 hB2 hS hlt hS2 hx x2' hB3 hS3 hb1 HX HO k1 k2
  go_wp2
  exact bodyPost_ret (results_one rfl (rv_cell (g := w.heap.size) rfl HE.out.1 rfl Try.underlying29 (by kernel_rfl))) rfl ⟨st, sb, rfl, by have := HE.out.2.2.2.1; omega, by have := HE.out.2.2.2.2; omega, HE.out.2.2.1, HE.out.2.1⟩
set_option maxHeartbeats 2000000 in
theorem big8_any (r c : Int) (a : Option Addr) (n cap : Nat) (w : World) (hn : n ≤ maxLen) : Calls Try.prog 15 #[.agg #[.int .i64 r, .int .i64 c, .slice a n cap]] w fun e w' => e = .returned (.bool (!mayM r c n || decide (150 < n))) ∧ Below w.heap.size w w' := by
  have hB0 : Below w.heap.size w (w.alloc (.cells #[.int .i64 r, .int .i64 c, .slice a n cap] 24)) := (Below.refl _ _).alloc (Nat.le_refl _) _
  have x0 := Box.newA w [.int .i64 r, .int .i64 c, .slice a n cap] 24 rfl
  have HM := Lib.hid (May07_any r c a n cap (w.alloc (.cells #[.int .i64 r, .int .i64 c, .slice a n cap] 24)) hn)
  have t1 : decide ((150 : Int) < (n : Int)) = decide (150 < n) := by rw [Bool.eq_iff_iff]; simp; omega
  generalize mayM r c n = q at *
  generalize decide (150 < n) = q2 at *
  have HX := Lib.hid (And.intro hB0 x0)
  clear hB0 x0 hn
  go_enter Try.func15, Try.ntmps15
  go_wp2_with fail
  refine HM.out.mono ?_
  rintro e w1 ⟨rfl, hb1⟩
  have x1 := HX.out.2.below hb1
  obtain ⟨p1, p2, p3⟩ := x1.facts
  have HB := Lib.hid (below_step HX.out.1 HX.out.1.size hb1)
  clear x1 hb1 HX HM
  dsimp only
  cases q
  · go_wp2_with fail
    go_ret
    exact ⟨rfl, HB.out⟩
  · go_wp2_with fail
    go_ret
    exact ⟨rfl, HB.out⟩
def vecM (r c : Int) : Bool := decide (r = 1) || decide (c = 1) || (decide (r = 0) && decide (c = 0))
set_option maxHeartbeats 2000000 in
theorem RVector_any (r c : Int) (a : Option Addr) (n cap : Nat) (w : World) : Calls Try.prog 21 #[.agg #[.int .i64 r, .int .i64 c, .slice a n cap]] w fun e w' => e = .returned (.bool (vecM r c)) ∧ Below w.heap.size w w' := by
  have hB0 : Below w.heap.size w (w.alloc (.cells #[.int .i64 r, .int .i64 c, .slice a n cap] 24)) := (Below.refl _ _).alloc (Nat.le_refl _) _
  have HX := Lib.hid hB0
  have t1 : (r == 1) = decide (r = 1) := by rw [Bool.eq_iff_iff]; simp
  have t2 : (c == 1) = decide (c = 1) := by rw [Bool.eq_iff_iff]; simp
  have t3 : (r == 0) = decide (r = 0) := by rw [Bool.eq_iff_iff]; simp
  have t4 : (c == 0) = decide (c = 0) := by rw [Bool.eq_iff_iff]; simp
  unfold vecM
  generalize decide (r = 1) = q1 at *
  generalize decide (c = 1) = q2 at *
  generalize decide (r = 0) = q3 at *
  generalize decide (c = 0) = q4 at *
  clear hB0
  cases q1 <;> cases q2 <;> cases q3
  all_goals
    go_enter Try.func21, Try.ntmps21
    go_wp2
    go_ret
    exact ⟨rfl, HX.out⟩
end Go.Proofs.Ytbcdpibcieadlaa
