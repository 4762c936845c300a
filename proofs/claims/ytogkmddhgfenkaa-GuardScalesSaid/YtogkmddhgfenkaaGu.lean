/- The guard laws: scales (printed by gen_gu.py). -/
import Derived.Test.YtogkmddhgfenkaaGs
namespace Go.Proofs.Ytogkmddhgfenkaa
open Go Go.RowKit
set_option maxRecDepth 1000000
set_option maxHeartbeats 4000000 in
theorem scales_big (w : World) (r c p : Int) (a : Option Addr) (zs : List Nat) (ac : Nat) (hl : zs.length ≤ maxLen) (h400 : 400 < zs.length) :
    Calls Try.prog 10 #[.agg #[.int .i64 r, .int .i64 c, .slice a zs.length ac], .int .i64 p] w fun e w' => e = .returned (.bool true) ∧ Below w.heap.size w w' := by
  have hln : zs.length ≤ 9223372036854775807 := by unfold maxLen at hl; omega
  have hB0 : Below w.heap.size w (w.alloc (.cells #[.int .i64 r, .int .i64 c, .slice a zs.length ac] 26)) := (Below.refl _ _).alloc (Nat.le_refl _) _
  have t0 : decide ((400 : Int) < (zs.length : Int)) = true := decide_eq_true (by omega)
  have t0' : decide (400 < zs.length) = true := decide_eq_true h400
  clear hl h400
  go_enter Try.func10, Try.ntmps10
  go_wp2_with fail
  refine (known05 _).mono ?_
  rintro e w1 ⟨rfl, hb1⟩
  go_wp2
  go_ret
  exact ⟨rfl, below_step hB0 hB0.size hb1⟩

set_option maxHeartbeats 4000000 in
theorem scales_two (w : World) (r c p : Int) (a : Option Addr) (zs : List Nat) (ac : Nat) (hZ : Cel w a zs) (hW : Words zs) (hn : zs.length ≤ 400) (hC : scaleC r c zs p = 2) (h0 : (2 : Int) ≠ 0) (hw : wrongC r c zs = 2) :
    Calls Try.prog 10 #[.agg #[.int .i64 r, .int .i64 c, .slice a zs.length ac], .int .i64 p] w fun e w' => e = .returned (.bool true) ∧ Below w.heap.size w w' := by
  have hB0 : Below w.heap.size w (w.alloc (.cells #[.int .i64 r, .int .i64 c, .slice a zs.length ac] 26)) := (Below.refl _ _).alloc (Nat.le_refl _) _
  have x0 : Box (w.alloc (.cells #[.int .i64 r, .int .i64 c, .slice a zs.length ac] 26)) w.heap.size [.int .i64 r, .int .i64 c, .slice a zs.length ac] := Box.newA w [_, _, _] _ rfl
  have t0 : decide ((400 : Int) < (zs.length : Int)) = false := decide_eq_false (by omega)
  have t0' : decide (400 < zs.length) = false := decide_eq_false (by omega)
  have HS := Lib.hid (fun W (hW' : Below w.heap.size w W) => hC ▸ Scale_any W r c p a zs ac (hZ.below hW') hW (by omega))
  have HR := Lib.hid (fun W (hW' : Below w.heap.size w W) => RWrong_any W r c a zs ac (hZ.below hW') hW (by unfold maxLen; omega))
  rw [hw] at HR
  clear hw
  clear hZ hW hn hC
  go_enter Try.func10, Try.ntmps10
  go_wp2_with fail
  refine (HS.out _ hB0).mono ?_
  intro e w1 hT
  obtain ⟨m', n', sa, sl, sc, rfl, _, g2, hb1⟩ := hT.use
  obtain ⟨rfl, rfl, rfl, rfl, rfl⟩ := g2 h0
  have x1 := x0.below hb1
  have hB1 := below_step hB0 hB0.size hb1
  have hA2 : Below w1.heap.size w1 (w1.alloc (.cells #[.int .i64 0, .int .i64 0, .slice none 0 0] 26)) := (Below.refl _ _).alloc (Nat.le_refl _) _
  have x2 := x1.below hA2
  have y2 : Box (w1.alloc (.cells #[.int .i64 0, .int .i64 0, .slice none 0 0] 26)) w1.heap.size [.int .i64 0, .int .i64 0, .slice none 0 0] := Box.newA _ [_, _, _] _ rfl
  have hB2 := below_step hB1 hB1.size hA2
  have hlt := x1.lt
  have hne : w.heap.size ≠ w1.heap.size := by omega
  obtain ⟨q1, q2, q3⟩ := x1.facts
  have tC : ((2 : Int) != 2) = false := bne_self_eq_false _
  have tz : ((2 : Int) != 0) = true := by simp [h0]
  clear hT HS t0 t0' x0 hB0 hb1 hB1 x1 hA2
  go_wp2_with fail
  refine (HR.out _ hB2).mono ?_
  rintro e w2 ⟨rfl, hb2⟩
  have y3 := y2.below hb2
  have hB3 := below_step hB2 hB2.size hb2
  obtain ⟨q4, q5, q6⟩ := y3.facts
  clear q1 q2 q3 x2 y2 hb2 hB2
  go_wp2_with fail
  refine (none05_any _).mono ?_
  rintro e w3 ⟨rfl, hb3⟩
  have hB4 := below_step hB3 hB3.size hb3
  clear q4 q5 q6 y3 hb3 hB3
  go_wp2_with fail
  refine (known05 _).mono ?_
  rintro e w4 ⟨rfl, hb4⟩
  go_wp2
  go_ret
  exact ⟨rfl, below_step hB4 hB4.size hb4⟩

set_option maxHeartbeats 4000000 in
theorem scales_lo (w : World) (r c p : Int) (a : Option Addr) (zs : List Nat) (ac : Nat) (hZ : Cel w a zs) (hW : Words zs) (hn : zs.length ≤ 400) (hC : scaleC r c zs p = 2) (h0 : (2 : Int) ≠ 0) (hw : wrongC r c zs ≠ 2) (hp : p < -2000) :
    Calls Try.prog 10 #[.agg #[.int .i64 r, .int .i64 c, .slice a zs.length ac], .int .i64 p] w fun e w' => e = .returned (.bool true) ∧ Below w.heap.size w w' := by
  have hB0 : Below w.heap.size w (w.alloc (.cells #[.int .i64 r, .int .i64 c, .slice a zs.length ac] 26)) := (Below.refl _ _).alloc (Nat.le_refl _) _
  have x0 : Box (w.alloc (.cells #[.int .i64 r, .int .i64 c, .slice a zs.length ac] 26)) w.heap.size [.int .i64 r, .int .i64 c, .slice a zs.length ac] := Box.newA w [_, _, _] _ rfl
  have t0 : decide ((400 : Int) < (zs.length : Int)) = false := decide_eq_false (by omega)
  have t0' : decide (400 < zs.length) = false := decide_eq_false (by omega)
  have HS := Lib.hid (fun W (hW' : Below w.heap.size w W) => hC ▸ Scale_any W r c p a zs ac (hZ.below hW') hW (by omega))
  have HR := Lib.hid (fun W (hW' : Below w.heap.size w W) => RWrong_any W r c a zs ac (hZ.below hW') hW (by unfold maxLen; omega))
  have t1 : (wrongC r c zs != 2) = true := by simp [hw]
  have t2 := decide_eq_true hp
  generalize wrongC r c zs = wc at *
  clear hw hp
  clear hZ hW hn hC
  go_enter Try.func10, Try.ntmps10
  go_wp2_with fail
  refine (HS.out _ hB0).mono ?_
  intro e w1 hT
  obtain ⟨m', n', sa, sl, sc, rfl, _, g2, hb1⟩ := hT.use
  obtain ⟨rfl, rfl, rfl, rfl, rfl⟩ := g2 h0
  have x1 := x0.below hb1
  have hB1 := below_step hB0 hB0.size hb1
  have hA2 : Below w1.heap.size w1 (w1.alloc (.cells #[.int .i64 0, .int .i64 0, .slice none 0 0] 26)) := (Below.refl _ _).alloc (Nat.le_refl _) _
  have x2 := x1.below hA2
  have y2 : Box (w1.alloc (.cells #[.int .i64 0, .int .i64 0, .slice none 0 0] 26)) w1.heap.size [.int .i64 0, .int .i64 0, .slice none 0 0] := Box.newA _ [_, _, _] _ rfl
  have hB2 := below_step hB1 hB1.size hA2
  have hlt := x1.lt
  have hne : w.heap.size ≠ w1.heap.size := by omega
  obtain ⟨q1, q2, q3⟩ := x1.facts
  have tC : ((2 : Int) != 2) = false := bne_self_eq_false _
  have tz : ((2 : Int) != 0) = true := by simp [h0]
  clear hT HS t0 t0' x0 hB0 hb1 hB1 x1 hA2
  go_wp2_with fail
  refine (HR.out _ hB2).mono ?_
  rintro e w2 ⟨rfl, hb2⟩
  have y3 := y2.below hb2
  have hB3 := below_step hB2 hB2.size hb2
  obtain ⟨q4, q5, q6⟩ := y3.facts
  clear q1 q2 q3 x2 y2 hb2 hB2
  go_wp2_with fail
  refine (none05_any _).mono ?_
  rintro e w3 ⟨rfl, hb3⟩
  have hB4 := below_step hB3 hB3.size hb3
  clear q4 q5 q6 y3 hb3 hB3
  go_wp2_with fail
  refine (known05 _).mono ?_
  rintro e w4 ⟨rfl, hb4⟩
  go_wp2
  go_ret
  exact ⟨rfl, below_step hB4 hB4.size hb4⟩

set_option maxHeartbeats 4000000 in
theorem scales_hi (w : World) (r c p : Int) (a : Option Addr) (zs : List Nat) (ac : Nat) (hZ : Cel w a zs) (hW : Words zs) (hn : zs.length ≤ 400) (hC : scaleC r c zs p = 2) (h0 : (2 : Int) ≠ 0) (hw : wrongC r c zs ≠ 2) (hp : ¬ p < -2000) (hp2 : 2000 < p) :
    Calls Try.prog 10 #[.agg #[.int .i64 r, .int .i64 c, .slice a zs.length ac], .int .i64 p] w fun e w' => e = .returned (.bool true) ∧ Below w.heap.size w w' := by
  have hB0 : Below w.heap.size w (w.alloc (.cells #[.int .i64 r, .int .i64 c, .slice a zs.length ac] 26)) := (Below.refl _ _).alloc (Nat.le_refl _) _
  have x0 : Box (w.alloc (.cells #[.int .i64 r, .int .i64 c, .slice a zs.length ac] 26)) w.heap.size [.int .i64 r, .int .i64 c, .slice a zs.length ac] := Box.newA w [_, _, _] _ rfl
  have t0 : decide ((400 : Int) < (zs.length : Int)) = false := decide_eq_false (by omega)
  have t0' : decide (400 < zs.length) = false := decide_eq_false (by omega)
  have HS := Lib.hid (fun W (hW' : Below w.heap.size w W) => hC ▸ Scale_any W r c p a zs ac (hZ.below hW') hW (by omega))
  have HR := Lib.hid (fun W (hW' : Below w.heap.size w W) => RWrong_any W r c a zs ac (hZ.below hW') hW (by unfold maxLen; omega))
  have t1 : (wrongC r c zs != 2) = true := by simp [hw]
  have t2 := decide_eq_false hp
  have t3 := decide_eq_true hp2
  generalize wrongC r c zs = wc at *
  clear hw hp hp2
  clear hZ hW hn hC
  go_enter Try.func10, Try.ntmps10
  go_wp2_with fail
  refine (HS.out _ hB0).mono ?_
  intro e w1 hT
  obtain ⟨m', n', sa, sl, sc, rfl, _, g2, hb1⟩ := hT.use
  obtain ⟨rfl, rfl, rfl, rfl, rfl⟩ := g2 h0
  have x1 := x0.below hb1
  have hB1 := below_step hB0 hB0.size hb1
  have hA2 : Below w1.heap.size w1 (w1.alloc (.cells #[.int .i64 0, .int .i64 0, .slice none 0 0] 26)) := (Below.refl _ _).alloc (Nat.le_refl _) _
  have x2 := x1.below hA2
  have y2 : Box (w1.alloc (.cells #[.int .i64 0, .int .i64 0, .slice none 0 0] 26)) w1.heap.size [.int .i64 0, .int .i64 0, .slice none 0 0] := Box.newA _ [_, _, _] _ rfl
  have hB2 := below_step hB1 hB1.size hA2
  have hlt := x1.lt
  have hne : w.heap.size ≠ w1.heap.size := by omega
  obtain ⟨q1, q2, q3⟩ := x1.facts
  have tC : ((2 : Int) != 2) = false := bne_self_eq_false _
  have tz : ((2 : Int) != 0) = true := by simp [h0]
  clear hT HS t0 t0' x0 hB0 hb1 hB1 x1 hA2
  go_wp2_with fail
  refine (HR.out _ hB2).mono ?_
  rintro e w2 ⟨rfl, hb2⟩
  have y3 := y2.below hb2
  have hB3 := below_step hB2 hB2.size hb2
  obtain ⟨q4, q5, q6⟩ := y3.facts
  clear q1 q2 q3 x2 y2 hb2 hB2
  go_wp2_with fail
  refine (none05_any _).mono ?_
  rintro e w3 ⟨rfl, hb3⟩
  have hB4 := below_step hB3 hB3.size hb3
  clear q4 q5 q6 y3 hb3 hB3
  go_wp2_with fail
  refine (known05 _).mono ?_
  rintro e w4 ⟨rfl, hb4⟩
  go_wp2
  go_ret
  exact ⟨rfl, below_step hB4 hB4.size hb4⟩

set_option maxHeartbeats 4000000 in
theorem scales_wr (w : World) (r c p wc : Int) (a : Option Addr) (zs : List Nat) (ac : Nat) (hZ : Cel w a zs) (hW : Words zs) (hn : zs.length ≤ 400) (hC : scaleC r c zs p = wc) (h0 : wc ≠ 0) (hw : wrongC r c zs = wc) (hw2 : wc ≠ 2) (hp : ¬ p < -2000) (hp2 : ¬ 2000 < p) :
    Calls Try.prog 10 #[.agg #[.int .i64 r, .int .i64 c, .slice a zs.length ac], .int .i64 p] w fun e w' => e = .returned (.bool true) ∧ Below w.heap.size w w' := by
  have hB0 : Below w.heap.size w (w.alloc (.cells #[.int .i64 r, .int .i64 c, .slice a zs.length ac] 26)) := (Below.refl _ _).alloc (Nat.le_refl _) _
  have x0 : Box (w.alloc (.cells #[.int .i64 r, .int .i64 c, .slice a zs.length ac] 26)) w.heap.size [.int .i64 r, .int .i64 c, .slice a zs.length ac] := Box.newA w [_, _, _] _ rfl
  have t0 : decide ((400 : Int) < (zs.length : Int)) = false := decide_eq_false (by omega)
  have t0' : decide (400 < zs.length) = false := decide_eq_false (by omega)
  have HS := Lib.hid (fun W (hW' : Below w.heap.size w W) => hC ▸ Scale_any W r c p a zs ac (hZ.below hW') hW (by omega))
  have HR := Lib.hid (fun W (hW' : Below w.heap.size w W) => RWrong_any W r c a zs ac (hZ.below hW') hW (by unfold maxLen; omega))
  rw [hw] at HR
  have t1 : (wc != 2) = true := by simp [hw2]
  have t2 := decide_eq_false hp
  have t3 := decide_eq_false hp2
  clear hw hw2 hp hp2
  clear hZ hW hn hC
  go_enter Try.func10, Try.ntmps10
  go_wp2_with fail
  refine (HS.out _ hB0).mono ?_
  intro e w1 hT
  obtain ⟨m', n', sa, sl, sc, rfl, _, g2, hb1⟩ := hT.use
  obtain ⟨rfl, rfl, rfl, rfl, rfl⟩ := g2 h0
  have x1 := x0.below hb1
  have hB1 := below_step hB0 hB0.size hb1
  have hA2 : Below w1.heap.size w1 (w1.alloc (.cells #[.int .i64 0, .int .i64 0, .slice none 0 0] 26)) := (Below.refl _ _).alloc (Nat.le_refl _) _
  have x2 := x1.below hA2
  have y2 : Box (w1.alloc (.cells #[.int .i64 0, .int .i64 0, .slice none 0 0] 26)) w1.heap.size [.int .i64 0, .int .i64 0, .slice none 0 0] := Box.newA _ [_, _, _] _ rfl
  have hB2 := below_step hB1 hB1.size hA2
  have hlt := x1.lt
  have hne : w.heap.size ≠ w1.heap.size := by omega
  obtain ⟨q1, q2, q3⟩ := x1.facts
  have tC : (wc != wc) = false := bne_self_eq_false _
  have tz : (wc != 0) = true := by simp [h0]
  clear hT HS t0 t0' x0 hB0 hb1 hB1 x1 hA2
  go_wp2_with fail
  refine (HR.out _ hB2).mono ?_
  rintro e w2 ⟨rfl, hb2⟩
  have y3 := y2.below hb2
  have hB3 := below_step hB2 hB2.size hb2
  obtain ⟨q4, q5, q6⟩ := y3.facts
  clear q1 q2 q3 x2 y2 hb2 hB2
  go_wp2_with fail
  refine (none05_any _).mono ?_
  rintro e w3 ⟨rfl, hb3⟩
  have hB4 := below_step hB3 hB3.size hb3
  clear q4 q5 q6 y3 hb3 hB3
  go_wp2_with fail
  refine (known05 _).mono ?_
  rintro e w4 ⟨rfl, hb4⟩
  go_wp2
  go_ret
  exact ⟨rfl, below_step hB4 hB4.size hb4⟩

set_option maxHeartbeats 16000000 in
theorem scales_in (w : World) (r c p : Int) (a : Option Addr) (zs : List Nat) (ac : Nat) (hZ : Cel w a zs) (hW : Words zs) (hn : zs.length ≤ 400) (hC : scaleC r c zs p = 0) (hw : wrongC r c zs = 0) (hp : ¬ p < -2000) (hp2 : ¬ 2000 < p) :
    Calls Try.prog 10 #[.agg #[.int .i64 r, .int .i64 c, .slice a zs.length ac], .int .i64 p] w fun e w' => e = .returned (.bool true) ∧ Below w.heap.size w w' := by
  have hB0 : Below w.heap.size w (w.alloc (.cells #[.int .i64 r, .int .i64 c, .slice a zs.length ac] 26)) := (Below.refl _ _).alloc (Nat.le_refl _) _
  have x0 : Box (w.alloc (.cells #[.int .i64 r, .int .i64 c, .slice a zs.length ac] 26)) w.heap.size [.int .i64 r, .int .i64 c, .slice a zs.length ac] := Box.newA w [_, _, _] _ rfl
  have t0 : decide ((400 : Int) < (zs.length : Int)) = false := decide_eq_false (by omega)
  have t0' : decide (400 < zs.length) = false := decide_eq_false (by omega)
  have t2 := decide_eq_false hp
  have t3 := decide_eq_false hp2
  have tr : (r != r) = false := bne_self_eq_false _
  have tc : (c != c) = false := bne_self_eq_false _
  have tl : ((zs.length : Int) != (zs.length : Int)) = false := bne_self_eq_false _
  have HS := Lib.hid (fun W (hW' : Below w.heap.size w W) => hC ▸ Scale_any W r c p a zs ac (hZ.below hW') hW (by omega))
  have HR := Lib.hid (fun W (hW' : Below w.heap.size w W) => hw ▸ RWrong_any W r c a zs ac (hZ.below hW') hW (by unfold maxLen; omega))
  have HZ := Lib.hid hZ
  have HWd := Lib.hid hW
  have HC0 := Lib.hid hw
  have hkn : zs.length ≤ 400 := hn
  clear hZ hW hn hC hp hp2 hw
  go_enter Try.func10, Try.ntmps10
  go_wp2_with fail
  refine (HS.out _ hB0).mono ?_
  intro e w1 hT
  obtain ⟨m', n', sa, sl, sc, rfl, g1, _, hb1⟩ := hT.use
  obtain ⟨rfl, rfl, hsl, hD1⟩ := g1 rfl
  rw [scaleL_len] at hsl
  subst hsl
  have x1 := x0.below hb1
  have hB1 := below_step hB0 hB0.size hb1
  have hA2 : Below w1.heap.size w1 (w1.alloc (.cells #[.int .i64 m', .int .i64 n', .slice sa zs.length sc] 26)) := (Below.refl _ _).alloc (Nat.le_refl _) _
  have x2 := x1.below hA2
  have y2 : Box (w1.alloc (.cells #[.int .i64 m', .int .i64 n', .slice sa zs.length sc] 26)) w1.heap.size [.int .i64 m', .int .i64 n', .slice sa zs.length sc] := Box.newA _ [_, _, _] _ rfl
  have hB2 := below_step hB1 hB1.size hA2
  have hD2 := hD1.below hA2
  have hlt := x1.lt
  have hne : w.heap.size ≠ w1.heap.size := by omega
  obtain ⟨q1, q2, q3⟩ := x1.facts
  clear hT HS t0 t0' x0 hB0 hb1 hB1 x1 hA2 hD1 g1
  go_wp2_with fail
  refine (HR.out _ hB2).mono ?_
  rintro e w2 ⟨rfl, hb2⟩
  have x3 := x2.below hb2
  have y3 := y2.below hb2
  have hD3 := hD2.below hb2
  have hB3 := below_step hB2 hB2.size hb2
  obtain ⟨q4, q5, q6⟩ := y3.facts
  have hlt2 := y2.lt
  clear q1 q2 q3 x2 y2 hb2 hB2 hD2 HR
  obtain ⟨q1, q2, q3⟩ := x3.facts
  go_wp2
  clear q1 q2 q3 q4 q5 q6 tr tc tl t2 t3
  have HX := Lib.hid (show _ ∧ _ ∧ _ ∧ _ from ⟨x3, y3, hD3, hB3⟩)
  clear x3 y3 hD3 hB3
  obtain ⟨wo, rfl⟩ : ∃ wo : World, wo = w2 := ⟨_, rfl⟩
  go_loopw [8, 9] (fun s8 s9 wr => ∃ (k : Nat) (b : Bool), k ≤ zs.length ∧ s9 = .int .i64 k ∧ s8 = .bool b ∧ (b = true → ∀ j, j < k → inrB (zs.getD j 0) = true) ∧ Below wo.heap.size wo wr) (fun _ s9 _ => zs.length - (intOf s9).toNat)
  case atStart => exact ⟨0, true, Nat.zero_le _, rfl, rfl, fun _ _ h => absurd h (Nat.not_lt_zero _), Below.refl _ _⟩
  case round =>
    obtain ⟨k, b, hk, rfl, rfl, hin, hB⟩ := hrel
    have HIn := Lib.hid hin
    clear hin
    obtain ⟨x3, y3, hD3, hB3⟩ := HX.out
    have x4 := x3.below hB
    have y4 := y3.below hB
    have hD4 := hD3.below hB
    have hB4 := below_step hB3 hB3.size hB
    have hZ4 := HZ.out.below hB4
    clear x3 y3 hD3 hB3
    obtain ⟨q1, q2, q3⟩ := x4.facts
    by_cases hlt3 : k < zs.length
    · obtain ⟨ba, oa, rfl, hba, c1⟩ := hZ4.at hlt3
      obtain ⟨bs, os, rfl, hbs, c2⟩ := hD4.at (i := k) (by rw [scaleL_len]; exact hlt3)
      rw [scaleL_get _ _ hlt3] at c2
      have hv := HWd.out.at k
      have HT := Lib.hid (fun W => RTimes_any (zs.getD k 0) p hv W)
      have HSm := Lib.hid (fun W => sameF_refl (timesW (zs.getD k 0) p) ▸ Same06_any (timesW (zs.getD k 0) p) (timesW (zs.getD k 0) p) W)
      have HRI := Lib.hid (fun W => rinr_any (zs.getD k 0) hv W)
      have HI0 : Hid (∀ j, j < k + 1 → j ≠ k → j < k) := fun j h1 h2 => by omega
      generalize hx : zs.getD k 0 = x at *
      have HXk := Lib.hid hx
      clear hx
      generalize timesW x p = tx at *
      obtain ⟨q4, q5, q6⟩ := y4.facts
      have i1 : (0 : Int) ≤ (k : Int) := by omega
      have i2 : (k : Int) < (zs.length : Int) := by omega
      have hkl : k + 1 ≤ 400 := by omega
      have HY := Lib.hid (show _ ∧ _ ∧ _ from ⟨x4, y4, c1⟩)
      clear x4 y4 hD4 hZ4 hv
      go_wp2
      refine wp_region_nqd 14  (by kernel_rfl) (by kernel_rfl) ?_
      intro Cw Rw hc hb' hb2 hd hRw
      simp only [List.take_succ_cons, List.take_zero]
      repeat (
        first
          | (refine nqW_skip rfl (fun K hK => ?_); go_frame; refine hK _ ?_; clear hK K)
          | ((first | (refine nqW_plain (fun K hK => ?_)) | (refine nqW_want rfl (fun K hK => ?_)) | (refine nqW_step (fun K hK => ?_); go_simp))
             first
               | (refine nq_move rfl ?_; go_simp; refine hK _ ?_; clear hK K)
               | (refine nq_assign rfl ?_; go_simp; refine hK _ ?_; clear hK K)
               | (refine nq_flt rfl rfl rfl rfl hd ?_; intro _; go_frame; refine hK _ ?_; clear hK K)
               | (refine nq_inC rfl ?_; intro w' hw'; go_simp; refine fd_both (V := (.float .f64 tx)) (by kernel_rfl) (fun w2 hw2 => ?_) ?_; (next => (go_at_call 31; exact (HT.out w2).mono (fun e w3 ⟨he, hb⟩ => ⟨he, hb2 _ _ hw2 hb⟩))); (try go_simp); refine hK _ ?_; clear hK K hw' w')
               | (refine nq_inC rfl ?_; intro w' hw'; go_simp; refine fd_both (V := (.bool true)) (by kernel_rfl) (fun w2 hw2 => ?_) ?_; (next => (go_at_call 29; exact (((HSm.out w2).mono fun e w' (⟨h1, h2⟩ : e = Ending.returned (.bool true) ∧ w2 = w') => (⟨h1, h2 ▸ Below.refl _ _⟩ : e = Ending.returned (.bool true) ∧ Below w2.heap.size w2 w'))).mono (fun e w3 ⟨he, hb⟩ => ⟨he, hb2 _ _ hw2 hb⟩))); (try go_simp); refine hK _ ?_; clear hK K hw' w')
               | (refine nq_same ?_; intro w' hw'; go_simp; (try go_bits); refine hK _ ?_; clear hK K hw' w')
               | (refine nq_same ?_; intro w' hw'; go_simp; rw [if_pos (by omega)]; go_simp; (try go_bits); refine hK _ ?_; clear hK K hw' w')
               | (go_simp; refine hK _ ?_; clear hK K)))
      refine nqW_nil (hRw _ ?_)
      clear hc hb' hb2 hd hRw
      intro w' hw'
      simp only [List.drop]
      clear q1 q2 q3 q4 q5 q6 c1 c2
      obtain ⟨x4, y4, c1⟩ := HY.out
      have x5 := x4.below hw'
      have c5 := ((below_cells hw').1 _ (oa + k) hba).trans c1
      have hba5 : ba < w'.heap.size := Nat.lt_of_lt_of_le hba hw'.size
      obtain ⟨q1, q2, q3⟩ := x5.facts
      clear x4 y4 c1
      have hB5 := below_step hB hB.size hw'
      cases b
      · go_wp2
        go_roundw
        case rel => exact ⟨k + 1, false, hlt3, by go_num, rfl, fun h => absurd h (by decide), hB5⟩
        case measure => simp [intOf]; omega
      · go_wp2_with fail
        refine (word05_any _ _).mono ?_
        rintro e w' ⟨rfl, rfl⟩
        go_wp2_with fail
        refine (HRI.out _).mono ?_
        rintro e w' ⟨rfl, rfl⟩
        go_wp2
        go_roundw
        case rel => exact ⟨k + 1, inrB x, hlt3, by go_num, rfl, fun h j hj => (by
          by_cases e : j = k
          · subst e; rw [HXk.out]; exact h
          · exact HIn.out (by first | rfl | trivial) j (HI0.out j hj e)), hB5⟩
        case measure => simp [intOf]; omega
    · obtain rfl : k = zs.length := by omega
      clear hk hlt3 HX
      cases b
      · clear q1 q2 q3
        obtain ⟨q1, q2, q3⟩ := x4.facts
        go_wp2_with fail
        refine (known05 _).mono ?_
        rintro e w4 ⟨rfl, hb4⟩
        go_wp2
        go_ret
        exact ⟨rfl, below_step hB4 hB4.size hb4⟩
      · have hin := HIn.out (by first | rfl | trivial)
        have hpr := pow_range hin
        have HP := Lib.hid (Power_any wr m' n' a zs ac hZ4 HWd.out (by omega))
        rw [HC0.out, if_pos rfl] at HP
        have hback := scale_back HWd.out hin
        have HOne : Hid (∀ j, j < zs.length → fle 4607182418800017408 (timesW (zs.getD j 0) (-(powR (mostF zs zs.length)))) = false ∧ fle (timesW (zs.getD j 0) (-(powR (mostF zs zs.length)))) 13830554455654793216 = false) := fun j hj => (one_back (HWd.out.at j) (hin j hj) (hpr.2 j hj)).2.2
        have hfin2 : (scaleL zs (-(powR (mostF zs zs.length)))).all ffin = true := by
          refine all_of fun j hj => ?_
          rw [scaleL_len] at hj
          rw [scaleL_get _ _ hj]
          exact (one_back (HWd.out.at j) (hin j hj) (hpr.2 j hj)).1
        have hfin1 := wrong_fin HC0.out
        have z1 := scale_zero (p := -(powR (mostF zs zs.length))) HC0.out rfl hfin1 (by omega) (by omega)
        have z2 := scale_zero (p := powR (mostF zs zs.length)) HC0.out (scaleL_len _ _) hfin2 (by omega) (by omega)
        generalize powR (mostF zs zs.length) = q at *
        have HS1 := Lib.hid (fun W (hW' : Below wr.heap.size wr W) => z1 ▸ Scale_any W m' n' (-q) a zs ac (hZ4.below hW') HWd.out (by omega))
        have HS2 := Lib.hid (fun W sb cb (hc : Cel W sb (scaleL zs (-q))) => z2 ▸ Scale_any W m' n' q sb (scaleL zs (-q)) cb hc (scaleL_words HWd.out _) (by rw [scaleL_len]; omega))
        have HBk := Lib.hid hback
        have hqb1 : -2000 ≤ q := hpr.1.1
        have hqb2 : q ≤ 2000 := hpr.1.2
        clear hin hpr hback hfin2 hfin1 z1 z2 HIn HWd HC0 hD4 y4 HZ
        have HZ4 := Lib.hid hZ4
        clear hZ4
        go_wp2_with fail
        refine HP.out.mono ?_
        rintro e w5 ⟨rfl, hb5⟩
        have x5 := x4.below hb5
        have hB5 := below_step hB4 hB4.size hb5
        clear q1 q2 q3 x4 hB4 hB HP
        obtain ⟨q1, q2, q3⟩ := x5.facts
        go_wp2_with fail
        refine (HS1.out _ hb5).mono ?_
        intro e w6 hT
        obtain ⟨m6, n6, sb, sl6, sc6, rfl, g1, _, hb6⟩ := hT.use
        obtain ⟨rfl, rfl, hsl, hD6⟩ := g1 rfl
        rw [scaleL_len] at hsl
        subst hsl
        have x6 := x5.below hb6
        have hB6 := below_step hB5 hB5.size hb6
        have hbr6 := below_step hb5 hb5.size hb6
        clear q1 q2 q3 x5 hB5 hb5 hb6 hT g1 HS1
        have hA7 : Below w6.heap.size w6 (w6.alloc (.cells #[.int .i64 m6, .int .i64 n6, .slice sb zs.length sc6] 26)) := (Below.refl _ _).alloc (Nat.le_refl _) _
        have u7 : Box (w6.alloc (.cells #[.int .i64 m6, .int .i64 n6, .slice sb zs.length sc6] 26)) w6.heap.size [.int .i64 m6, .int .i64 n6, .slice sb zs.length sc6] := Box.newA _ [_, _, _] _ rfl
        have x7 := x6.below hA7
        have hB7 := below_step hB6 hB6.size hA7
        have hbr7 := below_step hbr6 hbr6.size hA7
        have hD7 := hD6.below hA7
        have hl6 := x6.lt
        have HS2' := HS2.out _ sb sc6 hD7
        rw [scaleL_len] at HS2'
        have HS3 := Lib.hid HS2'
        clear HS2 HS2' x6 hB6 hbr6 hD6 hA7
        go_wp2_with fail
        refine HS3.out.mono ?_
        intro e w8 hT
        rw [HBk.out] at hT
        obtain ⟨m8, n8, sd, sl8, sc8, rfl, g1, _, hb8⟩ := hT.use
        obtain ⟨rfl, rfl, hsl, hD8⟩ := g1 rfl
        subst hsl
        have x8 := x7.below hb8
        have u8 := u7.below hb8
        have hB8 := below_step hB7 hB7.size hb8
        have hbr8 := below_step hbr7 hbr7.size hb8
        have hE8 := hD7.below hb8
        have hl8 := u7.lt
        clear x7 u7 hB7 hbr7 hD7 hT g1 HS3 hb8
        have hA9 : Below w8.heap.size w8 (w8.alloc (.cells #[.int .i64 m8, .int .i64 n8, .slice sd zs.length sc8] 26)) := (Below.refl _ _).alloc (Nat.le_refl _) _
        have v9 : Box (w8.alloc (.cells #[.int .i64 m8, .int .i64 n8, .slice sd zs.length sc8] 26)) w8.heap.size [.int .i64 m8, .int .i64 n8, .slice sd zs.length sc8] := Box.newA _ [_, _, _] _ rfl
        have x9 := x8.below hA9
        have u9 := u8.below hA9
        have hB9 := below_step hB8 hB8.size hA9
        have hbr9 := below_step hbr8 hbr8.size hA9
        have hE9 := hE8.below hA9
        have hD9 := hD8.below hA9
        have tl : ((zs.length : Int) != (zs.length : Int)) = false := bne_self_eq_false _
        have hlx := x8.lt
        have hlu := u8.lt
        obtain ⟨q1, q2, q3⟩ := x8.facts
        obtain ⟨q4, q5, q6⟩ := u8.facts
        have hne1 : w.heap.size ≠ w8.heap.size := by omega
        have hne2 : w6.heap.size ≠ w8.heap.size := by omega
        have HV := Lib.hid (show _ ∧ _ ∧ _ ∧ _ ∧ _ ∧ _ ∧ _ from ⟨v9, x9, u9, hB9, hbr9, hE9, hD9⟩)
        clear x8 u8 hB8 hbr8 hE8 hD8 hA9 v9 x9 u9 hB9 hbr9 hE9 hD9
        go_wp2
        clear q1 q2 q3 q4 q5 q6 tl hne1 hne2
        generalize w8.alloc (.cells #[.int .i64 m8, .int .i64 n8, .slice sd zs.length sc8] 26) = W9 at *
        go_loopw [15] (fun s wr2 => ∃ k : Nat, k ≤ zs.length ∧ s = .int .i64 k ∧ Below W9.heap.size W9 wr2) (fun s _ => zs.length - (intOf s).toNat)
        case atStart => exact ⟨0, Nat.zero_le _, rfl, Below.refl _ _⟩
        case round =>
          obtain ⟨k, hk, rfl, hB⟩ := hrel
          obtain ⟨v9, x9, u9, hB9, hbr9, hE9, hD9⟩ := HV.out
          have u10 := u9.below hB
          obtain ⟨q4, q5, q6⟩ := u10.facts
          by_cases hlt4 : k < zs.length
          · obtain ⟨bs, os, rfl, hbs, c2⟩ := (hE9.below hB).at (i := k) (by rw [scaleL_len]; exact hlt4)
            rw [scaleL_get _ _ hlt4] at c2
            obtain ⟨f1, f2⟩ := HOne.out k hlt4
            generalize timesW (zs.getD k 0) (-q) = y at *
            have hkl : k + 1 ≤ 400 := by omega
            clear v9 x9 u9 hB9 hbr9 hE9 hD9 u10
            go_wp2
            go_roundw
            case rel => exact ⟨k + 1, hlt4, by go_num, hB⟩
            case measure => simp [intOf]; omega
          · obtain rfl : k = zs.length := by omega
            have v10 := v9.below hB
            have x10 := x9.below hB
            obtain ⟨q1, q2, q3⟩ := x10.facts
            obtain ⟨q7, q8, q9⟩ := v10.facts
            have hB10 := below_step hB9 hB9.size hB
            have HSA := Lib.hid (SameAll_self wr sd a zs sc8 ac (hD9.below hB) ((HZ4.out.below hbr9).below hB) (by omega))
            clear v9 x9 u9 hB9 hbr9 hE9 hD9 u10 v10 x10
            go_wp2_with fail
            refine HSA.out.mono ?_
            rintro e w11 ⟨rfl, hb11⟩
            have hB11 := below_step hB10 hB10.size hb11
            clear q1 q2 q3 q4 q5 q6 q7 q8 q9
            go_wp2_with fail
            refine (known05 _).mono ?_
            rintro e w12 ⟨rfl, hb12⟩
            go_wp2
            go_ret
            exact ⟨rfl, below_step hB11 hB11.size hb12⟩
theorem scales_any (w : World) (r c p : Int) (a : Option Addr) (zs : List Nat) (ac : Nat) (hZ : Cel w a zs) (hW : Words zs) (hl : zs.length ≤ maxLen) :
    Calls Try.prog 10 #[.agg #[.int .i64 r, .int .i64 c, .slice a zs.length ac], .int .i64 p] w fun e w' => e = .returned (.bool true) ∧ Below w.heap.size w w' := by
  by_cases h400 : 400 < zs.length
  · exact scales_big w r c p a zs ac hl h400
  · have hv := scale_val r c zs p
    by_cases h2 : wrongC r c zs = 2
    · rw [if_neg (fun h => h.1 h2), h2] at hv
      exact scales_two w r c p a zs ac hZ hW (by omega) hv.symm (by decide) h2
    · by_cases hp : p < -2000
      · rw [if_pos ⟨h2, .inl hp⟩] at hv
        exact scales_lo w r c p a zs ac hZ hW (by omega) hv.symm (by decide) h2 hp
      · by_cases hp2 : 2000 < p
        · rw [if_pos ⟨h2, .inr hp2⟩] at hv
          exact scales_hi w r c p a zs ac hZ hW (by omega) hv.symm (by decide) h2 hp hp2
        · rw [if_neg (fun h => h.2.elim hp hp2)] at hv
          by_cases h0 : wrongC r c zs = 0
          · exact scales_in w r c p a zs ac hZ hW (by omega) (by rw [← hv, h0]) h0 hp hp2
          · exact scales_wr w r c p _ a zs ac hZ hW (by omega) hv.symm h0 rfl h2 hp hp2
theorem scales_row (w : World) (r c : Int) (a : Option Addr) (zs : List Nat) (ac : Nat) (p : Int) (hZ : Cel w a zs) (hW : Words zs) (hl : zs.length ≤ maxLen) :
    Calls Try.prog 10 #[.agg #[.int .i64 r, .int .i64 c, .slice a zs.length ac], .int .i64 p] w fun e w' => e = .returned (.bool true) ∧ Below w.heap.size w w' := scales_any w r c p a zs ac hZ hW hl
end Go.Proofs.Ytogkmddhgfenkaa
