/- The guard law's own rows hold. -/
import Derived.Test.YtogkmddhgfenkaaGl
namespace Go.Proofs.Ytogkmddhgfenkaa
open Go Go.RowKit
set_option maxRecDepth 100000
theorem gk1 : takeC 1 1 [4609434218613702656] (okAll (1 : Int).toNat (1 : Int).toNat (okSq [4609434218613702656] (1 : Int).toNat)) = 0 := by kernel_rfl
theorem gk2 : takeC 2 2 [0, 4611686018427387904, 0, 0] (okAll (2 : Int).toNat (2 : Int).toNat (okSq [0, 4611686018427387904, 0, 0] (2 : Int).toNat)) = 1 := by kernel_rfl
theorem gk3 : takeC 1 1 [9221120237041090561] (okAll (1 : Int).toNat (1 : Int).toNat (okSq [9221120237041090561] (1 : Int).toNat)) = 1 := by kernel_rfl
theorem gk4 : takeC 1 1 [6413125869375586304] (okAll (1 : Int).toNat (1 : Int).toNat (okSq [6413125869375586304] (1 : Int).toNat)) = 2 := by kernel_rfl
theorem gk5 : takeC 1 1 [2801238968224448512] (okAll (1 : Int).toNat (1 : Int).toNat (okSq [2801238968224448512] (1 : Int).toNat)) = 2 := by kernel_rfl
theorem gk6 : takeC 0 0 [] (okAll (0 : Int).toNat (0 : Int).toNat (okSq [] (0 : Int).toNat)) = 0 := by kernel_rfl
theorem gk7 : wrongC 1 2 [4613937818241073152, 13821547256400052224] = 0 := by kernel_rfl
theorem gk8 : powR (mostF [4613937818241073152, 13821547256400052224] 2) = 2 := by kernel_rfl
theorem gk9 : timesW 4613937818241073152 (-2) = 4604930618986332160 := by kernel_rfl
theorem gk10 : timesW 4607182418800017408 (-1075) = 0 := by kernel_rfl
theorem gk11 : timesW 4613937818241073152 (-1075) = 2 := by kernel_rfl
theorem gk12 : feq 4609434218613702656 4609434218613702656 = true := by kernel_rfl
theorem gk13 : feq 4604930618986332160 4604930618986332160 = true := by kernel_rfl
theorem gk14 : feq 0 0 = true := by kernel_rfl
theorem gk15 : feq 2 2 = true := by kernel_rfl
theorem wds_box {W : World} {b : Nat} {xs : List Nat} (hb : Box W b (xs.map fun x : Nat => Value.int .u64 (x : Int))) : Wds W (some ⟨b, 0, none⟩) xs := fun _ => ⟨b, 0, rfl, hb.lt, fun i v hi => by rw [hb.cell, Nat.zero_add, List.getElem?_map, hi]; rfl⟩
theorem Square_c (w : World) (n C : Int) (a : Option Addr) (ws : List Nat) (ac : Nat) (hA : Wds w a ws) (hW : Words ws) (hl : ws.length ≤ maxLen) (hC : takeC n n ws (okAll n.toNat n.toNat (okSq ws n.toNat)) = C) :
    Calls Try.prog 16 #[.int .i64 n, .slice a ws.length ac] w fun e w' => ∃ m' n' sa sl sc, e = .returned (.tuple #[.agg #[.int .i64 m', .int .i64 n', .slice sa sl sc], .int .i64 C]) ∧ (C = 0 → m' = n ∧ n' = n ∧ sl = ws.length ∧ Cel w' sa ws) ∧ (C ≠ 0 → m' = 0 ∧ n' = 0 ∧ sa = none ∧ sl = 0 ∧ sc = 0) ∧ Below w.heap.size w w' := by
  have := Square_any w n a ws ac hA hW hl
  rw [hC] at this
  refine this.mono ?_
  rintro e w' ⟨m', n', dv, rfl, g1, g2, hb⟩
  by_cases h0 : C = 0
  · obtain ⟨h1, h2, h3⟩ := g1 h0
    obtain ⟨sa, sc, rfl, hc⟩ := cel_of_row h3
    exact ⟨m', n', sa, _, sc, rfl, fun _ => ⟨h1, h2, rfl, hc⟩, fun h => absurd h0 h, hb⟩
  · obtain ⟨h1, h2, rfl⟩ := g2 h0
    exact ⟨m', n', none, 0, 0, rfl, fun h => absurd h h0, fun _ => ⟨h1, h2, rfl, rfl, rfl⟩, hb⟩
theorem Words.mk {zs : List Nat} (h : zs.all (fun x => decide (x < 18446744073709551616)) = true) : Words zs := fun v hv => by
  have := List.all_eq_true.1 h v hv
  simpa using this
set_option maxHeartbeats 16000000 in
theorem known05 (w : World) : Calls Try.prog 15 #[] w fun e w' => e = .returned (.bool true) ∧ Below w.heap.size w w' := by
  go_enter Try.func15, Try.ntmps15
  have hBw := Below.refl w.heap.size w
  go_wp2_with fail
  refine (word05_any _ _).mono ?_
  rintro e w' ⟨rfl, rfl⟩
  have hA : Below w.heap.size w (w.alloc (.cells #[.int .u64 4609434218613702656] 34)) := (Below.refl _ _).alloc (Nat.le_refl _) _
  have F1 : Wds (w.alloc (.cells #[.int .u64 4609434218613702656] 34)) (some ⟨w.heap.size, 0, none⟩) [4609434218613702656] := wds_box (xs := [4609434218613702656]) (show Box _ _ [.int .u64 4609434218613702656] from Box.newA _ [_] _ rfl)
  replace hBw := below_step hBw hBw.size hA
  clear hA
  go_wp2_with fail
  refine (Square_c _ 1 0 _ [4609434218613702656] _ F1 (Words.mk (by decide)) (by decide) gk1).mono ?_
  rintro e w1 ⟨m1, n1, sa1, sl1, sc1, rfl, g1, _, hb⟩
  obtain ⟨rfl, rfl, rfl, D1⟩ := g1 rfl
  replace hBw := below_step hBw hBw.size hb
  clear hb F1 g1
  have X1 : Box (w1.alloc (.cells #[.int .i64 1, .int .i64 1, .slice sa1 1 sc1] 26)) w1.heap.size [.int .i64 1, .int .i64 1, .slice sa1 1 sc1] := Box.newA _ [_, _, _] _ rfl
  have hA : Below w1.heap.size w1 (w1.alloc (.cells #[.int .i64 1, .int .i64 1, .slice sa1 1 sc1] 26)) := (Below.refl _ _).alloc (Nat.le_refl _) _
  replace hBw := below_step hBw hBw.size hA
  replace D1 := D1.below hA
  clear hA
  have hA : Below (w1.alloc (.cells #[.int .i64 1, .int .i64 1, .slice sa1 1 sc1] 26)).heap.size (w1.alloc (.cells #[.int .i64 1, .int .i64 1, .slice sa1 1 sc1] 26)) ((w1.alloc (.cells #[.int .i64 1, .int .i64 1, .slice sa1 1 sc1] 26)).alloc (.cells #[.int .u64 0, .int .u64 4611686018427387904, .int .u64 0, .int .u64 0] 34)) := (Below.refl _ _).alloc (Nat.le_refl _) _
  have F2 : Wds ((w1.alloc (.cells #[.int .i64 1, .int .i64 1, .slice sa1 1 sc1] 26)).alloc (.cells #[.int .u64 0, .int .u64 4611686018427387904, .int .u64 0, .int .u64 0] 34)) (some ⟨w1.heap.size + 1, 0, none⟩) [0, 4611686018427387904, 0, 0] := wds_box (xs := [0, 4611686018427387904, 0, 0]) (show Box _ _ [.int .u64 0, .int .u64 4611686018427387904, .int .u64 0, .int .u64 0] from Box.newA _ [_, _, _, _] _ (by simp))
  replace hBw := below_step hBw hBw.size hA
  replace D1 := D1.below hA
  replace X1 := X1.below hA
  clear hA
  go_wp2_with fail
  refine (Square_c _ 2 1 _ [0, 4611686018427387904, 0, 0] _ F2 (Words.mk (by decide)) (by decide) gk2).mono ?_
  rintro e w2 ⟨m2, n2, sa2, sl2, sc2, rfl, _, g2, hb⟩
  obtain ⟨rfl, rfl, rfl, rfl, rfl⟩ := g2 (by decide)
  replace hBw := below_step hBw hBw.size hb
  replace D1 := D1.below hb
  replace X1 := X1.below hb
  clear hb F2 g2
  have hA : Below w2.heap.size w2 (w2.alloc (.cells #[.int .i64 0, .int .i64 0, .slice none 0 0] 26)) := (Below.refl _ _).alloc (Nat.le_refl _) _
  replace hBw := below_step hBw hBw.size hA
  replace D1 := D1.below hA
  replace X1 := X1.below hA
  clear hA
  go_wp2_with fail
  refine (NaN_any _).mono ?_
  rintro e w' ⟨rfl, rfl⟩
  go_wp2_with fail
  refine (word05_any _ _).mono ?_
  rintro e w' ⟨rfl, rfl⟩
  generalize w2.alloc (.cells #[.int .i64 0, .int .i64 0, .slice none 0 0] 26) = u2 at *
  have hA : Below u2.heap.size u2 (u2.alloc (.cells #[.int .u64 9221120237041090561] 34)) := (Below.refl _ _).alloc (Nat.le_refl _) _
  have F3 : Wds (u2.alloc (.cells #[.int .u64 9221120237041090561] 34)) (some ⟨u2.heap.size, 0, none⟩) [9221120237041090561] := wds_box (xs := [9221120237041090561]) (show Box _ _ [.int .u64 9221120237041090561] from Box.newA _ [_] _ rfl)
  replace hBw := below_step hBw hBw.size hA
  replace D1 := D1.below hA
  replace X1 := X1.below hA
  clear hA
  go_wp2_with fail
  refine (Square_c _ 1 1 _ [9221120237041090561] _ F3 (Words.mk (by decide)) (by decide) gk3).mono ?_
  rintro e w3 ⟨m3, n3, sa3, sl3, sc3, rfl, _, g2, hb⟩
  obtain ⟨rfl, rfl, rfl, rfl, rfl⟩ := g2 (by decide)
  replace hBw := below_step hBw hBw.size hb
  replace D1 := D1.below hb
  replace X1 := X1.below hb
  clear hb F3 g2
  have hA : Below w3.heap.size w3 (w3.alloc (.cells #[.int .i64 0, .int .i64 0, .slice none 0 0] 26)) := (Below.refl _ _).alloc (Nat.le_refl _) _
  replace hBw := below_step hBw hBw.size hA
  replace D1 := D1.below hA
  replace X1 := X1.below hA
  clear hA
  go_wp2_with fail
  refine (word05_any _ _).mono ?_
  rintro e w' ⟨rfl, rfl⟩
  generalize w3.alloc (.cells #[.int .i64 0, .int .i64 0, .slice none 0 0] 26) = u3 at *
  have hA : Below u3.heap.size u3 (u3.alloc (.cells #[.int .u64 6413125869375586304] 34)) := (Below.refl _ _).alloc (Nat.le_refl _) _
  have F4 : Wds (u3.alloc (.cells #[.int .u64 6413125869375586304] 34)) (some ⟨u3.heap.size, 0, none⟩) [6413125869375586304] := wds_box (xs := [6413125869375586304]) (show Box _ _ [.int .u64 6413125869375586304] from Box.newA _ [_] _ rfl)
  replace hBw := below_step hBw hBw.size hA
  replace D1 := D1.below hA
  replace X1 := X1.below hA
  clear hA
  go_wp2_with fail
  refine (Square_c _ 1 2 _ [6413125869375586304] _ F4 (Words.mk (by decide)) (by decide) gk4).mono ?_
  rintro e w4 ⟨m4, n4, sa4, sl4, sc4, rfl, _, g2, hb⟩
  obtain ⟨rfl, rfl, rfl, rfl, rfl⟩ := g2 (by decide)
  replace hBw := below_step hBw hBw.size hb
  replace D1 := D1.below hb
  replace X1 := X1.below hb
  clear hb F4 g2
  have hA : Below w4.heap.size w4 (w4.alloc (.cells #[.int .i64 0, .int .i64 0, .slice none 0 0] 26)) := (Below.refl _ _).alloc (Nat.le_refl _) _
  replace hBw := below_step hBw hBw.size hA
  replace D1 := D1.below hA
  replace X1 := X1.below hA
  clear hA
  go_wp2_with fail
  refine (word05_any _ _).mono ?_
  rintro e w' ⟨rfl, rfl⟩
  generalize w4.alloc (.cells #[.int .i64 0, .int .i64 0, .slice none 0 0] 26) = u4 at *
  have hA : Below u4.heap.size u4 (u4.alloc (.cells #[.int .u64 2801238968224448512] 34)) := (Below.refl _ _).alloc (Nat.le_refl _) _
  have F5 : Wds (u4.alloc (.cells #[.int .u64 2801238968224448512] 34)) (some ⟨u4.heap.size, 0, none⟩) [2801238968224448512] := wds_box (xs := [2801238968224448512]) (show Box _ _ [.int .u64 2801238968224448512] from Box.newA _ [_] _ rfl)
  replace hBw := below_step hBw hBw.size hA
  replace D1 := D1.below hA
  replace X1 := X1.below hA
  clear hA
  go_wp2_with fail
  refine (Square_c _ 1 2 _ [2801238968224448512] _ F5 (Words.mk (by decide)) (by decide) gk5).mono ?_
  rintro e w5 ⟨m5, n5, sa5, sl5, sc5, rfl, _, g2, hb⟩
  obtain ⟨rfl, rfl, rfl, rfl, rfl⟩ := g2 (by decide)
  replace hBw := below_step hBw hBw.size hb
  replace D1 := D1.below hb
  replace X1 := X1.below hb
  clear hb F5 g2
  have hA : Below w5.heap.size w5 (w5.alloc (.cells #[.int .i64 0, .int .i64 0, .slice none 0 0] 26)) := (Below.refl _ _).alloc (Nat.le_refl _) _
  replace hBw := below_step hBw hBw.size hA
  replace D1 := D1.below hA
  replace X1 := X1.below hA
  clear hA
  go_wp2_with fail
  generalize w5.alloc (.cells #[.int .i64 0, .int .i64 0, .slice none 0 0] 26) = u5 at *
  refine (Square_c _ 0 0 _ [] _ (Wds.nil _ _) (Words.mk (by decide)) (by decide) gk6).mono ?_
  rintro e w6 ⟨m6, n6, sa6, sl6, sc6, rfl, g1, _, hb⟩
  obtain ⟨rfl, rfl, rfl, _⟩ := g1 rfl
  replace hBw := below_step hBw hBw.size hb
  replace D1 := D1.below hb
  replace X1 := X1.below hb
  clear hb g1
  have hA : Below w6.heap.size w6 ((w6.alloc (.cells #[.int .i64 0, .int .i64 0, .slice sa6 0 sc6] 26)).alloc (.cells #[.float .f64 4613937818241073152, .float .f64 13821547256400052224] 35)) := ((Below.refl _ _).alloc (Nat.le_refl _) _).alloc (by simp) _
  have F7 : Cel ((w6.alloc (.cells #[.int .i64 0, .int .i64 0, .slice sa6 0 sc6] 26)).alloc (.cells #[.float .f64 4613937818241073152, .float .f64 13821547256400052224] 35)) (some ⟨w6.heap.size + 1, 0, none⟩) [4613937818241073152, 13821547256400052224] := Cel.ofBox (zs := [4613937818241073152, 13821547256400052224]) (show Box _ _ [.float .f64 4613937818241073152, .float .f64 13821547256400052224] from Box.newA _ [_, _] _ (by simp))
  replace hBw := below_step hBw hBw.size hA
  replace D1 := D1.below hA
  replace X1 := X1.below hA
  clear hA
  go_wp2_with fail
  refine (Power_any _ 1 2 _ [4613937818241073152, 13821547256400052224] _ F7 (Words.mk (by decide)) (by decide)).mono ?_
  rintro e w7 ⟨rfl, hb⟩
  rw [gk7, if_pos rfl, show powR (mostF [4613937818241073152, 13821547256400052224] ([4613937818241073152, 13821547256400052224] : List Nat).length) = 2 from gk8]
  replace hBw := below_step hBw hBw.size hb
  replace D1 := D1.below hb
  replace X1 := X1.below hb
  clear hb F7
  obtain ⟨b, o, rfl, _, c1⟩ := D1.at (i := 0) (by decide)
  replace c1 : w7.cell? ⟨b, o, none⟩ = some (.float .f64 4609434218613702656) := c1
  obtain ⟨a1, a2, a3⟩ := X1.facts
  have k12 := gk12
  have k13 := gk13
  have k14 := gk14
  have k15 := gk15
  clear D1 X1
  have H9 := Lib.hid (fun W => gk9 ▸ Times_any 4613937818241073152 (-2) (by decide) W)
  have H10 := Lib.hid (fun W => gk10 ▸ Times_any 4607182418800017408 (-1075) (by decide) W)
  have H11 := Lib.hid (fun W => gk11 ▸ Times_any 4613937818241073152 (-1075) (by decide) W)
  go_wp2_with fail
  refine (H9.out _).mono ?_
  rintro e w8 ⟨rfl, hb⟩
  replace hBw := below_step hBw hBw.size hb
  clear hb a1 a2 a3 c1
  go_wp2_with fail
  refine (H10.out _).mono ?_
  rintro e w9 ⟨rfl, hb⟩
  replace hBw := below_step hBw hBw.size hb
  clear hb
  go_wp2_with fail
  refine (H11.out _).mono ?_
  rintro e w10 ⟨rfl, hb⟩
  replace hBw := below_step hBw hBw.size hb
  clear hb
  go_wp2
  go_ret
  exact ⟨rfl, hBw⟩
end Go.Proofs.Ytogkmddhgfenkaa
