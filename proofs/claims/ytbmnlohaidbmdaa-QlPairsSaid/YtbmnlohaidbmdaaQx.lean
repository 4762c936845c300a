/- The law's known rows of layer 12 hold. No condition. -/
import Derived.Test.YtbmnlohaidbmdaaQw
namespace Go.Proofs.Ytbmnlohaidbmdaa
open Go Go.RowKit
set_option maxRecDepth 1000000

set_option maxHeartbeats 8000000 in
theorem known12_any (w : World) : Calls Try.prog 8 #[] w fun e w' => e = .returned (.bool true) ∧ Below w.heap.size w w' := by
  go_enter Try.func8, Try.ntmps8
  go_wp2_with fail
  have hA0 := (Fls.lit w 42 [4613937818241073152, 4607182418800017408, 4611686018427387904] (by kernel_rfl)).alloc (.cells #[.float .f64 0, .float .f64 0] 42)
  have hA1 := Fls.lit (w.alloc (.cells #[.float .f64 4613937818241073152, .float .f64 4607182418800017408, .float .f64 4611686018427387904] 42)) 42 [0, 0] (by kernel_rfl)
  simp only [List.map_cons, List.map_nil, World.size_alloc] at hA0 hA1
  have HV := Lib.hid (val_a _ _ _ hA0 hA1)
  clear hA0 hA1
  refine HV.out.mono ?_
  rintro r w1 ⟨⟨a1, c1, rfl, hF1⟩, hb1⟩
  have hB0 : Below w.heap.size w ((w.alloc (.cells #[.float .f64 4613937818241073152, .float .f64 4607182418800017408, .float .f64 4611686018427387904] 42)).alloc (.cells #[.float .f64 0, .float .f64 0] 42)) := ((Below.refl _ _).alloc (Nat.le_refl _) _).alloc (by simp) _
  have hB1 := below_step hB0 hB0.size hb1
  have HF1 := Lib.hid hF1
  clear hB0 hb1 hF1
  dsimp only
  go_wp2_with fail
  have hA0 := (Fls.lit w1 42 [0, 0] (by kernel_rfl)).alloc (.cells #[.float .f64 4607182418800017408] 42)
  have hA1 := Fls.lit (w1.alloc (.cells #[.float .f64 0, .float .f64 0] 42)) 42 [4607182418800017408] (by kernel_rfl)
  simp only [List.map_cons, List.map_nil, World.size_alloc] at hA0 hA1
  have HV2 := Lib.hid (val_b _ _ _ hA0 hA1)
  clear hA0 hA1 HV
  refine HV2.out.mono ?_
  rintro r w2 ⟨⟨a2, c2, k, x, y, rfl, k1, k2, hF2, f1, f2, f3⟩, hb2⟩
  have hA1 : Below w1.heap.size w1 ((w1.alloc (.cells #[.float .f64 0, .float .f64 0] 42)).alloc (.cells #[.float .f64 4607182418800017408] 42)) := ((Below.refl _ _).alloc (Nat.le_refl _) _).alloc (by simp) _
  have hb12 := below_step hA1 hA1.size hb2
  have hB2 := below_step hB1 hB1.size hb12
  have HF2 := Lib.hid (show _ ∧ _ from ⟨HF1.out.below hb12, hF2⟩)
  clear hA1 hb12 hb2 hF2 hB1 HF1
  dsimp only
  go_wp2_with fail
  have hd0 := (Fls.lit w2 42 [4611686018427387904, 4607182418800017408] (by kernel_rfl)).alloc (.cells #[.float .f64 0] 42)
  have he0 := Fls.lit (w2.alloc (.cells #[.float .f64 4611686018427387904, .float .f64 4607182418800017408] 42)) 42 [0] (by kernel_rfl)
  simp only [List.map_cons, List.map_nil, World.size_alloc] at hd0 he0
  have hA2 : Below w2.heap.size w2 ((w2.alloc (.cells #[.float .f64 4611686018427387904, .float .f64 4607182418800017408] 42)).alloc (.cells #[.float .f64 0] 42)) := ((Below.refl _ _).alloc (Nat.le_refl _) _).alloc (by simp) _
  refine (One10 _ 2 (by decide)).mono ?_
  rintro r w3 ⟨a3, b3, c3, rfl, hz, hne, hb3⟩
  have hd1 := hd0.below hb3
  have he1 := he0.below hb3
  have hb23 := below_step hA2 hA2.size hb3
  have hB3 := below_step hB2 hB2.size hb23
  have HF3 := Lib.hid (show _ ∧ _ ∧ _ ∧ _ ∧ _ from ⟨HF2.out.1.below hb23, HF2.out.2.below hb23, hd1, he1, hz.fls⟩)
  clear hd0 he0 hA2 hd1 he1 hb23 hb3 hB2 hz HF2
  dsimp only
  go_wp2_with fail
  have HV3 := Lib.hid (sol_c _ _ _ a3 c3 HF3.out.2.2.1 HF3.out.2.2.2.1 HF3.out.2.2.2.2 hne)
  refine HV3.out.mono ?_
  rintro r w4 ⟨⟨a4, c4, z4, zc4, rfl, hF4, hG4⟩, hb4⟩
  have hB4 := below_step hB3 hB3.size hb4
  have HF4 := Lib.hid (show _ ∧ _ ∧ _ ∧ _ from ⟨HF3.out.1.below hb4, HF3.out.2.1.below hb4, hF4, hG4⟩)
  clear hB3 hb4 hF4 hG4 HF3
  have s1 := HF4.out.2.1
  obtain ⟨bb, off, e2, hlt2, hc2⟩ := s1 (by simp)
  subst e2
  obtain ⟨t1, g1⟩ := hc2 0 x rfl
  obtain ⟨t2, g2⟩ := hc2 1 y rfl
  rw [Nat.add_zero] at g1
  have hSA := Lib.hid (fun W (h : Below w4.heap.size w4 W) (b : Option Addr) (cb : Nat) (hY : Fls W b [4607182418800017408, 4611686018427387904, 4613937818241073152]) => SameAllF W a1 b _ c1 cb (HF4.out.1.below h) hY (by simp))
  clear hc2 s1
  dsimp only
  go_wp2_with fail
  have hM0 : Below w4.heap.size w4 (w4.alloc (.cells #[.int .i64 2, .int .i64 2, .slice z4 4 zc4] 26)) := (Below.refl _ _).alloc (Nat.le_refl _) _
  have hx0 := Box.newA w4 [.int .i64 2, .int .i64 2, .slice z4 4 zc4] 26 rfl
  have hL0 := Fls.lit (w4.alloc (.cells #[.int .i64 2, .int .i64 2, .slice z4 4 zc4] 26)) 42 [4607182418800017408, 4611686018427387904, 4613937818241073152] (by kernel_rfl)
  simp only [List.map_cons, List.map_nil, World.size_alloc] at hL0
  have hb5 : Below w4.heap.size w4 ((w4.alloc (.cells #[.int .i64 2, .int .i64 2, .slice z4 4 zc4] 26)).alloc (.cells #[.float .f64 4607182418800017408, .float .f64 4611686018427387904, .float .f64 4613937818241073152] 42)) := hM0.alloc (by simp) _
  have HX := Lib.hid (hx0.alloc (.cells #[.float .f64 4607182418800017408, .float .f64 4611686018427387904, .float .f64 4613937818241073152] 42))
  have HS := Lib.hid (SameAllF _ a1 _ _ c1 3 (HF4.out.1.below hb5) hL0 (by simp))
  have HB5 := Lib.hid hb5
  clear hM0 hx0 hL0 hb5 hSA
  refine HS.out.mono ?_
  rintro r w5 ⟨rfl, hb6⟩
  have hb46 := below_step HB5.out HB5.out.size hb6
  have hx5 := HX.out.below hb6
  obtain ⟨q1, q2, q3⟩ := hx5.facts
  replace g1 := ((below_cells hb46).1 _ _ hlt2).trans g1
  replace g2 := ((below_cells hb46).1 _ _ hlt2).trans g2
  have HB6 := Lib.hid (show _ ∧ _ ∧ _ ∧ _ ∧ _ from ⟨below_step hB4 hB4.size hb46, HF4.out.2.2.1.below hb46, HF4.out.2.2.2.below hb46, hx5, hb46.size⟩)
  have hk : decide (0 < (k : Int)) = true := decide_eq_true (by omega)
  clear hb6 hb46 hx5 HS HX HB5
  dsimp only
  go_wp2_with fail
  obtain ⟨hBw, hF4, hG4, hx5, hsz⟩ := HB6.out
  have hL1 := Fls.lit w5 42 [4607182418800017408, 4611686018427387904] (by kernel_rfl)
  simp only [List.map_cons, List.map_nil] at hL1
  have hb7 : Below w5.heap.size w5 (w5.alloc (.cells #[.float .f64 4607182418800017408, .float .f64 4611686018427387904] 42)) := (Below.refl _ _).alloc (Nat.le_refl _) _
  have HS2 := Lib.hid (SameAllF _ a4 _ _ c4 2 (hF4.below hb7) hL1 (by simp))
  have HB7 := Lib.hid (show _ ∧ _ ∧ _ from ⟨below_step hBw hBw.size hb7, hG4.below hb7, hx5.below hb7⟩)
  clear hBw hF4 hG4 hx5 hsz hL1 hb7 g1 g2 q1 q2 q3
  refine HS2.out.mono ?_
  rintro r w6 ⟨rfl, hb8⟩
  have hB8 := below_step HB7.out.1 HB7.out.1.size hb8
  have hx8 := HB7.out.2.2.below hb8
  obtain ⟨q1, q2, q3⟩ := hx8.facts
  have HB8 := Lib.hid (show _ ∧ _ from ⟨hB8, HB7.out.2.1.below hb8⟩)
  clear hB8 hx8 hb8 HS2
  dsimp only
  go_wp2_with fail
  obtain ⟨hB8, hG8⟩ := HB8.out
  have hL1 := Fls.lit w6 42 [0, 4607182418800017408, 4607182418800017408, 0] (by kernel_rfl)
  simp only [List.map_cons, List.map_nil] at hL1
  have hb7 : Below w6.heap.size w6 (w6.alloc (.cells #[.float .f64 0, .float .f64 4607182418800017408, .float .f64 4607182418800017408, .float .f64 0] 42)) := (Below.refl _ _).alloc (Nat.le_refl _) _
  have HS3 := Lib.hid (SameAllF _ z4 _ _ zc4 4 (hG8.below hb7) hL1 (by simp))
  have HB9 := Lib.hid (below_step hB8 hB8.size hb7)
  clear hB8 hG8 hL1 hb7 q1 q2 q3
  refine HS3.out.mono ?_
  rintro r w7 ⟨rfl, hb8⟩
  have hB9 := below_step HB9.out HB9.out.size hb8
  clear hb8
  dsimp only
  go_wp2
  go_ret
  exact ⟨rfl, hB9⟩
end Go.Proofs.Ytbmnlohaidbmdaa
