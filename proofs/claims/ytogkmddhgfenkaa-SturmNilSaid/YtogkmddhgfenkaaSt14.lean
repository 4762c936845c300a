/- The sturm law's own rows hold. -/
import Derived.Test.YtogkmddhgfenkaaSt13
import Derived.Test.YtogkmddhgfenkaaGen
namespace Go.Proofs.Ytogkmddhgfenkaa
open Go Go.RowKit Go.Shelf
set_option maxRecDepth 100000

theorem num13_any (n : Int) (w : World) : Calls Try.prog 38 #[.int .i64 n] w fun e w' => e = .returned (.int .i64 n) ∧ w = w' := by
  go_enter Try.func38, Try.ntmps38
  go_wp2
  go_ret
  exact ⟨rfl, rfl⟩
theorem Count_c (w : World) (da ea : Option Addr) (ds es : List Nat) (dc ec : Nat) (x : Nat) (hx : isnan x = false) (hD : Fls w da ds) (hE : Fls w ea es) (hl : ds.length ≤ 1000) (hl' : es.length ≤ 1000) :
    Calls Try.prog 44 #[.agg #[.slice da ds.length dc, .slice ea es.length ec], .float .f64 x] w fun e w' => e = .returned (.tuple #[.int .i64 (cntN ds es x), .int .i64 (askS ds es [x])]) ∧ Below w.heap.size w w' := by
  have := Count_any w da ea ds es dc ec x 0 hD hE hl hl'
  rw [raw_of_not hx] at this
  exact this
theorem ownsRow_dnS {A B : World} {base size n : Nat} {e : TypeId} {v : Value} {xs : List Value} (h : A.ownsRow base e size v n xs) (hb : Below A.heap.size A B) : B.ownsRow base e size v n xs := by
  refine ⟨h.1, ?_⟩
  rcases h.2 with h0 | ⟨g, cap, cur, h1, h2, h3, h4⟩
  · exact .inl h0
  · exact .inr ⟨g, cap, cur, h1, h2, by rw [hb.block g (Array.getElem?_eq_some_iff.1 h3).1]; exact h3, h4⟩
theorem fls_none (W : World) : Fls W none [] := fun h => absurd rfl h

set_option maxHeartbeats 16000000 in
theorem known13 (w : World) : Calls Try.prog 34 #[] w fun e w' => e = .returned (.bool true) ∧ Below w.heap.size w w' := by
  go_enter Try.func34, Try.ntmps34
  have hBw := Below.refl w.heap.size w
  have hA : Below w.heap.size w (w.alloc (.cells #[.float .f64 4611686018427387904] 35)) := (Below.refl _ _).alloc (Nat.le_refl _) _
  have F1 : Fls (w.alloc (.cells #[.float .f64 4611686018427387904] 35)) (some ⟨w.heap.size, 0, none⟩) [4611686018427387904] := fls_box (xs := [4611686018427387904]) (show Box _ _ [.float .f64 4611686018427387904] from Box.newA _ [_] _ (by simp)) (by kernel_rfl)
  replace hBw := below_step hBw hBw.size hA
  go_wp2_with fail
  refine (Tri_any _ _ _ _ _ _ _).mono ?_
  rintro e w1 ⟨rfl, hb⟩
  replace hBw := below_step hBw hBw.size hb
  replace F1 := F1.below hb
  clear hb hA
  have X1 : Box (w1.alloc (.cells #[.slice (some ⟨w.heap.size, 0, none⟩) 1 1, .slice none 0 0] 51)) w1.heap.size [.slice (some ⟨w.heap.size, 0, none⟩) 1 1, .slice none 0 0] := Box.newA w1 [_, _] _ rfl
  have hA : Below w1.heap.size w1 (w1.alloc (.cells #[.slice (some ⟨w.heap.size, 0, none⟩) 1 1, .slice none 0 0] 51)) := (Below.refl _ _).alloc (Nat.le_refl _) _
  replace hBw := below_step hBw hBw.size hA
  replace F1 := F1.below hA
  clear hA
  have hA : Below (w1.alloc (.cells #[.slice (some ⟨w.heap.size, 0, none⟩) 1 1, .slice none 0 0] 51)).heap.size (w1.alloc (.cells #[.slice (some ⟨w.heap.size, 0, none⟩) 1 1, .slice none 0 0] 51)) (((w1.alloc (.cells #[.slice (some ⟨w.heap.size, 0, none⟩) 1 1, .slice none 0 0] 51)).alloc (.cells #[.float .f64 4611686018427387904, .float .f64 4607182418800017408] 35)).alloc (.cells #[.float .f64 0] 35)) := ((Below.refl _ _).alloc (Nat.le_refl _) _).alloc (by simp) _
  have F2 : Fls (((w1.alloc (.cells #[.slice (some ⟨w.heap.size, 0, none⟩) 1 1, .slice none 0 0] 51)).alloc (.cells #[.float .f64 4611686018427387904, .float .f64 4607182418800017408] 35)).alloc (.cells #[.float .f64 0] 35)) (some ⟨w1.heap.size + 1, 0, none⟩) [4611686018427387904, 4607182418800017408] := fls_box (xs := [4611686018427387904, 4607182418800017408]) (show Box _ _ [.float .f64 4611686018427387904, .float .f64 4607182418800017408] from Box.alloc (Box.newA _ [_, _] _ (by simp)) _) (by kernel_rfl)
  have G2 : Fls (((w1.alloc (.cells #[.slice (some ⟨w.heap.size, 0, none⟩) 1 1, .slice none 0 0] 51)).alloc (.cells #[.float .f64 4611686018427387904, .float .f64 4607182418800017408] 35)).alloc (.cells #[.float .f64 0] 35)) (some ⟨w1.heap.size + 2, 0, none⟩) [0] := fls_box (xs := [0]) (show Box _ _ [.float .f64 0] from Box.newA _ [_] _ (by simp)) (by kernel_rfl)
  replace hBw := below_step hBw hBw.size hA
  replace F1 := F1.below hA
  replace X1 := X1.below hA
  clear hA
  go_wp2_with fail
  refine (Tri_any _ _ _ _ _ _ _).mono ?_
  rintro e w2 ⟨rfl, hb⟩
  replace hBw := below_step hBw hBw.size hb
  replace F1 := F1.below hb
  replace X1 := X1.below hb
  replace F2 := F2.below hb
  replace G2 := G2.below hb
  clear hb
  go_wp2_with fail
  refine (Count_c _ _ _ [4611686018427387904, 4607182418800017408] [0] _ _ 4609434218613702656 (by kernel_rfl) F2 G2 (by decide) (by decide)).mono ?_
  rintro e w3 ⟨rfl, hb⟩
  rw [kn1, kn1e]
  replace hBw := below_step hBw hBw.size hb
  replace F1 := F1.below hb
  replace X1 := X1.below hb
  replace F2 := F2.below hb
  replace G2 := G2.below hb
  clear hb F2 G2
  obtain ⟨a1, a2, a3⟩ := X1.facts
  go_wp2_with fail
  refine (Count_c _ _ _ [4611686018427387904] [] _ _ 4611686018427387904 (by kernel_rfl) F1 (fls_none _) (by decide) (by decide)).mono ?_
  rintro e w4 ⟨rfl, hb⟩
  clear a1 a2 a3
  rw [kn2, kn2e]
  replace hBw := below_step hBw hBw.size hb
  replace F1 := F1.below hb
  replace X1 := X1.below hb
  clear hb
  obtain ⟨a1, a2, a3⟩ := X1.facts
  go_wp2_with fail
  refine (Count_c _ _ _ [4611686018427387904] [] _ _ 4612811918334230528 (by kernel_rfl) F1 (fls_none _) (by decide) (by decide)).mono ?_
  rintro e w5 ⟨rfl, hb⟩
  clear a1 a2 a3
  rw [kn3, kn3e]
  replace hBw := below_step hBw hBw.size hb
  replace F1 := F1.below hb
  replace X1 := X1.below hb
  clear hb
  have hA : Below w5.heap.size w5 ((w5.alloc (.cells #[.float .f64 0, .float .f64 0] 35)).alloc (.cells #[.float .f64 4607182418800017408] 35)) := ((Below.refl _ _).alloc (Nat.le_refl _) _).alloc (by simp) _
  have F8 : Fls ((w5.alloc (.cells #[.float .f64 0, .float .f64 0] 35)).alloc (.cells #[.float .f64 4607182418800017408] 35)) (some ⟨w5.heap.size, 0, none⟩) [0, 0] := fls_box (xs := [0, 0]) (show Box _ _ [.float .f64 0, .float .f64 0] from (Box.alloc (Box.newA _ [_, _] _ (by simp)) _)) (by kernel_rfl)
  have G8 : Fls ((w5.alloc (.cells #[.float .f64 0, .float .f64 0] 35)).alloc (.cells #[.float .f64 4607182418800017408] 35)) (some ⟨(w5.heap.size + 1), 0, none⟩) [4607182418800017408] := fls_box (xs := [4607182418800017408]) (show Box _ _ [.float .f64 4607182418800017408] from Box.newA _ [_] _ (by simp)) (by kernel_rfl)
  replace hBw := below_step hBw hBw.size hA
  replace F1 := F1.below hA
  replace X1 := X1.below hA
  clear hA
  go_wp2_with fail
  refine (Tri_any _ _ _ _ _ _ _).mono ?_
  rintro e w6 ⟨rfl, hb⟩
  replace hBw := below_step hBw hBw.size hb
  replace F1 := F1.below hb
  replace X1 := X1.below hb
  replace F8 := F8.below hb
  replace G8 := G8.below hb
  clear hb
  have X8 : Box (w6.alloc (.cells #[.slice (some ⟨w5.heap.size, 0, none⟩) 2 2, .slice (some ⟨w5.heap.size + 1, 0, none⟩) 1 1] 51)) w6.heap.size [.slice (some ⟨w5.heap.size, 0, none⟩) 2 2, .slice (some ⟨w5.heap.size + 1, 0, none⟩) 1 1] := Box.newA w6 [_, _] _ rfl
  have hA : Below w6.heap.size w6 (w6.alloc (.cells #[.slice (some ⟨w5.heap.size, 0, none⟩) 2 2, .slice (some ⟨w5.heap.size + 1, 0, none⟩) 1 1] 51)) := (Below.refl _ _).alloc (Nat.le_refl _) _
  replace hBw := below_step hBw hBw.size hA
  replace F1 := F1.below hA
  replace X1 := X1.below hA
  replace F8 := F8.below hA
  replace G8 := G8.below hA
  clear hA
  obtain ⟨a1, a2, a3⟩ := X8.facts
  go_wp2_with fail
  refine (Bounds_any _ _ _ [0, 0] [4607182418800017408] _ _ F8 G8 (by intro v hv; simp at hv; omega) (by decide) (by decide)).mono ?_
  rintro e w7 ⟨lo, hi, s1, s2, rfl, hg, _, hb⟩
  clear a1 a2 a3
  obtain ⟨rfl, rfl⟩ := hg kn4e
  rw [show (bndL [0, 0] [4607182418800017408] ([0, 0] : List Nat).length) = (13830554455654793216, 4607182418800017408) from kn4, kn4e, raw_of_not (show isnan ((13830554455654793216, 4607182418800017408) : Nat × Nat).1 = false by kernel_rfl), raw_of_not (show isnan ((13830554455654793216, 4607182418800017408) : Nat × Nat).2 = false by kernel_rfl)]
  clear hg
  replace hBw := below_step hBw hBw.size hb
  replace F1 := F1.below hb
  replace X1 := X1.below hb
  replace F8 := F8.below hb
  replace G8 := G8.below hb
  replace X8 := X8.below hb
  clear hb
  obtain ⟨a1, a2, a3⟩ := X1.facts
  go_wp2_with fail
  refine (Find_any _ _ _ [4611686018427387904] [] _ _ 0 F1 (fls_none _) (by intro v hv; cases hv) (by decide) (by decide)).mono ?_
  rintro e w8 ⟨rfl, hb⟩
  clear a1 a2 a3
  rw [kn5, kn5e]
  replace hBw := below_step hBw hBw.size hb
  replace F1 := F1.below hb
  replace X1 := X1.below hb
  replace F8 := F8.below hb
  replace G8 := G8.below hb
  replace X8 := X8.below hb
  clear hb
  have hA : Below w8.heap.size w8 ((w8.alloc (.cells #[.float .f64 4613937818241073152, .float .f64 4607182418800017408, .float .f64 4611686018427387904] 35)).alloc (.cells #[.float .f64 0, .float .f64 0] 35)) := ((Below.refl _ _).alloc (Nat.le_refl _) _).alloc (by simp) _
  have F9 : Fls ((w8.alloc (.cells #[.float .f64 4613937818241073152, .float .f64 4607182418800017408, .float .f64 4611686018427387904] 35)).alloc (.cells #[.float .f64 0, .float .f64 0] 35)) (some ⟨w8.heap.size, 0, none⟩) [4613937818241073152, 4607182418800017408, 4611686018427387904] := fls_box (xs := [4613937818241073152, 4607182418800017408, 4611686018427387904]) (show Box _ _ [.float .f64 4613937818241073152, .float .f64 4607182418800017408, .float .f64 4611686018427387904] from (Box.alloc (Box.newA _ [_, _, _] _ (by simp)) _)) (by kernel_rfl)
  have G9 : Fls ((w8.alloc (.cells #[.float .f64 4613937818241073152, .float .f64 4607182418800017408, .float .f64 4611686018427387904] 35)).alloc (.cells #[.float .f64 0, .float .f64 0] 35)) (some ⟨(w8.heap.size + 1), 0, none⟩) [0, 0] := fls_box (xs := [0, 0]) (show Box _ _ [.float .f64 0, .float .f64 0] from Box.newA _ [_, _] _ (by simp)) (by kernel_rfl)
  replace hBw := below_step hBw hBw.size hA
  replace F1 := F1.below hA
  replace X1 := X1.below hA
  replace F8 := F8.below hA
  replace G8 := G8.below hA
  replace X8 := X8.below hA
  clear hA
  go_wp2_with fail
  refine (Tri_any _ _ _ _ _ _ _).mono ?_
  rintro e w9 ⟨rfl, hb⟩
  replace hBw := below_step hBw hBw.size hb
  replace F1 := F1.below hb
  replace X1 := X1.below hb
  replace F8 := F8.below hb
  replace G8 := G8.below hb
  replace X8 := X8.below hb
  replace F9 := F9.below hb
  replace G9 := G9.below hb
  clear hb
  go_wp2_with fail
  refine (All_in _ _ _ [4613937818241073152, 4607182418800017408, 4611686018427387904] [0, 0] _ _ F9 G9 (by intro v hv; simp at hv; omega) (by decide) (by decide) kn6e).mono ?_
  rintro e w10 ⟨sv1, rfl, R1, hb⟩
  rw [show allL [4613937818241073152, 4607182418800017408, 4611686018427387904] [0, 0] ([4613937818241073152, 4607182418800017408, 4611686018427387904] : List Nat).length = [4607182418800017408, 4611686018427387904, 4613937818241073152] from kn6] at R1
  replace hBw := below_step hBw hBw.size hb
  replace F1 := F1.below hb
  replace X1 := X1.below hb
  replace F8 := F8.below hb
  replace G8 := G8.below hb
  replace X8 := X8.below hb
  replace F9 := F9.below hb
  replace G9 := G9.below hb
  clear hb F9 G9
  obtain ⟨a1, a2, a3⟩ := X8.facts
  go_wp2_with fail
  refine (All_in _ _ _ [0, 0] [4607182418800017408] _ _ F8 G8 (by intro v hv; simp at hv; omega) (by decide) (by decide) kn4e).mono ?_
  rintro e w11 ⟨sv2, rfl, R2, hb⟩
  clear a1 a2 a3
  rw [show allL [0, 0] [4607182418800017408] ([0, 0] : List Nat).length = [13830554455654793216, 4607182418800017408] from kn7] at R2
  replace hBw := below_step hBw hBw.size hb
  replace F1 := F1.below hb
  replace X1 := X1.below hb
  replace F8 := F8.below hb
  replace G8 := G8.below hb
  replace X8 := X8.below hb
  replace R1 := ownsRow_dnS R1 hb
  clear hb F8 G8 X8
  obtain ⟨a1, a2, a3⟩ := X1.facts
  go_wp2_with fail
  refine (Find_any _ _ _ [4611686018427387904] [] _ _ 1 F1 (fls_none _) (by intro v hv; cases hv) (by decide) (by decide)).mono ?_
  rintro e w12 ⟨rfl, hb⟩
  clear a1 a2 a3
  rw [kn8]
  replace hBw := below_step hBw hBw.size hb
  replace F1 := F1.below hb
  replace X1 := X1.below hb
  replace R1 := ownsRow_dnS R1 hb
  replace R2 := ownsRow_dnS R2 hb
  clear hb F1 X1
  go_wp2_with fail
  refine (All_nil _).mono ?_
  rintro e w13 ⟨rfl, hb⟩
  replace hBw := below_step hBw hBw.size hb
  replace R1 := ownsRow_dnS R1 hb
  replace R2 := ownsRow_dnS R2 hb
  clear hb
  go_wp2_with fail
  obtain ⟨g1, cap1, rfl, _, _⟩ := ownsRow_atS R1 (k := 0) (by decide)
  obtain ⟨g2, cap2, rfl, hc0, hl2⟩ := ownsRow_atS R2 (k := 0) (by decide)
  have hc1 := R2.cellAt 1 (by decide)
  have hC1 : Cel w13 (some ⟨g1, 0, none⟩) [4607182418800017408, 4611686018427387904, 4613937818241073152] := fun _ => ⟨g1, 0, rfl, (R1.lt g1 rfl).2, fun i v hi => by
    have hi3 : i < 3 := (List.getElem?_eq_some_iff.1 hi).1
    rw [Nat.zero_add, R1.cellAt i (by show i < 3 * 1; omega), List.getElem?_map, hi]; rfl⟩
  have HC1 := Lib.hid hC1
  have hc0' : w13.cell? ⟨g2, 0, none⟩ = some (.float .f64 13830554455654793216) := hc0
  have hc1' : w13.cell? ⟨g2, 1, none⟩ = some (.float .f64 4607182418800017408) := hc1
  have HC2 := Lib.hid (show (∀ u, Below w13.heap.size w13 u → u.cell? ⟨g2, 0, none⟩ = some (.float .f64 13830554455654793216) ∧ u.cell? ⟨g2, 1, none⟩ = some (.float .f64 4607182418800017408)) from fun u hu => ⟨((below_cells hu).1 _ 0 hl2).trans hc0', ((below_cells hu).1 _ 1 hl2).trans hc1'⟩)
  have HBw := Lib.hid hBw
  clear hC1 hc0 hc1 hl2 hc0' hc1' R1 R2 hBw
  have h0 := below_drewN 1 (Below.refl w13.heap.size w13)
  have q1 : feq 13830554455654793216 13830554455654793216 = true := by kernel_rfl
  have q2 : feq 4607182418800017408 4607182418800017408 = true := by kernel_rfl
  have q3 : feq 4611686018427387904 4611686018427387904 = true := by kernel_rfl
  have HNr1 : Hid (∀ u, Calls Try.prog 71 #[.float .f64 13830554455654793216, .float .f64 13830554455654793216] u fun e w' => e = .returned (.bool true) ∧ Below u.heap.size u w') := fun u => by
    have := near_any u 13830554455654793216 13830554455654793216 (by decide)
    rw [show flt (fabs (fsub 13830554455654793216 13830554455654793216)) 4382569440205035030 = true from by kernel_rfl] at this
    exact this
  have HNr2 : Hid (∀ u, Calls Try.prog 71 #[.float .f64 4607182418800017408, .float .f64 4607182418800017408] u fun e w' => e = .returned (.bool true) ∧ Below u.heap.size u w') := fun u => by
    have := near_any u 4607182418800017408 4607182418800017408 (by decide)
    rw [show flt (fabs (fsub 4607182418800017408 4607182418800017408)) 4382569440205035030 = true from by kernel_rfl] at this
    exact this
  have HP0 : Hid (∀ u, Calls Try.prog 46 #[.float .f64 9223372036854775808] u fun e w' => e = .returned (.int .i64 0) ∧ u = w') := fun u => by
    have := Place_any 9223372036854775808 (by decide) u
    rw [show plN 9223372036854775808 = 0 from by kernel_rfl] at this
    exact this
  have HP1 : Hid (∀ u, Calls Try.prog 46 #[.float .f64 1] u fun e w' => e = .returned (.int .i64 1) ∧ u = w') := fun u => by
    have := Place_any 1 (by decide) u
    rw [show plN 1 = 1 from by kernel_rfl] at this
    exact this
  have HP2 : Hid (∀ u, Calls Try.prog 46 #[.float .f64 9223372036854775809] u fun e w' => e = .returned (.int .i64 (-1)) ∧ u = w') := fun u => by
    have := Place_any 9223372036854775809 (by decide) u
    rw [show plN 9223372036854775809 = -1 from by kernel_rfl] at this
    exact this
  have HSF : Hid (∀ u, Below w13.heap.size w13 u → Calls Try.prog 60 #[.slice (some ⟨g1, 0, none⟩) 3 cap1, .slice (some ⟨u.heap.size, 0, none⟩) 3 3] (u.alloc (.cells #[.float .f64 4607182418800017408, .float .f64 4611686018427387904, .float .f64 4613937818241073152] 35)) fun e w' => e = .returned (.bool true) ∧ Below (u.alloc (.cells #[.float .f64 4607182418800017408, .float .f64 4611686018427387904, .float .f64 4613937818241073152] 35)).heap.size (u.alloc (.cells #[.float .f64 4607182418800017408, .float .f64 4611686018427387904, .float .f64 4613937818241073152] 35)) w') := fun u hu => by
    have hb : Box (u.alloc (.cells #[.float .f64 4607182418800017408, .float .f64 4611686018427387904, .float .f64 4613937818241073152] 35)) u.heap.size [.float .f64 4607182418800017408, .float .f64 4611686018427387904, .float .f64 4613937818241073152] := Box.newA u [_, _, _] _ rfl
    have h2 : Cel (u.alloc (.cells #[.float .f64 4607182418800017408, .float .f64 4611686018427387904, .float .f64 4613937818241073152] 35)) (some ⟨u.heap.size, 0, none⟩) [4607182418800017408, 4611686018427387904, 4613937818241073152] := fun _ => ⟨u.heap.size, 0, rfl, hb.lt, fun i v hi => by rw [hb.cell, Nat.zero_add]; show (([4607182418800017408, 4611686018427387904, 4613937818241073152] : List Nat).map (Value.float .f64))[i]? = _; rw [List.getElem?_map, hi]; rfl⟩
    have h1 := (HC1.out.below hu).below ((Below.refl _ _).alloc (o := .cells #[.float .f64 4607182418800017408, .float .f64 4611686018427387904, .float .f64 4613937818241073152] 35) (Nat.le_refl _))
    have := SameFloats_any (u.alloc (.cells #[.float .f64 4607182418800017408, .float .f64 4611686018427387904, .float .f64 4613937818241073152] 35)) (some ⟨g1, 0, none⟩) (some ⟨u.heap.size, 0, none⟩) [4607182418800017408, 4611686018427387904, 4613937818241073152] [4607182418800017408, 4611686018427387904, 4613937818241073152] cap1 3 h1 h2 (by intro v hv; simp at hv; omega) (by intro v hv; simp at hv; omega) (by decide) (by decide)
    rw [show sameFs [4607182418800017408, 4611686018427387904, 4613937818241073152] [4607182418800017408, 4611686018427387904, 4613937818241073152] = true from by kernel_rfl] at this
    exact this
  clear h0
  generalize findM [4611686018427387904] [] 0 = m1 at *
  generalize findM [4611686018427387904] [] 1 = m2 at *
  generalize findX [4611686018427387904] [] 1 = m3 at *
  generalize allM [4613937818241073152, 4607182418800017408, 4611686018427387904] [0, 0] ([4613937818241073152, 4607182418800017408, 4611686018427387904] : List Nat).length = m4 at *
  generalize allM [0, 0] [4607182418800017408] ([0, 0] : List Nat).length = m5 at *
  have hr := Below.refl w13.heap.size w13
  obtain ⟨hX1, hX2⟩ := HC2.out _ hr
  refine (num13_any _ _).mono ?_
  rintro e w' ⟨rfl, rfl⟩
  go_wp2_with (go_at_call 38; refine (num13_any _ _).mono ?_; rintro e w' ⟨rfl, rfl⟩)
  refine (HSF.out _ hr).mono ?_
  rintro e w14 ⟨rfl, hb⟩
  have hA : Below w13.heap.size w13 (w13.alloc (.cells #[.float .f64 4607182418800017408, .float .f64 4611686018427387904, .float .f64 4613937818241073152] 35)) := (Below.refl _ _).alloc (Nat.le_refl _) _
  have h14 := below_step hA hA.size hb
  clear hX1 hX2 hr hA hb
  obtain ⟨hX1, hX2⟩ := HC2.out _ h14
  go_wp2_with fail
  refine (HNr1.out _).mono ?_
  rintro e w15 ⟨rfl, hb⟩
  have h15 := below_step h14 h14.size hb
  clear hX1 hX2 hb
  obtain ⟨hX1, hX2⟩ := HC2.out _ h15
  go_wp2_with fail
  refine (HNr2.out _).mono ?_
  rintro e w16 ⟨rfl, hb⟩
  have h16 := below_step h15 h15.size hb
  clear hX1 hX2 hb
  go_wp2_with (go_at_call 38; refine (num13_any _ _).mono ?_; rintro e w' ⟨rfl, rfl⟩)
  refine (Copysign_c _).mono ?_
  rintro e w' ⟨rfl, rfl⟩
  go_wp2_with fail
  refine (HP0.out _).mono ?_
  rintro e w' ⟨rfl, rfl⟩
  go_wp2_with fail
  refine (HP1.out _).mono ?_
  rintro e w' ⟨rfl, rfl⟩
  go_wp2_with fail
  refine (HP2.out _).mono ?_
  rintro e w' ⟨rfl, rfl⟩
  go_wp2
  go_ret
  exact ⟨rfl, below_step HBw.out HBw.out.size h16⟩
end Go.Proofs.Ytogkmddhgfenkaa
