/- The sturm law's own rows hold. -/
import Derived.Test.YtogkmddhgfenkaaZz14
import Derived.Test.YtogkmddhgfenkaaZz4
import Derived.Test.YtogkmddhgfenkaaZz8
import Derived.Test.YtogkmddhgfenkaaZz2
import Derived.Test.YtogkmddhgfenkaaZz3
namespace Go.Proofs.Ytogkmddhgfenkaa
open Go Go.RowKit Go.Shelf
set_option maxRecDepth 100000

theorem num13_any (n : Int) (w : World) : Calls Try.prog 38 #[.int .i64 n] w fun e w' => e = .returned (.int .i64 n) ∧ w = w' := by
  go_enter Try.func38, Try.ntmps38
  go_wp2
  go_ret
  exact ⟨rfl, rfl⟩
theorem Count_c (w : World) (da ea : Option Addr) (ds es : List Nat) (dc ec : Nat) (x : Nat) (hx : isnan x = false) (hD : Fls w da ds) (hE : Fls w ea es) (hl : ds.length ≤ 1000) (hl' : es.length ≤ 1000) :
    Calls Try.prog 44 #[.agg #[.slice da ds.length dc, .slice ea es.length ec], .float .f64 x] w fun e w' => e = .returned (.tuple #[.int .i64 (cntN ds es x), .int .i64 (askS ds es [x])]) ∧ Below w.heap.size w w' := by
  have := Count_any w da ea ds es dc ec x 0 hD hE hl hl'
  rw [raw_of_not hx] at this
  exact this
theorem ownsRow_dnS {A B : World} {base size n : Nat} {e : TypeId} {v : Value} {xs : List Value} (h : A.ownsRow base e size v n xs) (hb : Below A.heap.size A B) : B.ownsRow base e size v n xs := by
  refine ⟨h.1, ?_⟩
  rcases h.2 with h0 | ⟨g, cap, cur, h1, h2, h3, h4⟩
  · exact .inl h0
  · exact .inr ⟨g, cap, cur, h1, h2, by rw [hb.block g (Array.getElem?_eq_some_iff.1 h3).1]; exact h3, h4⟩
theorem fls_none (W : World) : Fls W none [] := fun h => absurd rfl h

set_option maxHeartbeats 16000000 in
theorem known13 (w : World) : Calls Try.prog 34 #[] w fun e w' => e = .returned (.bool true) ∧ Below w.heap.size w w' := by
  go_enter Try.func34, Try.ntmps34
  have hBw := Below.refl w.heap.size w
  have hA : Below w.heap.size w (w.alloc (.cells #[.float .f64 4611686018427387904] 35)) := (Below.refl _ _).alloc (Nat.le_refl _) _
  have F1 : Fls (w.alloc (.cells #[.float .f64 4611686018427387904] 35)) (some ⟨w.heap.size, 0, none⟩) [4611686018427387904] := fls_box (xs := [4611686018427387904]) (show Box _ _ [.float .f64 4611686018427387904] from Box.newA _ [_] _ (by simp)) (by kernel_rfl)
  replace hBw := below_step hBw hBw.size hA
  go_wp2_with fail
  refine (Tri_any _ _ _ _ _ _ _).mono ?_
  rintro e w1 ⟨rfl, hb⟩
  replace hBw := below_step hBw hBw.size hb
  replace F1 := F1.below hb
  clear hb hA
  have X1 : Box (w1.alloc (.cells #[.slice (some ⟨w.heap.size, 0, none⟩) 1 1, .slice none 0 0] 51)) w1.heap.size [.slice (some ⟨w.heap.size, 0, none⟩) 1 1, .slice none 0 0] := Box.newA w1 [_, _] _ rfl
  have hA : Below w1.heap.size w1 (w1.alloc (.cells #[.slice (some ⟨w.heap.size, 0, none⟩) 1 1, .slice none 0 0] 51)) := (Below.refl _ _).alloc (Nat.le_refl _) _
  replace hBw := below_step hBw hBw.size hA
  replace F1 := F1.below hA
  clear hA
  have hA : Below (w1.alloc (.cells #[.slice (some ⟨w.heap.size, 0, none⟩) 1 1, .slice none 0 0] 51)).heap.size (w1.alloc (.cells #[.slice (some ⟨w.heap.size, 0, none⟩) 1 1, .slice none 0 0] 51)) (((w1.alloc (.cells #[.slice (some ⟨w.heap.size, 0, none⟩) 1 1, .slice none 0 0] 51)).alloc (.cells #[.float .f64 4611686018427387904, .float .f64 4607182418800017408] 35)).alloc (.cells #[.float .f64 0] 35)) := ((Below.refl _ _).alloc (Nat.le_refl _) _).alloc (by simp) _
  have F2 : Fls (((w1.alloc (.cells #[.slice (some ⟨w.heap.size, 0, none⟩) 1 1, .slice none 0 0] 51)).alloc (.cells #[.float .f64 4611686018427387904, .float .f64 4607182418800017408] 35)).alloc (.cells #[.float .f64 0] 35)) (some ⟨w1.heap.size + 1, 0, none⟩) [4611686018427387904, 4607182418800017408] := fls_box (xs := [4611686018427387904, 4607182418800017408]) (show Box _ _ [.float .f64 4611686018427387904, .float .f64 4607182418800017408] from Box.alloc (Box.newA _ [_, _] _ (by simp)) _) (by kernel_rfl)
  have G2 : Fls (((w1.alloc (.cells #[.slice (some ⟨w.heap.size, 0, none⟩) 1 1, .slice none 0 0] 51)).alloc (.cells #[.float .f64 4611686018427387904, .float .f64 4607182418800017408] 35)).alloc (.cells #[.float .f64 0] 35)) (some ⟨w1.heap.size + 2, 0, none⟩) [0] := fls_box (xs := [0]) (show Box _ _ [.float .f64 0] from Box.newA _ [_] _ (by simp)) (by kernel_rfl)
  replace hBw := below_step hBw hBw.size hA
  replace F1 := F1.below hA
  replace X1 := X1.below hA
  clear hA
  go_wp2_with fail
  refine (Tri_any _ _ _ _ _ _ _).mono ?_
  rintro e w2 ⟨rfl, hb⟩
  replace hBw := below_step hBw hBw.size hb
  replace F1 := F1.below hb
  replace X1 := X1.below hb
  replace F2 := F2.below hb
  replace G2 := G2.below hb
  clear hb
  go_wp2_with fail
  refine (Count_c _ _ _ [4611686018427387904, 4607182418800017408] [0] _ _ 4609434218613702656 (by kernel_rfl) F2 G2 (by decide) (by decide)).mono ?_
  rintro e w3 ⟨rfl, hb⟩
  rw [kn1, kn1e]
  replace hBw := below_step hBw hBw.size hb
  replace F1 := F1.below hb
  replace X1 := X1.below hb
  replace F2 := F2.below hb
  replace G2 := G2.below hb
  clear hb F2 G2
  obtain ⟨a1, a2, a3⟩ := X1.facts
  go_wp2_with fail
  refine (Count_c _ _ _ [4611686018427387904] [] _ _ 4611686018427387904 (by kernel_rfl) F1 (fls_none _) (by decide) (by decide)).mono ?_
  rintro e w4 ⟨rfl, hb⟩
  clear a1 a2 a3
  rw [kn2, kn2e]
  replace hBw := below_step hBw hBw.size hb
  replace F1 := F1.below hb
  replace X1 := X1.below hb
  clear hb
  obtain ⟨a1, a2, a3⟩ := X1.facts
  go_wp2_with fail
  refine (Count_c _ _ _ [4611686018427387904] [] _ _ 4612811918334230528 (by kernel_rfl) F1 (fls_none _) (by decide) (by decide)).mono ?_
  rintro e w5 ⟨rfl, hb⟩
  clear a1 a2 a3
  rw [kn3, kn3e]
  replace hBw := below_step hBw hBw.size hb
  replace F1 := F1.below hb
  replace X1 := X1.below hb
  clear hb
  have hA : Below w5.heap.size w5 ((w5.alloc (.cells #[.float .f64 0, .float .f64 0] 35)).alloc (.cells #[.float .f64 4607182418800017408] 35)) := ((Below.refl _ _).alloc (Nat.le_refl _) _).alloc (by simp) _
  have F8 : Fls ((w5.alloc (.cells #[.float .f64 0, .float .f64 0] 35)).alloc (.cells #[.float .f64 4607182418800017408] 35)) (some ⟨w5.heap.size, 0, none⟩) [0, 0] := fls_box (xs := [0, 0]) (show Box _ _ [.float .f64 0, .float .f64 0] from (Box.alloc (Box.newA _ [_, _] _ (by simp)) _)) (by kernel_rfl)
  have G8 : Fls ((w5.alloc (.cells #[.float .f64 0, .float .f64 0] 35)).alloc (.cells #[.float .f64 4607182418800017408] 35)) (some ⟨(w5.heap.size + 1), 0, none⟩) [4607182418800017408] := fls_box (xs := [4607182418800017408]) (show Box _ _ [.float .f64 4607182418800017408] from Box.newA _ [_] _ (by simp)) (by kernel_rfl)
  replace hBw := below_step hBw hBw.size hA
  replace F1 := F1.below hA
  replace X1 := X1.below hA
  clear hA
  go_wp2_with fail
  refine (Tri_any _ _ _ _ _ _ _).mono ?_
  rintro e w6 ⟨rfl, hb⟩
  replace hBw := below_step hBw hBw.size hb
  replace F1 := F1.below hb
  replace X1 := X1.below hb
  replace F8 := F8.below hb
  replace G8 := G8.below hb
  clear hb
  have X8 : Box (w6.alloc (.cells #[.slice (some ⟨w5.heap.size, 0, none⟩) 2 2, .slice (some ⟨w5.heap.size + 1, 0, none⟩) 1 1] 51)) w6.heap.size [.slice (some ⟨w5.heap.size, 0, none⟩) 2 2, .slice (some ⟨w5.heap.size + 1, 0, none⟩) 1 1] := Box.newA w6 [_, _] _ rfl
  have hA : Below w6.heap.size w6 (w6.alloc (.cells #[.slice (some ⟨w5.heap.size, 0, none⟩) 2 2, .slice (some ⟨w5.heap.size + 1, 0, none⟩) 1 1] 51)) := (Below.refl _ _).alloc (Nat.le_refl _) _
  replace hBw := below_step hBw hBw.size hA
  replace F1 := F1.below hA
  replace X1 := X1.below hA
  replace F8 := F8.below hA
  replace G8 := G8.below hA
  clear hA
  obtain ⟨a1, a2, a3⟩ := X8.facts
  go_wp2_with fail
  refine (Bounds_any _ _ _ [0, 0] [4607182418800017408] _ _ F8 G8 (by intro v hv; simp at hv; omega) (by decide) (by decide)).mono ?_
  rintro e w7 ⟨lo, hi, s1, s2, rfl, hg, _, hb⟩
  clear a1 a2 a3
  obtain ⟨rfl, rfl⟩ := hg kn4e
  rw [show (bndL [0, 0] [4607182418800017408] ([0, 0] : List Nat).length) = (13830554455654793216, 4607182418800017408) from kn4, kn4e, raw_of_not (show isnan ((13830554455654793216, 4607182418800017408) : Nat × Nat).1 = false by kernel_rfl), raw_of_not (show isnan ((13830554455654793216, 4607182418800017408) : Nat × Nat).2 = false by kernel_rfl)]
  clear hg
  replace hBw := below_step hBw hBw.size hb
  replace F1 := F1.below hb
  replace X1 := X1.below hb
  replace F8 := F8.below hb
  replace G8 := G8.below hb
  replace X8 := X8.below hb
  clear hb
  obtain ⟨a1, a2, a3⟩ := X1.facts
  go_wp2_with fail
  refine (Find_any _ _ _ [4611686018427387904] [] _ _ 0 F1 (fls_none _) (by intro v hv; cases hv) (by decide) (by decide)).mono ?_
  rintro e w8 ⟨rfl, hb⟩
  clear a1 a2 a3
  rw [kn5, kn5e]
  replace hBw := below_step hBw hBw.size hb
  replace F1 := F1.below hb
  replace X1 := X1.below hb
  replace F8 := F8.below hb
  replace G8 := G8.below hb
  replace X8 := X8.below hb
  clear hb
  have hA : Below w8.heap.size w8 ((w8.alloc (.cells #[.float .f64 4613937818241073152, .float .f64 4607182418800017408, .float .f64 4611686018427387904] 35)).alloc (.cells #[.float .f64 0, .float .f64 0] 35)) := ((Below.refl _ _).alloc (Nat.le_refl _) _).alloc (by simp) _
  have F9 : Fls ((w8.alloc (.cells #[.float .f64 4613937818241073152, .float .f64 4607182418800017408, .float .f64 4611686018427387904] 35)).alloc (.cells #[.float .f64 0, .float .f64 0] 35)) (some ⟨w8.heap.size, 0, none⟩) [4613937818241073152, 4607182418800017408, 4611686018427387904] := fls_box (xs := [4613937818241073152, 4607182418800017408, 4611686018427387904]) (show Box _ _ [.float .f64 4613937818241073152, .float .f64 4607182418800017408, .float .f64 4611686018427387904] from (Box.alloc (Box.newA _ [_, _, _] _ (by simp)) _)) (by kernel_rfl)
  have G9 : Fls ((w8.alloc (.cells #[.float .f64 4613937818241073152, .float .f64 4607182418800017408, .float .f64 4611686018427387904] 35)).alloc (.cells #[.float .f64 0, .float .f64 0] 35)) (some ⟨(w8.heap.size + 1), 0, none⟩) [0, 0] := fls_box (xs := [0, 0]) (show Box _ _ [.float .f64 0, .float .f64 0] from Box.newA _ [_, _] _ (by simp)) (by kernel_rfl)
  replace hBw := below_step hBw hBw.size hA
  replace F1 := F1.below hA
  replace X1 := X1.below hA
  replace F8 := F8.below hA
  replace G8 := G8.below hA
  replace X8 := X8.below hA
  clear hA
  go_wp2_with fail
  refine (Tri_any _ _ _ _ _ _ _).mono ?_
  rintro e w9 ⟨rfl, hb⟩
  replace hBw := below_step hBw hBw.size hb
  replace F1 := F1.below hb
  replace X1 := X1.below hb
  replace F8 := F8.below hb
  replace G8 := G8.below hb
  replace X8 := X8.below hb
  replace F9 := F9.below hb
  replace G9 := G9.below hb
  clear hb
  go_wp2_with fail
  refine (All_in _ _ _ [4613937818241073152, 4607182418800017408, 4611686018427387904] [0, 0] _ _ F9 G9 (by intro v hv; simp at hv; omega) (by decide) (by decide) kn6e).mono ?_
  rintro e w10 ⟨sv1, rfl, R1, hb⟩
  rw [show allL [4613937818241073152, 4607182418800017408, 4611686018427387904] [0, 0] ([4613937818241073152, 4607182418800017408, 4611686018427387904] : List Nat).length = [4607182418800017408, 4611686018427387904, 4613937818241073152] from kn6] at R1
  replace hBw := below_step hBw hBw.size hb
  replace F1 := F1.below hb
  replace X1 := X1.below hb
  replace F8 := F8.below hb
  replace G8 := G8.below hb
  replace X8 := X8.below hb
  replace F9 := F9.below hb
  replace G9 := G9.below hb
  clear hb F9 G9
  obtain ⟨a1, a2, a3⟩ := X8.facts
  go_wp2_with fail
  refine (All_in _ _ _ [0, 0] [4607182418800017408] _ _ F8 G8 (by intro v hv; simp at hv; omega) (by decide) (by decide) kn4e).mono ?_
  rintro e w11 ⟨sv2, rfl, R2, hb⟩
  clear a1 a2 a3
  rw [show allL [0, 0] [4607182418800017408] ([0, 0] : List Nat).length = [13830554455654793216, 4607182418800017408] from kn7] at R2
  replace hBw := below_step hBw hBw.size hb
  replace F1 := F1.below hb
  replace X1 := X1.below hb
  replace F8 := F8.below hb
  replace G8 := G8.below hb
  replace X8 := X8.below hb
  replace R1 := ownsRow_dnS R1 hb
  clear hb F8 G8 X8
  obtain ⟨a1, a2, a3⟩ := X1.facts
  go_wp2_with fail
  refine (Find_any _ _ _ [4611686018427387904] [] _ _ 1 F1 (fls_none _) (by intro v hv; cases hv) (by decide) (by decide)).mono ?_
  rintro e w12 ⟨rfl, hb⟩
  clear a1 a2 a3
  rw [kn8]
  replace hBw := below_step hBw hBw.size hb
  replace F1 := F1.below hb
  replace X1 := X1.below hb
  replace R1 := ownsRow_dnS R1 hb
  replace R2 := ownsRow_dnS R2 hb
  clear hb F1 X1
  go_wp2_with fail
  refine (All_nil _).mono ?_
  rintro e w13 ⟨rfl, hb⟩
  replace hBw := below_step hBw hBw.size hb
  replace R1 := ownsRow_dnS R1 hb
  replace R2 := ownsRow_dnS R2 hb
  clear hb
  go_wp2_with fail
  obtain ⟨g1, cap1, rfl, _, _⟩ := ownsRow_atS R1 (k := 0) (by decide)
  obtain ⟨g2, cap2, rfl, hc0, hl2⟩ := ownsRow_atS R2 (k := 0) (by decide)
  have hc1 := R2.cellAt 1 (by decide)
  have hC1 : Cel w13 (some ⟨g1, 0, none⟩) [4607182418800017408, 4611686018427387904, 4613937818241073152] := fun _ => ⟨g1, 0, rfl, (R1.lt g1 rfl).2, fun i v hi => by
    have hi3 : i < 3 := (List.getElem?_eq_some_iff.1 hi).1
    rw [Nat.zero_add, R1.cellAt i (by show i < 3 * 1; omega), List.getElem?_map, hi]; rfl⟩
  have HC1 := Lib.hid hC1
  have hc0' : w13.cell? ⟨g2, 0, none⟩ = some (.float .f64 13830554455654793216) := hc0
  have hc1' : w13.cell? ⟨g2, 1, none⟩ = some (.float .f64 4607182418800017408) := hc1
  have HC2 := Lib.hid (show (∀ u, Below w13.heap.size w13 u → u.cell? ⟨g2, 0, none⟩ = some (.float .f64 13830554455654793216) ∧ u.cell? ⟨g2, 1, none⟩ = some (.float .f64 4607182418800017408)) from fun u hu => ⟨((below_cells hu).1 _ 0 hl2).trans hc0', ((below_cells hu).1 _ 1 hl2).trans hc1'⟩)
  have HBw := Lib.hid hBw
  clear hC1 hc0 hc1 hl2 hc0' hc1' R1 R2 hBw
  have h0 := below_drewN 1 (Below.refl w13.heap.size w13)
  have q1 : feq 13830554455654793216 13830554455654793216 = true := by kernel_rfl
  have q2 : feq 4607182418800017408 4607182418800017408 = true := by kernel_rfl
  have q3 : feq 4611686018427387904 4611686018427387904 = true := by kernel_rfl
  have HNr1 : Hid (∀ u, Calls Try.prog 71 #[.float .f64 13830554455654793216, .float .f64 13830554455654793216] u fun e w' => e = .returned (.bool true) ∧ Below u.heap.size u w') := fun u => by
    have := near_any u 13830554455654793216 13830554455654793216 (by decide)
    rw [show flt (fabs (fsub 13830554455654793216 13830554455654793216)) 4382569440205035030 = true from by kernel_rfl] at this
    exact this
  have HNr2 : Hid (∀ u, Calls Try.prog 71 #[.float .f64 4607182418800017408, .float .f64 4607182418800017408] u fun e w' => e = .returned (.bool true) ∧ Below u.heap.size u w') := fun u => by
    have := near_any u 4607182418800017408 4607182418800017408 (by decide)
    rw [show flt (fabs (fsub 4607182418800017408 4607182418800017408)) 4382569440205035030 = true from by kernel_rfl] at this
    exact this
  have HP0 : Hid (∀ u, Calls Try.prog 46 #[.float .f64 9223372036854775808] u fun e w' => e = .returned (.int .i64 0) ∧ u = w') := fun u => by
    have := Place_any 9223372036854775808 (by decide) u
    rw [show plN 9223372036854775808 = 0 from by kernel_rfl] at this
    exact this
  have HP1 : Hid (∀ u, Calls Try.prog 46 #[.float .f64 1] u fun e w' => e = .returned (.int .i64 1) ∧ u = w') := fun u => by
    have := Place_any 1 (by decide) u
    rw [show plN 1 = 1 from by kernel_rfl] at this
    exact this
  have HP2 : Hid (∀ u, Calls Try.prog 46 #[.float .f64 9223372036854775809] u fun e w' => e = .returned (.int .i64 (-1)) ∧ u = w') := fun u => by
    have := Place_any 9223372036854775809 (by decide) u
    rw [show plN 9223372036854775809 = -1 from by kernel_rfl] at this
    exact this
  have HSF : Hid (∀ u, Below w13.heap.size w13 u → Calls Try.prog 60 #[.slice (some ⟨g1, 0, none⟩) 3 cap1, .slice (some ⟨u.heap.size, 0, none⟩) 3 3] (u.alloc (.cells #[.float .f64 4607182418800017408, .float .f64 4611686018427387904, .float .f64 4613937818241073152] 35)) fun e w' => e = .returned (.bool true) ∧ Below (u.alloc (.cells #[.float .f64 4607182418800017408, .float .f64 4611686018427387904, .float .f64 4613937818241073152] 35)).heap.size (u.alloc (.cells #[.float .f64 4607182418800017408, .float .f64 4611686018427387904, .float .f64 4613937818241073152] 35)) w') := fun u hu => by
    have hb : Box (u.alloc (.cells #[.float .f64 4607182418800017408, .float .f64 4611686018427387904, .float .f64 4613937818241073152] 35)) u.heap.size [.float .f64 4607182418800017408, .float .f64 4611686018427387904, .float .f64 4613937818241073152] := Box.newA u [_, _, _] _ rfl
    have h2 : Cel (u.alloc (.cells #[.float .f64 4607182418800017408, .float .f64 4611686018427387904, .float .f64 4613937818241073152] 35)) (some ⟨u.heap.size, 0, none⟩) [4607182418800017408, 4611686018427387904, 4613937818241073152] := fun _ => ⟨u.heap.size, 0, rfl, hb.lt, fun i v hi => by rw [hb.cell, Nat.zero_add]; show (([4607182418800017408, 4611686018427387904, 4613937818241073152] : List Nat).map (Value.float .f64))[i]? = _; rw [List.getElem?_map, hi]; rfl⟩
    have h1 := (HC1.out.below hu).below ((Below.refl _ _).alloc (o := .cells #[.float .f64 4607182418800017408, .float .f64 4611686018427387904, .float .f64 4613937818241073152] 35) (Nat.le_refl _))
    have := SameFloats_any (u.alloc (.cells #[.float .f64 4607182418800017408, .float .f64 4611686018427387904, .float .f64 4613937818241073152] 35)) (some ⟨g1, 0, none⟩) (some ⟨u.heap.size, 0, none⟩) [4607182418800017408, 4611686018427387904, 4613937818241073152] [4607182418800017408, 4611686018427387904, 4613937818241073152] cap1 3 h1 h2 (by intro v hv; simp at hv; omega) (by intro v hv; simp at hv; omega) (by decide) (by decide)
    rw [show sameFs [4607182418800017408, 4611686018427387904, 4613937818241073152] [4607182418800017408, 4611686018427387904, 4613937818241073152] = true from by kernel_rfl] at this
    exact this
  clear h0
  generalize findM [4611686018427387904] [] 0 = m1 at *
  generalize findM [4611686018427387904] [] 1 = m2 at *
  generalize findX [4611686018427387904] [] 1 = m3 at *
  generalize allM [4613937818241073152, 4607182418800017408, 4611686018427387904] [0, 0] ([4613937818241073152, 4607182418800017408, 4611686018427387904] : List Nat).length = m4 at *
  generalize allM [0, 0] [4607182418800017408] ([0, 0] : List Nat).length = m5 at *
  have hr := Below.refl w13.heap.size w13
  obtain ⟨hX1, hX2⟩ := HC2.out _ hr
  refine (num13_any _ _).mono ?_
  rintro e w' ⟨rfl, rfl⟩
  go_wp2_with (go_at_call 38; refine (num13_any _ _).mono ?_; rintro e w' ⟨rfl, rfl⟩)
  refine (HSF.out _ hr).mono ?_
  rintro e w14 ⟨rfl, hb⟩
  have hA : Below w13.heap.size w13 (w13.alloc (.cells #[.float .f64 4607182418800017408, .float .f64 4611686018427387904, .float .f64 4613937818241073152] 35)) := (Below.refl _ _).alloc (Nat.le_refl _) _
  have h14 := below_step hA hA.size hb
  clear hX1 hX2 hr hA hb
  obtain ⟨hX1, hX2⟩ := HC2.out _ h14
  go_wp2_with fail
  refine (HNr1.out _).mono ?_
  rintro e w15 ⟨rfl, hb⟩
  have h15 := below_step h14 h14.size hb
  clear hX1 hX2 hb
  obtain ⟨hX1, hX2⟩ := HC2.out _ h15
  go_wp2_with fail
  refine (HNr2.out _).mono ?_
  rintro e w16 ⟨rfl, hb⟩
  have h16 := below_step h15 h15.size hb
  clear hX1 hX2 hb
  go_wp2_with (go_at_call 38; refine (num13_any _ _).mono ?_; rintro e w' ⟨rfl, rfl⟩)
  refine (Copysign_c _).mono ?_
  rintro e w' ⟨rfl, rfl⟩
  go_wp2_with fail
  refine (HP0.out _).mono ?_
  rintro e w' ⟨rfl, rfl⟩
  go_wp2_with fail
  refine (HP1.out _).mono ?_
  rintro e w' ⟨rfl, rfl⟩
  go_wp2_with fail
  refine (HP2.out _).mono ?_
  rintro e w' ⟨rfl, rfl⟩
  go_wp2
  go_ret
  exact ⟨rfl, below_step HBw.out HBw.out.size h16⟩
end Go.Proofs.Ytogkmddhgfenkaa

/- The sturm laws: bounds. -/
namespace Go.Proofs.Ytogkmddhgfenkaa
open Go Go.RowKit
set_option maxRecDepth 100000
theorem lt_app {c : Prop} [Decidable c] (h : c) : decide c = true := decide_eq_true h
set_option maxHeartbeats 1000000 in
theorem big_yes (w : World) (da ea : Option Addr) (n m dc ec k : Nat) (h : k < n ∨ k < m) :
    Calls Try.prog 33 #[.agg #[.slice da n dc, .slice ea m ec], .int .i64 k] w fun e w' => e = .returned (.bool true) ∧ Below w.heap.size w w' := by
  have hB0 : Below w.heap.size w (w.alloc (.cells #[.slice da n dc, .slice ea m ec] 51)) := (Below.refl _ _).alloc (Nat.le_refl _) _
  by_cases h1 : k < n
  · have t1 : decide ((k : Int) < (n : Int)) = true := decide_eq_true (by omega)
    have t1' : decide (k < n) = true := decide_eq_true h1
    clear h h1
    go_enter Try.func33, Try.ntmps33
    go_wp2
    go_ret
    exact ⟨rfl, hB0⟩
  · have t1 : decide ((k : Int) < (n : Int)) = false := decide_eq_false (by omega)
    have t1' : decide (k < n) = false := decide_eq_false h1
    have t2 : decide ((k : Int) < (m : Int)) = true := decide_eq_true (by omega)
    have t2' : decide (k < m) = true := decide_eq_true (by omega)
    clear h h1
    go_enter Try.func33, Try.ntmps33
    go_wp2
    go_ret
    exact ⟨rfl, hB0⟩
set_option maxHeartbeats 1000000 in
theorem big_no (w : World) (da ea : Option Addr) (n m dc ec k : Nat) (h : ¬ k < n) (h' : ¬ k < m) :
    Calls Try.prog 33 #[.agg #[.slice da n dc, .slice ea m ec], .int .i64 k] w fun e w' => e = .returned (.bool false) ∧ Below w.heap.size w w' := by
  have hB0 : Below w.heap.size w (w.alloc (.cells #[.slice da n dc, .slice ea m ec] 51)) := (Below.refl _ _).alloc (Nat.le_refl _) _
  have t1 : decide ((k : Int) < (n : Int)) = false := decide_eq_false (by omega)
  have t1' : decide (k < n) = false := decide_eq_false h
  have t2 : decide ((k : Int) < (m : Int)) = false := decide_eq_false (by omega)
  have t2' : decide (k < m) = false := decide_eq_false h'
  clear h h'
  go_enter Try.func33, Try.ntmps33
  go_wp2
  go_ret
  exact ⟨rfl, hB0⟩
set_option maxHeartbeats 1000000 in
theorem float13_raw (x s t : Nat) (hx : x < 18446744073709551616) (w : World) : Calls Try.prog 37 #[.float .f64 (raw x s), .float .f64 (raw x t)] w fun e w' => e = .returned (.bool true) ∧ w = w' := by
  have H1 := Lib.hid (fun W => nm_raw x s ▸ Bits_any (raw x s) (raw_lt hx s) W)
  have H2 := Lib.hid (fun W => nm_raw x t ▸ Bits_any (raw x t) (raw_lt hx t) W)
  have t0 : ((nm x : Int) == (nm x : Int)) = true := beq_self_eq_true _
  generalize nm x = z at *
  go_enter Try.func37, Try.ntmps37
  go_wp2_with fail
  refine (H1.out _).mono ?_
  rintro e w1 ⟨rfl, rfl⟩
  go_wp2_with fail
  refine (H2.out _).mono ?_
  rintro e w2 ⟨rfl, rfl⟩
  go_wp2
  go_ret
  exact ⟨rfl, rfl⟩
theorem float13_zero (w : World) : Calls Try.prog 37 #[.float .f64 0, .float .f64 0] w fun e w' => e = .returned (.bool true) ∧ w = w' := by
  have := float13_raw 0 0 0 (by decide) w
  rw [raw_of_not (by kernel_rfl)] at this
  exact this
theorem words_two {x y : Nat} (hx : x < 18446744073709551616) (hy : y < 18446744073709551616) : Words [x, y] := by
  intro v hv
  simp at hv
  rcases hv with rfl | rfl <;> assumption
theorem ask_len {ds es : List Nat} (h : askS ds es [] = 0) : es.length = ds.length - 1 := by
  unfold askS at h
  cases hm : mayS ds.length es.length
  · rw [hm] at h; cases h
  · unfold mayS at hm; simp at hm; exact hm.2
set_option maxHeartbeats 8000000 in
theorem bounds_any (w : World) (da ea : Option Addr) (ds es : List Nat) (dc ec : Nat) (hD : Fls w da ds) (hE : Fls w ea es) (hWd : Words ds) (hW : Words es) (hl : ds.length ≤ maxLen) (hl' : es.length ≤ maxLen) :
    Calls Try.prog 8 #[.agg #[.slice da ds.length dc, .slice ea es.length ec]] w fun e w' => e = .returned (.bool true) ∧ Below w.heap.size w w' := by
  have x0 : Box (w.alloc (.cells #[.slice da ds.length dc, .slice ea es.length ec] 51)) w.heap.size [.slice da ds.length dc, .slice ea es.length ec] := Box.newA w [_, _] _ rfl
  have hB0 : Below w.heap.size w (w.alloc (.cells #[.slice da ds.length dc, .slice ea es.length ec] 51)) := (Below.refl _ _).alloc (Nat.le_refl _) _
  by_cases hbig : 40 < ds.length ∨ 40 < es.length
  · have HB := Lib.hid (fun W => big_yes W da ea ds.length es.length dc ec 40 hbig)
    clear hD hE hWd hW hl hl' hbig
    go_enter Try.func8, Try.ntmps8
    go_wp2_with fail
    refine (HB.out _).mono ?_
    rintro e w1 ⟨rfl, hb1⟩
    have hB1 := below_step hB0 hB0.size hb1
    go_wp2_with fail
    refine (known13 _).mono ?_
    rintro e w2 ⟨rfl, hb2⟩
    go_wp2
    go_ret
    exact ⟨rfl, below_step hB1 hB1.size hb2⟩
  · have hn1 : ¬ 40 < ds.length := fun h => hbig (.inl h)
    have hn2 : ¬ 40 < es.length := fun h => hbig (.inr h)
    have HBig := Lib.hid (fun W => big_no W da ea ds.length es.length dc ec 40 hn1 hn2)
    have HBn := Lib.hid (fun W (hW' : Below w.heap.size w W) => Bounds_any W da ea ds es dc ec (hD.below hW') (hE.below hW') hW (by omega) (by omega))
    have HAsk := Lib.hid (fun W (hW' : Below w.heap.size w W) => askR_askS ds es ▸ RAsk_any W da ea ds es dc ec (hD.below hW') (hE.below hW') hWd hW hl hl')
    have HRB := Lib.hid (fun (h : askS ds es [] = 0) W (hW' : Below w.heap.size w W) => RBounds_any W da ea ds es dc ec (hD.below hW') (hE.below hW') hW (by omega) (ask_len h))
    have hln : ds.length ≤ 40 := by omega
    have hbl := bndL_lt ds es ds.length
    have HE : Hid (bndE ds es = if askS ds es [] = 0 then (if ds.length = 0 then 2 else if fnS (bndL ds es ds.length).1 && fnS (bndL ds es ds.length).2 then 0 else 10) else askS ds es []) := rfl
    rw [fnS_ffin, fnS_ffin] at HE
    clear hD hE hWd hW hl hl' hbig hn1 hn2
    generalize (bndL ds es ds.length).1 = blo at *
    generalize (bndL ds es ds.length).2 = bhi at *
    generalize bndE ds es = eB at *
    generalize askS ds es [] = ak at *
    go_enter Try.func8, Try.ntmps8
    go_wp2_with fail
    refine (HBig.out _).mono ?_
    rintro e w1 ⟨rfl, hb1⟩
    have x1 := x0.below hb1
    have hB1 := below_step hB0 hB0.size hb1
    obtain ⟨q1, q2, q3⟩ := x1.facts
    clear x0 hB0 hb1 HBig
    go_wp2_with fail
    refine (HBn.out _ hB1).mono ?_
    rintro e w2 ⟨lo, hi, s1, s2, rfl, g0, g1, hb2⟩
    have x2 := x1.below hb2
    have hB2 := below_step hB1 hB1.size hb2
    have G := Lib.hid (And.intro g0 g1)
    clear x1 hB1 hb2 q1 q2 q3 g0 g1 HBn
    obtain ⟨q1, q2, q3⟩ := x2.facts
    go_wp2_with fail
    refine (HAsk.out _ hB2).mono ?_
    rintro e w3 ⟨rfl, hb3⟩
    have x3 := x2.below hb3
    have hB3 := below_step hB2 hB2.size hb3
    clear x2 hB2 hb3 q1 q2 q3 HAsk
    obtain ⟨q1, q2, q3⟩ := x3.facts
    have HZ := Lib.hid (fun W => float13_zero W)
    have HNum := Lib.hid (fun n W => num13_any n W)
    by_cases h0 : ak = 0
    case neg =>
      have hE2 : eB = ak := by rw [HE.out, if_neg h0]
      subst hE2
      obtain ⟨rfl, rfl⟩ := G.out.2 h0
      rw [raw_of_not (show isnan 0 = false by kernel_rfl) s1, raw_of_not (show isnan 0 = false by kernel_rfl) s2]
      have t1 : (eB == 0) = false := by simp [h0]
      have t2 : (eB != 0) = true := by simp [h0]
      have t3 : (eB == eB) = true := beq_self_eq_true _
      clear h0
      go_wp2_with fail
      refine (HZ.out _).mono ?_
      rintro e w' ⟨rfl, rfl⟩
      go_wp2_with fail
      refine (HZ.out _).mono ?_
      rintro e w' ⟨rfl, rfl⟩
      go_wp2_with fail
      refine (HNum.out _ _).mono ?_
      rintro e w' ⟨rfl, rfl⟩
      go_wp2_with fail
      refine (known13 _).mono ?_
      rintro e w4 ⟨rfl, hb4⟩
      go_wp2
      go_ret
      exact ⟨rfl, below_step hB3 hB3.size hb4⟩
    case pos =>
      subst h0
      have HRB2 := Lib.hid (HRB.out rfl)
      by_cases hz : ds.length = 0
      · have hE2 : eB = 2 := by rw [HE.out, if_pos rfl, if_pos hz]
        subst hE2
        obtain ⟨rfl, rfl⟩ := G.out.2 (by decide)
        rw [raw_of_not (show isnan 0 = false by kernel_rfl) s1, raw_of_not (show isnan 0 = false by kernel_rfl) s2]
        have t1 : ((ds.length : Int) == 0) = true := by rw [beq_iff_eq]; omega
        clear hz
        go_wp2_with fail
        refine (HZ.out _).mono ?_
        rintro e w' ⟨rfl, rfl⟩
        go_wp2_with fail
        refine (HZ.out _).mono ?_
        rintro e w' ⟨rfl, rfl⟩
        go_wp2_with fail
        refine (HNum.out _ _).mono ?_
        rintro e w' ⟨rfl, rfl⟩
        go_wp2_with fail
        refine (known13 _).mono ?_
        rintro e w4 ⟨rfl, hb4⟩
        go_wp2
        go_ret
        exact ⟨rfl, below_step hB3 hB3.size hb4⟩
      · have hE2 : eB = if (ffin blo && ffin bhi) = true then 0 else 10 := by rw [HE.out, if_pos rfl, if_neg hz]
        have t1 : ((ds.length : Int) == 0) = false := by rw [beq_eq_false_iff_ne]; omega
        have HE2 := Lib.hid hE2
        clear hz hE2 hln
        go_wp2_with fail
        refine (HRB2.out _ hB3).mono ?_
        rintro e w4 ⟨⟨s3, s4, rfl⟩, hb4⟩
        have hB4 := below_step hB3 hB3.size hb4
        clear q1 q2 q3 x3 hB3 hb4 t1
        have hA5 : Below w4.heap.size w4 (w4.alloc (.cells #[.float .f64 (raw blo s3), .float .f64 (raw bhi s4)] 35)) := (Below.refl _ _).alloc (Nat.le_refl _) _
        have HFin := Lib.hid (RFinite_any (w4.alloc (.cells #[.float .f64 (raw blo s3), .float .f64 (raw bhi s4)] 35)) (some ⟨w4.heap.size, 0, none⟩) [blo, bhi] 2 (fls_two w4 35 blo s3 bhi s4) (words_two hbl.1 hbl.2) (by unfold maxLen; simp))
        have hB5 := below_step hB4 hB4.size hA5
        have ea : [blo, bhi].all ffin = (ffin blo && ffin bhi) := by simp
        rw [ea] at HFin
        clear ea hA5 hB4
        go_wp2_with fail
        refine HFin.out.mono ?_
        rintro e w' ⟨rfl, rfl⟩
        cases hf : (ffin blo && ffin bhi)
        · rw [hf] at HE2
          have hE3 : eB = 10 := HE2.out
          subst hE3
          obtain ⟨rfl, rfl⟩ := G.out.2 (by decide)
          rw [raw_of_not (show isnan 0 = false by kernel_rfl) s1, raw_of_not (show isnan 0 = false by kernel_rfl) s2]
          go_wp2_with fail
          refine (HZ.out _).mono ?_
          rintro e w' ⟨rfl, rfl⟩
          go_wp2_with fail
          refine (HZ.out _).mono ?_
          rintro e w' ⟨rfl, rfl⟩
          go_wp2_with fail
          refine (HNum.out _ _).mono ?_
          rintro e w' ⟨rfl, rfl⟩
          go_wp2_with fail
          refine (known13 _).mono ?_
          rintro e w6 ⟨rfl, hb6⟩
          go_wp2
          go_ret
          exact ⟨rfl, below_step hB5 hB5.size hb6⟩
        · rw [hf] at HE2
          have hE3 : eB = 0 := HE2.out
          subst hE3
          obtain ⟨rfl, rfl⟩ := G.out.1 rfl
          have HF1 := Lib.hid (fun W => float13_raw lo s1 s3 hbl.1 W)
          have HF2 := Lib.hid (fun W => float13_raw hi s2 s4 hbl.2 W)
          go_wp2_with fail
          refine (HF1.out _).mono ?_
          rintro e w' ⟨rfl, rfl⟩
          go_wp2_with fail
          refine (HF2.out _).mono ?_
          rintro e w' ⟨rfl, rfl⟩
          go_wp2_with fail
          refine (HNum.out _ _).mono ?_
          rintro e w' ⟨rfl, rfl⟩
          go_wp2_with fail
          refine (known13 _).mono ?_
          rintro e w6 ⟨rfl, hb6⟩
          go_wp2
          go_ret
          exact ⟨rfl, below_step hB5 hB5.size hb6⟩
end Go.Proofs.Ytogkmddhgfenkaa

/- Drawn regions, walked in the text's order: a call is known as one ahead of the walk's own steps. No condition. -/
namespace Go.Proofs.Ytogkmddhgfenkaa
open Go Go.RowKit
section
variable {P : Program} {ops : Array Oper} {C : World → Prop} {F : FuncId → Array Value → Value → Prop} {R : Act → Prop} {K : Act → Prop} {o : Oper} {a : Act}
def isCallOp (o : Oper) : Bool := match o.op with | .call _ => true | _ => false
theorem nq_inC (_ : isCallOp o = true) (h : ∀ w, C w → nqUpon P C F (fun v => K (a.put o.dst v)) ((execOp a.eval o).run P w)) : nq P C F o a K := nq_in h
end
end Go.Proofs.Ytogkmddhgfenkaa

/- Drawn regions: what a call gives need not be told ahead: two contracts on one call speak of one end. No condition. -/
namespace Go.Proofs.Ytogkmddhgfenkaa
open Go Go.RowKit
section
variable {P : Program} {C : World → Prop}
theorem calls_one {f : FuncId} {args : Array Value} {w : World} {R R' : World → Prop} {V V' : Value}
    (h : Calls P f args w fun e w' => e = .returned V ∧ R w') (h' : Calls P f args w fun e w' => e = .returned V' ∧ R' w') (hi : P.inits.idxOf? f = none) : V = V' := by
  obtain ⟨n, v, w1, e1, r1⟩ := (h.mono (R' := fun | .returned v, w' => v = V ∧ R w' | _, _ => False) (fun e w' ⟨he, q⟩ => by subst he; exact ⟨rfl, q⟩)).done hi
  obtain ⟨m, v', w2, e2, r2⟩ := (h'.mono (R' := fun | .returned v, w' => v = V' ∧ R' w' | _, _ => False) (fun e w' ⟨he, q⟩ => by subst he; exact ⟨rfl, q⟩)).done hi
  have a := runN_ended e1 m
  have b := runN_ended e2 n
  rw [Nat.add_comm, a] at b
  injection b with ho hw
  injection ho with hv
  rw [← r1.1, ← r2.1, hv]
/-- A value that every contract on the call tells. -/
def FD (P : Program) (C : World → Prop) (f : FuncId) (args : Array Value) (v : Value) : Prop :=
  ∀ V, (∀ w1, C w1 → Calls P f args w1 fun e w2 => e = .returned V ∧ C w2) → v = V
theorem fd_both {f : FuncId} {args : Array Value} {K : Value → Prop} {V : Value} (hi : P.inits.idxOf? f = none)
    (c : ∀ w1, C w1 → Calls P f args w1 fun e w2 => e = .returned V ∧ C w2) (hK : K V) :
    (∀ w1, C w1 → Calls P f args w1 (fun e w2 => ∃ v, e = .returned v ∧ FD P C f args v ∧ C w2)) ∧ ∀ v, FD P C f args v → K v :=
  ⟨fun w1 h1 => (c w1 h1).mono fun _ _ ⟨he, hc⟩ => ⟨V, he, fun _ c' => calls_one (c w1 h1) (c' w1 h1) hi, hc⟩, fun v hv => by rw [hv V c]; exact hK⟩
theorem wp_region_nqd {id : Nat} {Q : Exit → Act → World → Prop} {a : Act} {w : World} {l : List Oper} (n : Nat)
    (hm : P.follows .mixedOrders = true) (hB : nqB l n = true)
    (h : ∀ (C : World → Prop) (R : Act → Prop), (∀ w', Cls C w' → ∀ b o, b < w.heap.size → w'.cell? ⟨b, o, none⟩ = w.cell? ⟨b, o, none⟩) → (∀ w', Cls C w' → Below w.heap.size w w') →
      (∀ w' w'', Cls C w' → Below w'.heap.size w' w'' → Cls C w'') → (∀ w' n, Cls C w' → Cls C (w'.drewN n)) →
      (∀ a', (∀ w', Below w.heap.size w w' → wpList P l.toArray Q (l.drop n) a' w') → R a') → nqW P l.toArray (Cls C) (FD P (Cls C)) R (l.take n) a) : (Code.region id l.toArray true).wp P Q a w :=
  wp_region_nq n (FD P (Cls (Below w.heap.size w))) (Below w.heap.size w) hm hB (below_drewN 1 (Below.refl _ _))
    (h (Below w.heap.size w) (fun a' => ∀ w', Below w.heap.size w w' → wpList P l.toArray Q (l.drop n) a' w') (fun _ hw' => (below_cells hw').1) (fun _ h => h)
      (fun _ _ h1 h2 => h1.trans (h2.mono h1.size)) (fun _ n h => below_drewN n h) (fun _ h => h))
end
section
variable {P : Program} {l0 : Nat} {nf : Nat}
theorem wpIn_region_nqd {id : Nat} {Q : Exit → Act → World → Prop} {a : Act} {w : World} {l : List Oper} (n : Nat)
    (hm : P.follows .mixedOrders = true) (hB : (nqB l n && noDefer l) = true)
    (h : ∀ (C : World → Prop) (R : Act → Prop), (∀ w', Cls C w' → ∀ b o, b < w.heap.size → w'.cell? ⟨b, o, none⟩ = w.cell? ⟨b, o, none⟩) → (∀ w', Cls C w' → Below w.heap.size w w') →
      (∀ w' w'', Cls C w' → Below w'.heap.size w' w'' → Cls C w'') → (∀ w' n, Cls C w' → Cls C (w'.drewN n)) →
      (∀ a', (∀ w', Below w.heap.size w w' → wpListIn (Fence.wide.inRound l0) nf P l.toArray Q (l.drop n) a' w') → R a') → nqW P l.toArray (Cls C) (FD P (Cls C)) R (l.take n) a) : (Code.region id l.toArray true).wpIn (Fence.wide.inRound l0) nf P Q a w :=
  wpIn_region_nq n (FD P (Cls (Below w.heap.size w))) (Below w.heap.size w) hm hB (below_drewN 1 (Below.refl _ _))
    (h (Below w.heap.size w) (fun a' => ∀ w', Below w.heap.size w w' → wpListIn (Fence.wide.inRound l0) nf P l.toArray Q (l.drop n) a' w') (fun _ hw' => (below_cells hw').1) (fun _ h => h)
      (fun _ _ h1 h2 => h1.trans (h2.mono h1.size)) (fun _ n h => below_drewN n h) (fun _ h => h))
end
end Go.Proofs.Ytogkmddhgfenkaa
