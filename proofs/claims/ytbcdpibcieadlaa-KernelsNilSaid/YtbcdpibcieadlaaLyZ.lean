/- Layer 8: Syr2 (printed by gen_lk.py). No condition but on lengths. -/
import Derived.Test.YtbcdpibcieadlaaZz28
namespace Go.Proofs.Ytbcdpibcieadlaa
open Go Go.RowKit Go.Shelf
attribute [local go_sem] Oper.semAt_some
set_option maxRecDepth 1000000

/-- A place of a symmetric matrix to which two vectors' products are added. -/
def syr2V (a : Nat) (x y : Vw) (xs ys : List Nat) (m : Vw) (p : Nat × Nat) (s : List Nat) : Nat := fadd (fadd (m.get s p.1 p.2) (fmul (fmul a (x.getVec xs p.1)) (y.getVec ys p.2))) (fmul (fmul a (y.getVec ys p.1)) (x.getVec xs p.2))
theorem syr2V_lt (a : Nat) (x y : Vw) (xs ys : List Nat) (m : Vw) (p : Nat × Nat) (s : List Nat) : syr2V a x y xs ys m p s < 18446744073709551616 := fadd_lt _ _
def syr2P (a : Nat) (x y m : Vw) (xs ys ms : List Nat) : Nat → Nat → List Nat → List Nat := fun i j s => m.put s i j (syr2V a x y xs ys m (i, j) s)
def syr2L (a : Nat) (x y m : Vw) (xs ys ms : List Nat) : List Nat := if openE [x, y, m] (fits_Syr2 m x y) = 0 then halfP (syr2P a x y m xs ys ms) m.r ms else ms
set_option maxHeartbeats 32000000 in
theorem Syr2_any (w : World) (a : Nat) (x y m : Vw) (sx sy sm : Nat) (xs ys ms : List Nat) (hx : x.Ok w sx xs) (hy : y.Ok w sy ys) (hm : m.Ok w sm ms) (wx : Words xs) (wy : Words ys) (wm : Words ms) :
    Calls Try.prog 42 #[.float .f64 a, x.val, y.val, m.val] w fun e w' => e = .returned (.int .i64 (openE [x, y, m] (fits_Syr2 m x y))) ∧ ∃ ws, m.Ok w' sm ws ∧ Rw ws (syr2L a x y m xs ys ms) ∧ Words ws ∧ Bel w.heap.size sm w w' := by
  have HO := Lib.hid (fun W (h : Below w.heap.size w W) km kx ky b hbm hbx hby hb => open_any W 92 #[.pointer (some ⟨km, 0, none⟩), .pointer (some ⟨kx, 0, none⟩), .pointer (some ⟨ky, 0, none⟩)] b [x, y, m] (fits_Syr2 m x y) hb (fun v hv => by
      simp only [List.mem_cons, List.not_mem_nil, or_false] at hv
      rcases hv with rfl | rfl | rfl
      · exact ⟨sx, xs, hx.below h⟩
      · exact ⟨sy, ys, hy.below h⟩
      · exact ⟨sm, ms, hm.below h⟩
    ) (by simp) (enters_of Try.func92 (by kernel_rfl) rfl) (fun _ W' h' => Syr2f_any W' m x y km kx ky (Box.below hbm h') (Box.below hbx h') (Box.below hby h') hx.small hy.small))
  unfold syr2L
  obtain ⟨W0, hW0⟩ : ∃ W0, W0 = ((((w.alloc (.cells #[.float .f64 a] 31)).alloc (.cells #[.pointer x.p, .int .i64 x.r, .int .i64 x.c, .int .i64 x.o, .int .i64 x.d, .int .i64 x.u] 29)).alloc (.cells #[.pointer y.p, .int .i64 y.r, .int .i64 y.c, .int .i64 y.o, .int .i64 y.d, .int .i64 y.u] 29)).alloc (.cells #[.pointer m.p, .int .i64 m.r, .int .i64 m.c, .int .i64 m.o, .int .i64 m.d, .int .i64 m.u] 29)) := ⟨_, rfl⟩
  have hB0 : Below w.heap.size w W0 := hW0 ▸ ((((Below.refl _ _).alloc (Nat.le_refl _) _).alloc (by simp) _).alloc (by simp; omega) _).alloc (by simp; omega) _
  have x0 : Box W0 (w.heap.size) [.float .f64 a] := hW0 ▸ ((((Box.newA w [.float .f64 a] _ rfl).alloc _).alloc _).alloc _)
  have x1 : Box W0 (w.heap.size + 1) [.pointer x.p, .int .i64 x.r, .int .i64 x.c, .int .i64 x.o, .int .i64 x.d, .int .i64 x.u] := hW0 ▸ (((Box.newA _ [.pointer x.p, .int .i64 x.r, .int .i64 x.c, .int .i64 x.o, .int .i64 x.d, .int .i64 x.u] _ (by simp)).alloc _).alloc _)
  have x2 : Box W0 (w.heap.size + 1 + 1) [.pointer y.p, .int .i64 y.r, .int .i64 y.c, .int .i64 y.o, .int .i64 y.d, .int .i64 y.u] := hW0 ▸ ((Box.newA _ [.pointer y.p, .int .i64 y.r, .int .i64 y.c, .int .i64 y.o, .int .i64 y.d, .int .i64 y.u] _ (by simp)).alloc _)
  have x3 : Box W0 (w.heap.size + 1 + 1 + 1) [.pointer m.p, .int .i64 m.r, .int .i64 m.c, .int .i64 m.o, .int .i64 m.d, .int .i64 m.u] := hW0 ▸ (Box.newA _ [.pointer m.p, .int .i64 m.r, .int .i64 m.c, .int .i64 m.o, .int .i64 m.d, .int .i64 m.u] _ (by simp))
  have HX := Lib.hid (show _ ∧ _ ∧ _ ∧ _ ∧ _ from ⟨hB0, x0, x1, x2, x3⟩)
  have HCx := Lib.hid (fun W (h : Below w.heap.size w W) => Copy_any W x sx xs (hx.below h))
  have HCy := Lib.hid (fun W (h : Below w.heap.size w W) => Copy_any W y sy ys (hy.below h))
  have HY := Lib.hid (show _ ∧ _ ∧ _ ∧ _ ∧ _ ∧ _ from ⟨hx, hy, hm, wx, wy, wm⟩)
  have HZ := Lib.hid (fun (h : openE [x, y, m] (fits_Syr2 m x y) = 0) => openE_zero h)
  clear hB0 x0 x1 x2 x3 hx hy hm wx wy wm
  show Calls Try.prog 42 #[.float .f64 a, (.agg #[.pointer x.p, .int .i64 x.r, .int .i64 x.c, .int .i64 x.o, .int .i64 x.d, .int .i64 x.u]), (.agg #[.pointer y.p, .int .i64 y.r, .int .i64 y.c, .int .i64 y.o, .int .i64 y.d, .int .i64 y.u]), (.agg #[.pointer m.p, .int .i64 m.r, .int .i64 m.c, .int .i64 m.o, .int .i64 m.d, .int .i64 m.u])] w _
  generalize openE [x, y, m] (fits_Syr2 m x y) = E at *
  obtain ⟨DD, hD⟩ : ∃ DD, DD = (if E = 0 then halfP (syr2P a x y m xs ys ms) m.r ms else ms) := ⟨_, rfl⟩
  rw [← hD]
  by_cases hE : E = 0
  · skip
    subst hE
    rw [if_pos rfl] at hD
    have HDD := Lib.hid hD
    clear hD
    obtain ⟨hsome, hfit⟩ := HZ.out rfl
    have HSome := Lib.hid (show _ ∧ _ ∧ _ from ⟨hsome x (by simp), hsome y (by simp), hsome m (by simp)⟩)
    unfold fits_Syr2 at hfit
    simp only [Bool.and_eq_true] at hfit
    have HFit := Lib.hid hfit
    clear hsome hfit HZ
    have HSm := Lib.hid (Vw.Ok.sto HY.out.2.2.1 HSome.out.2.2)
    refine (callsIn_wide (n := 9)).1 ?_
    refine callsIn_of_wp_marks Try.func42 rfl trivial ?_ rfl
    refine wpIn_wide.2 ?_
    simp only [Try.ntmps42, List.size_toArray, List.length_cons, List.length_nil, Nat.reduceAdd, Nat.reduceSub, Array.replicate_succ, Array.replicate_zero, List.push_toArray, List.append_toArray, List.nil_append, List.cons_append]
    go_upto_region 1 with (fail)
    rw [← hW0]
    clear hW0
    obtain ⟨hB0, x0, x1, x2, x3⟩ := HX.out
    have hbA : Below W0.heap.size W0 (W0.alloc (.cells #[.pointer x.p, .int .i64 x.r, .int .i64 x.c, .int .i64 x.o, .int .i64 x.d, .int .i64 x.u, .pointer y.p, .int .i64 y.r, .int .i64 y.c, .int .i64 y.o, .int .i64 y.d, .int .i64 y.u, .pointer m.p, .int .i64 m.r, .int .i64 m.c, .int .i64 m.o, .int .i64 m.d, .int .i64 m.u] 29)) := (Below.refl _ _).alloc (Nat.le_refl _) _
    have hz : Box (W0.alloc (.cells #[.pointer x.p, .int .i64 x.r, .int .i64 x.c, .int .i64 x.o, .int .i64 x.d, .int .i64 x.u, .pointer y.p, .int .i64 y.r, .int .i64 y.c, .int .i64 y.o, .int .i64 y.d, .int .i64 y.u, .pointer m.p, .int .i64 m.r, .int .i64 m.c, .int .i64 m.o, .int .i64 m.d, .int .i64 m.u] 29)) W0.heap.size ([x, y, m].flatMap Vw.cs) := Box.newA W0 ([x, y, m].flatMap Vw.cs) _ rfl
    have hB1 := below_step hB0 hB0.size hbA
    have HCo := Lib.hid (HO.out _ hB1 _ _ _ _ (x3.below hbA) (x1.below hbA) (x2.below hbA) hz)
    obtain ⟨p1, p2, p3⟩ := x1.facts
    obtain ⟨q1, q2, q3⟩ := x2.facts
    obtain ⟨r1, r2, r3⟩ := x3.facts
    have HB1 := Lib.hid (show _ ∧ _ ∧ _ ∧ _ ∧ _ from ⟨hB1, x0.below hbA, x1.below hbA, x2.below hbA, x3.below hbA⟩)
    clear hB0 x0 x1 x2 x3 hbA hz hB1 HO HX
    go_wp2_with fail
    refine HCo.out.mono ?_
    rintro e w1 ⟨rfl, hb1⟩
    obtain ⟨hB1, x0, x1, x2, x3⟩ := HB1.out
    have HB2 := Lib.hid (show _ ∧ _ ∧ _ ∧ _ ∧ _ from ⟨below_step hB1 hB1.size hb1, x0.below hb1, x1.below hb1, x2.below hb1, x3.below hb1⟩)
    clear p1 p2 p3 q1 q2 q3 r1 r2 r3 hB1 hb1 x0 x1 x2 x3 HB1 HCo
    dsimp only
    go_upto_region 4 with (fail)
    obtain ⟨hB2, x0, x1, x2, x3⟩ := HB2.out
    have hdr : Below w1.heap.size w1 w1.drew := below_drewN 1 (Below.refl _ w1)
    have HKK := Lib.hid (show ∀ V, Below w1.drew.heap.size w1.drew V → KerW V [(w.heap.size, [.float .f64 a]), (w.heap.size + 1, [.pointer x.p, .int .i64 x.r, .int .i64 x.c, .int .i64 x.o, .int .i64 x.d, .int .i64 x.u]), (w.heap.size + 1 + 1, [.pointer y.p, .int .i64 y.r, .int .i64 y.c, .int .i64 y.o, .int .i64 y.d, .int .i64 y.u]), (w.heap.size + 1 + 1 + 1, [.pointer m.p, .int .i64 m.r, .int .i64 m.c, .int .i64 m.o, .int .i64 m.d, .int .i64 m.u])] [] sm from fun V h => ⟨fun p hp => by
      simp only [List.mem_cons, List.not_mem_nil, or_false] at hp
      rcases hp with rfl | rfl | rfl | rfl
      · exact (x0.below hdr).below h
      · exact (x1.below hdr).below h
      · exact (x2.below hdr).below h
      · exact (x3.below hdr).below h
      , fun p hp => by
      simp only [List.mem_cons, List.not_mem_nil, or_false] at hp
      have := HSm.out.1
      rcases hp with rfl | rfl | rfl | rfl
      · show w.heap.size ≠ sm; omega
      · show w.heap.size + 1 ≠ sm; omega
      · show w.heap.size + 1 + 1 ≠ sm; omega
      · show w.heap.size + 1 + 1 + 1 ≠ sm; omega
      , fun q hq => by cases hq⟩)
    have HS := Lib.hid (show ∀ V, Below w1.drew.heap.size w1.drew V → (fun V => (∀ i, V.cell? ⟨w.heap.size + 1, i, none⟩ = ([.pointer x.p, .int .i64 x.r, .int .i64 x.c, .int .i64 x.o, .int .i64 x.d, .int .i64 x.u] : List Value)[i]?) ∧ (∀ i, V.cell? ⟨w.heap.size + 1 + 1, i, none⟩ = ([.pointer y.p, .int .i64 y.r, .int .i64 y.c, .int .i64 y.o, .int .i64 y.d, .int .i64 y.u] : List Value)[i]?)) V from fun V h => ⟨((HKK.out V h).get 1 rfl).cell, ((HKK.out V h).get 2 rfl).cell⟩)
    refine wp_region_items 3 [(true, 0), (true, 2), (false, 1)] (fun V => (∀ i, V.cell? ⟨w.heap.size + 1, i, none⟩ = ([.pointer x.p, .int .i64 x.r, .int .i64 x.c, .int .i64 x.o, .int .i64 x.d, .int .i64 x.u] : List Value)[i]?) ∧ (∀ i, V.cell? ⟨w.heap.size + 1 + 1, i, none⟩ = ([.pointer y.p, .int .i64 y.r, .int .i64 y.c, .int .i64 y.o, .int .i64 y.d, .int .i64 y.u] : List Value)[i]?)) (by kernel_rfl) (by kernel_rfl) (HS.out _ (Below.refl _ _)) ?_
    have HBw := Lib.hid (below_step hB2 hB2.size hdr)
    have hlast := x3.lt
    have hdrs := hdr.size
    have HLo := Lib.hid (show w.heap.size + 1 + 1 + 1 < w1.drew.heap.size from Nat.lt_of_lt_of_le hlast hdrs)
    generalize w1.drew = w2 at *
    clear hdr hB2 x0 x1 x2 x3 HB2 hlast hdrs
    iterate 2 (refine iW_take (v := ?_) rfl rfl ?_ ?_; rotate_left; (next => (intro w' hSw; (try dsimp only at hSw); go_simp; (try (rw [if_pos (by omega)]; go_simp)); (try with_reducible rfl))); (simp only [Act.put, List.setIfInBounds_toArray, List.set_cons_zero, List.set_cons_succ]))
    refine iW_mid rfl rfl ?_
    go_simp
    refine (HCx.out w2 HBw.out).mono ?_
    rintro e w3 ⟨st1, sb1, rfl, hst1, k1, k2, hb3⟩
    refine ⟨HS.out _ hb3, ?_⟩
    have hs1 := hst1 (isNone_some HSome.out.1)
    have hl1 := sto_lts hs1
    have G1 := Lib.hid (show _ ∧ _ ∧ _ ∧ _ ∧ _ ∧ _ ∧ _ from ⟨cpy_ok HY.out.1 hst1, CpyF.of xs st1 HSome.out.1 HY.out.1.small.1 HY.out.1.small.2, k1, k2, hl1.1, hl1.2, hb3⟩)
    clear hst1 k1 k2 hs1 hl1 hb3
    generalize cpyV x st1 = cA at *
    dsimp only [Vw.val]
    refine iW_nil ?_
    go_simp
    go_wp2_with fail
    refine (HCy.out w3 (below_step HBw.out HBw.out.size G1.out.2.2.2.2.2.2)).mono ?_
    rintro e w4 ⟨st2, sb2, rfl, hst2, k1, k2, hb4⟩
    have hs2 := hst2 (isNone_some HSome.out.2.1)
    have hl2 := sto_lts hs2
    have G2 := Lib.hid (show _ ∧ _ ∧ _ ∧ _ ∧ _ ∧ _ ∧ _ from ⟨cpy_ok HY.out.2.1 hst2, CpyF.of ys st2 HSome.out.2.1 HY.out.2.1.small.1 HY.out.2.1.small.2, k1, k2, hl2.1, hl2.2, hb4⟩)
    clear hst2 k1 k2 hs2 hl2 hb4
    generalize cpyV y st2 = cB at *
    dsimp only [Vw.val]
    have HK4 := Lib.hid (HKK.out w4 (below_step G1.out.2.2.2.2.2.2 G1.out.2.2.2.2.2.2.size G2.out.2.2.2.2.2.2))
    obtain ⟨p1, p2, p3⟩ := (HK4.out.get 1 rfl).facts
    obtain ⟨q1, q2, q3⟩ := (HK4.out.get 2 rfl).facts
    go_wp2
    refine NoPanic.normal ?_
    go_upto_region 5 with (fail)
    rw [show ((((((((((((w4.setCell ⟨w.heap.size + 1, 0, none⟩ (.pointer cA.p)).setCell ⟨w.heap.size + 1, 1, none⟩ (.int .i64 cA.r)).setCell ⟨w.heap.size + 1, 2, none⟩ (.int .i64 cA.c)).setCell ⟨w.heap.size + 1, 3, none⟩ (.int .i64 cA.o)).setCell ⟨w.heap.size + 1, 4, none⟩ (.int .i64 cA.d)).setCell ⟨w.heap.size + 1, 5, none⟩ (.int .i64 cA.u)).setCell ⟨w.heap.size + 1 + 1, 0, none⟩ (.pointer cB.p)).setCell ⟨w.heap.size + 1 + 1, 1, none⟩ (.int .i64 cB.r)).setCell ⟨w.heap.size + 1 + 1, 2, none⟩ (.int .i64 cB.c)).setCell ⟨w.heap.size + 1 + 1, 3, none⟩ (.int .i64 cB.o)).setCell ⟨w.heap.size + 1 + 1, 4, none⟩ (.int .i64 cB.d)).setCell ⟨w.heap.size + 1 + 1, 5, none⟩ (.int .i64 cB.u)) = six (six w4 (w.heap.size + 1) cA) (w.heap.size + 1 + 1) cB from rfl]
    clear p1 p2 p3 q1 q2 q3 HKK HS
    have HJ := Lib.hid (show KerW (six (six w4 (w.heap.size + 1) cA) (w.heap.size + 1 + 1) cB) [(w.heap.size, [.float .f64 a]), (w.heap.size + 1, [.pointer cA.p, .int .i64 cA.r, .int .i64 cA.c, .int .i64 cA.o, .int .i64 cA.d, .int .i64 cA.u]), (w.heap.size + 1 + 1, [.pointer cB.p, .int .i64 cB.r, .int .i64 cB.c, .int .i64 cB.o, .int .i64 cB.d, .int .i64 cB.u]), (w.heap.size + 1 + 1 + 1, [.pointer m.p, .int .i64 m.r, .int .i64 m.c, .int .i64 m.o, .int .i64 m.d, .int .i64 m.u])] [(cA, sb1, x.list xs), (cB, sb2, y.list ys)] sm ∧ Below w.heap.size w (six (six w4 (w.heap.size + 1) cA) (w.heap.size + 1 + 1) cB) ∧ st1 ≠ st2 from by
      obtain ⟨g1, g2, g3, g4, g5, g6, g7⟩ := G1.out
      obtain ⟨h1, h2, h3, h4, h5, h6, h7⟩ := G2.out
      have hlo := HLo.out
      have hsm := HSm.out.1
      have hw := HBw.out.size
      have hsz := h7.size
      have hsz1 := g7.size
      have hB4 := below_step (below_step HBw.out HBw.out.size g7) (below_step HBw.out HBw.out.size g7).size h7
      have g1' := g1.below h7
      have a1 := (Vw.Apart.of (m := w.heap.size + 1) g1' (.inr g2.p) (by omega) (by omega)).bel (six_bel _ _ _ cA)
      have a2 := (Vw.Apart.of (m := w.heap.size + 1 + 1) a1.1 (.inr g2.p) (by omega) (by omega)).bel (six_bel _ _ _ cB)
      have b1 := (Vw.Apart.of (m := w.heap.size + 1) h1 (.inr h2.p) (by omega) (by omega)).bel (six_bel _ _ _ cA)
      have b2 := (Vw.Apart.of (m := w.heap.size + 1 + 1) b1.1 (.inr h2.p) (by omega) (by omega)).bel (six_bel _ _ _ cB)
      refine ⟨⟨fun p hp => ?_, fun p hp => ?_, fun q hq => ?_⟩, six_below (six_below hB4 (by omega) _) (by omega) _, by omega⟩
      · simp only [List.mem_cons, List.not_mem_nil, or_false] at hp
        rcases hp with rfl | rfl | rfl | rfl
        · exact six_other (six_other (HK4.out.get 0 rfl) (by omega) cA) (by omega) cB
        · exact six_other (six_box (HK4.out.get 1 rfl) cA) (by omega) cB
        · exact six_box (six_other (HK4.out.get 2 rfl) (by omega) cA) cB
        · exact six_other (six_other (HK4.out.get 3 rfl) (by omega) cA) (by omega) cB
      · simp only [List.mem_cons, List.not_mem_nil, or_false] at hp
        rcases hp with rfl | rfl | rfl | rfl
        · show w.heap.size ≠ sm; omega
        · show w.heap.size + 1 ≠ sm; omega
        · show w.heap.size + 1 + 1 ≠ sm; omega
        · show w.heap.size + 1 + 1 + 1 ≠ sm; omega
      · simp only [List.mem_cons, List.not_mem_nil, or_false] at hq
        rcases hq with rfl | rfl
        · exact Vw.Apart.of a2.1 (.inr g2.p) (show sb1 ≠ sm by omega) (show st1 ≠ sm by omega)
        · exact Vw.Apart.of b2.1 (.inr h2.p) (show sb2 ≠ sm by omega) (show st2 ≠ sm by omega))
    have HA := Lib.hid G1.out.2.1
    have HB := Lib.hid G2.out.2.1
    clear HK4 G1 G2 HLo HBw
    generalize six (six w4 (w.heap.size + 1) cA) (w.heap.size + 1 + 1) cB = w5 at *
    obtain ⟨p1, p2, p3⟩ := (HJ.out.1.get 3 rfl).facts
    have hsmo : m.r ≤ 512 ∧ m.c ≤ 512 := HY.out.2.2.1.small
    go_upto_block 0 with (first | (go_at_call 71; refine (Rows_any m.p m.r m.c m.o m.d m.u _).mono ?_; rintro e w6 ⟨rfl, hb6⟩) | (go_at_call 93; refine (half_any m.r _).mono ?_; rintro e w7 ⟨rfl, rfl⟩))
    refine wpIn_wide (n := 9).1 ?_
    clear p1 p2 p3
    have hbV : Below w6.heap.size w6 (w6.alloc (.cells #[.int .i64 m.r] 3)) := (Below.refl _ _).alloc (Nat.le_refl _) _
    have hB56 := below_step HJ.out.2.1 HJ.out.2.1.size hb6
    have hXB : Box (w6.alloc (.cells #[.int .i64 m.r] 3)) w6.heap.size [.int .i64 m.r] := Box.newA w6 [.int .i64 m.r] 3 rfl
    have HK6 := Lib.hid ((HJ.out.1.below hb6).below hbV)
    have HB6 := Lib.hid (below_step hB56 hB56.size hbV)
    generalize w6.alloc (.cells #[.int .i64 m.r] 3) = W2 at *
    generalize w6.heap.size = bV at *
    have HXB := Lib.hid hXB
    clear hbV hB56 hb6 hXB
    gi_wp2_with fail
    refine half_loopJ 9 (by decide) (N := m.r) hsmo.1 HXB.out rfl rfl (fun i j W => (∃ ws, m.Ok W sm ws ∧ Rw ws (rowP (syr2P a x y m xs ys ms) i j (halfP (syr2P a x y m xs ys ms) i ms)) ∧ Words ws) ∧ KerW W [(w.heap.size, [.float .f64 a]), (w.heap.size + 1, [.pointer cA.p, .int .i64 cA.r, .int .i64 cA.c, .int .i64 cA.o, .int .i64 cA.d, .int .i64 cA.u]), (w.heap.size + 1 + 1, [.pointer cB.p, .int .i64 cB.r, .int .i64 cB.c, .int .i64 cB.o, .int .i64 cB.d, .int .i64 cB.u]), (w.heap.size + 1 + 1 + 1, [.pointer m.p, .int .i64 m.r, .int .i64 m.c, .int .i64 m.o, .int .i64 m.d, .int .i64 m.u])] [(cA, sb1, x.list xs), (cB, sb2, y.list ys)] sm ∧ Bel w.heap.size sm w W ∧ W2.heap.size ≤ W.heap.size)
      (fun _ _ _ h => h.2.2.2) (fun _ _ _ _ h hs => ⟨by obtain ⟨ws, h1, h2, h3⟩ := h.1; exact ⟨ws, h1.still hs, h2, h3⟩, h.2.1.still hs, h.2.2.1.trans (Bel.of (hs.1.mono HB6.out.size)), Nat.le_trans h.2.2.2 hs.1.size⟩)
      (fun _ _ h => h) ⟨⟨ms, HY.out.2.2.1.below HB6.out, Rw.self HY.out.2.2.2.2.2, HY.out.2.2.2.2.2⟩, HK6.out, Bel.of HB6.out, Nat.le_refl _⟩
      (fun T i j => (((T.setIfInBounds 29 (.int .i64 (i : Int))).setIfInBounds 30 (.int .i64 (j : Int))).setIfInBounds 10 (.int .i64 (i : Int))).setIfInBounds 11 (.int .i64 (j : Int))) ?assign ?body ?done
    case assign =>
      intro l i j W K hK
      gi_wp2
      exact hK
    case body =>
      rintro l i j W hi hji ⟨⟨ws, hok, hrw, hWw⟩, hK, hB, hs4⟩
      obtain ⟨SS, hSS⟩ : ∃ SS, SS = rowP (syr2P a x y m xs ys ms) i j (halfP (syr2P a x y m xs ys ms) i ms) := ⟨_, rfl⟩
      rw [← hSS] at hrw
      obtain ⟨sx, hsx⟩ := hrw.get m i j
      obtain ⟨XX, hXX⟩ : ∃ XX, XX = m.get SS i j := ⟨_, rfl⟩
      rw [← hXX] at hsx
      have HP := Lib.hid (show _ ∧ _ ∧ _ ∧ _ ∧ _ ∧ _ ∧ _ ∧ _ ∧ _ ∧ _ from ⟨hok, hrw, hWw, hK, hB, hs4, hSS, hXX, hi, hji⟩)
      have HAt := Lib.hid (show ∀ V, Below W.heap.size W V → Calls Try.prog 74 #[(.agg #[.pointer m.p, .int .i64 m.r, .int .i64 m.c, .int .i64 m.o, .int .i64 m.d, .int .i64 m.u]), .int .i64 (i : Int), .int .i64 (j : Int)] V fun e w' => e = .returned (.float .f64 (raw XX sx)) ∧ Below V.heap.size V w' from fun V h => by
        have hg := At_any V m sm ws i j (hok.below h)
        rw [hsx] at hg
        exact hg)
      clear hok hrw hWw hK hB hs4 hSS hXX hsx
      have A1 := Lib.hid (HP.out.2.2.2.1.vw 0 rfl)
      have A2 := Lib.hid (HP.out.2.2.2.1.vw 1 rfl)
      obtain ⟨b11, b12, b13⟩ := (HP.out.2.2.2.1.get 1 rfl).facts
      obtain ⟨b21, b22, b23⟩ := (HP.out.2.2.2.1.get 2 rfl).facts
      obtain ⟨b31, b32, b33⟩ := (HP.out.2.2.2.1.get 3 rfl).facts
      obtain ⟨b01, b02, b03⟩ := (HP.out.2.2.2.1.get 0 rfl).facts
      have hv1 := vecN_spec HFit.out.2.1
      have hv2 := vecN_spec HFit.out.2.2
      have HGA := Lib.hid (show ∀ V (q : Nat), Below W.heap.size W V → q < m.r → Calls Try.prog 59 #[(.agg #[.pointer cA.p, .int .i64 cA.r, .int .i64 cA.c, .int .i64 cA.o, .int .i64 cA.d, .int .i64 cA.u]), .int .i64 (q : Int)] V fun e w' => e = .returned (.float .f64 (x.getVec xs q)) ∧ Below V.heap.size V w' from fun V q h hq => by
        have hg := Get_any V cA sb1 (x.list xs) q (A1.out.1.below h)
        rw [HA.out.vec hv1.1 q (by rw [← hv1.2]; exact hq)] at hg
        exact hg)
      have HGB := Lib.hid (show ∀ V (q : Nat), Below W.heap.size W V → q < m.r → Calls Try.prog 59 #[(.agg #[.pointer cB.p, .int .i64 cB.r, .int .i64 cB.c, .int .i64 cB.o, .int .i64 cB.d, .int .i64 cB.u]), .int .i64 (q : Int)] V fun e w' => e = .returned (.float .f64 (y.getVec ys q)) ∧ Below V.heap.size V w' from fun V q h hq => by
        have hg := Get_any V cB sb2 (y.list ys) q (A2.out.1.below h)
        rw [HB.out.vec hv2.1 q (by rw [← hv2.2]; exact hq)] at hg
        exact hg)
      have hjr : j < m.r := by omega
      have HV := Lib.hid (show syr2V a x y xs ys m (i, j) SS = fadd (fadd XX (fmul (fmul a (x.getVec xs i)) (y.getVec ys j))) (fmul (fmul a (y.getVec ys i)) (x.getVec xs j)) from by rw [HP.out.2.2.2.2.2.2.2.1]; rfl)
      have HXi := Lib.hid (fun V h => HGA.out V i h hi)
      have HXj := Lib.hid (fun V h => HGA.out V j h hjr)
      have HYi := Lib.hid (fun V h => HGB.out V i h hi)
      have HYj := Lib.hid (fun V h => HGB.out V j h hjr)
      obtain ⟨Xi, hXi⟩ : ∃ z, z = x.getVec xs i := ⟨_, rfl⟩
      rw [← hXi] at HXi HV
      obtain ⟨Xj, hXj⟩ : ∃ z, z = x.getVec xs j := ⟨_, rfl⟩
      rw [← hXj] at HXj HV
      obtain ⟨Yi, hYi⟩ : ∃ z, z = y.getVec ys i := ⟨_, rfl⟩
      rw [← hYi] at HYi HV
      obtain ⟨Yj, hYj⟩ : ∃ z, z = y.getVec ys j := ⟨_, rfl⟩
      rw [← hYj] at HYj HV
      clear hXi hXj hYi hYj hv1 hv2 hi hji hjr HGA HGB
      gi_wp2_with fail
      refine wpIn_region_nqd 14  (by kernel_rfl) (by kernel_rfl) ?_
      intro Cw Rw hc hb' hb2 hd hRw
      simp only [List.take_succ_cons, List.take_zero]
      iterate 4 (
        first
          | (refine nqW_skip rfl (fun K hK => ?_); go_frame; refine hK _ ?_; clear hK K)
          | ((first | (refine nqW_plain (fun K hK => ?_)) | (refine nqW_want rfl (fun K hK => ?_)) | (refine nqW_step (fun K hK => ?_); go_simp))
             first
               | (refine nq_move rfl ?_; go_simp; refine hK _ ?_; clear hK K)
               | (refine nq_assign rfl ?_; go_simp; refine hK _ ?_; clear hK K)
               | (refine nq_flt rfl rfl rfl rfl hd ?_; intro _; go_frame; refine hK _ ?_; clear hK K)
               | (refine nq_inC rfl ?_; intro w' hw'; go_simp; refine fd_both (V := (.float .f64 (raw XX sx))) (by kernel_rfl) (fun w2 hw2 => ?_) ?_; (next => (go_at_call 74; exact (HAt.out w2 (hb' _ hw2)).mono (fun e w3 ⟨he, hb⟩ => ⟨he, hb2 _ _ hw2 hb⟩))); (try go_simp); refine hK _ ?_; clear hK K hw' w')
               | (refine nq_same ?_; intro w' hw'; go_simp; (try go_bits); refine hK _ ?_; clear hK K hw' w')
               | (refine nq_same ?_; intro w' hw'; go_simp; rw [if_pos (by omega)]; go_simp; (try go_bits); refine hK _ ?_; clear hK K hw' w')
               | (go_simp; refine hK _ ?_; clear hK K)))
      iterate 4 (
        first
          | (refine nqW_skip rfl (fun K hK => ?_); go_frame; refine hK _ ?_; clear hK K)
          | ((first | (refine nqW_plain (fun K hK => ?_)) | (refine nqW_want rfl (fun K hK => ?_)) | (refine nqW_step (fun K hK => ?_); go_simp))
             first
               | (refine nq_move rfl ?_; go_simp; refine hK _ ?_; clear hK K)
               | (refine nq_assign rfl ?_; go_simp; refine hK _ ?_; clear hK K)
               | (refine nq_flt rfl rfl rfl rfl hd ?_; intro _; go_frame; refine hK _ ?_; clear hK K)
               | (refine nq_inC rfl ?_; intro w' hw'; go_simp; refine fd_both (V := (.float .f64 Xi)) (by kernel_rfl) (fun w2 hw2 => ?_) ?_; (next => (go_at_call 59; exact (HXi.out w2 (hb' _ hw2)).mono (fun e w3 ⟨he, hb⟩ => ⟨he, hb2 _ _ hw2 hb⟩))); (try go_simp); refine hK _ ?_; clear hK K hw' w')
               | (refine nq_same ?_; intro w' hw'; go_simp; (try go_bits); refine hK _ ?_; clear hK K hw' w')
               | (refine nq_same ?_; intro w' hw'; go_simp; rw [if_pos (by omega)]; go_simp; (try go_bits); refine hK _ ?_; clear hK K hw' w')
               | (go_simp; refine hK _ ?_; clear hK K)))
      iterate 6 (
        first
          | (refine nqW_skip rfl (fun K hK => ?_); go_frame; refine hK _ ?_; clear hK K)
          | ((first | (refine nqW_plain (fun K hK => ?_)) | (refine nqW_want rfl (fun K hK => ?_)) | (refine nqW_step (fun K hK => ?_); go_simp))
             first
               | (refine nq_move rfl ?_; go_simp; refine hK _ ?_; clear hK K)
               | (refine nq_assign rfl ?_; go_simp; refine hK _ ?_; clear hK K)
               | (refine nq_flt rfl rfl rfl rfl hd ?_; intro _; go_frame; refine hK _ ?_; clear hK K)
               | (refine nq_inC rfl ?_; intro w' hw'; go_simp; refine fd_both (V := (.float .f64 Yj)) (by kernel_rfl) (fun w2 hw2 => ?_) ?_; (next => (go_at_call 59; exact (HYj.out w2 (hb' _ hw2)).mono (fun e w3 ⟨he, hb⟩ => ⟨he, hb2 _ _ hw2 hb⟩))); (try go_simp); refine hK _ ?_; clear hK K hw' w')
               | (refine nq_same ?_; intro w' hw'; go_simp; (try go_bits); refine hK _ ?_; clear hK K hw' w')
               | (refine nq_same ?_; intro w' hw'; go_simp; rw [if_pos (by omega)]; go_simp; (try go_bits); refine hK _ ?_; clear hK K hw' w')
               | (go_simp; refine hK _ ?_; clear hK K)))
      refine nqW_nil (hRw _ ?_)
      clear hc hb' hb2 hd hRw
      intro w' hw'
      simp only [List.drop]
      have HW1 := Lib.hid hw'
      clear hw' b11 b12 b13 b21 b22 b23 b31 b32 b33 b01 b02 b03
      generalize w' = W1 at *
      obtain ⟨b11, b12, b13⟩ := ((HP.out.2.2.2.1.below HW1.out).get 1 rfl).facts
      obtain ⟨b21, b22, b23⟩ := ((HP.out.2.2.2.1.below HW1.out).get 2 rfl).facts
      obtain ⟨b31, b32, b33⟩ := ((HP.out.2.2.2.1.below HW1.out).get 3 rfl).facts
      obtain ⟨b01, b02, b03⟩ := ((HP.out.2.2.2.1.below HW1.out).get 0 rfl).facts
      gi_wp2_with fail
      refine wpIn_region_nqd 14  (by kernel_rfl) (by kernel_rfl) ?_
      intro Cw Rw hc hb' hb2 hd hRw
      simp only [List.take_succ_cons, List.take_zero]
      iterate 8 (
        first
          | (refine nqW_skip rfl (fun K hK => ?_); go_frame; refine hK _ ?_; clear hK K)
          | ((first | (refine nqW_plain (fun K hK => ?_)) | (refine nqW_want rfl (fun K hK => ?_)) | (refine nqW_step (fun K hK => ?_); go_simp))
             first
               | (refine nq_move rfl ?_; go_simp; refine hK _ ?_; clear hK K)
               | (refine nq_assign rfl ?_; go_simp; refine hK _ ?_; clear hK K)
               | (refine nq_flt rfl rfl rfl rfl hd ?_; intro _; go_frame; refine hK _ ?_; clear hK K)
               | (refine nq_inC rfl ?_; intro w' hw'; go_simp; refine fd_both (V := (.float .f64 Yi)) (by kernel_rfl) (fun w2 hw2 => ?_) ?_; (next => (go_at_call 59; exact (HYi.out w2 (below_step HW1.out HW1.out.size (hb' _ hw2))).mono (fun e w3 ⟨he, hb⟩ => ⟨he, hb2 _ _ hw2 hb⟩))); (try go_simp); refine hK _ ?_; clear hK K hw' w')
               | (refine nq_same ?_; intro w' hw'; go_simp; (try go_bits); refine hK _ ?_; clear hK K hw' w')
               | (refine nq_same ?_; intro w' hw'; go_simp; rw [if_pos (by omega)]; go_simp; (try go_bits); refine hK _ ?_; clear hK K hw' w')
               | (go_simp; refine hK _ ?_; clear hK K)))
      iterate 6 (
        first
          | (refine nqW_skip rfl (fun K hK => ?_); go_frame; refine hK _ ?_; clear hK K)
          | ((first | (refine nqW_plain (fun K hK => ?_)) | (refine nqW_want rfl (fun K hK => ?_)) | (refine nqW_step (fun K hK => ?_); go_simp))
             first
               | (refine nq_move rfl ?_; go_simp; refine hK _ ?_; clear hK K)
               | (refine nq_assign rfl ?_; go_simp; refine hK _ ?_; clear hK K)
               | (refine nq_flt rfl rfl rfl rfl hd ?_; intro _; go_frame; refine hK _ ?_; clear hK K)
               | (refine nq_inC rfl ?_; intro w' hw'; go_simp; refine fd_both (V := (.float .f64 Xj)) (by kernel_rfl) (fun w2 hw2 => ?_) ?_; (next => (go_at_call 59; exact (HXj.out w2 (below_step HW1.out HW1.out.size (hb' _ hw2))).mono (fun e w3 ⟨he, hb⟩ => ⟨he, hb2 _ _ hw2 hb⟩))); (try go_simp); refine hK _ ?_; clear hK K hw' w')
               | (refine nq_same ?_; intro w' hw'; go_simp; (try go_bits); refine hK _ ?_; clear hK K hw' w')
               | (refine nq_same ?_; intro w' hw'; go_simp; rw [if_pos (by omega)]; go_simp; (try go_bits); refine hK _ ?_; clear hK K hw' w')
               | (go_simp; refine hK _ ?_; clear hK K)))
      refine nqW_nil (hRw _ ?_)
      clear hc hb' hb2 hd hRw
      intro w' hw'
      simp only [List.drop]
      have hwT := below_step HW1.out HW1.out.size hw'
      obtain ⟨hok, hrw, hWw, hK, hB, hs4, hSS, hXX, hi, hji⟩ := HP.out
      have HSet := Lib.hid (fun s => Set_any w' m sm ws i j (raw (fadd (fadd XX (fmul (fmul a Xi) Yj)) (fmul (fmul a Yi) Xj)) s) (hok.below hwT))
      have HQ := Lib.hid (show _ ∧ _ ∧ _ ∧ _ ∧ _ ∧ _ ∧ _ ∧ _ from ⟨hK.below hwT, hB.trans ((Bel.of hwT).mono hB.size), Nat.le_trans hs4 hwT.size, hok, hrw, hWw, hwT, hSS⟩)
      clear hok hrw hWw hK hB hs4 hSS hXX hi hji hw' hwT HP b11 b12 b13 b21 b22 b23 b31 b32 b33 b01 b02 b03
      gi_wp2_with fail
      refine ⟨trivial, (CallsIn.inRound l (callsIn_wide.2 (HSet.out _))).mono ?_⟩
      rintro e w7 ⟨rfl, hok3, hbb⟩
      obtain ⟨hK1, hB1, hs1, hok, hrw, hWw, hw', hSS⟩ := HQ.out
      have hTot := (Bel.of (s := sm) hw').trans (hbb.mono hw'.size)
      have hbox := ok_box hok (by have := HSome.out.2.2; intro e; rw [e] at this; cases this)
      have hlt : fadd (fadd XX (fmul (fmul a Xi) Yj)) (fmul (fmul a Yi) Xj) < 18446744073709551616 := by rw [← HV.out]; exact syr2V_lt _ _ _ _ _ _ _ _
      gi_wp2
      refine ⟨keeps_bel hTot hbox _, ⟨_, hok3, ?_, words_put hWw m i j (raw_lt hlt _)⟩, hK1.bel hbb, hB1.trans (hbb.mono hB1.size), Nat.le_trans hs1 hbb.size⟩
      show Go.Proofs.Ytbcdpibcieadlaa.Rw _ (m.put (rowP (syr2P a x y m xs ys ms) i j (halfP (syr2P a x y m xs ys ms) i ms)) i j (syr2V a x y xs ys m (i, j) (rowP (syr2P a x y m xs ys ms) i j (halfP (syr2P a x y m xs ys ms) i ms))))
      rw [← hSS, HV.out]
      exact hrw.put m i j (fadd (fadd XX (fmul (fmul a Xi) Yj)) (fmul (fmul a Yi) Xj)) _
    case done =>
      rintro Dd W hDd ⟨⟨ws, hok, hrw, hWw⟩, hK, hB, hs4⟩ hKd
      replace hrw : Rw ws (halfP (syr2P a x y m xs ys ms) m.r ms) := hrw
      rw [← HDD.out] at hrw
      have hst : StillC W2.heap.size W _ := StillC.put (o' := .deferred none) hDd hKd rfl
      have HE := Lib.hid (show _ ∧ _ ∧ _ ∧ _ from ⟨hok.still hst, hrw, hWw, hB.trans (Bel.of (hst.1.mono (by have := HB6.out.size; omega)))⟩)
      clear hok hrw hWw hK hB hs4 hst
      go_wp2
      refine ⟨by simp, .inl ⟨_, _, rfl, run_takeDeferred hKd, ?_⟩⟩
      exact ⟨_, results_tmp rfl _ _ _, rfl, ws, HE.out⟩
  · skip
    have t1 : (E != 0) = true := by simp [hE]
    rw [if_neg hE] at hD
    subst hD
    clear hE
    go_enter Try.func42, Try.ntmps42
    go_upto_region 1 with (fail)
    rw [← hW0]
    clear hW0
    obtain ⟨hB0, x0, x1, x2, x3⟩ := HX.out
    have hbA : Below W0.heap.size W0 (W0.alloc (.cells #[.pointer x.p, .int .i64 x.r, .int .i64 x.c, .int .i64 x.o, .int .i64 x.d, .int .i64 x.u, .pointer y.p, .int .i64 y.r, .int .i64 y.c, .int .i64 y.o, .int .i64 y.d, .int .i64 y.u, .pointer m.p, .int .i64 m.r, .int .i64 m.c, .int .i64 m.o, .int .i64 m.d, .int .i64 m.u] 29)) := (Below.refl _ _).alloc (Nat.le_refl _) _
    have hz : Box (W0.alloc (.cells #[.pointer x.p, .int .i64 x.r, .int .i64 x.c, .int .i64 x.o, .int .i64 x.d, .int .i64 x.u, .pointer y.p, .int .i64 y.r, .int .i64 y.c, .int .i64 y.o, .int .i64 y.d, .int .i64 y.u, .pointer m.p, .int .i64 m.r, .int .i64 m.c, .int .i64 m.o, .int .i64 m.d, .int .i64 m.u] 29)) W0.heap.size ([x, y, m].flatMap Vw.cs) := Box.newA W0 ([x, y, m].flatMap Vw.cs) _ rfl
    have hB1 := below_step hB0 hB0.size hbA
    have HCo := Lib.hid (HO.out _ hB1 _ _ _ _ (x3.below hbA) (x1.below hbA) (x2.below hbA) hz)
    obtain ⟨p1, p2, p3⟩ := x1.facts
    obtain ⟨q1, q2, q3⟩ := x2.facts
    obtain ⟨r1, r2, r3⟩ := x3.facts
    have HB1 := Lib.hid (show _ ∧ _ ∧ _ ∧ _ ∧ _ from ⟨hB1, x0.below hbA, x1.below hbA, x2.below hbA, x3.below hbA⟩)
    clear hB0 x0 x1 x2 x3 hbA hz hB1 HO HX
    go_wp2_with fail
    refine HCo.out.mono ?_
    rintro e w1 ⟨rfl, hb1⟩
    obtain ⟨hB1, x0, x1, x2, x3⟩ := HB1.out
    have HB2 := Lib.hid (show _ ∧ _ ∧ _ ∧ _ ∧ _ from ⟨below_step hB1 hB1.size hb1, x0.below hb1, x1.below hb1, x2.below hb1, x3.below hb1⟩)
    clear p1 p2 p3 q1 q2 q3 r1 r2 r3 hB1 hb1 x0 x1 x2 x3 HB1 HCo
    dsimp only
    go_wp2_with fail
    go_ret
    exact ⟨rfl, _, HY.out.2.2.1.below HB2.out.1, Rw.self HY.out.2.2.2.2.2, HY.out.2.2.2.2.2, Bel.of HB2.out.1⟩
end Go.Proofs.Ytbcdpibcieadlaa
