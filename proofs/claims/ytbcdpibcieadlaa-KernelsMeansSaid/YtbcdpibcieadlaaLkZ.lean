/- Layer 8: Ger (printed by gen_lk.py). No condition but on lengths. -/
import Derived.Test.YtbcdpibcieadlaaZz21
import Derived.Test.YtbcdpibcieadlaaZz16
namespace Go.Proofs.Ytbcdpibcieadlaa
open Go Go.RowKit Go.Shelf
attribute [local go_sem] Oper.semAt_some
set_option maxRecDepth 1000000

/-- A place of a matrix to which a vector times another one is added. -/
def gerV (a : Nat) (x y : Vw) (xs ys : List Nat) (m : Vw) (p : Nat × Nat) (s : List Nat) : Nat := fadd (m.get s p.1 p.2) (fmul (fmul a (x.getVec xs p.1)) (y.getVec ys p.2))
theorem gerV_lt (a : Nat) (x y : Vw) (xs ys : List Nat) (m : Vw) (p : Nat × Nat) (s : List Nat) : gerV a x y xs ys m p s < 18446744073709551616 := fadd_lt _ _
def gerP (a : Nat) (x y m : Vw) (xs ys ms : List Nat) (n : Nat) : List Nat := (plcs m.c n).foldl (fun s p => m.put s p.1 p.2 (gerV a x y xs ys m p s)) ms
theorem gerP_at (a : Nat) (x y m : Vw) (xs ys ms : List Nat) {i j : Nat} (hj : j < m.c) : gerP a x y m xs ys ms (i * m.c + j + 1) = m.put (gerP a x y m xs ys ms (i * m.c + j)) i j (gerV a x y xs ys m (i, j) (gerP a x y m xs ys ms (i * m.c + j))) := by
  unfold gerP
  rw [plcs_at hj, List.foldl_append]
  rfl
def gerL (a : Nat) (x y m : Vw) (xs ys ms : List Nat) : List Nat := if openE [x, y, m] (fits_Ger m x y) = 0 then gerP a x y m xs ys ms (m.r * m.c) else ms
set_option maxHeartbeats 32000000 in
theorem Ger_any (w : World) (a : Nat) (x y m : Vw) (sx sy sm : Nat) (xs ys ms : List Nat) (hx : x.Ok w sx xs) (hy : y.Ok w sy ys) (hm : m.Ok w sm ms) (wx : Words xs) (wy : Words ys) (wm : Words ms) :
    Calls Try.prog 40 #[.float .f64 a, x.val, y.val, m.val] w fun e w' => e = .returned (.int .i64 (openE [x, y, m] (fits_Ger m x y))) ∧ ∃ ws, m.Ok w' sm ws ∧ Rw ws (gerL a x y m xs ys ms) ∧ Words ws ∧ Bel w.heap.size sm w w' := by
  have HO := Lib.hid (fun W (h : Below w.heap.size w W) km kx ky b hbm hbx hby hb => open_any W 91 #[.pointer (some ⟨km, 0, none⟩), .pointer (some ⟨kx, 0, none⟩), .pointer (some ⟨ky, 0, none⟩)] b [x, y, m] (fits_Ger m x y) hb (fun v hv => by
      simp only [List.mem_cons, List.not_mem_nil, or_false] at hv
      rcases hv with rfl | rfl | rfl
      · exact ⟨sx, xs, hx.below h⟩
      · exact ⟨sy, ys, hy.below h⟩
      · exact ⟨sm, ms, hm.below h⟩
    ) (by simp) (enters_of Try.func91 (by kernel_rfl) rfl) (fun _ W' h' => Gerf_any W' m x y km kx ky (Box.below hbm h') (Box.below hbx h') (Box.below hby h') (hm.small) (hx.small) (hy.small)))
  unfold gerL
  obtain ⟨W0, hW0⟩ : ∃ W0, W0 = ((((w.alloc (.cells #[.float .f64 a] 31)).alloc (.cells #[.pointer x.p, .int .i64 x.r, .int .i64 x.c, .int .i64 x.o, .int .i64 x.d, .int .i64 x.u] 29)).alloc (.cells #[.pointer y.p, .int .i64 y.r, .int .i64 y.c, .int .i64 y.o, .int .i64 y.d, .int .i64 y.u] 29)).alloc (.cells #[.pointer m.p, .int .i64 m.r, .int .i64 m.c, .int .i64 m.o, .int .i64 m.d, .int .i64 m.u] 29)) := ⟨_, rfl⟩
  have hB0 : Below w.heap.size w W0 := hW0 ▸ ((((Below.refl _ _).alloc (Nat.le_refl _) _).alloc (by simp) _).alloc (by simp; omega) _).alloc (by simp; omega) _
  have x0 : Box W0 (w.heap.size) [.float .f64 a] := hW0 ▸ ((((Box.newA w [.float .f64 a] _ rfl).alloc _).alloc _).alloc _)
  have x1 : Box W0 (w.heap.size + 1) [.pointer x.p, .int .i64 x.r, .int .i64 x.c, .int .i64 x.o, .int .i64 x.d, .int .i64 x.u] := hW0 ▸ (((Box.newA _ [.pointer x.p, .int .i64 x.r, .int .i64 x.c, .int .i64 x.o, .int .i64 x.d, .int .i64 x.u] _ (by simp)).alloc _).alloc _)
  have x2 : Box W0 (w.heap.size + 1 + 1) [.pointer y.p, .int .i64 y.r, .int .i64 y.c, .int .i64 y.o, .int .i64 y.d, .int .i64 y.u] := hW0 ▸ ((Box.newA _ [.pointer y.p, .int .i64 y.r, .int .i64 y.c, .int .i64 y.o, .int .i64 y.d, .int .i64 y.u] _ (by simp)).alloc _)
  have x3 : Box W0 (w.heap.size + 1 + 1 + 1) [.pointer m.p, .int .i64 m.r, .int .i64 m.c, .int .i64 m.o, .int .i64 m.d, .int .i64 m.u] := hW0 ▸ (Box.newA _ [.pointer m.p, .int .i64 m.r, .int .i64 m.c, .int .i64 m.o, .int .i64 m.d, .int .i64 m.u] _ (by simp))
  have HX := Lib.hid (show _ ∧ _ ∧ _ ∧ _ ∧ _ from ⟨hB0, x0, x1, x2, x3⟩)
  have HCx := Lib.hid (fun W (h : Below w.heap.size w W) => Copy_any W x sx xs (hx.below h))
  have HCy := Lib.hid (fun W (h : Below w.heap.size w W) => Copy_any W y sy ys (hy.below h))
  have HY := Lib.hid (show _ ∧ _ ∧ _ ∧ _ ∧ _ ∧ _ from ⟨hx, hy, hm, wx, wy, wm⟩)
  have HZ := Lib.hid (fun (h : openE [x, y, m] (fits_Ger m x y) = 0) => openE_zero h)
  clear hB0 x0 x1 x2 x3 hx hy hm wx wy wm
  show Calls Try.prog 40 #[.float .f64 a, (.agg #[.pointer x.p, .int .i64 x.r, .int .i64 x.c, .int .i64 x.o, .int .i64 x.d, .int .i64 x.u]), (.agg #[.pointer y.p, .int .i64 y.r, .int .i64 y.c, .int .i64 y.o, .int .i64 y.d, .int .i64 y.u]), (.agg #[.pointer m.p, .int .i64 m.r, .int .i64 m.c, .int .i64 m.o, .int .i64 m.d, .int .i64 m.u])] w _
  generalize openE [x, y, m] (fits_Ger m x y) = E at *
  obtain ⟨DD, hD⟩ : ∃ DD, DD = (if E = 0 then gerP a x y m xs ys ms (m.r * m.c) else ms) := ⟨_, rfl⟩
  rw [← hD]
  by_cases hE : E = 0
  · skip
    subst hE
    rw [if_pos rfl] at hD
    have HDD := Lib.hid hD
    clear hD
    obtain ⟨hsome, hfit⟩ := HZ.out rfl
    have HSome := Lib.hid (show _ ∧ _ ∧ _ from ⟨hsome x (by simp), hsome y (by simp), hsome m (by simp)⟩)
    unfold fits_Ger at hfit
    simp only [Bool.and_eq_true] at hfit
    have HFit := Lib.hid hfit
    clear hsome hfit HZ
    have HSm := Lib.hid (Vw.Ok.sto HY.out.2.2.1 HSome.out.2.2)
    refine (callsIn_wide (n := 9)).1 ?_
    refine callsIn_of_wp_marks Try.func40 rfl trivial ?_ rfl
    refine wpIn_wide.2 ?_
    simp only [Try.ntmps40, List.size_toArray, List.length_cons, List.length_nil, Nat.reduceAdd, Nat.reduceSub, Array.replicate_succ, Array.replicate_zero, List.push_toArray, List.append_toArray, List.nil_append, List.cons_append]
    go_upto_region 1 with (fail)
    rw [← hW0]
    clear hW0
    obtain ⟨hB0, x0, x1, x2, x3⟩ := HX.out
    have hbA : Below W0.heap.size W0 (W0.alloc (.cells #[.pointer x.p, .int .i64 x.r, .int .i64 x.c, .int .i64 x.o, .int .i64 x.d, .int .i64 x.u, .pointer y.p, .int .i64 y.r, .int .i64 y.c, .int .i64 y.o, .int .i64 y.d, .int .i64 y.u, .pointer m.p, .int .i64 m.r, .int .i64 m.c, .int .i64 m.o, .int .i64 m.d, .int .i64 m.u] 29)) := (Below.refl _ _).alloc (Nat.le_refl _) _
    have hz : Box (W0.alloc (.cells #[.pointer x.p, .int .i64 x.r, .int .i64 x.c, .int .i64 x.o, .int .i64 x.d, .int .i64 x.u, .pointer y.p, .int .i64 y.r, .int .i64 y.c, .int .i64 y.o, .int .i64 y.d, .int .i64 y.u, .pointer m.p, .int .i64 m.r, .int .i64 m.c, .int .i64 m.o, .int .i64 m.d, .int .i64 m.u] 29)) W0.heap.size ([x, y, m].flatMap Vw.cs) := Box.newA W0 ([x, y, m].flatMap Vw.cs) _ rfl
    have hB1 := below_step hB0 hB0.size hbA
    have HCo := Lib.hid (HO.out _ hB1 _ _ _ _ (x3.below hbA) (x1.below hbA) (x2.below hbA) hz)
    obtain ⟨p1, p2, p3⟩ := x1.facts
    obtain ⟨q1, q2, q3⟩ := x2.facts
    obtain ⟨r1, r2, r3⟩ := x3.facts
    have HB1 := Lib.hid (show _ ∧ _ ∧ _ ∧ _ ∧ _ from ⟨hB1, x0.below hbA, x1.below hbA, x2.below hbA, x3.below hbA⟩)
    clear hB0 x0 x1 x2 x3 hbA hz hB1 HO HX
    go_wp2_with fail
    refine HCo.out.mono ?_
    rintro e w1 ⟨rfl, hb1⟩
    obtain ⟨hB1, x0, x1, x2, x3⟩ := HB1.out
    have HB2 := Lib.hid (show _ ∧ _ ∧ _ ∧ _ ∧ _ from ⟨below_step hB1 hB1.size hb1, x0.below hb1, x1.below hb1, x2.below hb1, x3.below hb1⟩)
    clear p1 p2 p3 q1 q2 q3 r1 r2 r3 hB1 hb1 x0 x1 x2 x3 HB1 HCo
    dsimp only
    go_upto_region 4 with (fail)
    obtain ⟨hB2, x0, x1, x2, x3⟩ := HB2.out
    have hdr : Below w1.heap.size w1 w1.drew := below_drewN 1 (Below.refl _ w1)
    have HKK := Lib.hid (show ∀ V, Below w1.drew.heap.size w1.drew V → KerW V [(w.heap.size, [.float .f64 a]), (w.heap.size + 1, [.pointer x.p, .int .i64 x.r, .int .i64 x.c, .int .i64 x.o, .int .i64 x.d, .int .i64 x.u]), (w.heap.size + 1 + 1, [.pointer y.p, .int .i64 y.r, .int .i64 y.c, .int .i64 y.o, .int .i64 y.d, .int .i64 y.u]), (w.heap.size + 1 + 1 + 1, [.pointer m.p, .int .i64 m.r, .int .i64 m.c, .int .i64 m.o, .int .i64 m.d, .int .i64 m.u])] [] sm from fun V h => ⟨fun p hp => by
      simp only [List.mem_cons, List.not_mem_nil, or_false] at hp
      rcases hp with rfl | rfl | rfl | rfl
      · exact (x0.below hdr).below h
      · exact (x1.below hdr).below h
      · exact (x2.below hdr).below h
      · exact (x3.below hdr).below h
      , fun p hp => by
      simp only [List.mem_cons, List.not_mem_nil, or_false] at hp
      have := HSm.out.1
      rcases hp with rfl | rfl | rfl | rfl
      · show w.heap.size ≠ sm; omega
      · show w.heap.size + 1 ≠ sm; omega
      · show w.heap.size + 1 + 1 ≠ sm; omega
      · show w.heap.size + 1 + 1 + 1 ≠ sm; omega
      , fun q hq => by cases hq⟩)
    have HS := Lib.hid (show ∀ V, Below w1.drew.heap.size w1.drew V → (fun V => (∀ i, V.cell? ⟨w.heap.size + 1, i, none⟩ = ([.pointer x.p, .int .i64 x.r, .int .i64 x.c, .int .i64 x.o, .int .i64 x.d, .int .i64 x.u] : List Value)[i]?) ∧ (∀ i, V.cell? ⟨w.heap.size + 1 + 1, i, none⟩ = ([.pointer y.p, .int .i64 y.r, .int .i64 y.c, .int .i64 y.o, .int .i64 y.d, .int .i64 y.u] : List Value)[i]?)) V from fun V h => ⟨((HKK.out V h).get 1 rfl).cell, ((HKK.out V h).get 2 rfl).cell⟩)
    refine wp_region_items 3 [(true, 0), (true, 2), (false, 1)] (fun V => (∀ i, V.cell? ⟨w.heap.size + 1, i, none⟩ = ([.pointer x.p, .int .i64 x.r, .int .i64 x.c, .int .i64 x.o, .int .i64 x.d, .int .i64 x.u] : List Value)[i]?) ∧ (∀ i, V.cell? ⟨w.heap.size + 1 + 1, i, none⟩ = ([.pointer y.p, .int .i64 y.r, .int .i64 y.c, .int .i64 y.o, .int .i64 y.d, .int .i64 y.u] : List Value)[i]?)) (by kernel_rfl) (by kernel_rfl) (HS.out _ (Below.refl _ _)) ?_
    have HBw := Lib.hid (below_step hB2 hB2.size hdr)
    have hlast := x3.lt
    have hdrs := hdr.size
    have HLo := Lib.hid (show w.heap.size + 1 + 1 + 1 < w1.drew.heap.size from Nat.lt_of_lt_of_le hlast hdrs)
    generalize w1.drew = w2 at *
    clear hdr hB2 x0 x1 x2 x3 HB2 hlast hdrs
    iterate 2 (refine iW_take (v := ?_) rfl rfl ?_ ?_; rotate_left; (next => (intro w' hSw; (try dsimp only at hSw); go_simp; (try (rw [if_pos (by omega)]; go_simp)); (try with_reducible rfl))); (simp only [Act.put, List.setIfInBounds_toArray, List.set_cons_zero, List.set_cons_succ]))
    refine iW_mid rfl rfl ?_
    go_simp
    refine (HCx.out w2 HBw.out).mono ?_
    rintro e w3 ⟨st1, sb1, rfl, hst1, k1, k2, hb3⟩
    refine ⟨HS.out _ hb3, ?_⟩
    have hs1 := hst1 (isNone_some HSome.out.1)
    have hl1 := sto_lts hs1
    have G1 := Lib.hid (show _ ∧ _ ∧ _ ∧ _ ∧ _ ∧ _ ∧ _ from ⟨cpy_ok HY.out.1 hst1, CpyF.of xs st1 HSome.out.1 HY.out.1.small.1 HY.out.1.small.2, k1, k2, hl1.1, hl1.2, hb3⟩)
    clear hst1 k1 k2 hs1 hl1 hb3
    generalize cpyV x st1 = cA at *
    dsimp only [Vw.val]
    refine iW_nil ?_
    go_simp
    go_wp2_with fail
    refine (HCy.out w3 (below_step HBw.out HBw.out.size G1.out.2.2.2.2.2.2)).mono ?_
    rintro e w4 ⟨st2, sb2, rfl, hst2, k1, k2, hb4⟩
    have hs2 := hst2 (isNone_some HSome.out.2.1)
    have hl2 := sto_lts hs2
    have G2 := Lib.hid (show _ ∧ _ ∧ _ ∧ _ ∧ _ ∧ _ ∧ _ from ⟨cpy_ok HY.out.2.1 hst2, CpyF.of ys st2 HSome.out.2.1 HY.out.2.1.small.1 HY.out.2.1.small.2, k1, k2, hl2.1, hl2.2, hb4⟩)
    clear hst2 k1 k2 hs2 hl2 hb4
    generalize cpyV y st2 = cB at *
    dsimp only [Vw.val]
    have HK4 := Lib.hid (HKK.out w4 (below_step G1.out.2.2.2.2.2.2 G1.out.2.2.2.2.2.2.size G2.out.2.2.2.2.2.2))
    obtain ⟨p1, p2, p3⟩ := (HK4.out.get 1 rfl).facts
    obtain ⟨q1, q2, q3⟩ := (HK4.out.get 2 rfl).facts
    go_wp2
    refine NoPanic.normal ?_
    go_upto_region 5 with (fail)
    rw [show ((((((((((((w4.setCell ⟨w.heap.size + 1, 0, none⟩ (.pointer cA.p)).setCell ⟨w.heap.size + 1, 1, none⟩ (.int .i64 cA.r)).setCell ⟨w.heap.size + 1, 2, none⟩ (.int .i64 cA.c)).setCell ⟨w.heap.size + 1, 3, none⟩ (.int .i64 cA.o)).setCell ⟨w.heap.size + 1, 4, none⟩ (.int .i64 cA.d)).setCell ⟨w.heap.size + 1, 5, none⟩ (.int .i64 cA.u)).setCell ⟨w.heap.size + 1 + 1, 0, none⟩ (.pointer cB.p)).setCell ⟨w.heap.size + 1 + 1, 1, none⟩ (.int .i64 cB.r)).setCell ⟨w.heap.size + 1 + 1, 2, none⟩ (.int .i64 cB.c)).setCell ⟨w.heap.size + 1 + 1, 3, none⟩ (.int .i64 cB.o)).setCell ⟨w.heap.size + 1 + 1, 4, none⟩ (.int .i64 cB.d)).setCell ⟨w.heap.size + 1 + 1, 5, none⟩ (.int .i64 cB.u)) = six (six w4 (w.heap.size + 1) cA) (w.heap.size + 1 + 1) cB from rfl]
    clear p1 p2 p3 q1 q2 q3 HKK HS
    have HJ := Lib.hid (show KerW (six (six w4 (w.heap.size + 1) cA) (w.heap.size + 1 + 1) cB) [(w.heap.size, [.float .f64 a]), (w.heap.size + 1, [.pointer cA.p, .int .i64 cA.r, .int .i64 cA.c, .int .i64 cA.o, .int .i64 cA.d, .int .i64 cA.u]), (w.heap.size + 1 + 1, [.pointer cB.p, .int .i64 cB.r, .int .i64 cB.c, .int .i64 cB.o, .int .i64 cB.d, .int .i64 cB.u]), (w.heap.size + 1 + 1 + 1, [.pointer m.p, .int .i64 m.r, .int .i64 m.c, .int .i64 m.o, .int .i64 m.d, .int .i64 m.u])] [(cA, sb1, x.list xs), (cB, sb2, y.list ys)] sm ∧ Below w.heap.size w (six (six w4 (w.heap.size + 1) cA) (w.heap.size + 1 + 1) cB) ∧ st1 ≠ st2 from by
      obtain ⟨g1, g2, g3, g4, g5, g6, g7⟩ := G1.out
      obtain ⟨h1, h2, h3, h4, h5, h6, h7⟩ := G2.out
      have hlo := HLo.out
      have hsm := HSm.out.1
      have hw := HBw.out.size
      have hsz := h7.size
      have hsz1 := g7.size
      have hB4 := below_step (below_step HBw.out HBw.out.size g7) (below_step HBw.out HBw.out.size g7).size h7
      have g1' := g1.below h7
      have a1 := (Vw.Apart.of (m := w.heap.size + 1) g1' (.inr g2.p) (by omega) (by omega)).bel (six_bel _ _ _ cA)
      have a2 := (Vw.Apart.of (m := w.heap.size + 1 + 1) a1.1 (.inr g2.p) (by omega) (by omega)).bel (six_bel _ _ _ cB)
      have b1 := (Vw.Apart.of (m := w.heap.size + 1) h1 (.inr h2.p) (by omega) (by omega)).bel (six_bel _ _ _ cA)
      have b2 := (Vw.Apart.of (m := w.heap.size + 1 + 1) b1.1 (.inr h2.p) (by omega) (by omega)).bel (six_bel _ _ _ cB)
      refine ⟨⟨fun p hp => ?_, fun p hp => ?_, fun q hq => ?_⟩, six_below (six_below hB4 (by omega) _) (by omega) _, by omega⟩
      · simp only [List.mem_cons, List.not_mem_nil, or_false] at hp
        rcases hp with rfl | rfl | rfl | rfl
        · exact six_other (six_other (HK4.out.get 0 rfl) (by omega) cA) (by omega) cB
        · exact six_other (six_box (HK4.out.get 1 rfl) cA) (by omega) cB
        · exact six_box (six_other (HK4.out.get 2 rfl) (by omega) cA) cB
        · exact six_other (six_other (HK4.out.get 3 rfl) (by omega) cA) (by omega) cB
      · simp only [List.mem_cons, List.not_mem_nil, or_false] at hp
        rcases hp with rfl | rfl | rfl | rfl
        · show w.heap.size ≠ sm; omega
        · show w.heap.size + 1 ≠ sm; omega
        · show w.heap.size + 1 + 1 ≠ sm; omega
        · show w.heap.size + 1 + 1 + 1 ≠ sm; omega
      · simp only [List.mem_cons, List.not_mem_nil, or_false] at hq
        rcases hq with rfl | rfl
        · exact Vw.Apart.of a2.1 (.inr g2.p) (show sb1 ≠ sm by omega) (show st1 ≠ sm by omega)
        · exact Vw.Apart.of b2.1 (.inr h2.p) (show sb2 ≠ sm by omega) (show st2 ≠ sm by omega))
    have HA := Lib.hid G1.out.2.1
    have HB := Lib.hid G2.out.2.1
    clear HK4 G1 G2 HLo HBw
    generalize six (six w4 (w.heap.size + 1) cA) (w.heap.size + 1 + 1) cB = w5 at *
    obtain ⟨p1, p2, p3⟩ := (HJ.out.1.get 3 rfl).facts
    go_upto_block 0 with (go_at_call 79; refine (All_any _ _ _ _ _ _ _).mono ?_; rintro e w6 ⟨rfl, rfl⟩)
    refine wpIn_wide (n := 9).1 ?_
    gi_wp2_with fail
    clear p1 p2 p3
    have hbV : Below w5.heap.size w5 (w5.alloc (.cells #[.pointer m.p, .int .i64 m.r, .int .i64 m.c, .int .i64 m.o, .int .i64 m.d, .int .i64 m.u] 29)) := (Below.refl _ _).alloc (Nat.le_refl _) _
    have HK6 := Lib.hid ((HJ.out.1.below hbV).box (Box.newA w5 [.pointer m.p, .int .i64 m.r, .int .i64 m.c, .int .i64 m.o, .int .i64 m.d, .int .i64 m.u] 29 rfl) (show w5.heap.size ≠ sm by have := HSm.out.1; have := HJ.out.2.1.size; omega))
    have HB6 := Lib.hid (below_step HJ.out.2.1 HJ.out.2.1.size hbV)
    generalize w5.alloc (.cells #[.pointer m.p, .int .i64 m.r, .int .i64 m.c, .int .i64 m.o, .int .i64 m.d, .int .i64 m.u] 29) = W2 at *
    generalize w5.heap.size = bV at *
    clear hbV
    have hsmo : m.r ≤ 512 ∧ m.c ≤ 512 := HY.out.2.2.1.small
    refine view_loopJ (v := m) (sb := sm) 9 (by decide) hsmo.1 hsmo.2 rfl rfl (fun k W => (∃ ws, m.Ok W sm ws ∧ Rw ws (gerP a x y m xs ys ms k) ∧ Words ws) ∧ KerW W ([(w.heap.size, [.float .f64 a]), (w.heap.size + 1, [.pointer cA.p, .int .i64 cA.r, .int .i64 cA.c, .int .i64 cA.o, .int .i64 cA.d, .int .i64 cA.u]), (w.heap.size + 1 + 1, [.pointer cB.p, .int .i64 cB.r, .int .i64 cB.c, .int .i64 cB.o, .int .i64 cB.d, .int .i64 cB.u]), (w.heap.size + 1 + 1 + 1, [.pointer m.p, .int .i64 m.r, .int .i64 m.c, .int .i64 m.o, .int .i64 m.d, .int .i64 m.u])] ++ [(bV, [.pointer m.p, .int .i64 m.r, .int .i64 m.c, .int .i64 m.o, .int .i64 m.d, .int .i64 m.u])]) [(cA, sb1, x.list xs), (cB, sb2, y.list ys)] sm ∧ Bel w.heap.size sm w W ∧ W2.heap.size ≤ W.heap.size)
      (fun _ _ h => h.2.2.2) (fun _ _ _ h hs => ⟨by obtain ⟨ws, h1, h2, h3⟩ := h.1; exact ⟨ws, h1.still hs, h2, h3⟩, h.2.1.still hs, h.2.2.1.trans (Bel.of (hs.1.mono HB6.out.size)), Nat.le_trans h.2.2.2 hs.1.size⟩)
      (fun k A h => ⟨h.2.1.get 4 rfl, by obtain ⟨ws, h1, _⟩ := h.1; exact ⟨ws, h1⟩⟩) ⟨⟨ms, HY.out.2.2.1.below HB6.out, Rw.self HY.out.2.2.2.2.2, HY.out.2.2.2.2.2⟩, HK6.out, Bel.of HB6.out, Nat.le_refl _⟩
      (fun T i j x Bx => (((T.setIfInBounds 27 (.agg #[.int .i64 (i : Int), .int .i64 (j : Int)])).setIfInBounds 28 (.float .f64 x)).setIfInBounds 10 (.pointer (some ⟨Bx, 0, none⟩))).setIfInBounds 11 (.float .f64 x)) ?assign ?body ?done
    case assign =>
      intro l i j x W K hK
      gi_wp2
      exact hK
    case body =>
      rintro l i j xf Bx W wz hi hj ⟨⟨ws, hok, hrw, hWw⟩, hK, hB, hs4⟩ hokz hx hbx hBx
      have hwz : m.get wz i j = m.get ws i j := by rw [ok_uniq hokz hok (by have := HSome.out.2.2; intro e; rw [e] at this; cases this)]
      obtain ⟨sx, hsx⟩ := hrw.get m i j
      obtain ⟨XX, hXX⟩ : ∃ XX, XX = m.get (gerP a x y m xs ys ms (i * m.c + j)) i j := ⟨_, rfl⟩
      have hx2 : xf = raw XX sx := by rw [hx, hwz, hsx, hXX]
      have hBxm : Bx ≠ sm := by have := HSm.out.1; have := HB6.out.size; omega
      have HP := Lib.hid (show _ ∧ _ ∧ _ ∧ _ ∧ _ ∧ _ ∧ _ ∧ _ ∧ _ ∧ _ ∧ _ from ⟨hok, hrw, hWw, hK, hB, hs4, hbx, hBxm, hXX, hi, hj⟩)
      clear hok hrw hWw hB hs4 hokz hx hwz hsx hXX hBx hBxm
      obtain ⟨b11, b12, b13⟩ := (hK.get 1 rfl).facts
      obtain ⟨b21, b22, b23⟩ := (hK.get 2 rfl).facts
      obtain ⟨b31, b32, b33⟩ := (hK.get 3 rfl).facts
      obtain ⟨b01, b02, b03⟩ := (hK.get 0 rfl).facts
      obtain ⟨bx1, bx2, bx3⟩ := hbx.facts
      have A1 := Lib.hid (hK.vw 0 rfl)
      have A2 := Lib.hid (hK.vw 1 rfl)
      clear hK hbx
      subst hx2
      have hrr : i < lenV x.p x.r x.c ∧ j < lenV y.p y.r y.c := ⟨by rw [← (vecN_spec HFit.out.1).2]; exact hi, by rw [← (vecN_spec HFit.out.2).2]; exact hj⟩
      have HG1 := Lib.hid (show ∀ V, Below W.heap.size W V → Calls Try.prog 59 #[(.agg #[.pointer cA.p, .int .i64 cA.r, .int .i64 cA.c, .int .i64 cA.o, .int .i64 cA.d, .int .i64 cA.u]), .int .i64 (i : Int)] V fun e w' => e = .returned (.float .f64 (x.getVec xs i)) ∧ Below V.heap.size V w' from fun V h => by
        have hg := Get_any V cA sb1 (x.list xs) i (A1.out.1.below h)
        rw [HA.out.vec (vecN_spec HFit.out.1).1 i hrr.1] at hg
        exact hg)
      have HG2 := Lib.hid (show ∀ V, Below W.heap.size W V → Calls Try.prog 59 #[(.agg #[.pointer cB.p, .int .i64 cB.r, .int .i64 cB.c, .int .i64 cB.o, .int .i64 cB.d, .int .i64 cB.u]), .int .i64 (j : Int)] V fun e w' => e = .returned (.float .f64 (y.getVec ys j)) ∧ Below V.heap.size V w' from fun V h => by
        have hg := Get_any V cB sb2 (y.list ys) j (A2.out.1.below h)
        rw [HB.out.vec (vecN_spec HFit.out.2).1 j hrr.2] at hg
        exact hg)
      have HV := Lib.hid (show gerV a x y xs ys m (i, j) (gerP a x y m xs ys ms (i * m.c + j)) = fadd XX (fmul (fmul a (x.getVec xs i)) (y.getVec ys j)) from by rw [HP.out.2.2.2.2.2.2.2.2.1]; rfl)
      generalize x.getVec xs i = X at *
      generalize y.getVec ys j = Y at *
      clear hrr hi hj
      gi_wp2_with fail
      refine wpIn_region_nqd 18  (by kernel_rfl) (by kernel_rfl) ?_
      intro Cw Rw hc hb' hb2 hd hRw
      simp only [List.take_succ_cons, List.take_zero]
      iterate 11 (
        first
          | (refine nqW_skip rfl (fun K hK => ?_); go_frame; refine hK _ ?_; clear hK K)
          | ((first | (refine nqW_plain (fun K hK => ?_)) | (refine nqW_want rfl (fun K hK => ?_)) | (refine nqW_step (fun K hK => ?_); go_simp))
             first
               | (refine nq_move rfl ?_; go_simp; refine hK _ ?_; clear hK K)
               | (refine nq_assign rfl ?_; go_simp; refine hK _ ?_; clear hK K)
               | (refine nq_flt rfl rfl rfl rfl hd ?_; intro _; go_frame; refine hK _ ?_; clear hK K)
               | (refine nq_inC rfl ?_; intro w' hw'; go_simp; refine fd_both (V := (.float .f64 X)) (by kernel_rfl) (fun w2 hw2 => ?_) ?_; (next => (go_at_call 59; exact (HG1.out w2 (hb' _ hw2)).mono (fun e w3 ⟨he, hb⟩ => ⟨he, hb2 _ _ hw2 hb⟩))); (try go_simp); refine hK _ ?_; clear hK K hw' w')
               | (refine nq_same ?_; intro w' hw'; go_simp; (try go_bits); refine hK _ ?_; clear hK K hw' w')
               | (refine nq_same ?_; intro w' hw'; go_simp; rw [if_pos (by omega)]; go_simp; (try go_bits); refine hK _ ?_; clear hK K hw' w')
               | (go_simp; refine hK _ ?_; clear hK K)))
      iterate 7 (
        first
          | (refine nqW_skip rfl (fun K hK => ?_); go_frame; refine hK _ ?_; clear hK K)
          | ((first | (refine nqW_plain (fun K hK => ?_)) | (refine nqW_want rfl (fun K hK => ?_)) | (refine nqW_step (fun K hK => ?_); go_simp))
             first
               | (refine nq_move rfl ?_; go_simp; refine hK _ ?_; clear hK K)
               | (refine nq_assign rfl ?_; go_simp; refine hK _ ?_; clear hK K)
               | (refine nq_flt rfl rfl rfl rfl hd ?_; intro _; go_frame; refine hK _ ?_; clear hK K)
               | (refine nq_inC rfl ?_; intro w' hw'; go_simp; refine fd_both (V := (.float .f64 Y)) (by kernel_rfl) (fun w2 hw2 => ?_) ?_; (next => (go_at_call 59; exact (HG2.out w2 (hb' _ hw2)).mono (fun e w3 ⟨he, hb⟩ => ⟨he, hb2 _ _ hw2 hb⟩))); (try go_simp); refine hK _ ?_; clear hK K hw' w')
               | (refine nq_same ?_; intro w' hw'; go_simp; (try go_bits); refine hK _ ?_; clear hK K hw' w')
               | (refine nq_same ?_; intro w' hw'; go_simp; rw [if_pos (by omega)]; go_simp; (try go_bits); refine hK _ ?_; clear hK K hw' w')
               | (go_simp; refine hK _ ?_; clear hK K)))
      refine nqW_nil (hRw _ ?_)
      clear hc hb' hb2 hd hRw
      intro w' hw'
      simp only [List.drop]
      simp only [fadd_rawl, fadd_rawr, fmul_rawl, fmul_rawr]
      obtain ⟨hok, hrw, hWw, hK, hB, hs4, hbx, hBxm, hXX, hi, hj⟩ := HP.out
      have HSet := Lib.hid (fun s => Set_any w' m sm ws i j (raw (fadd XX (fmul (fmul a X) Y)) s) (hok.below hw'))
      have HQ := Lib.hid (show _ ∧ _ ∧ _ ∧ _ ∧ _ ∧ _ ∧ _ ∧ _ from ⟨hK.below hw', hB.trans ((Bel.of hw').mono hB.size), Nat.le_trans hs4 hw'.size, hok, hrw, hWw, hj, hw'⟩)
      clear hok hrw hWw hK hB hs4 hbx hBxm hXX hi hj hw' HP b11 b12 b13 b21 b22 b23 b31 b32 b33 b01 b02 b03 bx1 bx2 bx3
      gi_wp2_with fail
      refine ⟨trivial, (CallsIn.inRound l (callsIn_wide.2 (HSet.out _))).mono ?_⟩
      rintro e w7 ⟨rfl, hok3, hbb⟩
      obtain ⟨hK1, hB1, hs1, hok, hrw, hWw, hj, hw'⟩ := HQ.out
      have hTot := (Bel.of (s := sm) hw').trans (hbb.mono hw'.size)
      have hbox := ok_box hok (by have := HSome.out.2.2; intro e; rw [e] at this; cases this)
      have hlt : fadd XX (fmul (fmul a X) Y) < 18446744073709551616 := by rw [← HV.out]; exact gerV_lt _ _ _ _ _ _ _ _
      gi_wp2
      refine ⟨keeps_bel hTot hbox _, ⟨_, hok3, ?_, words_put hWw m i j (raw_lt hlt _)⟩, hK1.bel hbb, hB1.trans (hbb.mono hB1.size), Nat.le_trans hs1 hbb.size⟩
      rw [gerP_at a x y m xs ys ms hj, HV.out]
      exact hrw.put m i j (fadd XX (fmul (fmul a X) Y)) _
    case done =>
      rintro Dd W hDd ⟨⟨ws, hok, hrw, hWw⟩, hK, hB, hs4⟩ hKd
      rw [← HDD.out] at hrw
      have hst : StillC W2.heap.size W _ := StillC.put (o' := .deferred none) hDd hKd rfl
      have HE := Lib.hid (show _ ∧ _ ∧ _ ∧ _ from ⟨hok.still hst, hrw, hWw, hB.trans (Bel.of (hst.1.mono (by have := HB6.out.size; omega)))⟩)
      clear hok hrw hWw hK hB hs4 hst
      go_wp2
      refine ⟨by simp, .inl ⟨_, _, rfl, run_takeDeferred hKd, ?_⟩⟩
      exact ⟨_, results_tmp rfl _ _ _, rfl, ws, HE.out⟩
  · skip
    have t1 : (E != 0) = true := by simp [hE]
    rw [if_neg hE] at hD
    subst hD
    clear hE
    go_enter Try.func40, Try.ntmps40
    go_upto_region 1 with (fail)
    rw [← hW0]
    clear hW0
    obtain ⟨hB0, x0, x1, x2, x3⟩ := HX.out
    have hbA : Below W0.heap.size W0 (W0.alloc (.cells #[.pointer x.p, .int .i64 x.r, .int .i64 x.c, .int .i64 x.o, .int .i64 x.d, .int .i64 x.u, .pointer y.p, .int .i64 y.r, .int .i64 y.c, .int .i64 y.o, .int .i64 y.d, .int .i64 y.u, .pointer m.p, .int .i64 m.r, .int .i64 m.c, .int .i64 m.o, .int .i64 m.d, .int .i64 m.u] 29)) := (Below.refl _ _).alloc (Nat.le_refl _) _
    have hz : Box (W0.alloc (.cells #[.pointer x.p, .int .i64 x.r, .int .i64 x.c, .int .i64 x.o, .int .i64 x.d, .int .i64 x.u, .pointer y.p, .int .i64 y.r, .int .i64 y.c, .int .i64 y.o, .int .i64 y.d, .int .i64 y.u, .pointer m.p, .int .i64 m.r, .int .i64 m.c, .int .i64 m.o, .int .i64 m.d, .int .i64 m.u] 29)) W0.heap.size ([x, y, m].flatMap Vw.cs) := Box.newA W0 ([x, y, m].flatMap Vw.cs) _ rfl
    have hB1 := below_step hB0 hB0.size hbA
    have HCo := Lib.hid (HO.out _ hB1 _ _ _ _ (x3.below hbA) (x1.below hbA) (x2.below hbA) hz)
    obtain ⟨p1, p2, p3⟩ := x1.facts
    obtain ⟨q1, q2, q3⟩ := x2.facts
    obtain ⟨r1, r2, r3⟩ := x3.facts
    have HB1 := Lib.hid (show _ ∧ _ ∧ _ ∧ _ ∧ _ from ⟨hB1, x0.below hbA, x1.below hbA, x2.below hbA, x3.below hbA⟩)
    clear hB0 x0 x1 x2 x3 hbA hz hB1 HO HX
    go_wp2_with fail
    refine HCo.out.mono ?_
    rintro e w1 ⟨rfl, hb1⟩
    obtain ⟨hB1, x0, x1, x2, x3⟩ := HB1.out
    have HB2 := Lib.hid (show _ ∧ _ ∧ _ ∧ _ ∧ _ from ⟨below_step hB1 hB1.size hb1, x0.below hb1, x1.below hb1, x2.below hb1, x3.below hb1⟩)
    clear p1 p2 p3 q1 q2 q3 r1 r2 r3 hB1 hb1 x0 x1 x2 x3 HB1 HCo
    dsimp only
    go_wp2_with fail
    go_ret
    exact ⟨rfl, _, HY.out.2.2.1.below HB2.out.1, Rw.self HY.out.2.2.2.2.2, HY.out.2.2.2.2.2, Bel.of HB2.out.1⟩
end Go.Proofs.Ytbcdpibcieadlaa
