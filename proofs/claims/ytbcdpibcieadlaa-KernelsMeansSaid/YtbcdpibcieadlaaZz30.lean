/- Layer 8: Gemm (printed by gen_lk.py). No condition but on lengths. -/
import Derived.Test.YtbcdpibcieadlaaZz21
import Derived.Test.YtbcdpibcieadlaaZz16
import Derived.Test.YtbcdpibcieadlaaLnZ
import Derived.Test.YtbcdpibcieadlaaLkZ
namespace Go.Proofs.Ytbcdpibcieadlaa
open Go Go.RowKit Go.Shelf
attribute [local go_sem] Oper.semAt_some
set_option maxRecDepth 1000000

/-- A place of a product of matrices, added to another one. -/
def gemmV (a b : Nat) (m n : Vw) (ms ns : List Nat) (o : Vw) (p : Nat × Nat) (s : List Nat) : Nat := bothW b (o.get s p.1 p.2) a (sumG (fun k => m.get ms p.1 k) (fun k => n.get ns k p.2) 0 m.c)
theorem gemmV_lt (a b : Nat) (m n : Vw) (ms ns : List Nat) (o : Vw) (p : Nat × Nat) (s : List Nat) : gemmV a b m n ms ns o p s < 18446744073709551616 := bothW_lt _ _ _ _
/-- What is known of the calls in a round's last region. -/
def GmF (C R L : Value) (D B : Nat) (f : FuncId) (_ : Array Value) (v : Value) : Prop :=
  (f = 70 → v = C) ∧ (f = 47 → v = R) ∧ (f = 49 → v = L) ∧ (f = 66 → ∃ s, v = .float .f64 (raw D s)) ∧ (f = 81 → ∃ s, v = .float .f64 (raw B s))
def gemmP (a b : Nat) (m n o : Vw) (ms ns os : List Nat) (qn : Nat) : List Nat := (plcs o.c qn).foldl (fun s p => o.put s p.1 p.2 (gemmV a b m n ms ns o p s)) os
theorem gemmP_at (a b : Nat) (m n o : Vw) (ms ns os : List Nat) {i j : Nat} (hj : j < o.c) : gemmP a b m n o ms ns os (i * o.c + j + 1) = o.put (gemmP a b m n o ms ns os (i * o.c + j)) i j (gemmV a b m n ms ns o (i, j) (gemmP a b m n o ms ns os (i * o.c + j))) := by
  unfold gemmP
  rw [plcs_at hj, List.foldl_append]
  rfl
def gemmL (a b : Nat) (m n o : Vw) (ms ns os : List Nat) : List Nat := if openE [m, n, o] (fits_Gemm m n o) = 0 then gemmP a b m n o ms ns os (o.r * o.c) else os
set_option maxHeartbeats 32000000 in
theorem Gemm_any (w : World) (a b : Nat) (m n o : Vw) (sm sn so : Nat) (ms ns os : List Nat) (hm : m.Ok w sm ms) (hn : n.Ok w sn ns) (ho : o.Ok w so os) (wm : Words ms) (wn : Words ns) (wo : Words os) :
    Calls Try.prog 31 #[.float .f64 a, m.val, n.val, .float .f64 b, o.val] w fun e w' => e = .returned (.int .i64 (openE [m, n, o] (fits_Gemm m n o))) ∧ ∃ ws, o.Ok w' so ws ∧ Rw ws (gemmL a b m n o ms ns os) ∧ Words ws ∧ Bel w.heap.size so w w' := by
  have HO := Lib.hid (fun W (h : Below w.heap.size w W) km kn ko b hbm hbn hbo hb => open_any W 78 #[.pointer (some ⟨km, 0, none⟩), .pointer (some ⟨kn, 0, none⟩), .pointer (some ⟨ko, 0, none⟩)] b [m, n, o] (fits_Gemm m n o) hb (fun v hv => by
      simp only [List.mem_cons, List.not_mem_nil, or_false] at hv
      rcases hv with rfl | rfl | rfl
      · exact ⟨sm, ms, hm.below h⟩
      · exact ⟨sn, ns, hn.below h⟩
      · exact ⟨so, os, ho.below h⟩
    ) (by simp) (enters_of Try.func78 (by kernel_rfl) rfl) (fun _ W' h' => Gemmf_any W' m n o km kn ko (Box.below hbm h') (Box.below hbn h') (Box.below hbo h')))
  unfold gemmL
  obtain ⟨W0, hW0⟩ : ∃ W0, W0 = (((((w.alloc (.cells #[.float .f64 a] 31)).alloc (.cells #[.pointer m.p, .int .i64 m.r, .int .i64 m.c, .int .i64 m.o, .int .i64 m.d, .int .i64 m.u] 29)).alloc (.cells #[.pointer n.p, .int .i64 n.r, .int .i64 n.c, .int .i64 n.o, .int .i64 n.d, .int .i64 n.u] 29)).alloc (.cells #[.float .f64 b] 31)).alloc (.cells #[.pointer o.p, .int .i64 o.r, .int .i64 o.c, .int .i64 o.o, .int .i64 o.d, .int .i64 o.u] 29)) := ⟨_, rfl⟩
  have hB0 : Below w.heap.size w W0 := hW0 ▸ (((((Below.refl _ _).alloc (Nat.le_refl _) _).alloc (by simp) _).alloc (by simp; omega) _).alloc (by simp; omega) _).alloc (by simp; omega) _
  have x0 : Box W0 (w.heap.size) [.float .f64 a] := hW0 ▸ (((((Box.newA w [.float .f64 a] _ rfl).alloc _).alloc _).alloc _).alloc _)
  have x1 : Box W0 (w.heap.size + 1) [.pointer m.p, .int .i64 m.r, .int .i64 m.c, .int .i64 m.o, .int .i64 m.d, .int .i64 m.u] := hW0 ▸ ((((Box.newA _ [.pointer m.p, .int .i64 m.r, .int .i64 m.c, .int .i64 m.o, .int .i64 m.d, .int .i64 m.u] _ (by simp)).alloc _).alloc _).alloc _)
  have x2 : Box W0 (w.heap.size + 1 + 1) [.pointer n.p, .int .i64 n.r, .int .i64 n.c, .int .i64 n.o, .int .i64 n.d, .int .i64 n.u] := hW0 ▸ (((Box.newA _ [.pointer n.p, .int .i64 n.r, .int .i64 n.c, .int .i64 n.o, .int .i64 n.d, .int .i64 n.u] _ (by simp)).alloc _).alloc _)
  have x3 : Box W0 (w.heap.size + 1 + 1 + 1) [.float .f64 b] := hW0 ▸ ((Box.newA _ [.float .f64 b] _ (by simp)).alloc _)
  have x4 : Box W0 (w.heap.size + 1 + 1 + 1 + 1) [.pointer o.p, .int .i64 o.r, .int .i64 o.c, .int .i64 o.o, .int .i64 o.d, .int .i64 o.u] := hW0 ▸ (Box.newA _ [.pointer o.p, .int .i64 o.r, .int .i64 o.c, .int .i64 o.o, .int .i64 o.d, .int .i64 o.u] _ (by simp))
  have HX := Lib.hid (show _ ∧ _ ∧ _ ∧ _ ∧ _ ∧ _ from ⟨hB0, x0, x1, x2, x3, x4⟩)
  have HCm := Lib.hid (fun W (h : Below w.heap.size w W) => Copy_any W m sm ms (hm.below h))
  have HCn := Lib.hid (fun W (h : Below w.heap.size w W) => Copy_any W n sn ns (hn.below h))
  have HY := Lib.hid (show _ ∧ _ ∧ _ ∧ _ ∧ _ ∧ _ from ⟨hm, hn, ho, wm, wn, wo⟩)
  have HZ := Lib.hid (fun (h : openE [m, n, o] (fits_Gemm m n o) = 0) => openE_zero h)
  clear hB0 x0 x1 x2 x3 x4 hm hn ho wm wn wo
  show Calls Try.prog 31 #[.float .f64 a, (.agg #[.pointer m.p, .int .i64 m.r, .int .i64 m.c, .int .i64 m.o, .int .i64 m.d, .int .i64 m.u]), (.agg #[.pointer n.p, .int .i64 n.r, .int .i64 n.c, .int .i64 n.o, .int .i64 n.d, .int .i64 n.u]), .float .f64 b, (.agg #[.pointer o.p, .int .i64 o.r, .int .i64 o.c, .int .i64 o.o, .int .i64 o.d, .int .i64 o.u])] w _
  generalize openE [m, n, o] (fits_Gemm m n o) = E at *
  obtain ⟨DD, hD⟩ : ∃ DD, DD = (if E = 0 then gemmP a b m n o ms ns os (o.r * o.c) else os) := ⟨_, rfl⟩
  rw [← hD]
  by_cases hE : E = 0
  · skip
    subst hE
    rw [if_pos rfl] at hD
    have HDD := Lib.hid hD
    clear hD
    obtain ⟨hsome, hfit⟩ := HZ.out rfl
    have HSome := Lib.hid (show _ ∧ _ ∧ _ from ⟨hsome m (by simp), hsome n (by simp), hsome o (by simp)⟩)
    unfold fits_Gemm at hfit
    simp only [Bool.and_eq_true] at hfit
    have HFit := Lib.hid hfit
    clear hsome hfit HZ
    have HSm := Lib.hid (Vw.Ok.sto HY.out.2.2.1 HSome.out.2.2)
    refine (callsIn_wide (n := 9)).1 ?_
    refine callsIn_of_wp_marks Try.func31 rfl trivial ?_ rfl
    refine wpIn_wide.2 ?_
    simp only [Try.ntmps31, List.size_toArray, List.length_cons, List.length_nil, Nat.reduceAdd, Nat.reduceSub, Array.replicate_succ, Array.replicate_zero, List.push_toArray, List.append_toArray, List.nil_append, List.cons_append]
    go_upto_region 1 with (fail)
    rw [← hW0]
    clear hW0
    obtain ⟨hB0, x0, x1, x2, x3, x4⟩ := HX.out
    have hbA : Below W0.heap.size W0 (W0.alloc (.cells #[.pointer m.p, .int .i64 m.r, .int .i64 m.c, .int .i64 m.o, .int .i64 m.d, .int .i64 m.u, .pointer n.p, .int .i64 n.r, .int .i64 n.c, .int .i64 n.o, .int .i64 n.d, .int .i64 n.u, .pointer o.p, .int .i64 o.r, .int .i64 o.c, .int .i64 o.o, .int .i64 o.d, .int .i64 o.u] 29)) := (Below.refl _ _).alloc (Nat.le_refl _) _
    have hz : Box (W0.alloc (.cells #[.pointer m.p, .int .i64 m.r, .int .i64 m.c, .int .i64 m.o, .int .i64 m.d, .int .i64 m.u, .pointer n.p, .int .i64 n.r, .int .i64 n.c, .int .i64 n.o, .int .i64 n.d, .int .i64 n.u, .pointer o.p, .int .i64 o.r, .int .i64 o.c, .int .i64 o.o, .int .i64 o.d, .int .i64 o.u] 29)) W0.heap.size ([m, n, o].flatMap Vw.cs) := Box.newA W0 ([m, n, o].flatMap Vw.cs) _ rfl
    have hB1 := below_step hB0 hB0.size hbA
    have HCo := Lib.hid (HO.out _ hB1 _ _ _ _ (x1.below hbA) (x2.below hbA) (x4.below hbA) hz)
    obtain ⟨p1, p2, p3⟩ := x1.facts
    obtain ⟨q1, q2, q3⟩ := x2.facts
    obtain ⟨r1, r2, r3⟩ := x4.facts
    have HB1 := Lib.hid (show _ ∧ _ ∧ _ ∧ _ ∧ _ ∧ _ from ⟨hB1, x0.below hbA, x1.below hbA, x2.below hbA, x3.below hbA, x4.below hbA⟩)
    clear hB0 x0 x1 x2 x3 x4 hbA hz hB1 HO HX
    go_wp2_with fail
    refine HCo.out.mono ?_
    rintro e w1 ⟨rfl, hb1⟩
    obtain ⟨hB1, x0, x1, x2, x3, x4⟩ := HB1.out
    have HB2 := Lib.hid (show _ ∧ _ ∧ _ ∧ _ ∧ _ ∧ _ from ⟨below_step hB1 hB1.size hb1, x0.below hb1, x1.below hb1, x2.below hb1, x3.below hb1, x4.below hb1⟩)
    clear p1 p2 p3 q1 q2 q3 r1 r2 r3 hB1 hb1 x0 x1 x2 x3 x4 HB1 HCo
    dsimp only
    go_upto_region 4 with (fail)
    obtain ⟨hB2, x0, x1, x2, x3, x4⟩ := HB2.out
    have hdr : Below w1.heap.size w1 w1.drew := below_drewN 1 (Below.refl _ w1)
    have HKK := Lib.hid (show ∀ V, Below w1.drew.heap.size w1.drew V → KerW V [(w.heap.size, [.float .f64 a]), (w.heap.size + 1, [.pointer m.p, .int .i64 m.r, .int .i64 m.c, .int .i64 m.o, .int .i64 m.d, .int .i64 m.u]), (w.heap.size + 1 + 1, [.pointer n.p, .int .i64 n.r, .int .i64 n.c, .int .i64 n.o, .int .i64 n.d, .int .i64 n.u]), (w.heap.size + 1 + 1 + 1, [.float .f64 b]), (w.heap.size + 1 + 1 + 1 + 1, [.pointer o.p, .int .i64 o.r, .int .i64 o.c, .int .i64 o.o, .int .i64 o.d, .int .i64 o.u])] [] so from fun V h => ⟨fun p hp => by
      simp only [List.mem_cons, List.not_mem_nil, or_false] at hp
      rcases hp with rfl | rfl | rfl | rfl | rfl
      · exact (x0.below hdr).below h
      · exact (x1.below hdr).below h
      · exact (x2.below hdr).below h
      · exact (x3.below hdr).below h
      · exact (x4.below hdr).below h
      , fun p hp => by
      simp only [List.mem_cons, List.not_mem_nil, or_false] at hp
      have := HSm.out.1
      rcases hp with rfl | rfl | rfl | rfl | rfl
      · show w.heap.size ≠ so; omega
      · show w.heap.size + 1 ≠ so; omega
      · show w.heap.size + 1 + 1 ≠ so; omega
      · show w.heap.size + 1 + 1 + 1 ≠ so; omega
      · show w.heap.size + 1 + 1 + 1 + 1 ≠ so; omega
      , fun q hq => by cases hq⟩)
    have HS := Lib.hid (show ∀ V, Below w1.drew.heap.size w1.drew V → (fun V => (∀ i, V.cell? ⟨w.heap.size + 1, i, none⟩ = ([.pointer m.p, .int .i64 m.r, .int .i64 m.c, .int .i64 m.o, .int .i64 m.d, .int .i64 m.u] : List Value)[i]?) ∧ (∀ i, V.cell? ⟨w.heap.size + 1 + 1, i, none⟩ = ([.pointer n.p, .int .i64 n.r, .int .i64 n.c, .int .i64 n.o, .int .i64 n.d, .int .i64 n.u] : List Value)[i]?)) V from fun V h => ⟨((HKK.out V h).get 1 rfl).cell, ((HKK.out V h).get 2 rfl).cell⟩)
    refine wp_region_items 3 [(true, 0), (true, 2), (false, 1)] (fun V => (∀ i, V.cell? ⟨w.heap.size + 1, i, none⟩ = ([.pointer m.p, .int .i64 m.r, .int .i64 m.c, .int .i64 m.o, .int .i64 m.d, .int .i64 m.u] : List Value)[i]?) ∧ (∀ i, V.cell? ⟨w.heap.size + 1 + 1, i, none⟩ = ([.pointer n.p, .int .i64 n.r, .int .i64 n.c, .int .i64 n.o, .int .i64 n.d, .int .i64 n.u] : List Value)[i]?)) (by kernel_rfl) (by kernel_rfl) (HS.out _ (Below.refl _ _)) ?_
    have HBw := Lib.hid (below_step hB2 hB2.size hdr)
    have hlast := x4.lt
    have hdrs := hdr.size
    have HLo := Lib.hid (show w.heap.size + 1 + 1 + 1 + 1 < w1.drew.heap.size from Nat.lt_of_lt_of_le hlast hdrs)
    generalize w1.drew = w2 at *
    clear hdr hB2 x0 x1 x2 x3 x4 HB2 hlast hdrs
    iterate 2 (refine iW_take (v := ?_) rfl rfl ?_ ?_; rotate_left; (next => (intro w' hSw; (try dsimp only at hSw); go_simp; (try (rw [if_pos (by omega)]; go_simp)); (try with_reducible rfl))); (simp only [Act.put, List.setIfInBounds_toArray, List.set_cons_zero, List.set_cons_succ]))
    refine iW_mid rfl rfl ?_
    go_simp
    refine (HCm.out w2 HBw.out).mono ?_
    rintro e w3 ⟨st1, sb1, rfl, hst1, k1, k2, hb3⟩
    refine ⟨HS.out _ hb3, ?_⟩
    have hs1 := hst1 (isNone_some HSome.out.1)
    have hl1 := sto_lts hs1
    have G1 := Lib.hid (show _ ∧ _ ∧ _ ∧ _ ∧ _ ∧ _ ∧ _ from ⟨cpy_ok HY.out.1 hst1, CpyF.of ms st1 HSome.out.1 HY.out.1.small.1 HY.out.1.small.2, k1, k2, hl1.1, hl1.2, hb3⟩)
    clear hst1 k1 k2 hs1 hl1 hb3
    generalize cpyV m st1 = cA at *
    dsimp only [Vw.val]
    refine iW_nil ?_
    go_simp
    go_wp2_with fail
    refine (HCn.out w3 (below_step HBw.out HBw.out.size G1.out.2.2.2.2.2.2)).mono ?_
    rintro e w4 ⟨st2, sb2, rfl, hst2, k1, k2, hb4⟩
    have hs2 := hst2 (isNone_some HSome.out.2.1)
    have hl2 := sto_lts hs2
    have G2 := Lib.hid (show _ ∧ _ ∧ _ ∧ _ ∧ _ ∧ _ ∧ _ from ⟨cpy_ok HY.out.2.1 hst2, CpyF.of ns st2 HSome.out.2.1 HY.out.2.1.small.1 HY.out.2.1.small.2, k1, k2, hl2.1, hl2.2, hb4⟩)
    clear hst2 k1 k2 hs2 hl2 hb4
    generalize cpyV n st2 = cB at *
    dsimp only [Vw.val]
    have HK4 := Lib.hid (HKK.out w4 (below_step G1.out.2.2.2.2.2.2 G1.out.2.2.2.2.2.2.size G2.out.2.2.2.2.2.2))
    obtain ⟨p1, p2, p3⟩ := (HK4.out.get 1 rfl).facts
    obtain ⟨q1, q2, q3⟩ := (HK4.out.get 2 rfl).facts
    go_wp2
    refine NoPanic.normal ?_
    go_upto_region 5 with (fail)
    rw [show ((((((((((((w4.setCell ⟨w.heap.size + 1, 0, none⟩ (.pointer cA.p)).setCell ⟨w.heap.size + 1, 1, none⟩ (.int .i64 cA.r)).setCell ⟨w.heap.size + 1, 2, none⟩ (.int .i64 cA.c)).setCell ⟨w.heap.size + 1, 3, none⟩ (.int .i64 cA.o)).setCell ⟨w.heap.size + 1, 4, none⟩ (.int .i64 cA.d)).setCell ⟨w.heap.size + 1, 5, none⟩ (.int .i64 cA.u)).setCell ⟨w.heap.size + 1 + 1, 0, none⟩ (.pointer cB.p)).setCell ⟨w.heap.size + 1 + 1, 1, none⟩ (.int .i64 cB.r)).setCell ⟨w.heap.size + 1 + 1, 2, none⟩ (.int .i64 cB.c)).setCell ⟨w.heap.size + 1 + 1, 3, none⟩ (.int .i64 cB.o)).setCell ⟨w.heap.size + 1 + 1, 4, none⟩ (.int .i64 cB.d)).setCell ⟨w.heap.size + 1 + 1, 5, none⟩ (.int .i64 cB.u)) = six (six w4 (w.heap.size + 1) cA) (w.heap.size + 1 + 1) cB from rfl]
    clear p1 p2 p3 q1 q2 q3 HKK HS
    have HJ := Lib.hid (show KerW (six (six w4 (w.heap.size + 1) cA) (w.heap.size + 1 + 1) cB) [(w.heap.size, [.float .f64 a]), (w.heap.size + 1, [.pointer cA.p, .int .i64 cA.r, .int .i64 cA.c, .int .i64 cA.o, .int .i64 cA.d, .int .i64 cA.u]), (w.heap.size + 1 + 1, [.pointer cB.p, .int .i64 cB.r, .int .i64 cB.c, .int .i64 cB.o, .int .i64 cB.d, .int .i64 cB.u]), (w.heap.size + 1 + 1 + 1, [.float .f64 b]), (w.heap.size + 1 + 1 + 1 + 1, [.pointer o.p, .int .i64 o.r, .int .i64 o.c, .int .i64 o.o, .int .i64 o.d, .int .i64 o.u])] [(cA, sb1, m.list ms), (cB, sb2, n.list ns)] so ∧ Below w.heap.size w (six (six w4 (w.heap.size + 1) cA) (w.heap.size + 1 + 1) cB) ∧ st1 ≠ st2 from by
      obtain ⟨g1, g2, g3, g4, g5, g6, g7⟩ := G1.out
      obtain ⟨h1, h2, h3, h4, h5, h6, h7⟩ := G2.out
      have hlo := HLo.out
      have hsm := HSm.out.1
      have hw := HBw.out.size
      have hsz := h7.size
      have hsz1 := g7.size
      have hB4 := below_step (below_step HBw.out HBw.out.size g7) (below_step HBw.out HBw.out.size g7).size h7
      have g1' := g1.below h7
      have a1 := (Vw.Apart.of (m := w.heap.size + 1) g1' (.inr g2.p) (by omega) (by omega)).bel (six_bel _ _ _ cA)
      have a2 := (Vw.Apart.of (m := w.heap.size + 1 + 1) a1.1 (.inr g2.p) (by omega) (by omega)).bel (six_bel _ _ _ cB)
      have b1 := (Vw.Apart.of (m := w.heap.size + 1) h1 (.inr h2.p) (by omega) (by omega)).bel (six_bel _ _ _ cA)
      have b2 := (Vw.Apart.of (m := w.heap.size + 1 + 1) b1.1 (.inr h2.p) (by omega) (by omega)).bel (six_bel _ _ _ cB)
      refine ⟨⟨fun p hp => ?_, fun p hp => ?_, fun q hq => ?_⟩, six_below (six_below hB4 (by omega) _) (by omega) _, by omega⟩
      · simp only [List.mem_cons, List.not_mem_nil, or_false] at hp
        rcases hp with rfl | rfl | rfl | rfl | rfl
        · exact six_other (six_other (HK4.out.get 0 rfl) (by omega) cA) (by omega) cB
        · exact six_other (six_box (HK4.out.get 1 rfl) cA) (by omega) cB
        · exact six_box (six_other (HK4.out.get 2 rfl) (by omega) cA) cB
        · exact six_other (six_other (HK4.out.get 3 rfl) (by omega) cA) (by omega) cB
        · exact six_other (six_other (HK4.out.get 4 rfl) (by omega) cA) (by omega) cB
      · simp only [List.mem_cons, List.not_mem_nil, or_false] at hp
        rcases hp with rfl | rfl | rfl | rfl | rfl
        · show w.heap.size ≠ so; omega
        · show w.heap.size + 1 ≠ so; omega
        · show w.heap.size + 1 + 1 ≠ so; omega
        · show w.heap.size + 1 + 1 + 1 ≠ so; omega
        · show w.heap.size + 1 + 1 + 1 + 1 ≠ so; omega
      · simp only [List.mem_cons, List.not_mem_nil, or_false] at hq
        rcases hq with rfl | rfl
        · exact Vw.Apart.of a2.1 (.inr g2.p) (show sb1 ≠ so by omega) (show st1 ≠ so by omega)
        · exact Vw.Apart.of b2.1 (.inr h2.p) (show sb2 ≠ so by omega) (show st2 ≠ so by omega))
    have HA := Lib.hid G1.out.2.1
    have HB := Lib.hid G2.out.2.1
    clear HK4 G1 G2 HLo HBw
    generalize six (six w4 (w.heap.size + 1) cA) (w.heap.size + 1 + 1) cB = w5 at *
    obtain ⟨p1, p2, p3⟩ := (HJ.out.1.get 4 rfl).facts
    go_upto_block 0 with (go_at_call 79; refine (All_any _ _ _ _ _ _ _).mono ?_; rintro e w6 ⟨rfl, rfl⟩)
    refine wpIn_wide (n := 9).1 ?_
    gi_wp2_with fail
    clear p1 p2 p3
    have hbV : Below w5.heap.size w5 (w5.alloc (.cells #[.pointer o.p, .int .i64 o.r, .int .i64 o.c, .int .i64 o.o, .int .i64 o.d, .int .i64 o.u] 29)) := (Below.refl _ _).alloc (Nat.le_refl _) _
    have HK6 := Lib.hid ((HJ.out.1.below hbV).box (Box.newA w5 [.pointer o.p, .int .i64 o.r, .int .i64 o.c, .int .i64 o.o, .int .i64 o.d, .int .i64 o.u] 29 rfl) (show w5.heap.size ≠ so by have := HSm.out.1; have := HJ.out.2.1.size; omega))
    have HB6 := Lib.hid (below_step HJ.out.2.1 HJ.out.2.1.size hbV)
    generalize w5.alloc (.cells #[.pointer o.p, .int .i64 o.r, .int .i64 o.c, .int .i64 o.o, .int .i64 o.d, .int .i64 o.u] 29) = W2 at *
    generalize w5.heap.size = bV at *
    clear hbV
    have hsmo : o.r ≤ 512 ∧ o.c ≤ 512 := HY.out.2.2.1.small
    refine view_loopJ (v := o) (sb := so) 9 (by decide) hsmo.1 hsmo.2 rfl rfl (fun k W => (∃ ws, o.Ok W so ws ∧ Rw ws (gemmP a b m n o ms ns os k) ∧ Words ws) ∧ KerW W ([(w.heap.size, [.float .f64 a]), (w.heap.size + 1, [.pointer cA.p, .int .i64 cA.r, .int .i64 cA.c, .int .i64 cA.o, .int .i64 cA.d, .int .i64 cA.u]), (w.heap.size + 1 + 1, [.pointer cB.p, .int .i64 cB.r, .int .i64 cB.c, .int .i64 cB.o, .int .i64 cB.d, .int .i64 cB.u]), (w.heap.size + 1 + 1 + 1, [.float .f64 b]), (w.heap.size + 1 + 1 + 1 + 1, [.pointer o.p, .int .i64 o.r, .int .i64 o.c, .int .i64 o.o, .int .i64 o.d, .int .i64 o.u])] ++ [(bV, [.pointer o.p, .int .i64 o.r, .int .i64 o.c, .int .i64 o.o, .int .i64 o.d, .int .i64 o.u])]) [(cA, sb1, m.list ms), (cB, sb2, n.list ns)] so ∧ Bel w.heap.size so w W ∧ W2.heap.size ≤ W.heap.size)
      (fun _ _ h => h.2.2.2) (fun _ _ _ h hs => ⟨by obtain ⟨ws, h1, h2, h3⟩ := h.1; exact ⟨ws, h1.still hs, h2, h3⟩, h.2.1.still hs, h.2.2.1.trans (Bel.of (hs.1.mono HB6.out.size)), Nat.le_trans h.2.2.2 hs.1.size⟩)
      (fun k A h => ⟨h.2.1.get 5 rfl, by obtain ⟨ws, h1, _⟩ := h.1; exact ⟨ws, h1⟩⟩) ⟨⟨os, HY.out.2.2.1.below HB6.out, Rw.self HY.out.2.2.2.2.2, HY.out.2.2.2.2.2⟩, HK6.out, Bel.of HB6.out, Nat.le_refl _⟩
      (fun T i j x Bx => (((T.setIfInBounds 29 (.agg #[.int .i64 (i : Int), .int .i64 (j : Int)])).setIfInBounds 30 (.float .f64 x)).setIfInBounds 12 (.pointer (some ⟨Bx, 0, none⟩))).setIfInBounds 13 (.float .f64 x)) ?assign ?body ?done
    case assign =>
      intro l i j x W K hK
      gi_wp2
      exact hK
    case body =>
      rintro l i j xf Bx W wz hi hj ⟨⟨ws, hok, hrw, hWw⟩, hK, hB, hs4⟩ hokz hx hbx hBx
      have hwz : o.get wz i j = o.get ws i j := by rw [ok_uniq hokz hok (by have := HSome.out.2.2; intro e; rw [e] at this; cases this)]
      obtain ⟨sx, hsx⟩ := hrw.get o i j
      obtain ⟨XX, hXX⟩ : ∃ XX, XX = o.get (gemmP a b m n o ms ns os (i * o.c + j)) i j := ⟨_, rfl⟩
      have hx2 : xf = raw XX sx := by rw [hx, hwz, hsx, hXX]
      have hBxm : Bx ≠ so := by have := HSm.out.1; have := HB6.out.size; omega
      have HP := Lib.hid (show _ ∧ _ ∧ _ ∧ _ ∧ _ ∧ _ ∧ _ ∧ _ ∧ _ ∧ _ ∧ _ from ⟨hok, hrw, hWw, hK, hB, hs4, hbx, hBxm, hXX, hi, hj⟩)
      clear hok hrw hWw hB hs4 hokz hx hwz hsx hXX hBx hBxm
      obtain ⟨b11, b12, b13⟩ := (hK.get 1 rfl).facts
      obtain ⟨b21, b22, b23⟩ := (hK.get 2 rfl).facts
      obtain ⟨b41, b42, b43⟩ := (hK.get 4 rfl).facts
      obtain ⟨b01, b02, b03⟩ := (hK.get 0 rfl).facts
      obtain ⟨b31, b32, b33⟩ := (hK.get 3 rfl).facts
      obtain ⟨bx1, bx2, bx3⟩ := hbx.facts
      have A1 := Lib.hid (hK.vw 0 rfl)
      have A2 := Lib.hid (hK.vw 1 rfl)
      clear hK hbx
      subst hx2
      have hrr : i < m.r ∧ j < n.c ∧ m.c = n.r := by have h := HFit.out; simp only [decide_eq_true_eq] at h; omega
      obtain ⟨DS, hDS⟩ : ∃ DS, DS = sumG (fun k => m.get ms i k) (fun k => n.get ns k j) 0 m.c := ⟨_, rfl⟩
      have HCo := Lib.hid (fun V => Cols_any cA.p cA.r cA.c cA.o cA.d cA.u V)
      have HRo := Lib.hid (show ∀ V, Calls Try.prog 47 #[(.agg #[.pointer cA.p, .int .i64 cA.r, .int .i64 cA.c, .int .i64 cA.o, .int .i64 cA.d, .int .i64 cA.u]), .int .i64 (i : Int)] V _ from fun V => Row_any cA (i : Int) V 0 HA.out.bnd (by decide))
      have HCl := Lib.hid (show ∀ V, Calls Try.prog 49 #[(.agg #[.pointer cB.p, .int .i64 cB.r, .int .i64 cB.c, .int .i64 cB.o, .int .i64 cB.d, .int .i64 cB.u]), .int .i64 (j : Int)] V _ from fun V => Col_any cB (j : Int) V 0 HB.out.bnd (by decide))
      have HSu := Lib.hid (show ∀ V, Below W.heap.size W V → Calls Try.prog 66 #[.int .i64 0, .int .i64 cA.c, .func (.func 59) #[(cA.row i).val] #[], .func (.func 59) #[(cB.col j).val] #[]] V fun e w' => (∃ s, e = .returned (.float .f64 (raw DS s))) ∧ Below V.heap.size V w' from fun V h => by
        have hg := sum_any V 0 cA.c _ _ _ _ (Fnk.get V (cA.row i) sb1 (m.list ms) (row_ok (A1.out.1.below h) i) (list_words8 HY.out.2.2.2.1) 0 cA.c) (Fnk.get V (cB.col j) sb2 (n.list ns) (col_ok (A2.out.1.below h) j) (list_words8 HY.out.2.2.2.2.1) 0 cA.c) (by have := HA.out.bnd.2.1; omega)
        rw [show sumG (fun k => (cA.row i).getVec (m.list ms) k) (fun k => (cB.col j).getVec (n.list ns) k) 0 (cA.c - 0) = DS from by
          rw [hDS, Nat.sub_zero, HA.out.c]
          refine sumG_congr _ fun k hk => ?_
          rw [Nat.zero_add]
          exact ⟨(row_getVec (v := cA) (by rw [HA.out.p]; rfl) HA.out.bnd.2.1 (by rw [HA.out.r]; exact hrr.1) (by rw [HA.out.c]; exact hk)).trans (HA.out.get i k hrr.1 hk), (col_getVec (v := cB) (by rw [HB.out.p]; rfl) HB.out.bnd.1 (by rw [HB.out.r]; omega) (by rw [HB.out.c]; exact hrr.2.1)).trans (HB.out.get k j (by omega) hrr.2.1)⟩] at hg
        exact hg)
      have HBo := Lib.hid (fun V s => both_any V b (raw XX sx) a DS s)
      simp only [bothW_raw] at HBo
      have HV := Lib.hid (show gemmV a b m n ms ns o (i, j) (gemmP a b m n o ms ns os (i * o.c + j)) = bothW b XX a DS from by rw [HP.out.2.2.2.2.2.2.2.2.1, hDS]; rfl)
      generalize bothW b XX a DS = BB at *
      clear hrr hi hj hDS
      gi_wp2_with fail
      refine wpIn_region_nqb 22 (GmF (.int .i64 (cA.c : Int)) (cA.row i).val (cB.col j).val DS BB) (by kernel_rfl) (by kernel_rfl) ?_
      intro C R hc hb' hb2 hd hR
      simp only [List.take_succ_cons, List.take_zero]
      repeat (
        first
          | (refine nqW_plain (fun K hK => ?_))
          | (refine nqW_step (fun K hK => ?_); go_simp)
        first
          | (refine nq_move rfl ?_; go_simp; refine hK _ ?_; clear hK K)
          | (refine nq_assign rfl ?_; go_simp; refine hK _ ?_; clear hK K)
          | (refine nq_flt rfl rfl rfl rfl hd ?_; intro _; go_frame; refine hK _ ?_; clear hK K)
          | (refine nq_inC rfl ?_; intro w' hw'; go_simp; refine ⟨?_, ?_⟩; (next => (intro w2 hw2; go_at_call 70; exact (HCo.out w2).mono (fun e w3 ⟨he, hb⟩ => ⟨_, he, ⟨fun _ => rfl, fun h => absurd h (by decide), fun h => absurd h (by decide), fun h => absurd h (by decide), fun h => absurd h (by decide)⟩, hb2 _ _ hw2 hb⟩))); intro v hv; obtain rfl := hv.1 rfl; go_simp; refine hK _ ?_; clear hv hK K hw' w')
          | (refine nq_inC rfl ?_; intro w' hw'; go_simp; refine ⟨?_, ?_⟩; (next => (intro w2 hw2; go_at_call 47; exact (HRo.out w2).mono (fun e w3 ⟨he, hb⟩ => ⟨_, he, ⟨fun h => absurd h (by decide), fun _ => rfl, fun h => absurd h (by decide), fun h => absurd h (by decide), fun h => absurd h (by decide)⟩, hb2 _ _ hw2 hb⟩))); intro v hv; obtain rfl := hv.2.1 rfl; go_simp; refine hK _ ?_; clear hv hK K hw' w')
          | (refine nq_inC rfl ?_; intro w' hw'; go_simp; refine ⟨?_, ?_⟩; (next => (intro w2 hw2; go_at_call 49; exact (HCl.out w2).mono (fun e w3 ⟨he, hb⟩ => ⟨_, he, ⟨fun h => absurd h (by decide), fun h => absurd h (by decide), fun _ => rfl, fun h => absurd h (by decide), fun h => absurd h (by decide)⟩, hb2 _ _ hw2 hb⟩))); intro v hv; obtain rfl := hv.2.2.1 rfl; go_simp; refine hK _ ?_; clear hv hK K hw' w')
          | (refine nq_inC rfl ?_; intro w' hw'; go_simp; refine ⟨?_, ?_⟩; (next => (intro w2 hw2; go_at_call 66; exact (HSu.out w2 (hb' _ hw2)).mono (fun e w3 ⟨⟨s, he⟩, hb⟩ => ⟨_, he, ⟨fun h => absurd h (by decide), fun h => absurd h (by decide), fun h => absurd h (by decide), fun _ => ⟨s, rfl⟩, fun h => absurd h (by decide)⟩, hb2 _ _ hw2 hb⟩))); intro v hv; obtain ⟨s, rfl⟩ := hv.2.2.2.1 rfl; go_simp; refine hK _ ?_; clear hv hK K hw' w')
          | (refine nq_inC rfl ?_; intro w' hw'; go_simp; refine ⟨?_, ?_⟩; (next => (intro w2 hw2; go_at_call 81; exact (HBo.out w2 _).mono (fun e w3 ⟨⟨s, he⟩, hb⟩ => ⟨_, he, ⟨fun h => absurd h (by decide), fun h => absurd h (by decide), fun h => absurd h (by decide), fun h => absurd h (by decide), fun _ => ⟨s, rfl⟩⟩, hb2 _ _ hw2 hb⟩))); intro v hv; obtain ⟨s, rfl⟩ := hv.2.2.2.2 rfl; go_simp; refine hK _ ?_; clear hv hK K hw' w')
          | (refine nq_same ?_; intro w' hw'; go_simp; (try go_bits); refine hK _ ?_; clear hK K hw' w')
          | (refine nq_same ?_; intro w' hw'; go_simp; rw [if_pos (by omega)]; go_simp; (try go_bits); refine hK _ ?_; clear hK K hw' w')
          | (go_simp; refine hK _ ?_; clear hK K))
      refine nqW_nil (hR _ ?_)
      clear hc hb' hb2 hd hR
      intro w' hw'
      simp only [List.drop]
      obtain ⟨hok, hrw, hWw, hK, hB, hs4, hbx, hBxm, hXX, hi, hj⟩ := HP.out
      have HSet := Lib.hid (fun s => Set_any w' o so ws i j (raw (BB) s) (hok.below hw'))
      have HQ := Lib.hid (show _ ∧ _ ∧ _ ∧ _ ∧ _ ∧ _ ∧ _ ∧ _ from ⟨hK.below hw', hB.trans ((Bel.of hw').mono hB.size), Nat.le_trans hs4 hw'.size, hok, hrw, hWw, hj, hw'⟩)
      clear hok hrw hWw hK hB hs4 hbx hBxm hXX hi hj hw' HP b11 b12 b13 b21 b22 b23 b41 b42 b43 b01 b02 b03 b31 b32 b33 bx1 bx2 bx3
      gi_wp2_with fail
      refine ⟨trivial, (CallsIn.inRound l (callsIn_wide.2 (HSet.out _))).mono ?_⟩
      rintro e w7 ⟨rfl, hok3, hbb⟩
      obtain ⟨hK1, hB1, hs1, hok, hrw, hWw, hj, hw'⟩ := HQ.out
      have hTot := (Bel.of (s := so) hw').trans (hbb.mono hw'.size)
      have hbox := ok_box hok (by have := HSome.out.2.2; intro e; rw [e] at this; cases this)
      have hlt : BB < 18446744073709551616 := by rw [← HV.out]; exact gemmV_lt _ _ _ _ _ _ _ _ _
      gi_wp2
      refine ⟨keeps_bel hTot hbox _, ⟨_, hok3, ?_, words_put hWw o i j (raw_lt hlt _)⟩, hK1.bel hbb, hB1.trans (hbb.mono hB1.size), Nat.le_trans hs1 hbb.size⟩
      rw [gemmP_at a b m n o ms ns os hj, HV.out]
      exact hrw.put o i j (BB) _
    case done =>
      rintro Dd W hDd ⟨⟨ws, hok, hrw, hWw⟩, hK, hB, hs4⟩ hKd
      rw [← HDD.out] at hrw
      have hst : StillC W2.heap.size W _ := StillC.put (o' := .deferred none) hDd hKd rfl
      have HE := Lib.hid (show _ ∧ _ ∧ _ ∧ _ from ⟨hok.still hst, hrw, hWw, hB.trans (Bel.of (hst.1.mono (by have := HB6.out.size; omega)))⟩)
      clear hok hrw hWw hK hB hs4 hst
      go_wp2
      refine ⟨by simp, .inl ⟨_, _, rfl, run_takeDeferred hKd, ?_⟩⟩
      exact ⟨_, results_tmp rfl _ _ _, rfl, ws, HE.out⟩
  · skip
    have t1 : (E != 0) = true := by simp [hE]
    rw [if_neg hE] at hD
    subst hD
    clear hE
    go_enter Try.func31, Try.ntmps31
    go_upto_region 1 with (fail)
    rw [← hW0]
    clear hW0
    obtain ⟨hB0, x0, x1, x2, x3, x4⟩ := HX.out
    have hbA : Below W0.heap.size W0 (W0.alloc (.cells #[.pointer m.p, .int .i64 m.r, .int .i64 m.c, .int .i64 m.o, .int .i64 m.d, .int .i64 m.u, .pointer n.p, .int .i64 n.r, .int .i64 n.c, .int .i64 n.o, .int .i64 n.d, .int .i64 n.u, .pointer o.p, .int .i64 o.r, .int .i64 o.c, .int .i64 o.o, .int .i64 o.d, .int .i64 o.u] 29)) := (Below.refl _ _).alloc (Nat.le_refl _) _
    have hz : Box (W0.alloc (.cells #[.pointer m.p, .int .i64 m.r, .int .i64 m.c, .int .i64 m.o, .int .i64 m.d, .int .i64 m.u, .pointer n.p, .int .i64 n.r, .int .i64 n.c, .int .i64 n.o, .int .i64 n.d, .int .i64 n.u, .pointer o.p, .int .i64 o.r, .int .i64 o.c, .int .i64 o.o, .int .i64 o.d, .int .i64 o.u] 29)) W0.heap.size ([m, n, o].flatMap Vw.cs) := Box.newA W0 ([m, n, o].flatMap Vw.cs) _ rfl
    have hB1 := below_step hB0 hB0.size hbA
    have HCo := Lib.hid (HO.out _ hB1 _ _ _ _ (x1.below hbA) (x2.below hbA) (x4.below hbA) hz)
    obtain ⟨p1, p2, p3⟩ := x1.facts
    obtain ⟨q1, q2, q3⟩ := x2.facts
    obtain ⟨r1, r2, r3⟩ := x4.facts
    have HB1 := Lib.hid (show _ ∧ _ ∧ _ ∧ _ ∧ _ ∧ _ from ⟨hB1, x0.below hbA, x1.below hbA, x2.below hbA, x3.below hbA, x4.below hbA⟩)
    clear hB0 x0 x1 x2 x3 x4 hbA hz hB1 HO HX
    go_wp2_with fail
    refine HCo.out.mono ?_
    rintro e w1 ⟨rfl, hb1⟩
    obtain ⟨hB1, x0, x1, x2, x3, x4⟩ := HB1.out
    have HB2 := Lib.hid (show _ ∧ _ ∧ _ ∧ _ ∧ _ ∧ _ from ⟨below_step hB1 hB1.size hb1, x0.below hb1, x1.below hb1, x2.below hb1, x3.below hb1, x4.below hb1⟩)
    clear p1 p2 p3 q1 q2 q3 r1 r2 r3 hB1 hb1 x0 x1 x2 x3 x4 HB1 HCo
    dsimp only
    go_wp2_with fail
    go_ret
    exact ⟨rfl, _, HY.out.2.2.1.below HB2.out.1, Rw.self HY.out.2.2.2.2.2, HY.out.2.2.2.2.2, Bel.of HB2.out.1⟩
end Go.Proofs.Ytbcdpibcieadlaa

/- Layer 8: a matrix to which a vector times another one is added, a product of matrices, plainly. No condition but on lengths. -/
namespace Go.Proofs.Ytbcdpibcieadlaa
open Go Go.RowKit
set_option maxRecDepth 1000000

def fitGe (rx cx ry cy rm cm nx ny : Nat) : Bool := vec8 rx cx && (vec8 ry cy && (decide (rm = nx) && decide (cm = ny)))
section
variable {x y m : Vw} {sx sy sm rx cx ry cy rm cm : Nat} {zx zy zm xs ys ms us : List Nat} {a : Nat}
theorem ger_code (Px : OfP x sx rx cx zx xs) (Py : OfP y sy ry cy zy ys) (Pm : OfP m sm rm cm zm ms) (hnx : zx.length = rx * cx) (hny : zy.length = ry * cy) :
    openE [x, y, m] (fits_Ger m x y) = if fitGe rx cx ry cy rm cm zx.length zy.length then 0 else 8 := by
  have e : fits_Ger m x y = fitGe rx cx ry cy rm cm zx.length zy.length := by
    unfold fits_Ger fitGe
    rw [Px.vecN hnx, Py.vecN hny, Pm.er, Pm.ec]
    cases vec8 rx cx <;> cases vec8 ry cy <;> simp
  unfold openE
  rw [e]
  simp [Px.ep, Py.ep, Pm.ep]
theorem ger_bad (Px : OfP x sx rx cx zx xs) (Py : OfP y sy ry cy zy ys) (Pm : OfP m sm rm cm zm ms) (hnx : zx.length = rx * cx) (hny : zy.length = ry * cy) (hnm : zm.length = rm * cm)
    (hf : fitGe rx cx ry cy rm cm zx.length zy.length = false) (hR : Rw us (gerL a x y m xs ys ms)) : Rw (m.list us) zm := by
  unfold gerL at hR
  rw [ger_code Px Py Pm hnx hny, hf] at hR
  exact Pm.same hnm hR
theorem ger_good (Px : OfP x sx rx cx zx xs) (Py : OfP y sy ry cy zy ys) (Pm : OfP m sm rm cm zm ms) (Im : OfI m rm cm) (hlm : ms.length = rm * cm) (hnx : zx.length = rx * cx) (hny : zy.length = ry * cy) (hnm : zm.length = rm * cm)
    (hf : fitGe rx cx ry cy rm cm zx.length zy.length = true) (hR : Rw us (gerL a x y m xs ys ms)) : Rw (m.list us) (fillL (gerD a zx zy zm cm) cm zm (rm * cm)) := by
  unfold gerL at hR
  rw [ger_code Px Py Pm hnx hny, hf] at hR
  simp only [if_true] at hR
  unfold fitGe at hf
  simp only [Bool.and_eq_true, decide_eq_true_eq] at hf
  obtain ⟨vx, vy, e1, e2⟩ := hf
  obtain ⟨_, h2⟩ := puts_spec Im Pm.er Pm.ec (gerV a x y xs ys m) ms hlm (gerD a zx zy zm cm) (fun i j us hi hj _ hg => by
    unfold gerV gerD
    dsimp only
    rw [hg, Pm.get i j hi hj, Px.at vx i (by rw [← hnx, ← e1]; exact hi), Py.at vy j (by rw [← hny, ← e2]; exact hj)]) (rm * cm) (Nat.le_refl _)
  refine fill_rw m us rm cm Pm.er Pm.ec _ zm hnm fun i j hi hj => ?_
  obtain ⟨s, hs⟩ := hR.get m i j
  refine ⟨s, ?_⟩
  rw [hs]
  have e := h2 i j hi hj
  rw [if_pos (place8 hi hj)] at e
  unfold gerP
  rw [Pm.er, Pm.ec, e]
end
def fitGm (cm rn ro rm co cn : Nat) : Bool := decide (cm = rn) && (decide (ro = rm) && decide (co = cn))
section
variable {m n o : Vw} {sm sn so rm cm rn cn ro co : Nat} {zm zn zo ms ns os us : List Nat} {a b : Nat}
theorem gemm_code (Pm : OfP m sm rm cm zm ms) (Pn : OfP n sn rn cn zn ns) (Po : OfP o so ro co zo os) :
    openE [m, n, o] (fits_Gemm m n o) = if fitGm cm rn ro rm co cn then 0 else 8 := by
  unfold fits_Gemm openE fitGm
  rw [Pm.er, Pm.ec, Pn.er, Pn.ec, Po.er, Po.ec]
  simp [Pm.ep, Pn.ep, Po.ep]
theorem gemm_bad (Pm : OfP m sm rm cm zm ms) (Pn : OfP n sn rn cn zn ns) (Po : OfP o so ro co zo os) (hno : zo.length = ro * co)
    (hf : fitGm cm rn ro rm co cn = false) (hR : Rw us (gemmL a b m n o ms ns os)) : Rw (o.list us) zo := by
  unfold gemmL at hR
  rw [gemm_code Pm Pn Po, hf] at hR
  exact Po.same hno hR
theorem gemm_good (Pm : OfP m sm rm cm zm ms) (Pn : OfP n sn rn cn zn ns) (Po : OfP o so ro co zo os) (Io : OfI o ro co) (hlo : os.length = ro * co) (hno : zo.length = ro * co)
    (hf : fitGm cm rn ro rm co cn = true) (hR : Rw us (gemmL a b m n o ms ns os)) : Rw (o.list us) (fillL (gemmD a b zm cm zn cn rn zo co) co zo (ro * co)) := by
  unfold gemmL at hR
  rw [gemm_code Pm Pn Po, hf] at hR
  simp only [if_true] at hR
  unfold fitGm at hf
  simp only [Bool.and_eq_true, decide_eq_true_eq] at hf
  obtain ⟨e1, e2, e3⟩ := hf
  obtain ⟨_, h2⟩ := puts_spec Io Po.er Po.ec (gemmV a b m n ms ns o) os hlo (gemmD a b zm cm zn cn rn zo co) (fun i j us hi hj _ hg => by
    unfold gemmV gemmD
    dsimp only
    rw [hg, Po.get i j hi hj, Pm.ec]
    congr 1
    refine sumG_congr _ fun k hk => ?_
    rw [Nat.zero_add, rowL_at zm cm i k hk, colL_at zn cn rn j k (by omega)]
    exact ⟨Pm.get i k (by omega) hk, Pn.get k j (by omega) (by omega)⟩) (ro * co) (Nat.le_refl _)
  refine fill_rw o us ro co Po.er Po.ec _ zo hno fun i j hi hj => ?_
  obtain ⟨s, hs⟩ := hR.get o i j
  refine ⟨s, ?_⟩
  rw [hs]
  have e := h2 i j hi hj
  rw [if_pos (place8 hi hj)] at e
  unfold gemmP
  rw [Po.er, Po.ec, e]
end
end Go.Proofs.Ytbcdpibcieadlaa
