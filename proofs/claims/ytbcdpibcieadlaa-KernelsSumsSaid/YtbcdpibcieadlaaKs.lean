/- 'plumblinelaw08.KernelsSums', both matrices small enough (printed by gen_kr.py). No condition but on lengths. -/
import Derived.Test.YtbcdpibcieadlaaKr
namespace Go.Proofs.Ytbcdpibcieadlaa
open Go Go.RowKit
set_option maxRecDepth 1000000

set_option maxHeartbeats 16000000 in
theorem sums8_small (w : World) (rx cx ry cy : Nat) (ax ay : Option Addr) (zx zy : List Nat) (px py : Nat) (t : Bool) (hZx : Cel w ax zx) (hWx : Words zx) (hZy : Cel w ay zy) (hWy : Words zy)
    (h1 : rx ≤ 512) (h2 : cx ≤ 512) (h3 : ry ≤ 512) (h4 : cy ≤ 512) (hnx : zx.length = rx * cx) (hny : zy.length = ry * cy) (hlx : zx.length ≤ 150) (hly : zy.length ≤ 150)
    (H1 : ∀ W, Calls Try.prog 15 #[.agg #[.int .i64 rx, .int .i64 cx, .slice ax zx.length px]] W fun e w' => e = .returned (.bool false) ∧ Below W.heap.size W w') (H2 : ∀ W, Calls Try.prog 15 #[.agg #[.int .i64 ry, .int .i64 cy, .slice ay zy.length py]] W fun e w' => e = .returned (.bool false) ∧ Below W.heap.size W w') :
    Calls Try.prog 3 #[.agg #[.int .i64 rx, .int .i64 cx, .slice ax zx.length px], .agg #[.int .i64 ry, .int .i64 cy, .slice ay zy.length py], .bool t] w fun e w' => e = .returned (.bool true) ∧ Below w.heap.size w w' := by
  have HX := Lib.hid H1
  have HY := Lib.hid H2
  have HOx := Lib.hid (fun W (h : Below w.heap.size w W) => of8_any t rx cx ax zx px W h1 h2 hnx (hZx.below h) hWx)
  have HOy := Lib.hid (fun W (h : Below w.heap.size w W) => of8_any false ry cy ay zy py W h3 h4 hny (hZy.below h) hWy)
  have HC := Lib.hid (show _ ∧ _ ∧ _ ∧ _ ∧ _ ∧ _ ∧ _ ∧ _ from ⟨hZx, hWx, hZy, hWy, hnx, hny, hlx, hly⟩)
  clear H1 H2 hZx hWx hZy hWy h1 h2 h3 h4 hnx hny hlx hly
  have hB0 : Below w.heap.size w ((w.alloc (.cells #[.int .i64 rx, .int .i64 cx, .slice ax zx.length px] 24)).alloc (.cells #[.int .i64 ry, .int .i64 cy, .slice ay zy.length py] 24)) := ((Below.refl _ _).alloc (Nat.le_refl _) _).alloc (by simp) _
  have x0 : Box ((w.alloc (.cells #[.int .i64 rx, .int .i64 cx, .slice ax zx.length px] 24)).alloc (.cells #[.int .i64 ry, .int .i64 cy, .slice ay zy.length py] 24)) w.heap.size [.int .i64 rx, .int .i64 cx, .slice ax zx.length px] := (Box.newA w _ _ rfl).alloc _
  have x1 : Box ((w.alloc (.cells #[.int .i64 rx, .int .i64 cx, .slice ax zx.length px] 24)).alloc (.cells #[.int .i64 ry, .int .i64 cy, .slice ay zy.length py] 24)) (w.heap.size + 1) [.int .i64 ry, .int .i64 cy, .slice ay zy.length py] := Box.newA _ _ _ (by simp)
  obtain ⟨p1, p2, p3⟩ := x0.facts
  obtain ⟨q1, q2, q3⟩ := x1.facts
  go_enter Try.func3, Try.ntmps3
  go_wp2_with fail
  refine (HX.out _).mono ?_
  rintro e w1 ⟨rfl, hb⟩
  replace x0 := x0.below hb
  replace x1 := x1.below hb
  replace hB0 := below_step hB0 hB0.size hb
  clear p1 p2 p3 q1 q2 q3 hb
  obtain ⟨p1, p2, p3⟩ := x0.facts
  obtain ⟨q1, q2, q3⟩ := x1.facts
  dsimp only
  go_wp2_with fail
  refine (HY.out _).mono ?_
  rintro e w2 ⟨rfl, hb⟩
  replace x0 := x0.below hb
  replace x1 := x1.below hb
  replace hB0 := below_step hB0 hB0.size hb
  clear p1 p2 p3 q1 q2 q3 hb
  obtain ⟨p1, p2, p3⟩ := x0.facts
  obtain ⟨q1, q2, q3⟩ := x1.facts
  dsimp only
  go_upto_region 3 with (fail)
  obtain ⟨A, hA⟩ : ∃ A : Act → World → Prop, A = (fun a W => ∃ (b7 b8 : Nat) (v u : Vw) (sbx sby : Nat) (wsx wsy : List Nat) (stx sty : Nat), a = { tmps := #[.agg #[.int .i64 rx, .int .i64 cx, .slice ax zx.length px], .agg #[.int .i64 ry, .int .i64 cy, .slice ay zy.length py], .bool t, .pointer (some ⟨w.heap.size, 0, none⟩), .pointer (some ⟨w.heap.size + 1, 0, none⟩), undef, .bool false, .pointer (some ⟨b7, 0, none⟩), .pointer (some ⟨b8, 0, none⟩), undef, undef, undef, undef, undef, undef, undef, undef, undef, .agg #[.int .i64 rx, .int .i64 cx, .slice ax zx.length px], .bool false, .bool false, .agg #[.int .i64 ry, .int .i64 cy, .slice ay zy.length py], .bool false, .bool false, undef, .agg #[.int .i64 rx, .int .i64 cx, .slice ax zx.length px], .bool t, (.agg #[.pointer v.p, .int .i64 v.r, .int .i64 v.c, .int .i64 v.o, .int .i64 v.d, .int .i64 v.u]), .agg #[.int .i64 ry, .int .i64 cy, .slice ay zy.length py], (.agg #[.pointer u.p, .int .i64 u.r, .int .i64 u.c, .int .i64 u.o, .int .i64 u.d, .int .i64 u.u]), undef, undef, undef, undef, undef, undef, undef, undef, undef, undef, undef, undef, undef, undef, undef, undef, undef, undef, undef, undef, undef, undef, undef, undef, undef, undef, undef, undef, undef, undef, undef, undef, undef, undef, undef, undef, undef, undef, undef, undef, undef, undef, undef, undef, undef, undef, undef, undef, undef, undef, undef, undef, undef, undef, undef, undef, undef, undef, undef, undef, undef, undef, undef, undef, undef, undef, undef, undef, undef, undef, undef, undef, undef, undef, undef, undef, undef, undef, undef, undef, undef, undef, undef, undef, undef, undef, undef, undef, undef, undef, undef, undef, undef, undef, undef, undef, undef, undef, undef, undef, undef, undef, undef, undef, undef, undef, undef, undef, undef, undef, undef, undef, undef, undef, undef, undef, undef, undef, undef, undef], defers := [] } ∧ SuW w W b7 b8 v u sbx sby wsx wsy [.int .i64 rx, .int .i64 cx, .slice ax zx.length px] [.int .i64 ry, .int .i64 cy, .slice ay zy.length py] ∧ OfP v stx rx cx zx wsx ∧ OfP u sty ry cy zy wsy) := ⟨_, rfl⟩
  have HAA := Lib.hid hA
  clear hA
  refine Code.wp_mono (Q := fun e a W => e = .normal ∧ A a W) ?_ ?_
  case refine_2 =>
    generalize hbY : w.heap.size + 1 = bY at *
    have hdr : Below w2.heap.size w2 w2.drew := below_drewN 1 (Below.refl _ w2)
    have HB1 := Lib.hid (below_step hB0 hB0.size hdr)
    have X0 := Lib.hid (x0.below hdr)
    have X1 := Lib.hid (x1.below hdr)
    have HS := Lib.hid (show ∀ W, Below w2.drew.heap.size w2.drew W → (fun W => (∀ i, W.cell? ⟨w.heap.size, i, none⟩ = ([.int .i64 rx, .int .i64 cx, .slice ax zx.length px] : List Value)[i]?) ∧ (∀ i, W.cell? ⟨bY, i, none⟩ = ([.int .i64 ry, .int .i64 cy, .slice ay zy.length py] : List Value)[i]?)) W from fun W h => ⟨(X0.out.below h).cell, (X1.out.below h).cell⟩)
    refine wp_region_many 7 60 [(0, 0), (0, 1), (0, 3), (3, 5), (3, 6), (1, 2), (1, 4), (2, 5), (2, 6)] (fun W => (∀ i, W.cell? ⟨w.heap.size, i, none⟩ = ([.int .i64 rx, .int .i64 cx, .slice ax zx.length px] : List Value)[i]?) ∧ (∀ i, W.cell? ⟨bY, i, none⟩ = ([.int .i64 ry, .int .i64 cy, .slice ay zy.length py] : List Value)[i]?)) (by kernel_rfl) (by kernel_rfl) (HS.out _ (Below.refl _ _)) ?_
    clear p1 p2 p3 q1 q2 q3 x0 x1 hB0 hdr HX HY HC
    generalize w2.drew = v0 at *
    have HR := Lib.hid (Below.refl v0.heap.size v0)
    have hlx0 := Lib.hid X1.out.lt
    iterate 1 (refine fm_take (v := ?_) rfl rfl ?_ ?_; rotate_left; (next => (intro w' hSw; (try dsimp only at hSw); go_simp; (try (rw [if_pos (by omega)]; go_simp)); (try with_reducible rfl))); (simp only [Act.put, List.setIfInBounds_toArray, List.set_cons_zero, List.set_cons_succ]))
    iterate 1 (refine fm_take (v := ?_) rfl rfl ?_ ?_; rotate_left; (next => (intro w' hSw; (try dsimp only at hSw); go_simp; (try (rw [if_pos (by omega)]; go_simp)); (try with_reducible rfl))); (simp only [Act.put, List.setIfInBounds_toArray, List.set_cons_zero, List.set_cons_succ]))
    iterate 1 (refine fm_take (v := ?_) rfl rfl ?_ ?_; rotate_left; (next => (intro w' hSw; (try dsimp only at hSw); go_simp; (try (rw [if_pos (by omega)]; go_simp)); (try with_reducible rfl))); (simp only [Act.put, List.setIfInBounds_toArray, List.set_cons_zero, List.set_cons_succ]))
    refine fm_from ?_
    refine fm_from ?_
    refine fm_one2 rfl ?_ ?_ ?_
    · skip
      refine opW_take rfl rfl ?_
      go_simp
      refine (HOx.out _ HB1.out).mono ?_
      rintro e v1 ⟨v, stx, sbx, wsx, rfl, kxa, kxb, hz, hp, hb⟩
      have HR1 := Lib.hid (below_step HR.out HR.out.size hb)
      have hsz1 := (hb).size
      have HBw1 := Lib.hid (below_step HB1.out HB1.out.size hb)
      have Z1_X0 := Lib.hid (X0.out.below hb)
      have Z1_X1 := Lib.hid (X1.out.below hb)
      have hl1 := sto_lts hz
      have Z1_sx := Lib.hid hz
      have Px := Lib.hid hp
      clear hz hp hb
      refine ⟨HS.out _ HR1.out, ?_⟩
      refine fm_one2 rfl ?_ ?_ ?_
      · skip
        refine opW_take rfl rfl ?_
        go_simp
        refine (HOy.out _ HBw1.out).mono ?_
        rintro e v2 ⟨u, sty, sby, wsy, rfl, kya, kyb, hz, hp, hb⟩
        have HR2 := Lib.hid (below_step HR1.out HR1.out.size hb)
        have hsz2 := (hb).size
        have HBw2 := Lib.hid (below_step HBw1.out HBw1.out.size hb)
        have Z2_X0 := Lib.hid (Z1_X0.out.below hb)
        have Z2_X1 := Lib.hid (Z1_X1.out.below hb)
        have Z2_sx := Lib.hid (Z1_sx.out.below hb)
        have hl2 := sto_lts hz
        have Z2_sy := Lib.hid hz
        have Py := Lib.hid hp
        clear hz hp hb
        refine ⟨HS.out _ HR2.out, ?_⟩
        refine fm_now2 rfl rfl ?_ ?_
        · skip
          refine opW_take rfl rfl ?_
          go_simp
          have hbA : Below v2.heap.size v2 (v2.alloc (.cells #[.pointer none, .int .i64 0, .int .i64 0, .int .i64 0, .int .i64 0, .int .i64 0] 29)) := (Below.refl _ _).alloc (Nat.le_refl _) _
          have hz : Box (v2.alloc (.cells #[.pointer none, .int .i64 0, .int .i64 0, .int .i64 0, .int .i64 0, .int .i64 0] 29)) v2.heap.size [.pointer none, .int .i64 0, .int .i64 0, .int .i64 0, .int .i64 0, .int .i64 0] := Box.newA v2 _ _ rfl
          have HR3 := Lib.hid (below_step HR2.out HR2.out.size hbA)
          have hsz3 := (hbA).size
          have HBw3 := Lib.hid (below_step HBw2.out HBw2.out.size hbA)
          have Z3_X0 := Lib.hid (Z2_X0.out.below hbA)
          have Z3_X1 := Lib.hid (Z2_X1.out.below hbA)
          have Z3_sx := Lib.hid (Z2_sx.out.below hbA)
          have Z3_sy := Lib.hid (Z2_sy.out.below hbA)
          have Z3_b8 := Lib.hid hz
          clear hbA hz
          generalize hN : v2.alloc (.cells #[.pointer none, .int .i64 0, .int .i64 0, .int .i64 0, .int .i64 0, .int .i64 0] 29) = v3 at *
          have hs3 := Lib.hid (show v3.heap.size = v2.heap.size + 1 from by rw [← hN]; simp)
          clear hN
          refine ⟨HS.out _ HR3.out, ?_⟩
          refine fm_now ?_
          refine opW_take rfl rfl ?_
          go_simp
          have hbA : Below v3.heap.size v3 (v3.alloc (.cells #[.pointer none, .int .i64 0, .int .i64 0, .int .i64 0, .int .i64 0, .int .i64 0] 29)) := (Below.refl _ _).alloc (Nat.le_refl _) _
          have hz : Box (v3.alloc (.cells #[.pointer none, .int .i64 0, .int .i64 0, .int .i64 0, .int .i64 0, .int .i64 0] 29)) v3.heap.size [.pointer none, .int .i64 0, .int .i64 0, .int .i64 0, .int .i64 0, .int .i64 0] := Box.newA v3 _ _ rfl
          have HR4 := Lib.hid (below_step HR3.out HR3.out.size hbA)
          have hsz4 := (hbA).size
          have HBw4 := Lib.hid (below_step HBw3.out HBw3.out.size hbA)
          have Z4_X0 := Lib.hid (Z3_X0.out.below hbA)
          have Z4_X1 := Lib.hid (Z3_X1.out.below hbA)
          have Z4_sx := Lib.hid (Z3_sx.out.below hbA)
          have Z4_sy := Lib.hid (Z3_sy.out.below hbA)
          have Z4_b8 := Lib.hid (Z3_b8.out.below hbA)
          have Z4_b7 := Lib.hid hz
          clear hbA hz
          generalize hN : v3.alloc (.cells #[.pointer none, .int .i64 0, .int .i64 0, .int .i64 0, .int .i64 0, .int .i64 0] 29) = v4 at *
          have hs4 := Lib.hid (show v4.heap.size = v3.heap.size + 1 from by rw [← hN]; simp)
          clear hN
          refine ⟨HS.out _ HR4.out, ?_⟩
          refine fm_skip rfl ?_
          refine fm_skip rfl ?_
          refine fm_nil ?_
          unfold Vw.val
          go_simp
          obtain ⟨c1, c2, c3⟩ := Z4_b7.out.facts
          obtain ⟨d1, d2, d3⟩ := Z4_b8.out.facts
          have hgw := HBw4.out.size
          have n1 : v3.heap.size ≠ v2.heap.size := by have ehs3 := hs3.out; have ehs4 := hs4.out; omega
          have n2 : v2.heap.size ≠ v3.heap.size := fun h => n1 h.symm
          go_wp2_with fail
          refine NoPanic.normal ?_
          have hlx1 := hlx0.out
          have ehs3 := hs3.out
          have ehs4 := hs4.out
          refine ⟨rfl, ?_⟩
          rw [HAA.out]
          refine ⟨v3.heap.size, v2.heap.size, v, u, sbx, sby, wsx, wsy, stx, sty, rfl, ⟨?_, ?_, ?_, ?_, ?_, ?_, ?_⟩, Px.out, Py.out⟩
          · exact (Z4_b7.out.put6 _ _ _ _ _ _).other6 n1 _ _ _ _ _ _
          · exact (Z4_b8.out.other6 (fun h => n1 h.symm) _ _ _ _ _ _).put6 _ _ _ _ _ _
          · exact Px.out.ok _ _ ((Z4_sx.out.other6 (by omega) (by omega) _ _ _ _ _ _).other6 (by omega) (by omega) _ _ _ _ _ _)
          · exact Py.out.ok _ _ ((Z4_sy.out.other6 (by omega) (by omega) _ _ _ _ _ _).other6 (by omega) (by omega) _ _ _ _ _ _)
          · exact (Z4_X0.out.other6 (by omega) _ _ _ _ _ _).other6 (by omega) _ _ _ _ _ _
          · rw [hbY]; exact (Z4_X1.out.other6 (by omega) _ _ _ _ _ _).other6 (by omega) _ _ _ _ _ _
          · exact below_put6 (below_put6 HBw4.out (by omega) _ _ _ _ _ _) (by omega) _ _ _ _ _ _
        · skip
          refine opW_take rfl rfl ?_
          go_simp
          have hbA : Below v2.heap.size v2 (v2.alloc (.cells #[.pointer none, .int .i64 0, .int .i64 0, .int .i64 0, .int .i64 0, .int .i64 0] 29)) := (Below.refl _ _).alloc (Nat.le_refl _) _
          have hz : Box (v2.alloc (.cells #[.pointer none, .int .i64 0, .int .i64 0, .int .i64 0, .int .i64 0, .int .i64 0] 29)) v2.heap.size [.pointer none, .int .i64 0, .int .i64 0, .int .i64 0, .int .i64 0, .int .i64 0] := Box.newA v2 _ _ rfl
          have HR5 := Lib.hid (below_step HR2.out HR2.out.size hbA)
          have hsz5 := (hbA).size
          have HBw5 := Lib.hid (below_step HBw2.out HBw2.out.size hbA)
          have Z5_X0 := Lib.hid (Z2_X0.out.below hbA)
          have Z5_X1 := Lib.hid (Z2_X1.out.below hbA)
          have Z5_sx := Lib.hid (Z2_sx.out.below hbA)
          have Z5_sy := Lib.hid (Z2_sy.out.below hbA)
          have Z5_b7 := Lib.hid hz
          clear hbA hz
          generalize hN : v2.alloc (.cells #[.pointer none, .int .i64 0, .int .i64 0, .int .i64 0, .int .i64 0, .int .i64 0] 29) = v5 at *
          have hs5 := Lib.hid (show v5.heap.size = v2.heap.size + 1 from by rw [← hN]; simp)
          clear hN
          refine ⟨HS.out _ HR5.out, ?_⟩
          refine fm_skip rfl ?_
          refine fm_now ?_
          refine opW_take rfl rfl ?_
          go_simp
          have hbA : Below v5.heap.size v5 (v5.alloc (.cells #[.pointer none, .int .i64 0, .int .i64 0, .int .i64 0, .int .i64 0, .int .i64 0] 29)) := (Below.refl _ _).alloc (Nat.le_refl _) _
          have hz : Box (v5.alloc (.cells #[.pointer none, .int .i64 0, .int .i64 0, .int .i64 0, .int .i64 0, .int .i64 0] 29)) v5.heap.size [.pointer none, .int .i64 0, .int .i64 0, .int .i64 0, .int .i64 0, .int .i64 0] := Box.newA v5 _ _ rfl
          have HR6 := Lib.hid (below_step HR5.out HR5.out.size hbA)
          have hsz6 := (hbA).size
          have HBw6 := Lib.hid (below_step HBw5.out HBw5.out.size hbA)
          have Z6_X0 := Lib.hid (Z5_X0.out.below hbA)
          have Z6_X1 := Lib.hid (Z5_X1.out.below hbA)
          have Z6_sx := Lib.hid (Z5_sx.out.below hbA)
          have Z6_sy := Lib.hid (Z5_sy.out.below hbA)
          have Z6_b7 := Lib.hid (Z5_b7.out.below hbA)
          have Z6_b8 := Lib.hid hz
          clear hbA hz
          generalize hN : v5.alloc (.cells #[.pointer none, .int .i64 0, .int .i64 0, .int .i64 0, .int .i64 0, .int .i64 0] 29) = v6 at *
          have hs6 := Lib.hid (show v6.heap.size = v5.heap.size + 1 from by rw [← hN]; simp)
          clear hN
          refine ⟨HS.out _ HR6.out, ?_⟩
          refine fm_skip rfl ?_
          refine fm_nil ?_
          unfold Vw.val
          go_simp
          obtain ⟨c1, c2, c3⟩ := Z6_b7.out.facts
          obtain ⟨d1, d2, d3⟩ := Z6_b8.out.facts
          have hgw := HBw6.out.size
          have n1 : v2.heap.size ≠ v5.heap.size := by have ehs5 := hs5.out; have ehs6 := hs6.out; omega
          have n2 : v5.heap.size ≠ v2.heap.size := fun h => n1 h.symm
          go_wp2_with fail
          refine NoPanic.normal ?_
          have hlx1 := hlx0.out
          have ehs5 := hs5.out
          have ehs6 := hs6.out
          refine ⟨rfl, ?_⟩
          rw [HAA.out]
          refine ⟨v2.heap.size, v5.heap.size, v, u, sbx, sby, wsx, wsy, stx, sty, rfl, ⟨?_, ?_, ?_, ?_, ?_, ?_, ?_⟩, Px.out, Py.out⟩
          · exact (Z6_b7.out.put6 _ _ _ _ _ _).other6 n1 _ _ _ _ _ _
          · exact (Z6_b8.out.other6 (fun h => n1 h.symm) _ _ _ _ _ _).put6 _ _ _ _ _ _
          · exact Px.out.ok _ _ ((Z6_sx.out.other6 (by omega) (by omega) _ _ _ _ _ _).other6 (by omega) (by omega) _ _ _ _ _ _)
          · exact Py.out.ok _ _ ((Z6_sy.out.other6 (by omega) (by omega) _ _ _ _ _ _).other6 (by omega) (by omega) _ _ _ _ _ _)
          · exact (Z6_X0.out.other6 (by omega) _ _ _ _ _ _).other6 (by omega) _ _ _ _ _ _
          · rw [hbY]; exact (Z6_X1.out.other6 (by omega) _ _ _ _ _ _).other6 (by omega) _ _ _ _ _ _
          · exact below_put6 (below_put6 HBw6.out (by omega) _ _ _ _ _ _) (by omega) _ _ _ _ _ _
      · skip
        refine opW_take rfl rfl ?_
        go_simp
        have hbA : Below v1.heap.size v1 (v1.alloc (.cells #[.pointer none, .int .i64 0, .int .i64 0, .int .i64 0, .int .i64 0, .int .i64 0] 29)) := (Below.refl _ _).alloc (Nat.le_refl _) _
        have hz : Box (v1.alloc (.cells #[.pointer none, .int .i64 0, .int .i64 0, .int .i64 0, .int .i64 0, .int .i64 0] 29)) v1.heap.size [.pointer none, .int .i64 0, .int .i64 0, .int .i64 0, .int .i64 0, .int .i64 0] := Box.newA v1 _ _ rfl
        have HR7 := Lib.hid (below_step HR1.out HR1.out.size hbA)
        have hsz7 := (hbA).size
        have HBw7 := Lib.hid (below_step HBw1.out HBw1.out.size hbA)
        have Z7_X0 := Lib.hid (Z1_X0.out.below hbA)
        have Z7_X1 := Lib.hid (Z1_X1.out.below hbA)
        have Z7_sx := Lib.hid (Z1_sx.out.below hbA)
        have Z7_b8 := Lib.hid hz
        clear hbA hz
        generalize hN : v1.alloc (.cells #[.pointer none, .int .i64 0, .int .i64 0, .int .i64 0, .int .i64 0, .int .i64 0] 29) = v7 at *
        have hs7 := Lib.hid (show v7.heap.size = v1.heap.size + 1 from by rw [← hN]; simp)
        clear hN
        refine ⟨HS.out _ HR7.out, ?_⟩
        refine fm_one1 ?_ ?_
        · skip
          refine opW_take rfl rfl ?_
          go_simp
          refine (HOy.out _ HBw7.out).mono ?_
          rintro e v8 ⟨u, sty, sby, wsy, rfl, kya, kyb, hz, hp, hb⟩
          have HR8 := Lib.hid (below_step HR7.out HR7.out.size hb)
          have hsz8 := (hb).size
          have HBw8 := Lib.hid (below_step HBw7.out HBw7.out.size hb)
          have Z8_X0 := Lib.hid (Z7_X0.out.below hb)
          have Z8_X1 := Lib.hid (Z7_X1.out.below hb)
          have Z8_sx := Lib.hid (Z7_sx.out.below hb)
          have Z8_b8 := Lib.hid (Z7_b8.out.below hb)
          have hl8 := sto_lts hz
          have Z8_sy := Lib.hid hz
          have Py := Lib.hid hp
          clear hz hp hb
          refine ⟨HS.out _ HR8.out, ?_⟩
          refine fm_now ?_
          refine opW_take rfl rfl ?_
          go_simp
          have hbA : Below v8.heap.size v8 (v8.alloc (.cells #[.pointer none, .int .i64 0, .int .i64 0, .int .i64 0, .int .i64 0, .int .i64 0] 29)) := (Below.refl _ _).alloc (Nat.le_refl _) _
          have hz : Box (v8.alloc (.cells #[.pointer none, .int .i64 0, .int .i64 0, .int .i64 0, .int .i64 0, .int .i64 0] 29)) v8.heap.size [.pointer none, .int .i64 0, .int .i64 0, .int .i64 0, .int .i64 0, .int .i64 0] := Box.newA v8 _ _ rfl
          have HR9 := Lib.hid (below_step HR8.out HR8.out.size hbA)
          have hsz9 := (hbA).size
          have HBw9 := Lib.hid (below_step HBw8.out HBw8.out.size hbA)
          have Z9_X0 := Lib.hid (Z8_X0.out.below hbA)
          have Z9_X1 := Lib.hid (Z8_X1.out.below hbA)
          have Z9_sx := Lib.hid (Z8_sx.out.below hbA)
          have Z9_b8 := Lib.hid (Z8_b8.out.below hbA)
          have Z9_sy := Lib.hid (Z8_sy.out.below hbA)
          have Z9_b7 := Lib.hid hz
          clear hbA hz
          generalize hN : v8.alloc (.cells #[.pointer none, .int .i64 0, .int .i64 0, .int .i64 0, .int .i64 0, .int .i64 0] 29) = v9 at *
          have hs9 := Lib.hid (show v9.heap.size = v8.heap.size + 1 from by rw [← hN]; simp)
          clear hN
          refine ⟨HS.out _ HR9.out, ?_⟩
          refine fm_skip rfl ?_
          refine fm_skip rfl ?_
          refine fm_nil ?_
          unfold Vw.val
          go_simp
          obtain ⟨c1, c2, c3⟩ := Z9_b7.out.facts
          obtain ⟨d1, d2, d3⟩ := Z9_b8.out.facts
          have hgw := HBw9.out.size
          have n1 : v8.heap.size ≠ v1.heap.size := by have ehs7 := hs7.out; have ehs9 := hs9.out; omega
          have n2 : v1.heap.size ≠ v8.heap.size := fun h => n1 h.symm
          go_wp2_with fail
          refine NoPanic.normal ?_
          have hlx1 := hlx0.out
          have ehs7 := hs7.out
          have ehs9 := hs9.out
          refine ⟨rfl, ?_⟩
          rw [HAA.out]
          refine ⟨v8.heap.size, v1.heap.size, v, u, sbx, sby, wsx, wsy, stx, sty, rfl, ⟨?_, ?_, ?_, ?_, ?_, ?_, ?_⟩, Px.out, Py.out⟩
          · exact (Z9_b7.out.put6 _ _ _ _ _ _).other6 n1 _ _ _ _ _ _
          · exact (Z9_b8.out.other6 (fun h => n1 h.symm) _ _ _ _ _ _).put6 _ _ _ _ _ _
          · exact Px.out.ok _ _ ((Z9_sx.out.other6 (by omega) (by omega) _ _ _ _ _ _).other6 (by omega) (by omega) _ _ _ _ _ _)
          · exact Py.out.ok _ _ ((Z9_sy.out.other6 (by omega) (by omega) _ _ _ _ _ _).other6 (by omega) (by omega) _ _ _ _ _ _)
          · exact (Z9_X0.out.other6 (by omega) _ _ _ _ _ _).other6 (by omega) _ _ _ _ _ _
          · rw [hbY]; exact (Z9_X1.out.other6 (by omega) _ _ _ _ _ _).other6 (by omega) _ _ _ _ _ _
          · exact below_put6 (below_put6 HBw9.out (by omega) _ _ _ _ _ _) (by omega) _ _ _ _ _ _
        · skip
          refine opW_take rfl rfl ?_
          go_simp
          have hbA : Below v7.heap.size v7 (v7.alloc (.cells #[.pointer none, .int .i64 0, .int .i64 0, .int .i64 0, .int .i64 0, .int .i64 0] 29)) := (Below.refl _ _).alloc (Nat.le_refl _) _
          have hz : Box (v7.alloc (.cells #[.pointer none, .int .i64 0, .int .i64 0, .int .i64 0, .int .i64 0, .int .i64 0] 29)) v7.heap.size [.pointer none, .int .i64 0, .int .i64 0, .int .i64 0, .int .i64 0, .int .i64 0] := Box.newA v7 _ _ rfl
          have HR10 := Lib.hid (below_step HR7.out HR7.out.size hbA)
          have hsz10 := (hbA).size
          have HBw10 := Lib.hid (below_step HBw7.out HBw7.out.size hbA)
          have Z10_X0 := Lib.hid (Z7_X0.out.below hbA)
          have Z10_X1 := Lib.hid (Z7_X1.out.below hbA)
          have Z10_sx := Lib.hid (Z7_sx.out.below hbA)
          have Z10_b8 := Lib.hid (Z7_b8.out.below hbA)
          have Z10_b7 := Lib.hid hz
          clear hbA hz
          generalize hN : v7.alloc (.cells #[.pointer none, .int .i64 0, .int .i64 0, .int .i64 0, .int .i64 0, .int .i64 0] 29) = v10 at *
          have hs10 := Lib.hid (show v10.heap.size = v7.heap.size + 1 from by rw [← hN]; simp)
          clear hN
          refine ⟨HS.out _ HR10.out, ?_⟩
          refine fm_one ?_
          refine opW_take rfl rfl ?_
          go_simp
          refine (HOy.out _ HBw10.out).mono ?_
          rintro e v11 ⟨u, sty, sby, wsy, rfl, kya, kyb, hz, hp, hb⟩
          have HR11 := Lib.hid (below_step HR10.out HR10.out.size hb)
          have hsz11 := (hb).size
          have HBw11 := Lib.hid (below_step HBw10.out HBw10.out.size hb)
          have Z11_X0 := Lib.hid (Z10_X0.out.below hb)
          have Z11_X1 := Lib.hid (Z10_X1.out.below hb)
          have Z11_sx := Lib.hid (Z10_sx.out.below hb)
          have Z11_b8 := Lib.hid (Z10_b8.out.below hb)
          have Z11_b7 := Lib.hid (Z10_b7.out.below hb)
          have hl11 := sto_lts hz
          have Z11_sy := Lib.hid hz
          have Py := Lib.hid hp
          clear hz hp hb
          refine ⟨HS.out _ HR11.out, ?_⟩
          refine fm_skip rfl ?_
          refine fm_skip rfl ?_
          refine fm_nil ?_
          unfold Vw.val
          go_simp
          obtain ⟨c1, c2, c3⟩ := Z11_b7.out.facts
          obtain ⟨d1, d2, d3⟩ := Z11_b8.out.facts
          have hgw := HBw11.out.size
          have n1 : v7.heap.size ≠ v1.heap.size := by have ehs7 := hs7.out; have ehs10 := hs10.out; omega
          have n2 : v1.heap.size ≠ v7.heap.size := fun h => n1 h.symm
          go_wp2_with fail
          refine NoPanic.normal ?_
          have hlx1 := hlx0.out
          have ehs7 := hs7.out
          have ehs10 := hs10.out
          refine ⟨rfl, ?_⟩
          rw [HAA.out]
          refine ⟨v7.heap.size, v1.heap.size, v, u, sbx, sby, wsx, wsy, stx, sty, rfl, ⟨?_, ?_, ?_, ?_, ?_, ?_, ?_⟩, Px.out, Py.out⟩
          · exact (Z11_b7.out.put6 _ _ _ _ _ _).other6 n1 _ _ _ _ _ _
          · exact (Z11_b8.out.other6 (fun h => n1 h.symm) _ _ _ _ _ _).put6 _ _ _ _ _ _
          · exact Px.out.ok _ _ ((Z11_sx.out.other6 (by omega) (by omega) _ _ _ _ _ _).other6 (by omega) (by omega) _ _ _ _ _ _)
          · exact Py.out.ok _ _ ((Z11_sy.out.other6 (by omega) (by omega) _ _ _ _ _ _).other6 (by omega) (by omega) _ _ _ _ _ _)
          · exact (Z11_X0.out.other6 (by omega) _ _ _ _ _ _).other6 (by omega) _ _ _ _ _ _
          · rw [hbY]; exact (Z11_X1.out.other6 (by omega) _ _ _ _ _ _).other6 (by omega) _ _ _ _ _ _
          · exact below_put6 (below_put6 HBw11.out (by omega) _ _ _ _ _ _) (by omega) _ _ _ _ _ _
      · skip
        refine opW_take rfl rfl ?_
        go_simp
        have hbA : Below v1.heap.size v1 (v1.alloc (.cells #[.pointer none, .int .i64 0, .int .i64 0, .int .i64 0, .int .i64 0, .int .i64 0] 29)) := (Below.refl _ _).alloc (Nat.le_refl _) _
        have hz : Box (v1.alloc (.cells #[.pointer none, .int .i64 0, .int .i64 0, .int .i64 0, .int .i64 0, .int .i64 0] 29)) v1.heap.size [.pointer none, .int .i64 0, .int .i64 0, .int .i64 0, .int .i64 0, .int .i64 0] := Box.newA v1 _ _ rfl
        have HR12 := Lib.hid (below_step HR1.out HR1.out.size hbA)
        have hsz12 := (hbA).size
        have HBw12 := Lib.hid (below_step HBw1.out HBw1.out.size hbA)
        have Z12_X0 := Lib.hid (Z1_X0.out.below hbA)
        have Z12_X1 := Lib.hid (Z1_X1.out.below hbA)
        have Z12_sx := Lib.hid (Z1_sx.out.below hbA)
        have Z12_b7 := Lib.hid hz
        clear hbA hz
        generalize hN : v1.alloc (.cells #[.pointer none, .int .i64 0, .int .i64 0, .int .i64 0, .int .i64 0, .int .i64 0] 29) = v12 at *
        have hs12 := Lib.hid (show v12.heap.size = v1.heap.size + 1 from by rw [← hN]; simp)
        clear hN
        refine ⟨HS.out _ HR12.out, ?_⟩
        refine fm_one1 ?_ ?_
        · skip
          refine opW_take rfl rfl ?_
          go_simp
          refine (HOy.out _ HBw12.out).mono ?_
          rintro e v13 ⟨u, sty, sby, wsy, rfl, kya, kyb, hz, hp, hb⟩
          have HR13 := Lib.hid (below_step HR12.out HR12.out.size hb)
          have hsz13 := (hb).size
          have HBw13 := Lib.hid (below_step HBw12.out HBw12.out.size hb)
          have Z13_X0 := Lib.hid (Z12_X0.out.below hb)
          have Z13_X1 := Lib.hid (Z12_X1.out.below hb)
          have Z13_sx := Lib.hid (Z12_sx.out.below hb)
          have Z13_b7 := Lib.hid (Z12_b7.out.below hb)
          have hl13 := sto_lts hz
          have Z13_sy := Lib.hid hz
          have Py := Lib.hid hp
          clear hz hp hb
          refine ⟨HS.out _ HR13.out, ?_⟩
          refine fm_skip rfl ?_
          refine fm_now ?_
          refine opW_take rfl rfl ?_
          go_simp
          have hbA : Below v13.heap.size v13 (v13.alloc (.cells #[.pointer none, .int .i64 0, .int .i64 0, .int .i64 0, .int .i64 0, .int .i64 0] 29)) := (Below.refl _ _).alloc (Nat.le_refl _) _
          have hz : Box (v13.alloc (.cells #[.pointer none, .int .i64 0, .int .i64 0, .int .i64 0, .int .i64 0, .int .i64 0] 29)) v13.heap.size [.pointer none, .int .i64 0, .int .i64 0, .int .i64 0, .int .i64 0, .int .i64 0] := Box.newA v13 _ _ rfl
          have HR14 := Lib.hid (below_step HR13.out HR13.out.size hbA)
          have hsz14 := (hbA).size
          have HBw14 := Lib.hid (below_step HBw13.out HBw13.out.size hbA)
          have Z14_X0 := Lib.hid (Z13_X0.out.below hbA)
          have Z14_X1 := Lib.hid (Z13_X1.out.below hbA)
          have Z14_sx := Lib.hid (Z13_sx.out.below hbA)
          have Z14_b7 := Lib.hid (Z13_b7.out.below hbA)
          have Z14_sy := Lib.hid (Z13_sy.out.below hbA)
          have Z14_b8 := Lib.hid hz
          clear hbA hz
          generalize hN : v13.alloc (.cells #[.pointer none, .int .i64 0, .int .i64 0, .int .i64 0, .int .i64 0, .int .i64 0] 29) = v14 at *
          have hs14 := Lib.hid (show v14.heap.size = v13.heap.size + 1 from by rw [← hN]; simp)
          clear hN
          refine ⟨HS.out _ HR14.out, ?_⟩
          refine fm_skip rfl ?_
          refine fm_nil ?_
          unfold Vw.val
          go_simp
          obtain ⟨c1, c2, c3⟩ := Z14_b7.out.facts
          obtain ⟨d1, d2, d3⟩ := Z14_b8.out.facts
          have hgw := HBw14.out.size
          have n1 : v1.heap.size ≠ v13.heap.size := by have ehs12 := hs12.out; have ehs14 := hs14.out; omega
          have n2 : v13.heap.size ≠ v1.heap.size := fun h => n1 h.symm
          go_wp2_with fail
          refine NoPanic.normal ?_
          have hlx1 := hlx0.out
          have ehs12 := hs12.out
          have ehs14 := hs14.out
          refine ⟨rfl, ?_⟩
          rw [HAA.out]
          refine ⟨v1.heap.size, v13.heap.size, v, u, sbx, sby, wsx, wsy, stx, sty, rfl, ⟨?_, ?_, ?_, ?_, ?_, ?_, ?_⟩, Px.out, Py.out⟩
          · exact (Z14_b7.out.put6 _ _ _ _ _ _).other6 n1 _ _ _ _ _ _
          · exact (Z14_b8.out.other6 (fun h => n1 h.symm) _ _ _ _ _ _).put6 _ _ _ _ _ _
          · exact Px.out.ok _ _ ((Z14_sx.out.other6 (by omega) (by omega) _ _ _ _ _ _).other6 (by omega) (by omega) _ _ _ _ _ _)
          · exact Py.out.ok _ _ ((Z14_sy.out.other6 (by omega) (by omega) _ _ _ _ _ _).other6 (by omega) (by omega) _ _ _ _ _ _)
          · exact (Z14_X0.out.other6 (by omega) _ _ _ _ _ _).other6 (by omega) _ _ _ _ _ _
          · rw [hbY]; exact (Z14_X1.out.other6 (by omega) _ _ _ _ _ _).other6 (by omega) _ _ _ _ _ _
          · exact below_put6 (below_put6 HBw14.out (by omega) _ _ _ _ _ _) (by omega) _ _ _ _ _ _
        · skip
          refine opW_take rfl rfl ?_
          go_simp
          have hbA : Below v12.heap.size v12 (v12.alloc (.cells #[.pointer none, .int .i64 0, .int .i64 0, .int .i64 0, .int .i64 0, .int .i64 0] 29)) := (Below.refl _ _).alloc (Nat.le_refl _) _
          have hz : Box (v12.alloc (.cells #[.pointer none, .int .i64 0, .int .i64 0, .int .i64 0, .int .i64 0, .int .i64 0] 29)) v12.heap.size [.pointer none, .int .i64 0, .int .i64 0, .int .i64 0, .int .i64 0, .int .i64 0] := Box.newA v12 _ _ rfl
          have HR15 := Lib.hid (below_step HR12.out HR12.out.size hbA)
          have hsz15 := (hbA).size
          have HBw15 := Lib.hid (below_step HBw12.out HBw12.out.size hbA)
          have Z15_X0 := Lib.hid (Z12_X0.out.below hbA)
          have Z15_X1 := Lib.hid (Z12_X1.out.below hbA)
          have Z15_sx := Lib.hid (Z12_sx.out.below hbA)
          have Z15_b7 := Lib.hid (Z12_b7.out.below hbA)
          have Z15_b8 := Lib.hid hz
          clear hbA hz
          generalize hN : v12.alloc (.cells #[.pointer none, .int .i64 0, .int .i64 0, .int .i64 0, .int .i64 0, .int .i64 0] 29) = v15 at *
          have hs15 := Lib.hid (show v15.heap.size = v12.heap.size + 1 from by rw [← hN]; simp)
          clear hN
          refine ⟨HS.out _ HR15.out, ?_⟩
          refine fm_one ?_
          refine opW_take rfl rfl ?_
          go_simp
          refine (HOy.out _ HBw15.out).mono ?_
          rintro e v16 ⟨u, sty, sby, wsy, rfl, kya, kyb, hz, hp, hb⟩
          have HR16 := Lib.hid (below_step HR15.out HR15.out.size hb)
          have hsz16 := (hb).size
          have HBw16 := Lib.hid (below_step HBw15.out HBw15.out.size hb)
          have Z16_X0 := Lib.hid (Z15_X0.out.below hb)
          have Z16_X1 := Lib.hid (Z15_X1.out.below hb)
          have Z16_sx := Lib.hid (Z15_sx.out.below hb)
          have Z16_b7 := Lib.hid (Z15_b7.out.below hb)
          have Z16_b8 := Lib.hid (Z15_b8.out.below hb)
          have hl16 := sto_lts hz
          have Z16_sy := Lib.hid hz
          have Py := Lib.hid hp
          clear hz hp hb
          refine ⟨HS.out _ HR16.out, ?_⟩
          refine fm_skip rfl ?_
          refine fm_skip rfl ?_
          refine fm_nil ?_
          unfold Vw.val
          go_simp
          obtain ⟨c1, c2, c3⟩ := Z16_b7.out.facts
          obtain ⟨d1, d2, d3⟩ := Z16_b8.out.facts
          have hgw := HBw16.out.size
          have n1 : v1.heap.size ≠ v12.heap.size := by have ehs12 := hs12.out; have ehs15 := hs15.out; omega
          have n2 : v12.heap.size ≠ v1.heap.size := fun h => n1 h.symm
          go_wp2_with fail
          refine NoPanic.normal ?_
          have hlx1 := hlx0.out
          have ehs12 := hs12.out
          have ehs15 := hs15.out
          refine ⟨rfl, ?_⟩
          rw [HAA.out]
          refine ⟨v1.heap.size, v12.heap.size, v, u, sbx, sby, wsx, wsy, stx, sty, rfl, ⟨?_, ?_, ?_, ?_, ?_, ?_, ?_⟩, Px.out, Py.out⟩
          · exact (Z16_b7.out.put6 _ _ _ _ _ _).other6 n1 _ _ _ _ _ _
          · exact (Z16_b8.out.other6 (fun h => n1 h.symm) _ _ _ _ _ _).put6 _ _ _ _ _ _
          · exact Px.out.ok _ _ ((Z16_sx.out.other6 (by omega) (by omega) _ _ _ _ _ _).other6 (by omega) (by omega) _ _ _ _ _ _)
          · exact Py.out.ok _ _ ((Z16_sy.out.other6 (by omega) (by omega) _ _ _ _ _ _).other6 (by omega) (by omega) _ _ _ _ _ _)
          · exact (Z16_X0.out.other6 (by omega) _ _ _ _ _ _).other6 (by omega) _ _ _ _ _ _
          · rw [hbY]; exact (Z16_X1.out.other6 (by omega) _ _ _ _ _ _).other6 (by omega) _ _ _ _ _ _
          · exact below_put6 (below_put6 HBw16.out (by omega) _ _ _ _ _ _) (by omega) _ _ _ _ _ _
    · skip
      refine opW_take rfl rfl ?_
      go_simp
      have hbA : Below v0.heap.size v0 (v0.alloc (.cells #[.pointer none, .int .i64 0, .int .i64 0, .int .i64 0, .int .i64 0, .int .i64 0] 29)) := (Below.refl _ _).alloc (Nat.le_refl _) _
      have hz : Box (v0.alloc (.cells #[.pointer none, .int .i64 0, .int .i64 0, .int .i64 0, .int .i64 0, .int .i64 0] 29)) v0.heap.size [.pointer none, .int .i64 0, .int .i64 0, .int .i64 0, .int .i64 0, .int .i64 0] := Box.newA v0 _ _ rfl
      have HR17 := Lib.hid (below_step HR.out HR.out.size hbA)
      have hsz17 := (hbA).size
      have HBw17 := Lib.hid (below_step HB1.out HB1.out.size hbA)
      have Z17_X0 := Lib.hid (X0.out.below hbA)
      have Z17_X1 := Lib.hid (X1.out.below hbA)
      have Z17_b8 := Lib.hid hz
      clear hbA hz
      generalize hN : v0.alloc (.cells #[.pointer none, .int .i64 0, .int .i64 0, .int .i64 0, .int .i64 0, .int .i64 0] 29) = v17 at *
      have hs17 := Lib.hid (show v17.heap.size = v0.heap.size + 1 from by rw [← hN]; simp)
      clear hN
      refine ⟨HS.out _ HR17.out, ?_⟩
      refine fm_one1 ?_ ?_
      · skip
        refine opW_take rfl rfl ?_
        go_simp
        refine (HOx.out _ HBw17.out).mono ?_
        rintro e v18 ⟨v, stx, sbx, wsx, rfl, kxa, kxb, hz, hp, hb⟩
        have HR18 := Lib.hid (below_step HR17.out HR17.out.size hb)
        have hsz18 := (hb).size
        have HBw18 := Lib.hid (below_step HBw17.out HBw17.out.size hb)
        have Z18_X0 := Lib.hid (Z17_X0.out.below hb)
        have Z18_X1 := Lib.hid (Z17_X1.out.below hb)
        have Z18_b8 := Lib.hid (Z17_b8.out.below hb)
        have hl18 := sto_lts hz
        have Z18_sx := Lib.hid hz
        have Px := Lib.hid hp
        clear hz hp hb
        refine ⟨HS.out _ HR18.out, ?_⟩
        refine fm_one1 ?_ ?_
        · skip
          refine opW_take rfl rfl ?_
          go_simp
          refine (HOy.out _ HBw18.out).mono ?_
          rintro e v19 ⟨u, sty, sby, wsy, rfl, kya, kyb, hz, hp, hb⟩
          have HR19 := Lib.hid (below_step HR18.out HR18.out.size hb)
          have hsz19 := (hb).size
          have HBw19 := Lib.hid (below_step HBw18.out HBw18.out.size hb)
          have Z19_X0 := Lib.hid (Z18_X0.out.below hb)
          have Z19_X1 := Lib.hid (Z18_X1.out.below hb)
          have Z19_b8 := Lib.hid (Z18_b8.out.below hb)
          have Z19_sx := Lib.hid (Z18_sx.out.below hb)
          have hl19 := sto_lts hz
          have Z19_sy := Lib.hid hz
          have Py := Lib.hid hp
          clear hz hp hb
          refine ⟨HS.out _ HR19.out, ?_⟩
          refine fm_now ?_
          refine opW_take rfl rfl ?_
          go_simp
          have hbA : Below v19.heap.size v19 (v19.alloc (.cells #[.pointer none, .int .i64 0, .int .i64 0, .int .i64 0, .int .i64 0, .int .i64 0] 29)) := (Below.refl _ _).alloc (Nat.le_refl _) _
          have hz : Box (v19.alloc (.cells #[.pointer none, .int .i64 0, .int .i64 0, .int .i64 0, .int .i64 0, .int .i64 0] 29)) v19.heap.size [.pointer none, .int .i64 0, .int .i64 0, .int .i64 0, .int .i64 0, .int .i64 0] := Box.newA v19 _ _ rfl
          have HR20 := Lib.hid (below_step HR19.out HR19.out.size hbA)
          have hsz20 := (hbA).size
          have HBw20 := Lib.hid (below_step HBw19.out HBw19.out.size hbA)
          have Z20_X0 := Lib.hid (Z19_X0.out.below hbA)
          have Z20_X1 := Lib.hid (Z19_X1.out.below hbA)
          have Z20_b8 := Lib.hid (Z19_b8.out.below hbA)
          have Z20_sx := Lib.hid (Z19_sx.out.below hbA)
          have Z20_sy := Lib.hid (Z19_sy.out.below hbA)
          have Z20_b7 := Lib.hid hz
          clear hbA hz
          generalize hN : v19.alloc (.cells #[.pointer none, .int .i64 0, .int .i64 0, .int .i64 0, .int .i64 0, .int .i64 0] 29) = v20 at *
          have hs20 := Lib.hid (show v20.heap.size = v19.heap.size + 1 from by rw [← hN]; simp)
          clear hN
          refine ⟨HS.out _ HR20.out, ?_⟩
          refine fm_skip rfl ?_
          refine fm_skip rfl ?_
          refine fm_nil ?_
          unfold Vw.val
          go_simp
          obtain ⟨c1, c2, c3⟩ := Z20_b7.out.facts
          obtain ⟨d1, d2, d3⟩ := Z20_b8.out.facts
          have hgw := HBw20.out.size
          have n1 : v19.heap.size ≠ v0.heap.size := by have ehs17 := hs17.out; have ehs20 := hs20.out; omega
          have n2 : v0.heap.size ≠ v19.heap.size := fun h => n1 h.symm
          go_wp2_with fail
          refine NoPanic.normal ?_
          have hlx1 := hlx0.out
          have ehs17 := hs17.out
          have ehs20 := hs20.out
          refine ⟨rfl, ?_⟩
          rw [HAA.out]
          refine ⟨v19.heap.size, v0.heap.size, v, u, sbx, sby, wsx, wsy, stx, sty, rfl, ⟨?_, ?_, ?_, ?_, ?_, ?_, ?_⟩, Px.out, Py.out⟩
          · exact (Z20_b7.out.put6 _ _ _ _ _ _).other6 n1 _ _ _ _ _ _
          · exact (Z20_b8.out.other6 (fun h => n1 h.symm) _ _ _ _ _ _).put6 _ _ _ _ _ _
          · exact Px.out.ok _ _ ((Z20_sx.out.other6 (by omega) (by omega) _ _ _ _ _ _).other6 (by omega) (by omega) _ _ _ _ _ _)
          · exact Py.out.ok _ _ ((Z20_sy.out.other6 (by omega) (by omega) _ _ _ _ _ _).other6 (by omega) (by omega) _ _ _ _ _ _)
          · exact (Z20_X0.out.other6 (by omega) _ _ _ _ _ _).other6 (by omega) _ _ _ _ _ _
          · rw [hbY]; exact (Z20_X1.out.other6 (by omega) _ _ _ _ _ _).other6 (by omega) _ _ _ _ _ _
          · exact below_put6 (below_put6 HBw20.out (by omega) _ _ _ _ _ _) (by omega) _ _ _ _ _ _
        · skip
          refine opW_take rfl rfl ?_
          go_simp
          have hbA : Below v18.heap.size v18 (v18.alloc (.cells #[.pointer none, .int .i64 0, .int .i64 0, .int .i64 0, .int .i64 0, .int .i64 0] 29)) := (Below.refl _ _).alloc (Nat.le_refl _) _
          have hz : Box (v18.alloc (.cells #[.pointer none, .int .i64 0, .int .i64 0, .int .i64 0, .int .i64 0, .int .i64 0] 29)) v18.heap.size [.pointer none, .int .i64 0, .int .i64 0, .int .i64 0, .int .i64 0, .int .i64 0] := Box.newA v18 _ _ rfl
          have HR21 := Lib.hid (below_step HR18.out HR18.out.size hbA)
          have hsz21 := (hbA).size
          have HBw21 := Lib.hid (below_step HBw18.out HBw18.out.size hbA)
          have Z21_X0 := Lib.hid (Z18_X0.out.below hbA)
          have Z21_X1 := Lib.hid (Z18_X1.out.below hbA)
          have Z21_b8 := Lib.hid (Z18_b8.out.below hbA)
          have Z21_sx := Lib.hid (Z18_sx.out.below hbA)
          have Z21_b7 := Lib.hid hz
          clear hbA hz
          generalize hN : v18.alloc (.cells #[.pointer none, .int .i64 0, .int .i64 0, .int .i64 0, .int .i64 0, .int .i64 0] 29) = v21 at *
          have hs21 := Lib.hid (show v21.heap.size = v18.heap.size + 1 from by rw [← hN]; simp)
          clear hN
          refine ⟨HS.out _ HR21.out, ?_⟩
          refine fm_one ?_
          refine opW_take rfl rfl ?_
          go_simp
          refine (HOy.out _ HBw21.out).mono ?_
          rintro e v22 ⟨u, sty, sby, wsy, rfl, kya, kyb, hz, hp, hb⟩
          have HR22 := Lib.hid (below_step HR21.out HR21.out.size hb)
          have hsz22 := (hb).size
          have HBw22 := Lib.hid (below_step HBw21.out HBw21.out.size hb)
          have Z22_X0 := Lib.hid (Z21_X0.out.below hb)
          have Z22_X1 := Lib.hid (Z21_X1.out.below hb)
          have Z22_b8 := Lib.hid (Z21_b8.out.below hb)
          have Z22_sx := Lib.hid (Z21_sx.out.below hb)
          have Z22_b7 := Lib.hid (Z21_b7.out.below hb)
          have hl22 := sto_lts hz
          have Z22_sy := Lib.hid hz
          have Py := Lib.hid hp
          clear hz hp hb
          refine ⟨HS.out _ HR22.out, ?_⟩
          refine fm_skip rfl ?_
          refine fm_skip rfl ?_
          refine fm_nil ?_
          unfold Vw.val
          go_simp
          obtain ⟨c1, c2, c3⟩ := Z22_b7.out.facts
          obtain ⟨d1, d2, d3⟩ := Z22_b8.out.facts
          have hgw := HBw22.out.size
          have n1 : v18.heap.size ≠ v0.heap.size := by have ehs17 := hs17.out; have ehs21 := hs21.out; omega
          have n2 : v0.heap.size ≠ v18.heap.size := fun h => n1 h.symm
          go_wp2_with fail
          refine NoPanic.normal ?_
          have hlx1 := hlx0.out
          have ehs17 := hs17.out
          have ehs21 := hs21.out
          refine ⟨rfl, ?_⟩
          rw [HAA.out]
          refine ⟨v18.heap.size, v0.heap.size, v, u, sbx, sby, wsx, wsy, stx, sty, rfl, ⟨?_, ?_, ?_, ?_, ?_, ?_, ?_⟩, Px.out, Py.out⟩
          · exact (Z22_b7.out.put6 _ _ _ _ _ _).other6 n1 _ _ _ _ _ _
          · exact (Z22_b8.out.other6 (fun h => n1 h.symm) _ _ _ _ _ _).put6 _ _ _ _ _ _
          · exact Px.out.ok _ _ ((Z22_sx.out.other6 (by omega) (by omega) _ _ _ _ _ _).other6 (by omega) (by omega) _ _ _ _ _ _)
          · exact Py.out.ok _ _ ((Z22_sy.out.other6 (by omega) (by omega) _ _ _ _ _ _).other6 (by omega) (by omega) _ _ _ _ _ _)
          · exact (Z22_X0.out.other6 (by omega) _ _ _ _ _ _).other6 (by omega) _ _ _ _ _ _
          · rw [hbY]; exact (Z22_X1.out.other6 (by omega) _ _ _ _ _ _).other6 (by omega) _ _ _ _ _ _
          · exact below_put6 (below_put6 HBw22.out (by omega) _ _ _ _ _ _) (by omega) _ _ _ _ _ _
      · skip
        refine opW_take rfl rfl ?_
        go_simp
        have hbA : Below v17.heap.size v17 (v17.alloc (.cells #[.pointer none, .int .i64 0, .int .i64 0, .int .i64 0, .int .i64 0, .int .i64 0] 29)) := (Below.refl _ _).alloc (Nat.le_refl _) _
        have hz : Box (v17.alloc (.cells #[.pointer none, .int .i64 0, .int .i64 0, .int .i64 0, .int .i64 0, .int .i64 0] 29)) v17.heap.size [.pointer none, .int .i64 0, .int .i64 0, .int .i64 0, .int .i64 0, .int .i64 0] := Box.newA v17 _ _ rfl
        have HR23 := Lib.hid (below_step HR17.out HR17.out.size hbA)
        have hsz23 := (hbA).size
        have HBw23 := Lib.hid (below_step HBw17.out HBw17.out.size hbA)
        have Z23_X0 := Lib.hid (Z17_X0.out.below hbA)
        have Z23_X1 := Lib.hid (Z17_X1.out.below hbA)
        have Z23_b8 := Lib.hid (Z17_b8.out.below hbA)
        have Z23_b7 := Lib.hid hz
        clear hbA hz
        generalize hN : v17.alloc (.cells #[.pointer none, .int .i64 0, .int .i64 0, .int .i64 0, .int .i64 0, .int .i64 0] 29) = v23 at *
        have hs23 := Lib.hid (show v23.heap.size = v17.heap.size + 1 from by rw [← hN]; simp)
        clear hN
        refine ⟨HS.out _ HR23.out, ?_⟩
        refine fm_one ?_
        refine opW_take rfl rfl ?_
        go_simp
        refine (HOx.out _ HBw23.out).mono ?_
        rintro e v24 ⟨v, stx, sbx, wsx, rfl, kxa, kxb, hz, hp, hb⟩
        have HR24 := Lib.hid (below_step HR23.out HR23.out.size hb)
        have hsz24 := (hb).size
        have HBw24 := Lib.hid (below_step HBw23.out HBw23.out.size hb)
        have Z24_X0 := Lib.hid (Z23_X0.out.below hb)
        have Z24_X1 := Lib.hid (Z23_X1.out.below hb)
        have Z24_b8 := Lib.hid (Z23_b8.out.below hb)
        have Z24_b7 := Lib.hid (Z23_b7.out.below hb)
        have hl24 := sto_lts hz
        have Z24_sx := Lib.hid hz
        have Px := Lib.hid hp
        clear hz hp hb
        refine ⟨HS.out _ HR24.out, ?_⟩
        refine fm_one ?_
        refine opW_take rfl rfl ?_
        go_simp
        refine (HOy.out _ HBw24.out).mono ?_
        rintro e v25 ⟨u, sty, sby, wsy, rfl, kya, kyb, hz, hp, hb⟩
        have HR25 := Lib.hid (below_step HR24.out HR24.out.size hb)
        have hsz25 := (hb).size
        have HBw25 := Lib.hid (below_step HBw24.out HBw24.out.size hb)
        have Z25_X0 := Lib.hid (Z24_X0.out.below hb)
        have Z25_X1 := Lib.hid (Z24_X1.out.below hb)
        have Z25_b8 := Lib.hid (Z24_b8.out.below hb)
        have Z25_b7 := Lib.hid (Z24_b7.out.below hb)
        have Z25_sx := Lib.hid (Z24_sx.out.below hb)
        have hl25 := sto_lts hz
        have Z25_sy := Lib.hid hz
        have Py := Lib.hid hp
        clear hz hp hb
        refine ⟨HS.out _ HR25.out, ?_⟩
        refine fm_skip rfl ?_
        refine fm_skip rfl ?_
        refine fm_nil ?_
        unfold Vw.val
        go_simp
        obtain ⟨c1, c2, c3⟩ := Z25_b7.out.facts
        obtain ⟨d1, d2, d3⟩ := Z25_b8.out.facts
        have hgw := HBw25.out.size
        have n1 : v17.heap.size ≠ v0.heap.size := by have ehs17 := hs17.out; have ehs23 := hs23.out; omega
        have n2 : v0.heap.size ≠ v17.heap.size := fun h => n1 h.symm
        go_wp2_with fail
        refine NoPanic.normal ?_
        have hlx1 := hlx0.out
        have ehs17 := hs17.out
        have ehs23 := hs23.out
        refine ⟨rfl, ?_⟩
        rw [HAA.out]
        refine ⟨v17.heap.size, v0.heap.size, v, u, sbx, sby, wsx, wsy, stx, sty, rfl, ⟨?_, ?_, ?_, ?_, ?_, ?_, ?_⟩, Px.out, Py.out⟩
        · exact (Z25_b7.out.put6 _ _ _ _ _ _).other6 n1 _ _ _ _ _ _
        · exact (Z25_b8.out.other6 (fun h => n1 h.symm) _ _ _ _ _ _).put6 _ _ _ _ _ _
        · exact Px.out.ok _ _ ((Z25_sx.out.other6 (by omega) (by omega) _ _ _ _ _ _).other6 (by omega) (by omega) _ _ _ _ _ _)
        · exact Py.out.ok _ _ ((Z25_sy.out.other6 (by omega) (by omega) _ _ _ _ _ _).other6 (by omega) (by omega) _ _ _ _ _ _)
        · exact (Z25_X0.out.other6 (by omega) _ _ _ _ _ _).other6 (by omega) _ _ _ _ _ _
        · rw [hbY]; exact (Z25_X1.out.other6 (by omega) _ _ _ _ _ _).other6 (by omega) _ _ _ _ _ _
        · exact below_put6 (below_put6 HBw25.out (by omega) _ _ _ _ _ _) (by omega) _ _ _ _ _ _
    · skip
      refine opW_take rfl rfl ?_
      go_simp
      have hbA : Below v0.heap.size v0 (v0.alloc (.cells #[.pointer none, .int .i64 0, .int .i64 0, .int .i64 0, .int .i64 0, .int .i64 0] 29)) := (Below.refl _ _).alloc (Nat.le_refl _) _
      have hz : Box (v0.alloc (.cells #[.pointer none, .int .i64 0, .int .i64 0, .int .i64 0, .int .i64 0, .int .i64 0] 29)) v0.heap.size [.pointer none, .int .i64 0, .int .i64 0, .int .i64 0, .int .i64 0, .int .i64 0] := Box.newA v0 _ _ rfl
      have HR26 := Lib.hid (below_step HR.out HR.out.size hbA)
      have hsz26 := (hbA).size
      have HBw26 := Lib.hid (below_step HB1.out HB1.out.size hbA)
      have Z26_X0 := Lib.hid (X0.out.below hbA)
      have Z26_X1 := Lib.hid (X1.out.below hbA)
      have Z26_b7 := Lib.hid hz
      clear hbA hz
      generalize hN : v0.alloc (.cells #[.pointer none, .int .i64 0, .int .i64 0, .int .i64 0, .int .i64 0, .int .i64 0] 29) = v26 at *
      have hs26 := Lib.hid (show v26.heap.size = v0.heap.size + 1 from by rw [← hN]; simp)
      clear hN
      refine ⟨HS.out _ HR26.out, ?_⟩
      refine fm_one1 ?_ ?_
      · skip
        refine opW_take rfl rfl ?_
        go_simp
        refine (HOx.out _ HBw26.out).mono ?_
        rintro e v27 ⟨v, stx, sbx, wsx, rfl, kxa, kxb, hz, hp, hb⟩
        have HR27 := Lib.hid (below_step HR26.out HR26.out.size hb)
        have hsz27 := (hb).size
        have HBw27 := Lib.hid (below_step HBw26.out HBw26.out.size hb)
        have Z27_X0 := Lib.hid (Z26_X0.out.below hb)
        have Z27_X1 := Lib.hid (Z26_X1.out.below hb)
        have Z27_b7 := Lib.hid (Z26_b7.out.below hb)
        have hl27 := sto_lts hz
        have Z27_sx := Lib.hid hz
        have Px := Lib.hid hp
        clear hz hp hb
        refine ⟨HS.out _ HR27.out, ?_⟩
        refine fm_one1 ?_ ?_
        · skip
          refine opW_take rfl rfl ?_
          go_simp
          refine (HOy.out _ HBw27.out).mono ?_
          rintro e v28 ⟨u, sty, sby, wsy, rfl, kya, kyb, hz, hp, hb⟩
          have HR28 := Lib.hid (below_step HR27.out HR27.out.size hb)
          have hsz28 := (hb).size
          have HBw28 := Lib.hid (below_step HBw27.out HBw27.out.size hb)
          have Z28_X0 := Lib.hid (Z27_X0.out.below hb)
          have Z28_X1 := Lib.hid (Z27_X1.out.below hb)
          have Z28_b7 := Lib.hid (Z27_b7.out.below hb)
          have Z28_sx := Lib.hid (Z27_sx.out.below hb)
          have hl28 := sto_lts hz
          have Z28_sy := Lib.hid hz
          have Py := Lib.hid hp
          clear hz hp hb
          refine ⟨HS.out _ HR28.out, ?_⟩
          refine fm_skip rfl ?_
          refine fm_now ?_
          refine opW_take rfl rfl ?_
          go_simp
          have hbA : Below v28.heap.size v28 (v28.alloc (.cells #[.pointer none, .int .i64 0, .int .i64 0, .int .i64 0, .int .i64 0, .int .i64 0] 29)) := (Below.refl _ _).alloc (Nat.le_refl _) _
          have hz : Box (v28.alloc (.cells #[.pointer none, .int .i64 0, .int .i64 0, .int .i64 0, .int .i64 0, .int .i64 0] 29)) v28.heap.size [.pointer none, .int .i64 0, .int .i64 0, .int .i64 0, .int .i64 0, .int .i64 0] := Box.newA v28 _ _ rfl
          have HR29 := Lib.hid (below_step HR28.out HR28.out.size hbA)
          have hsz29 := (hbA).size
          have HBw29 := Lib.hid (below_step HBw28.out HBw28.out.size hbA)
          have Z29_X0 := Lib.hid (Z28_X0.out.below hbA)
          have Z29_X1 := Lib.hid (Z28_X1.out.below hbA)
          have Z29_b7 := Lib.hid (Z28_b7.out.below hbA)
          have Z29_sx := Lib.hid (Z28_sx.out.below hbA)
          have Z29_sy := Lib.hid (Z28_sy.out.below hbA)
          have Z29_b8 := Lib.hid hz
          clear hbA hz
          generalize hN : v28.alloc (.cells #[.pointer none, .int .i64 0, .int .i64 0, .int .i64 0, .int .i64 0, .int .i64 0] 29) = v29 at *
          have hs29 := Lib.hid (show v29.heap.size = v28.heap.size + 1 from by rw [← hN]; simp)
          clear hN
          refine ⟨HS.out _ HR29.out, ?_⟩
          refine fm_skip rfl ?_
          refine fm_nil ?_
          unfold Vw.val
          go_simp
          obtain ⟨c1, c2, c3⟩ := Z29_b7.out.facts
          obtain ⟨d1, d2, d3⟩ := Z29_b8.out.facts
          have hgw := HBw29.out.size
          have n1 : v0.heap.size ≠ v28.heap.size := by have ehs26 := hs26.out; have ehs29 := hs29.out; omega
          have n2 : v28.heap.size ≠ v0.heap.size := fun h => n1 h.symm
          go_wp2_with fail
          refine NoPanic.normal ?_
          have hlx1 := hlx0.out
          have ehs26 := hs26.out
          have ehs29 := hs29.out
          refine ⟨rfl, ?_⟩
          rw [HAA.out]
          refine ⟨v0.heap.size, v28.heap.size, v, u, sbx, sby, wsx, wsy, stx, sty, rfl, ⟨?_, ?_, ?_, ?_, ?_, ?_, ?_⟩, Px.out, Py.out⟩
          · exact (Z29_b7.out.put6 _ _ _ _ _ _).other6 n1 _ _ _ _ _ _
          · exact (Z29_b8.out.other6 (fun h => n1 h.symm) _ _ _ _ _ _).put6 _ _ _ _ _ _
          · exact Px.out.ok _ _ ((Z29_sx.out.other6 (by omega) (by omega) _ _ _ _ _ _).other6 (by omega) (by omega) _ _ _ _ _ _)
          · exact Py.out.ok _ _ ((Z29_sy.out.other6 (by omega) (by omega) _ _ _ _ _ _).other6 (by omega) (by omega) _ _ _ _ _ _)
          · exact (Z29_X0.out.other6 (by omega) _ _ _ _ _ _).other6 (by omega) _ _ _ _ _ _
          · rw [hbY]; exact (Z29_X1.out.other6 (by omega) _ _ _ _ _ _).other6 (by omega) _ _ _ _ _ _
          · exact below_put6 (below_put6 HBw29.out (by omega) _ _ _ _ _ _) (by omega) _ _ _ _ _ _
        · skip
          refine opW_take rfl rfl ?_
          go_simp
          have hbA : Below v27.heap.size v27 (v27.alloc (.cells #[.pointer none, .int .i64 0, .int .i64 0, .int .i64 0, .int .i64 0, .int .i64 0] 29)) := (Below.refl _ _).alloc (Nat.le_refl _) _
          have hz : Box (v27.alloc (.cells #[.pointer none, .int .i64 0, .int .i64 0, .int .i64 0, .int .i64 0, .int .i64 0] 29)) v27.heap.size [.pointer none, .int .i64 0, .int .i64 0, .int .i64 0, .int .i64 0, .int .i64 0] := Box.newA v27 _ _ rfl
          have HR30 := Lib.hid (below_step HR27.out HR27.out.size hbA)
          have hsz30 := (hbA).size
          have HBw30 := Lib.hid (below_step HBw27.out HBw27.out.size hbA)
          have Z30_X0 := Lib.hid (Z27_X0.out.below hbA)
          have Z30_X1 := Lib.hid (Z27_X1.out.below hbA)
          have Z30_b7 := Lib.hid (Z27_b7.out.below hbA)
          have Z30_sx := Lib.hid (Z27_sx.out.below hbA)
          have Z30_b8 := Lib.hid hz
          clear hbA hz
          generalize hN : v27.alloc (.cells #[.pointer none, .int .i64 0, .int .i64 0, .int .i64 0, .int .i64 0, .int .i64 0] 29) = v30 at *
          have hs30 := Lib.hid (show v30.heap.size = v27.heap.size + 1 from by rw [← hN]; simp)
          clear hN
          refine ⟨HS.out _ HR30.out, ?_⟩
          refine fm_one ?_
          refine opW_take rfl rfl ?_
          go_simp
          refine (HOy.out _ HBw30.out).mono ?_
          rintro e v31 ⟨u, sty, sby, wsy, rfl, kya, kyb, hz, hp, hb⟩
          have HR31 := Lib.hid (below_step HR30.out HR30.out.size hb)
          have hsz31 := (hb).size
          have HBw31 := Lib.hid (below_step HBw30.out HBw30.out.size hb)
          have Z31_X0 := Lib.hid (Z30_X0.out.below hb)
          have Z31_X1 := Lib.hid (Z30_X1.out.below hb)
          have Z31_b7 := Lib.hid (Z30_b7.out.below hb)
          have Z31_sx := Lib.hid (Z30_sx.out.below hb)
          have Z31_b8 := Lib.hid (Z30_b8.out.below hb)
          have hl31 := sto_lts hz
          have Z31_sy := Lib.hid hz
          have Py := Lib.hid hp
          clear hz hp hb
          refine ⟨HS.out _ HR31.out, ?_⟩
          refine fm_skip rfl ?_
          refine fm_skip rfl ?_
          refine fm_nil ?_
          unfold Vw.val
          go_simp
          obtain ⟨c1, c2, c3⟩ := Z31_b7.out.facts
          obtain ⟨d1, d2, d3⟩ := Z31_b8.out.facts
          have hgw := HBw31.out.size
          have n1 : v0.heap.size ≠ v27.heap.size := by have ehs26 := hs26.out; have ehs30 := hs30.out; omega
          have n2 : v27.heap.size ≠ v0.heap.size := fun h => n1 h.symm
          go_wp2_with fail
          refine NoPanic.normal ?_
          have hlx1 := hlx0.out
          have ehs26 := hs26.out
          have ehs30 := hs30.out
          refine ⟨rfl, ?_⟩
          rw [HAA.out]
          refine ⟨v0.heap.size, v27.heap.size, v, u, sbx, sby, wsx, wsy, stx, sty, rfl, ⟨?_, ?_, ?_, ?_, ?_, ?_, ?_⟩, Px.out, Py.out⟩
          · exact (Z31_b7.out.put6 _ _ _ _ _ _).other6 n1 _ _ _ _ _ _
          · exact (Z31_b8.out.other6 (fun h => n1 h.symm) _ _ _ _ _ _).put6 _ _ _ _ _ _
          · exact Px.out.ok _ _ ((Z31_sx.out.other6 (by omega) (by omega) _ _ _ _ _ _).other6 (by omega) (by omega) _ _ _ _ _ _)
          · exact Py.out.ok _ _ ((Z31_sy.out.other6 (by omega) (by omega) _ _ _ _ _ _).other6 (by omega) (by omega) _ _ _ _ _ _)
          · exact (Z31_X0.out.other6 (by omega) _ _ _ _ _ _).other6 (by omega) _ _ _ _ _ _
          · rw [hbY]; exact (Z31_X1.out.other6 (by omega) _ _ _ _ _ _).other6 (by omega) _ _ _ _ _ _
          · exact below_put6 (below_put6 HBw31.out (by omega) _ _ _ _ _ _) (by omega) _ _ _ _ _ _
      · skip
        refine opW_take rfl rfl ?_
        go_simp
        have hbA : Below v26.heap.size v26 (v26.alloc (.cells #[.pointer none, .int .i64 0, .int .i64 0, .int .i64 0, .int .i64 0, .int .i64 0] 29)) := (Below.refl _ _).alloc (Nat.le_refl _) _
        have hz : Box (v26.alloc (.cells #[.pointer none, .int .i64 0, .int .i64 0, .int .i64 0, .int .i64 0, .int .i64 0] 29)) v26.heap.size [.pointer none, .int .i64 0, .int .i64 0, .int .i64 0, .int .i64 0, .int .i64 0] := Box.newA v26 _ _ rfl
        have HR32 := Lib.hid (below_step HR26.out HR26.out.size hbA)
        have hsz32 := (hbA).size
        have HBw32 := Lib.hid (below_step HBw26.out HBw26.out.size hbA)
        have Z32_X0 := Lib.hid (Z26_X0.out.below hbA)
        have Z32_X1 := Lib.hid (Z26_X1.out.below hbA)
        have Z32_b7 := Lib.hid (Z26_b7.out.below hbA)
        have Z32_b8 := Lib.hid hz
        clear hbA hz
        generalize hN : v26.alloc (.cells #[.pointer none, .int .i64 0, .int .i64 0, .int .i64 0, .int .i64 0, .int .i64 0] 29) = v32 at *
        have hs32 := Lib.hid (show v32.heap.size = v26.heap.size + 1 from by rw [← hN]; simp)
        clear hN
        refine ⟨HS.out _ HR32.out, ?_⟩
        refine fm_one ?_
        refine opW_take rfl rfl ?_
        go_simp
        refine (HOx.out _ HBw32.out).mono ?_
        rintro e v33 ⟨v, stx, sbx, wsx, rfl, kxa, kxb, hz, hp, hb⟩
        have HR33 := Lib.hid (below_step HR32.out HR32.out.size hb)
        have hsz33 := (hb).size
        have HBw33 := Lib.hid (below_step HBw32.out HBw32.out.size hb)
        have Z33_X0 := Lib.hid (Z32_X0.out.below hb)
        have Z33_X1 := Lib.hid (Z32_X1.out.below hb)
        have Z33_b7 := Lib.hid (Z32_b7.out.below hb)
        have Z33_b8 := Lib.hid (Z32_b8.out.below hb)
        have hl33 := sto_lts hz
        have Z33_sx := Lib.hid hz
        have Px := Lib.hid hp
        clear hz hp hb
        refine ⟨HS.out _ HR33.out, ?_⟩
        refine fm_one ?_
        refine opW_take rfl rfl ?_
        go_simp
        refine (HOy.out _ HBw33.out).mono ?_
        rintro e v34 ⟨u, sty, sby, wsy, rfl, kya, kyb, hz, hp, hb⟩
        have HR34 := Lib.hid (below_step HR33.out HR33.out.size hb)
        have hsz34 := (hb).size
        have HBw34 := Lib.hid (below_step HBw33.out HBw33.out.size hb)
        have Z34_X0 := Lib.hid (Z33_X0.out.below hb)
        have Z34_X1 := Lib.hid (Z33_X1.out.below hb)
        have Z34_b7 := Lib.hid (Z33_b7.out.below hb)
        have Z34_b8 := Lib.hid (Z33_b8.out.below hb)
        have Z34_sx := Lib.hid (Z33_sx.out.below hb)
        have hl34 := sto_lts hz
        have Z34_sy := Lib.hid hz
        have Py := Lib.hid hp
        clear hz hp hb
        refine ⟨HS.out _ HR34.out, ?_⟩
        refine fm_skip rfl ?_
        refine fm_skip rfl ?_
        refine fm_nil ?_
        unfold Vw.val
        go_simp
        obtain ⟨c1, c2, c3⟩ := Z34_b7.out.facts
        obtain ⟨d1, d2, d3⟩ := Z34_b8.out.facts
        have hgw := HBw34.out.size
        have n1 : v0.heap.size ≠ v26.heap.size := by have ehs26 := hs26.out; have ehs32 := hs32.out; omega
        have n2 : v26.heap.size ≠ v0.heap.size := fun h => n1 h.symm
        go_wp2_with fail
        refine NoPanic.normal ?_
        have hlx1 := hlx0.out
        have ehs26 := hs26.out
        have ehs32 := hs32.out
        refine ⟨rfl, ?_⟩
        rw [HAA.out]
        refine ⟨v0.heap.size, v26.heap.size, v, u, sbx, sby, wsx, wsy, stx, sty, rfl, ⟨?_, ?_, ?_, ?_, ?_, ?_, ?_⟩, Px.out, Py.out⟩
        · exact (Z34_b7.out.put6 _ _ _ _ _ _).other6 n1 _ _ _ _ _ _
        · exact (Z34_b8.out.other6 (fun h => n1 h.symm) _ _ _ _ _ _).put6 _ _ _ _ _ _
        · exact Px.out.ok _ _ ((Z34_sx.out.other6 (by omega) (by omega) _ _ _ _ _ _).other6 (by omega) (by omega) _ _ _ _ _ _)
        · exact Py.out.ok _ _ ((Z34_sy.out.other6 (by omega) (by omega) _ _ _ _ _ _).other6 (by omega) (by omega) _ _ _ _ _ _)
        · exact (Z34_X0.out.other6 (by omega) _ _ _ _ _ _).other6 (by omega) _ _ _ _ _ _
        · rw [hbY]; exact (Z34_X1.out.other6 (by omega) _ _ _ _ _ _).other6 (by omega) _ _ _ _ _ _
        · exact below_put6 (below_put6 HBw34.out (by omega) _ _ _ _ _ _) (by omega) _ _ _ _ _ _
  case refine_1 =>
    clear p1 p2 p3 q1 q2 q3 x0 x1 hB0 HX HY HOx HOy
    rintro _ _ W ⟨rfl, ha⟩
    rw [HAA.out] at ha
    obtain ⟨b7, b8, v, u, sbx, sby, wsx, wsy, stx, sty, rfl, hs, Px, Py⟩ := ha
    clear HAA
    have HS0 := Lib.hid hs
    have HP := Lib.hid (And.intro Px Py)
    clear hs Px Py
    have HD := Lib.hid (fun W (h : SuW w W b7 b8 v u sbx sby wsx wsy [.int .i64 rx, .int .i64 cx, .slice ax zx.length px] [.int .i64 ry, .int .i64 cy, .slice ay zy.length py]) => Dot_any W v u sbx sby wsx wsy h.ox h.oy HP.out.1.words HP.out.2.words)
    have HA := Lib.hid (fun W (h : SuW w W b7 b8 v u sbx sby wsx wsy [.int .i64 rx, .int .i64 cx, .slice ax zx.length px] [.int .i64 ry, .int .i64 cy, .slice ay zy.length py]) => Asum_any W v sbx wsx h.ox HP.out.1.words)
    have HM := Lib.hid (fun W (h : SuW w W b7 b8 v u sbx sby wsx wsy [.int .i64 rx, .int .i64 cx, .slice ax zx.length px] [.int .i64 ry, .int .i64 cy, .slice ay zy.length py]) => Amax_any W v sbx wsx h.ox HP.out.1.words)
    obtain ⟨hZx, hWx, hZy, hWy, hnx, hny, hlx, hly⟩ := HC.out
    simp only [HP.out.1.two HP.out.2 hnx hny, HP.out.1.dot HP.out.2 hnx hny] at HD
    simp only [HP.out.1.one, HP.out.1.asum hnx] at HA
    simp only [HP.out.1.one] at HM
    have hmx := fun hv => HP.out.1.amax hnx hv
    have HRA := Lib.hid (fun W (h : Below w.heap.size w W) => RAsum_any W ax zx px (hZx.below h) hWx (by omega))
    have HRM := Lib.hid (fun W (h : Below w.heap.size w W) => RAmax_any W ax zx px (hZx.below h) hWx (by omega))
    have HRD := Lib.hid (fun (he : zy.length = zx.length) W (h : Below w.heap.size w W) => RDot_any W ax ay zx zy px py (hZx.below h) (hZy.below h) (by omega) he)
    have tl : ((zx.length : Int) != (zy.length : Int)) = !decide (zx.length = zy.length) := by rw [Bool.eq_iff_iff]; simp; omega
    have hln : zx.length ≤ 9223372036854775807 := by omega
    have HVx := Lib.hid (fun W => vecM_nat rx cx ▸ RVector_any rx cx ax zx.length px W)
    have HVy := Lib.hid (fun W => vecM_nat ry cy ▸ RVector_any ry cy ay zy.length py W)
    clear hZx hWx hZy hWy hnx hny hlx hly HC
    unfold fit8 at HD
    have HMX := Lib.hid hmx
    clear hmx HP
    generalize vec8 rx cx = q1 at *
    generalize vec8 ry cy = q2 at *
    obtain ⟨q3, hq3⟩ : ∃ q, q = decide (zx.length = zy.length) := ⟨_, rfl⟩
    rw [← hq3] at HD tl
    have HQ3 := Lib.hid hq3
    clear hq3
    cases q1 <;> cases q2 <;> cases q3
    · simp only [Bool.true_and, Bool.false_and, Bool.and_true, Bool.and_false, if_true, Bool.false_eq_true, if_false] at HD HA HM
      simp only [show ((8 : Int) = 0) = False from by decide, if_false] at HM
      simp only [f0eq] at HM
      obtain ⟨p1, p2, p3⟩ := HS0.out.x7.facts
      obtain ⟨q1', q2', q3'⟩ := HS0.out.x8.facts
      go_wp2_with fail
      refine (HD.out _ HS0.out).mono ?_
      rintro e y1 ⟨⟨s1, rfl⟩, hb⟩
      have K1 := Lib.hid (HS0.out.step hb)
      clear hb p1 p2 p3 q1' q2' q3'
      dsimp only
      obtain ⟨p1, p2, p3⟩ := K1.out.x7.facts
      go_wp2_with fail
      refine (HA.out _ K1.out).mono ?_
      rintro e y2 ⟨⟨s2, rfl⟩, hb⟩
      have K2 := Lib.hid (K1.out.step hb)
      clear hb p1 p2 p3
      dsimp only
      obtain ⟨p1, p2, p3⟩ := K2.out.x7.facts
      go_wp2_with fail
      refine (HM.out _ K2.out).mono ?_
      rintro e y3 ⟨⟨s3, rfl⟩, hb⟩
      have K3 := Lib.hid (K2.out.step hb)
      clear hb p1 p2 p3
      dsimp only
      obtain ⟨r1, r2, r3⟩ := K3.out.x0.facts
      go_wp2_with fail
      refine (HVx.out _).mono ?_
      rintro e y4 ⟨rfl, hb⟩
      have K4 := Lib.hid (K3.out.step hb)
      clear hb r1 r2 r3
      dsimp only
      go_wp2_with (go_at_call 22; refine (num8_any _ _).mono ?_; rintro e w' ⟨rfl, rfl⟩)
      refine (float0 _ _).mono ?_
      rintro e w' ⟨rfl, rfl⟩
      dsimp only
      go_wp2_with fail
      refine (float0 _ _).mono ?_
      rintro e w' ⟨rfl, rfl⟩
      dsimp only
      go_wp2_with fail
      refine (float0 _ _).mono ?_
      rintro e w' ⟨rfl, rfl⟩
      dsimp only
      go_wp2_with fail
      refine (known08_any _).mono ?_
      rintro e y5 ⟨rfl, hb⟩
      have K5 := Lib.hid (K4.out.step hb)
      clear hb 
      dsimp only
      go_wp2_with fail
      go_ret
      exact ⟨rfl, K5.out.below⟩
    · simp only [Bool.true_and, Bool.false_and, Bool.and_true, Bool.and_false, if_true, Bool.false_eq_true, if_false] at HD HA HM
      simp only [show ((8 : Int) = 0) = False from by decide, if_false] at HM
      simp only [f0eq] at HM
      obtain ⟨p1, p2, p3⟩ := HS0.out.x7.facts
      obtain ⟨q1', q2', q3'⟩ := HS0.out.x8.facts
      go_wp2_with fail
      refine (HD.out _ HS0.out).mono ?_
      rintro e y1 ⟨⟨s1, rfl⟩, hb⟩
      have K1 := Lib.hid (HS0.out.step hb)
      clear hb p1 p2 p3 q1' q2' q3'
      dsimp only
      obtain ⟨p1, p2, p3⟩ := K1.out.x7.facts
      go_wp2_with fail
      refine (HA.out _ K1.out).mono ?_
      rintro e y2 ⟨⟨s2, rfl⟩, hb⟩
      have K2 := Lib.hid (K1.out.step hb)
      clear hb p1 p2 p3
      dsimp only
      obtain ⟨p1, p2, p3⟩ := K2.out.x7.facts
      go_wp2_with fail
      refine (HM.out _ K2.out).mono ?_
      rintro e y3 ⟨⟨s3, rfl⟩, hb⟩
      have K3 := Lib.hid (K2.out.step hb)
      clear hb p1 p2 p3
      dsimp only
      obtain ⟨r1, r2, r3⟩ := K3.out.x0.facts
      go_wp2_with fail
      refine (HVx.out _).mono ?_
      rintro e y4 ⟨rfl, hb⟩
      have K4 := Lib.hid (K3.out.step hb)
      clear hb r1 r2 r3
      dsimp only
      go_wp2_with (go_at_call 22; refine (num8_any _ _).mono ?_; rintro e w' ⟨rfl, rfl⟩)
      refine (float0 _ _).mono ?_
      rintro e w' ⟨rfl, rfl⟩
      dsimp only
      go_wp2_with fail
      refine (float0 _ _).mono ?_
      rintro e w' ⟨rfl, rfl⟩
      dsimp only
      go_wp2_with fail
      refine (float0 _ _).mono ?_
      rintro e w' ⟨rfl, rfl⟩
      dsimp only
      go_wp2_with fail
      refine (known08_any _).mono ?_
      rintro e y5 ⟨rfl, hb⟩
      have K5 := Lib.hid (K4.out.step hb)
      clear hb 
      dsimp only
      go_wp2_with fail
      go_ret
      exact ⟨rfl, K5.out.below⟩
    · simp only [Bool.true_and, Bool.false_and, Bool.and_true, Bool.and_false, if_true, Bool.false_eq_true, if_false] at HD HA HM
      simp only [show ((8 : Int) = 0) = False from by decide, if_false] at HM
      simp only [f0eq] at HM
      obtain ⟨p1, p2, p3⟩ := HS0.out.x7.facts
      obtain ⟨q1', q2', q3'⟩ := HS0.out.x8.facts
      go_wp2_with fail
      refine (HD.out _ HS0.out).mono ?_
      rintro e y1 ⟨⟨s1, rfl⟩, hb⟩
      have K1 := Lib.hid (HS0.out.step hb)
      clear hb p1 p2 p3 q1' q2' q3'
      dsimp only
      obtain ⟨p1, p2, p3⟩ := K1.out.x7.facts
      go_wp2_with fail
      refine (HA.out _ K1.out).mono ?_
      rintro e y2 ⟨⟨s2, rfl⟩, hb⟩
      have K2 := Lib.hid (K1.out.step hb)
      clear hb p1 p2 p3
      dsimp only
      obtain ⟨p1, p2, p3⟩ := K2.out.x7.facts
      go_wp2_with fail
      refine (HM.out _ K2.out).mono ?_
      rintro e y3 ⟨⟨s3, rfl⟩, hb⟩
      have K3 := Lib.hid (K2.out.step hb)
      clear hb p1 p2 p3
      dsimp only
      obtain ⟨r1, r2, r3⟩ := K3.out.x0.facts
      go_wp2_with fail
      refine (HVx.out _).mono ?_
      rintro e y4 ⟨rfl, hb⟩
      have K4 := Lib.hid (K3.out.step hb)
      clear hb r1 r2 r3
      dsimp only
      go_wp2_with (go_at_call 22; refine (num8_any _ _).mono ?_; rintro e w' ⟨rfl, rfl⟩)
      refine (float0 _ _).mono ?_
      rintro e w' ⟨rfl, rfl⟩
      dsimp only
      go_wp2_with fail
      refine (float0 _ _).mono ?_
      rintro e w' ⟨rfl, rfl⟩
      dsimp only
      go_wp2_with fail
      refine (float0 _ _).mono ?_
      rintro e w' ⟨rfl, rfl⟩
      dsimp only
      go_wp2_with fail
      refine (known08_any _).mono ?_
      rintro e y5 ⟨rfl, hb⟩
      have K5 := Lib.hid (K4.out.step hb)
      clear hb 
      dsimp only
      go_wp2_with fail
      go_ret
      exact ⟨rfl, K5.out.below⟩
    · simp only [Bool.true_and, Bool.false_and, Bool.and_true, Bool.and_false, if_true, Bool.false_eq_true, if_false] at HD HA HM
      simp only [show ((8 : Int) = 0) = False from by decide, if_false] at HM
      simp only [f0eq] at HM
      obtain ⟨p1, p2, p3⟩ := HS0.out.x7.facts
      obtain ⟨q1', q2', q3'⟩ := HS0.out.x8.facts
      go_wp2_with fail
      refine (HD.out _ HS0.out).mono ?_
      rintro e y1 ⟨⟨s1, rfl⟩, hb⟩
      have K1 := Lib.hid (HS0.out.step hb)
      clear hb p1 p2 p3 q1' q2' q3'
      dsimp only
      obtain ⟨p1, p2, p3⟩ := K1.out.x7.facts
      go_wp2_with fail
      refine (HA.out _ K1.out).mono ?_
      rintro e y2 ⟨⟨s2, rfl⟩, hb⟩
      have K2 := Lib.hid (K1.out.step hb)
      clear hb p1 p2 p3
      dsimp only
      obtain ⟨p1, p2, p3⟩ := K2.out.x7.facts
      go_wp2_with fail
      refine (HM.out _ K2.out).mono ?_
      rintro e y3 ⟨⟨s3, rfl⟩, hb⟩
      have K3 := Lib.hid (K2.out.step hb)
      clear hb p1 p2 p3
      dsimp only
      obtain ⟨r1, r2, r3⟩ := K3.out.x0.facts
      go_wp2_with fail
      refine (HVx.out _).mono ?_
      rintro e y4 ⟨rfl, hb⟩
      have K4 := Lib.hid (K3.out.step hb)
      clear hb r1 r2 r3
      dsimp only
      go_wp2_with (go_at_call 22; refine (num8_any _ _).mono ?_; rintro e w' ⟨rfl, rfl⟩)
      refine (float0 _ _).mono ?_
      rintro e w' ⟨rfl, rfl⟩
      dsimp only
      go_wp2_with fail
      refine (float0 _ _).mono ?_
      rintro e w' ⟨rfl, rfl⟩
      dsimp only
      go_wp2_with fail
      refine (float0 _ _).mono ?_
      rintro e w' ⟨rfl, rfl⟩
      dsimp only
      go_wp2_with fail
      refine (known08_any _).mono ?_
      rintro e y5 ⟨rfl, hb⟩
      have K5 := Lib.hid (K4.out.step hb)
      clear hb 
      dsimp only
      go_wp2_with fail
      go_ret
      exact ⟨rfl, K5.out.below⟩
    · simp only [Bool.true_and, Bool.false_and, Bool.and_true, Bool.and_false, if_true, Bool.false_eq_true, if_false] at HD HA HM
      simp only [HMX.out rfl] at HM
      have lA := Lib.hid (asumG_lt (atL zx) zx.length)
      have lM := Lib.hid (amaxG_lt (atL zx) zx.length)
      have lD := Lib.hid (sumG_lt (atL zx) (atL zy) 0 zx.length)
      obtain ⟨m1, hm1⟩ : ∃ m : Int, m = ((amaxG (atL zx) zx.length).1 - 1 : Int) := ⟨_, rfl⟩
      rw [← hm1] at HRM
      simp only [← hm1] at HM
      clear hm1
      generalize asumG (atL zx) zx.length = VA at *
      generalize (amaxG (atL zx) zx.length).2 = VM at *
      generalize sumG (atL zx) (atL zy) 0 zx.length = VD at *
      obtain ⟨p1, p2, p3⟩ := HS0.out.x7.facts
      obtain ⟨q1', q2', q3'⟩ := HS0.out.x8.facts
      go_wp2_with fail
      refine (HD.out _ HS0.out).mono ?_
      rintro e y1 ⟨⟨s1, rfl⟩, hb⟩
      have K1 := Lib.hid (HS0.out.step hb)
      clear hb p1 p2 p3 q1' q2' q3'
      dsimp only
      obtain ⟨p1, p2, p3⟩ := K1.out.x7.facts
      go_wp2_with fail
      refine (HA.out _ K1.out).mono ?_
      rintro e y2 ⟨⟨s2, rfl⟩, hb⟩
      have K2 := Lib.hid (K1.out.step hb)
      clear hb p1 p2 p3
      dsimp only
      obtain ⟨p1, p2, p3⟩ := K2.out.x7.facts
      go_wp2_with fail
      refine (HM.out _ K2.out).mono ?_
      rintro e y3 ⟨⟨s3, rfl⟩, hb⟩
      have K3 := Lib.hid (K2.out.step hb)
      clear hb p1 p2 p3
      dsimp only
      obtain ⟨r1, r2, r3⟩ := K3.out.x0.facts
      go_wp2_with fail
      refine (HVx.out _).mono ?_
      rintro e y4 ⟨rfl, hb⟩
      have K4 := Lib.hid (K3.out.step hb)
      clear hb r1 r2 r3
      dsimp only
      obtain ⟨r1, r2, r3⟩ := K4.out.x0.facts
      go_wp2_with fail
      refine (HRM.out _ K4.out.below).mono ?_
      rintro e y5 ⟨⟨s4, rfl⟩, hb⟩
      have K5 := Lib.hid (K4.out.step hb)
      clear hb r1 r2 r3
      dsimp only
      obtain ⟨r1, r2, r3⟩ := K5.out.x0.facts
      go_wp2_with (go_at_call 22; refine (num8_any _ _).mono ?_; rintro e w' ⟨rfl, rfl⟩)
      refine (HRA.out _ K5.out.below).mono ?_
      rintro e y6 ⟨⟨s5, rfl⟩, hb⟩
      have K6 := Lib.hid (K5.out.step hb)
      clear hb r1 r2 r3
      dsimp only
      go_wp2_with fail
      refine (float8_raw _ _ _ lA.out _).mono ?_
      rintro e w' ⟨rfl, rfl⟩
      dsimp only
      go_wp2_with fail
      refine (float8_raw _ _ _ lM.out _).mono ?_
      rintro e w' ⟨rfl, rfl⟩
      dsimp only
      obtain ⟨s1', s2', s3'⟩ := K6.out.x1.facts
      go_wp2_with fail
      refine (HVy.out _).mono ?_
      rintro e y7 ⟨rfl, hb⟩
      have K7 := Lib.hid (K6.out.step hb)
      clear hb s1' s2' s3'
      dsimp only
      obtain ⟨r1, r2, r3⟩ := K7.out.x0.facts
      obtain ⟨s1', s2', s3'⟩ := K7.out.x1.facts
      go_wp2_with (first | (go_at_call 22; refine (num8_any _ _).mono ?_; rintro e w' ⟨rfl, rfl⟩) | (go_at_call 23; refine (float0 _ _).mono ?_; rintro e w' ⟨rfl, rfl⟩))
      refine (known08_any _).mono ?_
      rintro e yk ⟨rfl, hb⟩
      have KK := Lib.hid (K7.out.step hb)
      clear hb
      dsimp only
      go_wp2_with fail
      go_ret
      exact ⟨rfl, KK.out.below⟩
    · simp only [Bool.true_and, Bool.false_and, Bool.and_true, Bool.and_false, if_true, Bool.false_eq_true, if_false] at HD HA HM
      simp only [HMX.out rfl] at HM
      have lA := Lib.hid (asumG_lt (atL zx) zx.length)
      have lM := Lib.hid (amaxG_lt (atL zx) zx.length)
      have lD := Lib.hid (sumG_lt (atL zx) (atL zy) 0 zx.length)
      obtain ⟨m1, hm1⟩ : ∃ m : Int, m = ((amaxG (atL zx) zx.length).1 - 1 : Int) := ⟨_, rfl⟩
      rw [← hm1] at HRM
      simp only [← hm1] at HM
      clear hm1
      generalize asumG (atL zx) zx.length = VA at *
      generalize (amaxG (atL zx) zx.length).2 = VM at *
      generalize sumG (atL zx) (atL zy) 0 zx.length = VD at *
      obtain ⟨p1, p2, p3⟩ := HS0.out.x7.facts
      obtain ⟨q1', q2', q3'⟩ := HS0.out.x8.facts
      go_wp2_with fail
      refine (HD.out _ HS0.out).mono ?_
      rintro e y1 ⟨⟨s1, rfl⟩, hb⟩
      have K1 := Lib.hid (HS0.out.step hb)
      clear hb p1 p2 p3 q1' q2' q3'
      dsimp only
      obtain ⟨p1, p2, p3⟩ := K1.out.x7.facts
      go_wp2_with fail
      refine (HA.out _ K1.out).mono ?_
      rintro e y2 ⟨⟨s2, rfl⟩, hb⟩
      have K2 := Lib.hid (K1.out.step hb)
      clear hb p1 p2 p3
      dsimp only
      obtain ⟨p1, p2, p3⟩ := K2.out.x7.facts
      go_wp2_with fail
      refine (HM.out _ K2.out).mono ?_
      rintro e y3 ⟨⟨s3, rfl⟩, hb⟩
      have K3 := Lib.hid (K2.out.step hb)
      clear hb p1 p2 p3
      dsimp only
      obtain ⟨r1, r2, r3⟩ := K3.out.x0.facts
      go_wp2_with fail
      refine (HVx.out _).mono ?_
      rintro e y4 ⟨rfl, hb⟩
      have K4 := Lib.hid (K3.out.step hb)
      clear hb r1 r2 r3
      dsimp only
      obtain ⟨r1, r2, r3⟩ := K4.out.x0.facts
      go_wp2_with fail
      refine (HRM.out _ K4.out.below).mono ?_
      rintro e y5 ⟨⟨s4, rfl⟩, hb⟩
      have K5 := Lib.hid (K4.out.step hb)
      clear hb r1 r2 r3
      dsimp only
      obtain ⟨r1, r2, r3⟩ := K5.out.x0.facts
      go_wp2_with (go_at_call 22; refine (num8_any _ _).mono ?_; rintro e w' ⟨rfl, rfl⟩)
      refine (HRA.out _ K5.out.below).mono ?_
      rintro e y6 ⟨⟨s5, rfl⟩, hb⟩
      have K6 := Lib.hid (K5.out.step hb)
      clear hb r1 r2 r3
      dsimp only
      go_wp2_with fail
      refine (float8_raw _ _ _ lA.out _).mono ?_
      rintro e w' ⟨rfl, rfl⟩
      dsimp only
      go_wp2_with fail
      refine (float8_raw _ _ _ lM.out _).mono ?_
      rintro e w' ⟨rfl, rfl⟩
      dsimp only
      obtain ⟨s1', s2', s3'⟩ := K6.out.x1.facts
      go_wp2_with fail
      refine (HVy.out _).mono ?_
      rintro e y7 ⟨rfl, hb⟩
      have K7 := Lib.hid (K6.out.step hb)
      clear hb s1' s2' s3'
      dsimp only
      obtain ⟨r1, r2, r3⟩ := K7.out.x0.facts
      obtain ⟨s1', s2', s3'⟩ := K7.out.x1.facts
      go_wp2_with (first | (go_at_call 22; refine (num8_any _ _).mono ?_; rintro e w' ⟨rfl, rfl⟩) | (go_at_call 23; refine (float0 _ _).mono ?_; rintro e w' ⟨rfl, rfl⟩))
      refine (known08_any _).mono ?_
      rintro e yk ⟨rfl, hb⟩
      have KK := Lib.hid (K7.out.step hb)
      clear hb
      dsimp only
      go_wp2_with fail
      go_ret
      exact ⟨rfl, KK.out.below⟩
    · simp only [Bool.true_and, Bool.false_and, Bool.and_true, Bool.and_false, if_true, Bool.false_eq_true, if_false] at HD HA HM
      simp only [HMX.out rfl] at HM
      have lA := Lib.hid (asumG_lt (atL zx) zx.length)
      have lM := Lib.hid (amaxG_lt (atL zx) zx.length)
      have lD := Lib.hid (sumG_lt (atL zx) (atL zy) 0 zx.length)
      obtain ⟨m1, hm1⟩ : ∃ m : Int, m = ((amaxG (atL zx) zx.length).1 - 1 : Int) := ⟨_, rfl⟩
      rw [← hm1] at HRM
      simp only [← hm1] at HM
      clear hm1
      generalize asumG (atL zx) zx.length = VA at *
      generalize (amaxG (atL zx) zx.length).2 = VM at *
      generalize sumG (atL zx) (atL zy) 0 zx.length = VD at *
      obtain ⟨p1, p2, p3⟩ := HS0.out.x7.facts
      obtain ⟨q1', q2', q3'⟩ := HS0.out.x8.facts
      go_wp2_with fail
      refine (HD.out _ HS0.out).mono ?_
      rintro e y1 ⟨⟨s1, rfl⟩, hb⟩
      have K1 := Lib.hid (HS0.out.step hb)
      clear hb p1 p2 p3 q1' q2' q3'
      dsimp only
      obtain ⟨p1, p2, p3⟩ := K1.out.x7.facts
      go_wp2_with fail
      refine (HA.out _ K1.out).mono ?_
      rintro e y2 ⟨⟨s2, rfl⟩, hb⟩
      have K2 := Lib.hid (K1.out.step hb)
      clear hb p1 p2 p3
      dsimp only
      obtain ⟨p1, p2, p3⟩ := K2.out.x7.facts
      go_wp2_with fail
      refine (HM.out _ K2.out).mono ?_
      rintro e y3 ⟨⟨s3, rfl⟩, hb⟩
      have K3 := Lib.hid (K2.out.step hb)
      clear hb p1 p2 p3
      dsimp only
      obtain ⟨r1, r2, r3⟩ := K3.out.x0.facts
      go_wp2_with fail
      refine (HVx.out _).mono ?_
      rintro e y4 ⟨rfl, hb⟩
      have K4 := Lib.hid (K3.out.step hb)
      clear hb r1 r2 r3
      dsimp only
      obtain ⟨r1, r2, r3⟩ := K4.out.x0.facts
      go_wp2_with fail
      refine (HRM.out _ K4.out.below).mono ?_
      rintro e y5 ⟨⟨s4, rfl⟩, hb⟩
      have K5 := Lib.hid (K4.out.step hb)
      clear hb r1 r2 r3
      dsimp only
      obtain ⟨r1, r2, r3⟩ := K5.out.x0.facts
      go_wp2_with (go_at_call 22; refine (num8_any _ _).mono ?_; rintro e w' ⟨rfl, rfl⟩)
      refine (HRA.out _ K5.out.below).mono ?_
      rintro e y6 ⟨⟨s5, rfl⟩, hb⟩
      have K6 := Lib.hid (K5.out.step hb)
      clear hb r1 r2 r3
      dsimp only
      go_wp2_with fail
      refine (float8_raw _ _ _ lA.out _).mono ?_
      rintro e w' ⟨rfl, rfl⟩
      dsimp only
      go_wp2_with fail
      refine (float8_raw _ _ _ lM.out _).mono ?_
      rintro e w' ⟨rfl, rfl⟩
      dsimp only
      obtain ⟨s1', s2', s3'⟩ := K6.out.x1.facts
      go_wp2_with fail
      refine (HVy.out _).mono ?_
      rintro e y7 ⟨rfl, hb⟩
      have K7 := Lib.hid (K6.out.step hb)
      clear hb s1' s2' s3'
      dsimp only
      obtain ⟨r1, r2, r3⟩ := K7.out.x0.facts
      obtain ⟨s1', s2', s3'⟩ := K7.out.x1.facts
      go_wp2_with (first | (go_at_call 22; refine (num8_any _ _).mono ?_; rintro e w' ⟨rfl, rfl⟩) | (go_at_call 23; refine (float0 _ _).mono ?_; rintro e w' ⟨rfl, rfl⟩))
      refine (known08_any _).mono ?_
      rintro e yk ⟨rfl, hb⟩
      have KK := Lib.hid (K7.out.step hb)
      clear hb
      dsimp only
      go_wp2_with fail
      go_ret
      exact ⟨rfl, KK.out.below⟩
    · simp only [Bool.true_and, Bool.false_and, Bool.and_true, Bool.and_false, if_true, Bool.false_eq_true, if_false] at HD HA HM
      simp only [HMX.out rfl] at HM
      have lA := Lib.hid (asumG_lt (atL zx) zx.length)
      have lM := Lib.hid (amaxG_lt (atL zx) zx.length)
      have lD := Lib.hid (sumG_lt (atL zx) (atL zy) 0 zx.length)
      obtain ⟨m1, hm1⟩ : ∃ m : Int, m = ((amaxG (atL zx) zx.length).1 - 1 : Int) := ⟨_, rfl⟩
      rw [← hm1] at HRM
      simp only [← hm1] at HM
      clear hm1
      generalize asumG (atL zx) zx.length = VA at *
      generalize (amaxG (atL zx) zx.length).2 = VM at *
      generalize sumG (atL zx) (atL zy) 0 zx.length = VD at *
      obtain ⟨p1, p2, p3⟩ := HS0.out.x7.facts
      obtain ⟨q1', q2', q3'⟩ := HS0.out.x8.facts
      go_wp2_with fail
      refine (HD.out _ HS0.out).mono ?_
      rintro e y1 ⟨⟨s1, rfl⟩, hb⟩
      have K1 := Lib.hid (HS0.out.step hb)
      clear hb p1 p2 p3 q1' q2' q3'
      dsimp only
      obtain ⟨p1, p2, p3⟩ := K1.out.x7.facts
      go_wp2_with fail
      refine (HA.out _ K1.out).mono ?_
      rintro e y2 ⟨⟨s2, rfl⟩, hb⟩
      have K2 := Lib.hid (K1.out.step hb)
      clear hb p1 p2 p3
      dsimp only
      obtain ⟨p1, p2, p3⟩ := K2.out.x7.facts
      go_wp2_with fail
      refine (HM.out _ K2.out).mono ?_
      rintro e y3 ⟨⟨s3, rfl⟩, hb⟩
      have K3 := Lib.hid (K2.out.step hb)
      clear hb p1 p2 p3
      dsimp only
      obtain ⟨r1, r2, r3⟩ := K3.out.x0.facts
      go_wp2_with fail
      refine (HVx.out _).mono ?_
      rintro e y4 ⟨rfl, hb⟩
      have K4 := Lib.hid (K3.out.step hb)
      clear hb r1 r2 r3
      dsimp only
      obtain ⟨r1, r2, r3⟩ := K4.out.x0.facts
      go_wp2_with fail
      refine (HRM.out _ K4.out.below).mono ?_
      rintro e y5 ⟨⟨s4, rfl⟩, hb⟩
      have K5 := Lib.hid (K4.out.step hb)
      clear hb r1 r2 r3
      dsimp only
      obtain ⟨r1, r2, r3⟩ := K5.out.x0.facts
      go_wp2_with (go_at_call 22; refine (num8_any _ _).mono ?_; rintro e w' ⟨rfl, rfl⟩)
      refine (HRA.out _ K5.out.below).mono ?_
      rintro e y6 ⟨⟨s5, rfl⟩, hb⟩
      have K6 := Lib.hid (K5.out.step hb)
      clear hb r1 r2 r3
      dsimp only
      go_wp2_with fail
      refine (float8_raw _ _ _ lA.out _).mono ?_
      rintro e w' ⟨rfl, rfl⟩
      dsimp only
      go_wp2_with fail
      refine (float8_raw _ _ _ lM.out _).mono ?_
      rintro e w' ⟨rfl, rfl⟩
      dsimp only
      obtain ⟨s1', s2', s3'⟩ := K6.out.x1.facts
      go_wp2_with fail
      refine (HVy.out _).mono ?_
      rintro e y7 ⟨rfl, hb⟩
      have K7 := Lib.hid (K6.out.step hb)
      clear hb s1' s2' s3'
      dsimp only
      obtain ⟨r1, r2, r3⟩ := K7.out.x0.facts
      obtain ⟨s1', s2', s3'⟩ := K7.out.x1.facts
      have he : zy.length = zx.length := (of_decide_eq_true HQ3.out.symm).symm
      have HRD1 := Lib.hid (HRD.out he _ K7.out.below)
      clear he
      go_wp2_with (go_at_call 22; refine (num8_any _ _).mono ?_; rintro e w' ⟨rfl, rfl⟩)
      refine HRD1.out.mono ?_
      rintro e yd ⟨⟨s6, rfl⟩, hb⟩
      have KD := Lib.hid (K7.out.step hb)
      clear hb r1 r2 r3 s1' s2' s3' HRD1
      dsimp only
      go_wp2_with (go_at_call 23; refine (float8_raw _ _ _ lD.out _).mono ?_; rintro e w' ⟨rfl, rfl⟩)
      refine (known08_any _).mono ?_
      rintro e yk ⟨rfl, hb⟩
      have KK := Lib.hid (KD.out.step hb)
      clear hb
      dsimp only
      go_wp2_with fail
      go_ret
      exact ⟨rfl, KK.out.below⟩
end Go.Proofs.Ytbcdpibcieadlaa
