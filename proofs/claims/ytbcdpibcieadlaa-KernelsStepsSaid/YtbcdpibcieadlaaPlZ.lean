/- 'plumblinelaw08.KernelsSteps', both matrices small enough (printed by gen_pk.py). No condition but on lengths. -/
import Derived.Test.YtbcdpibcieadlaaZz24
import Derived.Test.YtbcdpibcieadlaaZz20
namespace Go.Proofs.Ytbcdpibcieadlaa
open Go Go.RowKit
set_option maxRecDepth 1000000

set_option maxHeartbeats 16000000 in
theorem steps8_small (w : World) (a : Nat) (rx cx ry cy : Nat) (ax ay : Option Addr) (zx zy : List Nat) (px py : Nat) (t : Bool) (hx : MatP w rx cx ax zx px) (hy : MatP w ry cy ay zy py)
    (Bx : ∀ W, Calls Try.prog 15 #[.agg #[.int .i64 rx, .int .i64 cx, .slice ax zx.length px]] W fun e w' => e = .returned (.bool false) ∧ Below W.heap.size W w') (By : ∀ W, Calls Try.prog 15 #[.agg #[.int .i64 ry, .int .i64 cy, .slice ay zy.length py]] W fun e w' => e = .returned (.bool false) ∧ Below W.heap.size W w') :
    Calls Try.prog 13 #[.float .f64 a, .agg #[.int .i64 rx, .int .i64 cx, .slice ax zx.length px], .agg #[.int .i64 ry, .int .i64 cy, .slice ay zy.length py], .bool t] w fun e w' => e = .returned (.bool true) ∧ Below w.heap.size w w' := by
  have Hx := Lib.hid hx
  have HBx := Lib.hid Bx
  have HVx := Lib.hid (fun W => vecM_nat rx cx ▸ RVector_any rx cx ax zx.length px W)
  have Hy := Lib.hid hy
  have HBy := Lib.hid By
  have HVy := Lib.hid (fun W => vecM_nat ry cy ▸ RVector_any ry cy ay zy.length py W)
  have HT3 := Lib.hid (show ((zx.length : Int) == (zy.length : Int)) = decide (zx.length = zy.length) from by rw [Bool.eq_iff_iff]; simp; omega)
  have HT1 := Lib.hid (show ((rx : Int) != (ry : Int)) = !decide (rx = ry) from by rw [Bool.eq_iff_iff]; simp; omega)
  have HT2 := Lib.hid (show ((cx : Int) != (cy : Int)) = !decide (cx = cy) from by rw [Bool.eq_iff_iff]; simp; omega)
  clear hx hy Bx By
  obtain ⟨W0, hW0⟩ : ∃ W0, W0 = ((w.alloc (.cells #[.int .i64 rx, .int .i64 cx, .slice ax zx.length px] 24)).alloc (.cells #[.int .i64 ry, .int .i64 cy, .slice ay zy.length py] 24)) := ⟨_, rfl⟩
  have hB0 : Below w.heap.size w W0 := hW0 ▸ ((Below.refl _ _).alloc (Nat.le_refl _) _).alloc (by simp) _
  have x0 : Box W0 w.heap.size [.int .i64 rx, .int .i64 cx, .slice ax zx.length px] := hW0 ▸ ((Box.newA w [.int .i64 rx, .int .i64 cx, .slice ax zx.length px] _ rfl).alloc _)
  have x1 : Box W0 (w.heap.size + 1) [.int .i64 ry, .int .i64 cy, .slice ay zy.length py] := hW0 ▸ (Box.newA _ [.int .i64 ry, .int .i64 cy, .slice ay zy.length py] _ (by simp))
  have S0 := Lib.hid (show BoxS w W0 [(w.heap.size, [.int .i64 rx, .int .i64 cx, .slice ax zx.length px]), (w.heap.size + 1, [.int .i64 ry, .int .i64 cy, .slice ay zy.length py])] from ⟨fun p hp => by
    simp only [List.mem_cons, List.not_mem_nil, or_false] at hp
    rcases hp with rfl | rfl
    · exact x0
    · exact x1
    , hB0⟩)
  clear hB0 x0 x1
  go_enter Try.func13, Try.ntmps13
  go_upto_region 1 with (fail)
  rw [← hW0]
  clear hW0
  obtain ⟨f01, f02, f03⟩ := (S0.out.get 0 rfl).facts
  obtain ⟨f11, f12, f13⟩ := (S0.out.get 1 rfl).facts
  go_wp2_with fail
  refine (HBx.out _).mono ?_
  rintro e w1 ⟨rfl, hb⟩
  have S1 := Lib.hid (S0.out.step hb)
  clear hb f01 f02 f03 f11 f12 f13
  dsimp only
  obtain ⟨f01, f02, f03⟩ := (S1.out.get 0 rfl).facts
  obtain ⟨f11, f12, f13⟩ := (S1.out.get 1 rfl).facts
  go_wp2_with fail
  refine (HBy.out _).mono ?_
  rintro e w2 ⟨rfl, hb⟩
  have S2 := Lib.hid (S1.out.step hb)
  clear hb f01 f02 f03 f11 f12 f13
  dsimp only
  obtain ⟨f01, f02, f03⟩ := (S2.out.get 0 rfl).facts
  obtain ⟨f11, f12, f13⟩ := (S2.out.get 1 rfl).facts
  go_upto_region 3 with (fail)
  clear f01 f02 f03 f11 f12 f13
  go_cut [9, 10] from 23 to 27 (fun s9 s10 wx => ∃ (b9 b10 : Nat) (u v : Vw) (su sv : Nat) (us vs : List Nat) (stu stv : Nat), s9 = .pointer (some ⟨b9, 0, none⟩) ∧ s10 = .pointer (some ⟨b10, 0, none⟩) ∧ StW w wx [(w.heap.size, [.int .i64 rx, .int .i64 cx, .slice ax zx.length px]), (w.heap.size + 1, [.int .i64 ry, .int .i64 cy, .slice ay zy.length py]), (b9, [.pointer u.p, .int .i64 u.r, .int .i64 u.c, .int .i64 u.o, .int .i64 u.d, .int .i64 u.u]), (b10, [.pointer v.p, .int .i64 v.r, .int .i64 v.c, .int .i64 v.o, .int .i64 v.d, .int .i64 v.u])] u v su sv us vs ∧ OfP u stu rx cx zx us ∧ OfP v stv ry cy zy vs ∧ OfI u rx cx ∧ OfI v ry cy ∧ us.length = rx * cx ∧ vs.length = ry * cy ∧ stu ≠ stv)
  case first =>
    have hdr : Below w2.heap.size w2 w2.drew := below_drewN 1 (Below.refl _ w2)
    have S3 := Lib.hid (S2.out.step hdr)
    have HB1 := Lib.hid S3.out.below
    have X0 := Lib.hid (S3.out.get 0 rfl)
    have X1 := Lib.hid (S3.out.get 1 rfl)
    have HS := Lib.hid (show ∀ W, Below w2.drew.heap.size w2.drew W → (fun W => (∀ i, W.cell? ⟨w.heap.size, i, none⟩ = ([.int .i64 rx, .int .i64 cx, .slice ax zx.length px] : List Value)[i]?) ∧ (∀ i, W.cell? ⟨w.heap.size + 1, i, none⟩ = ([.int .i64 ry, .int .i64 cy, .slice ay zy.length py] : List Value)[i]?)) W from fun W h => ⟨(X0.out.below h).cell, (X1.out.below h).cell⟩)
    refine wp_region_many 7 60 [(0, 0), (0, 2), (0, 3), (3, 5), (3, 6), (1, 1), (1, 4), (2, 5), (2, 6)] (fun W => (∀ i, W.cell? ⟨w.heap.size, i, none⟩ = ([.int .i64 rx, .int .i64 cx, .slice ax zx.length px] : List Value)[i]?) ∧ (∀ i, W.cell? ⟨w.heap.size + 1, i, none⟩ = ([.int .i64 ry, .int .i64 cy, .slice ay zy.length py] : List Value)[i]?)) (by kernel_rfl) (by kernel_rfl) (HS.out _ (Below.refl _ _)) ?_
    clear hdr HBx HBy
    generalize w2.drew = v0 at *
    have HR := Lib.hid (Below.refl v0.heap.size v0)
    have hlx0 := Lib.hid X1.out.lt
    iterate 1 (refine fm_take (v := ?_) rfl rfl ?_ ?_; rotate_left; (next => (intro w' hSw; (try dsimp only at hSw); go_simp; (try (rw [if_pos (by omega)]; go_simp)); (try with_reducible rfl))); (simp only [Act.put, List.setIfInBounds_toArray, List.set_cons_zero, List.set_cons_succ]))
    iterate 1 (refine fm_take (v := ?_) rfl rfl ?_ ?_; rotate_left; (next => (intro w' hSw; (try dsimp only at hSw); go_simp; (try (rw [if_pos (by omega)]; go_simp)); (try with_reducible rfl))); (simp only [Act.put, List.setIfInBounds_toArray, List.set_cons_zero, List.set_cons_succ]))
    iterate 1 (refine fm_take (v := ?_) rfl rfl ?_ ?_; rotate_left; (next => (intro w' hSw; (try dsimp only at hSw); go_simp; (try (rw [if_pos (by omega)]; go_simp)); (try with_reducible rfl))); (simp only [Act.put, List.setIfInBounds_toArray, List.set_cons_zero, List.set_cons_succ]))
    refine fm_from ?_
    refine fm_from ?_
    refine fm_one2 rfl ?_ ?_ ?_
    · skip
      refine opW_take rfl rfl ?_
      go_simp
      refine (Hx.out.of false _ HB1.out).mono ?_
      rintro e v1 ⟨⟨u, stu, su, us, rfl, kxa, kxb, hz, hp, hi, hll⟩, hb⟩
      have HR1 := Lib.hid (below_step HR.out HR.out.size hb)
      have hsz1 := (hb).size
      have HBw1 := Lib.hid (below_step HB1.out HB1.out.size hb)
      have Z1_X0 := Lib.hid (X0.out.below hb)
      have Z1_X1 := Lib.hid (X1.out.below hb)
      have hl1 := sto_lts hz
      have Z1_sx := Lib.hid hz
      have Px := Lib.hid (And.intro hp (And.intro hi hll))
      clear hz hp hi hll hb
      refine ⟨HS.out _ HR1.out, ?_⟩
      refine fm_one2 rfl ?_ ?_ ?_
      · skip
        refine opW_take rfl rfl ?_
        go_simp
        refine (Hy.out.of t _ HBw1.out).mono ?_
        rintro e v2 ⟨⟨v, stv, sv, vs, rfl, kya, kyb, hz, hp, hi, hll⟩, hb⟩
        have HR2 := Lib.hid (below_step HR1.out HR1.out.size hb)
        have hsz2 := (hb).size
        have HBw2 := Lib.hid (below_step HBw1.out HBw1.out.size hb)
        have Z2_X0 := Lib.hid (Z1_X0.out.below hb)
        have Z2_X1 := Lib.hid (Z1_X1.out.below hb)
        have Z2_sx := Lib.hid (Z1_sx.out.below hb)
        have hl2 := sto_lts hz
        have Z2_sy := Lib.hid hz
        have Py := Lib.hid (And.intro hp (And.intro hi hll))
        clear hz hp hi hll hb
        refine ⟨HS.out _ HR2.out, ?_⟩
        refine fm_now2 rfl rfl ?_ ?_
        · skip
          refine opW_take rfl rfl ?_
          go_simp
          have hbA : Below v2.heap.size v2 (v2.alloc (.cells #[.pointer none, .int .i64 0, .int .i64 0, .int .i64 0, .int .i64 0, .int .i64 0] 29)) := (Below.refl _ _).alloc (Nat.le_refl _) _
          have hz : Box (v2.alloc (.cells #[.pointer none, .int .i64 0, .int .i64 0, .int .i64 0, .int .i64 0, .int .i64 0] 29)) v2.heap.size [.pointer none, .int .i64 0, .int .i64 0, .int .i64 0, .int .i64 0, .int .i64 0] := Box.newA v2 _ _ rfl
          have HR3 := Lib.hid (below_step HR2.out HR2.out.size hbA)
          have hsz3 := (hbA).size
          have HBw3 := Lib.hid (below_step HBw2.out HBw2.out.size hbA)
          have Z3_X0 := Lib.hid (Z2_X0.out.below hbA)
          have Z3_X1 := Lib.hid (Z2_X1.out.below hbA)
          have Z3_sx := Lib.hid (Z2_sx.out.below hbA)
          have Z3_sy := Lib.hid (Z2_sy.out.below hbA)
          have Z3_b10 := Lib.hid hz
          clear hbA hz
          generalize hN : v2.alloc (.cells #[.pointer none, .int .i64 0, .int .i64 0, .int .i64 0, .int .i64 0, .int .i64 0] 29) = v3 at *
          have hs3 := Lib.hid (show v3.heap.size = v2.heap.size + 1 from by rw [← hN]; simp)
          clear hN
          refine ⟨HS.out _ HR3.out, ?_⟩
          refine fm_now ?_
          refine opW_take rfl rfl ?_
          go_simp
          have hbA : Below v3.heap.size v3 (v3.alloc (.cells #[.pointer none, .int .i64 0, .int .i64 0, .int .i64 0, .int .i64 0, .int .i64 0] 29)) := (Below.refl _ _).alloc (Nat.le_refl _) _
          have hz : Box (v3.alloc (.cells #[.pointer none, .int .i64 0, .int .i64 0, .int .i64 0, .int .i64 0, .int .i64 0] 29)) v3.heap.size [.pointer none, .int .i64 0, .int .i64 0, .int .i64 0, .int .i64 0, .int .i64 0] := Box.newA v3 _ _ rfl
          have HR4 := Lib.hid (below_step HR3.out HR3.out.size hbA)
          have hsz4 := (hbA).size
          have HBw4 := Lib.hid (below_step HBw3.out HBw3.out.size hbA)
          have Z4_X0 := Lib.hid (Z3_X0.out.below hbA)
          have Z4_X1 := Lib.hid (Z3_X1.out.below hbA)
          have Z4_sx := Lib.hid (Z3_sx.out.below hbA)
          have Z4_sy := Lib.hid (Z3_sy.out.below hbA)
          have Z4_b10 := Lib.hid (Z3_b10.out.below hbA)
          have Z4_b9 := Lib.hid hz
          clear hbA hz
          generalize hN : v3.alloc (.cells #[.pointer none, .int .i64 0, .int .i64 0, .int .i64 0, .int .i64 0, .int .i64 0] 29) = v4 at *
          have hs4 := Lib.hid (show v4.heap.size = v3.heap.size + 1 from by rw [← hN]; simp)
          clear hN
          refine ⟨HS.out _ HR4.out, ?_⟩
          refine fm_skip rfl ?_
          refine fm_skip rfl ?_
          refine fm_nil ?_
          unfold Vw.val
          have hgw := HBw4.out.size
          have hlx1 := hlx0.out
          have ehs3 := hs3.out
          have ehs4 := hs4.out
          have hf := stw_make Z4_X0.out Z4_X1.out Z4_b9.out Z4_b10.out Z4_sx.out Z4_sy.out Px.out.1 Py.out.1 HBw4.out (by omega) (by omega) (by omega) (by omega) (by omega) (by omega) (by omega) (by omega) (by omega) (by omega) (by omega) (by omega) (by omega) (by omega) (by omega) (by omega) (by omega) (by omega)
          have n1 : v3.heap.size ≠ v2.heap.size := by omega
          have n2 : v2.heap.size ≠ v3.heap.size := fun h => n1 h.symm
          have hne : stu ≠ stv := by omega
          have HFin := Lib.hid hf
          have HNe := Lib.hid hne
          obtain ⟨c1, c2, c3⟩ := Z4_b9.out.facts
          obtain ⟨d1, d2, d3⟩ := Z4_b10.out.facts
          clear hf hne hgw hlx1 ehs3 ehs4
          go_simp
          go_wp2
          refine NoPanic.normal ?_
          go_wp2_with fail
          go_meet
          case rel => exact ⟨_, _, u, v, su, sv, us, vs, stu, stv, rfl, rfl, HFin.out, Px.out.1, Py.out.1, Px.out.2.1, Py.out.2.1, Px.out.2.2, Py.out.2.2, HNe.out⟩
        · skip
          refine opW_take rfl rfl ?_
          go_simp
          have hbA : Below v2.heap.size v2 (v2.alloc (.cells #[.pointer none, .int .i64 0, .int .i64 0, .int .i64 0, .int .i64 0, .int .i64 0] 29)) := (Below.refl _ _).alloc (Nat.le_refl _) _
          have hz : Box (v2.alloc (.cells #[.pointer none, .int .i64 0, .int .i64 0, .int .i64 0, .int .i64 0, .int .i64 0] 29)) v2.heap.size [.pointer none, .int .i64 0, .int .i64 0, .int .i64 0, .int .i64 0, .int .i64 0] := Box.newA v2 _ _ rfl
          have HR5 := Lib.hid (below_step HR2.out HR2.out.size hbA)
          have hsz5 := (hbA).size
          have HBw5 := Lib.hid (below_step HBw2.out HBw2.out.size hbA)
          have Z5_X0 := Lib.hid (Z2_X0.out.below hbA)
          have Z5_X1 := Lib.hid (Z2_X1.out.below hbA)
          have Z5_sx := Lib.hid (Z2_sx.out.below hbA)
          have Z5_sy := Lib.hid (Z2_sy.out.below hbA)
          have Z5_b9 := Lib.hid hz
          clear hbA hz
          generalize hN : v2.alloc (.cells #[.pointer none, .int .i64 0, .int .i64 0, .int .i64 0, .int .i64 0, .int .i64 0] 29) = v5 at *
          have hs5 := Lib.hid (show v5.heap.size = v2.heap.size + 1 from by rw [← hN]; simp)
          clear hN
          refine ⟨HS.out _ HR5.out, ?_⟩
          refine fm_skip rfl ?_
          refine fm_now ?_
          refine opW_take rfl rfl ?_
          go_simp
          have hbA : Below v5.heap.size v5 (v5.alloc (.cells #[.pointer none, .int .i64 0, .int .i64 0, .int .i64 0, .int .i64 0, .int .i64 0] 29)) := (Below.refl _ _).alloc (Nat.le_refl _) _
          have hz : Box (v5.alloc (.cells #[.pointer none, .int .i64 0, .int .i64 0, .int .i64 0, .int .i64 0, .int .i64 0] 29)) v5.heap.size [.pointer none, .int .i64 0, .int .i64 0, .int .i64 0, .int .i64 0, .int .i64 0] := Box.newA v5 _ _ rfl
          have HR6 := Lib.hid (below_step HR5.out HR5.out.size hbA)
          have hsz6 := (hbA).size
          have HBw6 := Lib.hid (below_step HBw5.out HBw5.out.size hbA)
          have Z6_X0 := Lib.hid (Z5_X0.out.below hbA)
          have Z6_X1 := Lib.hid (Z5_X1.out.below hbA)
          have Z6_sx := Lib.hid (Z5_sx.out.below hbA)
          have Z6_sy := Lib.hid (Z5_sy.out.below hbA)
          have Z6_b9 := Lib.hid (Z5_b9.out.below hbA)
          have Z6_b10 := Lib.hid hz
          clear hbA hz
          generalize hN : v5.alloc (.cells #[.pointer none, .int .i64 0, .int .i64 0, .int .i64 0, .int .i64 0, .int .i64 0] 29) = v6 at *
          have hs6 := Lib.hid (show v6.heap.size = v5.heap.size + 1 from by rw [← hN]; simp)
          clear hN
          refine ⟨HS.out _ HR6.out, ?_⟩
          refine fm_skip rfl ?_
          refine fm_nil ?_
          unfold Vw.val
          have hgw := HBw6.out.size
          have hlx1 := hlx0.out
          have ehs5 := hs5.out
          have ehs6 := hs6.out
          have hf := stw_make Z6_X0.out Z6_X1.out Z6_b9.out Z6_b10.out Z6_sx.out Z6_sy.out Px.out.1 Py.out.1 HBw6.out (by omega) (by omega) (by omega) (by omega) (by omega) (by omega) (by omega) (by omega) (by omega) (by omega) (by omega) (by omega) (by omega) (by omega) (by omega) (by omega) (by omega) (by omega)
          have n1 : v2.heap.size ≠ v5.heap.size := by omega
          have n2 : v5.heap.size ≠ v2.heap.size := fun h => n1 h.symm
          have hne : stu ≠ stv := by omega
          have HFin := Lib.hid hf
          have HNe := Lib.hid hne
          obtain ⟨c1, c2, c3⟩ := Z6_b9.out.facts
          obtain ⟨d1, d2, d3⟩ := Z6_b10.out.facts
          clear hf hne hgw hlx1 ehs5 ehs6
          go_simp
          go_wp2
          refine NoPanic.normal ?_
          go_wp2_with fail
          go_meet
          case rel => exact ⟨_, _, u, v, su, sv, us, vs, stu, stv, rfl, rfl, HFin.out, Px.out.1, Py.out.1, Px.out.2.1, Py.out.2.1, Px.out.2.2, Py.out.2.2, HNe.out⟩
      · skip
        refine opW_take rfl rfl ?_
        go_simp
        have hbA : Below v1.heap.size v1 (v1.alloc (.cells #[.pointer none, .int .i64 0, .int .i64 0, .int .i64 0, .int .i64 0, .int .i64 0] 29)) := (Below.refl _ _).alloc (Nat.le_refl _) _
        have hz : Box (v1.alloc (.cells #[.pointer none, .int .i64 0, .int .i64 0, .int .i64 0, .int .i64 0, .int .i64 0] 29)) v1.heap.size [.pointer none, .int .i64 0, .int .i64 0, .int .i64 0, .int .i64 0, .int .i64 0] := Box.newA v1 _ _ rfl
        have HR7 := Lib.hid (below_step HR1.out HR1.out.size hbA)
        have hsz7 := (hbA).size
        have HBw7 := Lib.hid (below_step HBw1.out HBw1.out.size hbA)
        have Z7_X0 := Lib.hid (Z1_X0.out.below hbA)
        have Z7_X1 := Lib.hid (Z1_X1.out.below hbA)
        have Z7_sx := Lib.hid (Z1_sx.out.below hbA)
        have Z7_b10 := Lib.hid hz
        clear hbA hz
        generalize hN : v1.alloc (.cells #[.pointer none, .int .i64 0, .int .i64 0, .int .i64 0, .int .i64 0, .int .i64 0] 29) = v7 at *
        have hs7 := Lib.hid (show v7.heap.size = v1.heap.size + 1 from by rw [← hN]; simp)
        clear hN
        refine ⟨HS.out _ HR7.out, ?_⟩
        refine fm_one1 ?_ ?_
        · skip
          refine opW_take rfl rfl ?_
          go_simp
          refine (Hy.out.of t _ HBw7.out).mono ?_
          rintro e v8 ⟨⟨v, stv, sv, vs, rfl, kya, kyb, hz, hp, hi, hll⟩, hb⟩
          have HR8 := Lib.hid (below_step HR7.out HR7.out.size hb)
          have hsz8 := (hb).size
          have HBw8 := Lib.hid (below_step HBw7.out HBw7.out.size hb)
          have Z8_X0 := Lib.hid (Z7_X0.out.below hb)
          have Z8_X1 := Lib.hid (Z7_X1.out.below hb)
          have Z8_sx := Lib.hid (Z7_sx.out.below hb)
          have Z8_b10 := Lib.hid (Z7_b10.out.below hb)
          have hl8 := sto_lts hz
          have Z8_sy := Lib.hid hz
          have Py := Lib.hid (And.intro hp (And.intro hi hll))
          clear hz hp hi hll hb
          refine ⟨HS.out _ HR8.out, ?_⟩
          refine fm_now ?_
          refine opW_take rfl rfl ?_
          go_simp
          have hbA : Below v8.heap.size v8 (v8.alloc (.cells #[.pointer none, .int .i64 0, .int .i64 0, .int .i64 0, .int .i64 0, .int .i64 0] 29)) := (Below.refl _ _).alloc (Nat.le_refl _) _
          have hz : Box (v8.alloc (.cells #[.pointer none, .int .i64 0, .int .i64 0, .int .i64 0, .int .i64 0, .int .i64 0] 29)) v8.heap.size [.pointer none, .int .i64 0, .int .i64 0, .int .i64 0, .int .i64 0, .int .i64 0] := Box.newA v8 _ _ rfl
          have HR9 := Lib.hid (below_step HR8.out HR8.out.size hbA)
          have hsz9 := (hbA).size
          have HBw9 := Lib.hid (below_step HBw8.out HBw8.out.size hbA)
          have Z9_X0 := Lib.hid (Z8_X0.out.below hbA)
          have Z9_X1 := Lib.hid (Z8_X1.out.below hbA)
          have Z9_sx := Lib.hid (Z8_sx.out.below hbA)
          have Z9_b10 := Lib.hid (Z8_b10.out.below hbA)
          have Z9_sy := Lib.hid (Z8_sy.out.below hbA)
          have Z9_b9 := Lib.hid hz
          clear hbA hz
          generalize hN : v8.alloc (.cells #[.pointer none, .int .i64 0, .int .i64 0, .int .i64 0, .int .i64 0, .int .i64 0] 29) = v9 at *
          have hs9 := Lib.hid (show v9.heap.size = v8.heap.size + 1 from by rw [← hN]; simp)
          clear hN
          refine ⟨HS.out _ HR9.out, ?_⟩
          refine fm_skip rfl ?_
          refine fm_skip rfl ?_
          refine fm_nil ?_
          unfold Vw.val
          have hgw := HBw9.out.size
          have hlx1 := hlx0.out
          have ehs7 := hs7.out
          have ehs9 := hs9.out
          have hf := stw_make Z9_X0.out Z9_X1.out Z9_b9.out Z9_b10.out Z9_sx.out Z9_sy.out Px.out.1 Py.out.1 HBw9.out (by omega) (by omega) (by omega) (by omega) (by omega) (by omega) (by omega) (by omega) (by omega) (by omega) (by omega) (by omega) (by omega) (by omega) (by omega) (by omega) (by omega) (by omega)
          have n1 : v8.heap.size ≠ v1.heap.size := by omega
          have n2 : v1.heap.size ≠ v8.heap.size := fun h => n1 h.symm
          have hne : stu ≠ stv := by omega
          have HFin := Lib.hid hf
          have HNe := Lib.hid hne
          obtain ⟨c1, c2, c3⟩ := Z9_b9.out.facts
          obtain ⟨d1, d2, d3⟩ := Z9_b10.out.facts
          clear hf hne hgw hlx1 ehs7 ehs9
          go_simp
          go_wp2
          refine NoPanic.normal ?_
          go_wp2_with fail
          go_meet
          case rel => exact ⟨_, _, u, v, su, sv, us, vs, stu, stv, rfl, rfl, HFin.out, Px.out.1, Py.out.1, Px.out.2.1, Py.out.2.1, Px.out.2.2, Py.out.2.2, HNe.out⟩
        · skip
          refine opW_take rfl rfl ?_
          go_simp
          have hbA : Below v7.heap.size v7 (v7.alloc (.cells #[.pointer none, .int .i64 0, .int .i64 0, .int .i64 0, .int .i64 0, .int .i64 0] 29)) := (Below.refl _ _).alloc (Nat.le_refl _) _
          have hz : Box (v7.alloc (.cells #[.pointer none, .int .i64 0, .int .i64 0, .int .i64 0, .int .i64 0, .int .i64 0] 29)) v7.heap.size [.pointer none, .int .i64 0, .int .i64 0, .int .i64 0, .int .i64 0, .int .i64 0] := Box.newA v7 _ _ rfl
          have HR10 := Lib.hid (below_step HR7.out HR7.out.size hbA)
          have hsz10 := (hbA).size
          have HBw10 := Lib.hid (below_step HBw7.out HBw7.out.size hbA)
          have Z10_X0 := Lib.hid (Z7_X0.out.below hbA)
          have Z10_X1 := Lib.hid (Z7_X1.out.below hbA)
          have Z10_sx := Lib.hid (Z7_sx.out.below hbA)
          have Z10_b10 := Lib.hid (Z7_b10.out.below hbA)
          have Z10_b9 := Lib.hid hz
          clear hbA hz
          generalize hN : v7.alloc (.cells #[.pointer none, .int .i64 0, .int .i64 0, .int .i64 0, .int .i64 0, .int .i64 0] 29) = v10 at *
          have hs10 := Lib.hid (show v10.heap.size = v7.heap.size + 1 from by rw [← hN]; simp)
          clear hN
          refine ⟨HS.out _ HR10.out, ?_⟩
          refine fm_one ?_
          refine opW_take rfl rfl ?_
          go_simp
          refine (Hy.out.of t _ HBw10.out).mono ?_
          rintro e v11 ⟨⟨v, stv, sv, vs, rfl, kya, kyb, hz, hp, hi, hll⟩, hb⟩
          have HR11 := Lib.hid (below_step HR10.out HR10.out.size hb)
          have hsz11 := (hb).size
          have HBw11 := Lib.hid (below_step HBw10.out HBw10.out.size hb)
          have Z11_X0 := Lib.hid (Z10_X0.out.below hb)
          have Z11_X1 := Lib.hid (Z10_X1.out.below hb)
          have Z11_sx := Lib.hid (Z10_sx.out.below hb)
          have Z11_b10 := Lib.hid (Z10_b10.out.below hb)
          have Z11_b9 := Lib.hid (Z10_b9.out.below hb)
          have hl11 := sto_lts hz
          have Z11_sy := Lib.hid hz
          have Py := Lib.hid (And.intro hp (And.intro hi hll))
          clear hz hp hi hll hb
          refine ⟨HS.out _ HR11.out, ?_⟩
          refine fm_skip rfl ?_
          refine fm_skip rfl ?_
          refine fm_nil ?_
          unfold Vw.val
          have hgw := HBw11.out.size
          have hlx1 := hlx0.out
          have ehs7 := hs7.out
          have ehs10 := hs10.out
          have hf := stw_make Z11_X0.out Z11_X1.out Z11_b9.out Z11_b10.out Z11_sx.out Z11_sy.out Px.out.1 Py.out.1 HBw11.out (by omega) (by omega) (by omega) (by omega) (by omega) (by omega) (by omega) (by omega) (by omega) (by omega) (by omega) (by omega) (by omega) (by omega) (by omega) (by omega) (by omega) (by omega)
          have n1 : v7.heap.size ≠ v1.heap.size := by omega
          have n2 : v1.heap.size ≠ v7.heap.size := fun h => n1 h.symm
          have hne : stu ≠ stv := by omega
          have HFin := Lib.hid hf
          have HNe := Lib.hid hne
          obtain ⟨c1, c2, c3⟩ := Z11_b9.out.facts
          obtain ⟨d1, d2, d3⟩ := Z11_b10.out.facts
          clear hf hne hgw hlx1 ehs7 ehs10
          go_simp
          go_wp2
          refine NoPanic.normal ?_
          go_wp2_with fail
          go_meet
          case rel => exact ⟨_, _, u, v, su, sv, us, vs, stu, stv, rfl, rfl, HFin.out, Px.out.1, Py.out.1, Px.out.2.1, Py.out.2.1, Px.out.2.2, Py.out.2.2, HNe.out⟩
      · skip
        refine opW_take rfl rfl ?_
        go_simp
        have hbA : Below v1.heap.size v1 (v1.alloc (.cells #[.pointer none, .int .i64 0, .int .i64 0, .int .i64 0, .int .i64 0, .int .i64 0] 29)) := (Below.refl _ _).alloc (Nat.le_refl _) _
        have hz : Box (v1.alloc (.cells #[.pointer none, .int .i64 0, .int .i64 0, .int .i64 0, .int .i64 0, .int .i64 0] 29)) v1.heap.size [.pointer none, .int .i64 0, .int .i64 0, .int .i64 0, .int .i64 0, .int .i64 0] := Box.newA v1 _ _ rfl
        have HR12 := Lib.hid (below_step HR1.out HR1.out.size hbA)
        have hsz12 := (hbA).size
        have HBw12 := Lib.hid (below_step HBw1.out HBw1.out.size hbA)
        have Z12_X0 := Lib.hid (Z1_X0.out.below hbA)
        have Z12_X1 := Lib.hid (Z1_X1.out.below hbA)
        have Z12_sx := Lib.hid (Z1_sx.out.below hbA)
        have Z12_b9 := Lib.hid hz
        clear hbA hz
        generalize hN : v1.alloc (.cells #[.pointer none, .int .i64 0, .int .i64 0, .int .i64 0, .int .i64 0, .int .i64 0] 29) = v12 at *
        have hs12 := Lib.hid (show v12.heap.size = v1.heap.size + 1 from by rw [← hN]; simp)
        clear hN
        refine ⟨HS.out _ HR12.out, ?_⟩
        refine fm_one1 ?_ ?_
        · skip
          refine opW_take rfl rfl ?_
          go_simp
          refine (Hy.out.of t _ HBw12.out).mono ?_
          rintro e v13 ⟨⟨v, stv, sv, vs, rfl, kya, kyb, hz, hp, hi, hll⟩, hb⟩
          have HR13 := Lib.hid (below_step HR12.out HR12.out.size hb)
          have hsz13 := (hb).size
          have HBw13 := Lib.hid (below_step HBw12.out HBw12.out.size hb)
          have Z13_X0 := Lib.hid (Z12_X0.out.below hb)
          have Z13_X1 := Lib.hid (Z12_X1.out.below hb)
          have Z13_sx := Lib.hid (Z12_sx.out.below hb)
          have Z13_b9 := Lib.hid (Z12_b9.out.below hb)
          have hl13 := sto_lts hz
          have Z13_sy := Lib.hid hz
          have Py := Lib.hid (And.intro hp (And.intro hi hll))
          clear hz hp hi hll hb
          refine ⟨HS.out _ HR13.out, ?_⟩
          refine fm_skip rfl ?_
          refine fm_now ?_
          refine opW_take rfl rfl ?_
          go_simp
          have hbA : Below v13.heap.size v13 (v13.alloc (.cells #[.pointer none, .int .i64 0, .int .i64 0, .int .i64 0, .int .i64 0, .int .i64 0] 29)) := (Below.refl _ _).alloc (Nat.le_refl _) _
          have hz : Box (v13.alloc (.cells #[.pointer none, .int .i64 0, .int .i64 0, .int .i64 0, .int .i64 0, .int .i64 0] 29)) v13.heap.size [.pointer none, .int .i64 0, .int .i64 0, .int .i64 0, .int .i64 0, .int .i64 0] := Box.newA v13 _ _ rfl
          have HR14 := Lib.hid (below_step HR13.out HR13.out.size hbA)
          have hsz14 := (hbA).size
          have HBw14 := Lib.hid (below_step HBw13.out HBw13.out.size hbA)
          have Z14_X0 := Lib.hid (Z13_X0.out.below hbA)
          have Z14_X1 := Lib.hid (Z13_X1.out.below hbA)
          have Z14_sx := Lib.hid (Z13_sx.out.below hbA)
          have Z14_b9 := Lib.hid (Z13_b9.out.below hbA)
          have Z14_sy := Lib.hid (Z13_sy.out.below hbA)
          have Z14_b10 := Lib.hid hz
          clear hbA hz
          generalize hN : v13.alloc (.cells #[.pointer none, .int .i64 0, .int .i64 0, .int .i64 0, .int .i64 0, .int .i64 0] 29) = v14 at *
          have hs14 := Lib.hid (show v14.heap.size = v13.heap.size + 1 from by rw [← hN]; simp)
          clear hN
          refine ⟨HS.out _ HR14.out, ?_⟩
          refine fm_skip rfl ?_
          refine fm_nil ?_
          unfold Vw.val
          have hgw := HBw14.out.size
          have hlx1 := hlx0.out
          have ehs12 := hs12.out
          have ehs14 := hs14.out
          have hf := stw_make Z14_X0.out Z14_X1.out Z14_b9.out Z14_b10.out Z14_sx.out Z14_sy.out Px.out.1 Py.out.1 HBw14.out (by omega) (by omega) (by omega) (by omega) (by omega) (by omega) (by omega) (by omega) (by omega) (by omega) (by omega) (by omega) (by omega) (by omega) (by omega) (by omega) (by omega) (by omega)
          have n1 : v1.heap.size ≠ v13.heap.size := by omega
          have n2 : v13.heap.size ≠ v1.heap.size := fun h => n1 h.symm
          have hne : stu ≠ stv := by omega
          have HFin := Lib.hid hf
          have HNe := Lib.hid hne
          obtain ⟨c1, c2, c3⟩ := Z14_b9.out.facts
          obtain ⟨d1, d2, d3⟩ := Z14_b10.out.facts
          clear hf hne hgw hlx1 ehs12 ehs14
          go_simp
          go_wp2
          refine NoPanic.normal ?_
          go_wp2_with fail
          go_meet
          case rel => exact ⟨_, _, u, v, su, sv, us, vs, stu, stv, rfl, rfl, HFin.out, Px.out.1, Py.out.1, Px.out.2.1, Py.out.2.1, Px.out.2.2, Py.out.2.2, HNe.out⟩
        · skip
          refine opW_take rfl rfl ?_
          go_simp
          have hbA : Below v12.heap.size v12 (v12.alloc (.cells #[.pointer none, .int .i64 0, .int .i64 0, .int .i64 0, .int .i64 0, .int .i64 0] 29)) := (Below.refl _ _).alloc (Nat.le_refl _) _
          have hz : Box (v12.alloc (.cells #[.pointer none, .int .i64 0, .int .i64 0, .int .i64 0, .int .i64 0, .int .i64 0] 29)) v12.heap.size [.pointer none, .int .i64 0, .int .i64 0, .int .i64 0, .int .i64 0, .int .i64 0] := Box.newA v12 _ _ rfl
          have HR15 := Lib.hid (below_step HR12.out HR12.out.size hbA)
          have hsz15 := (hbA).size
          have HBw15 := Lib.hid (below_step HBw12.out HBw12.out.size hbA)
          have Z15_X0 := Lib.hid (Z12_X0.out.below hbA)
          have Z15_X1 := Lib.hid (Z12_X1.out.below hbA)
          have Z15_sx := Lib.hid (Z12_sx.out.below hbA)
          have Z15_b9 := Lib.hid (Z12_b9.out.below hbA)
          have Z15_b10 := Lib.hid hz
          clear hbA hz
          generalize hN : v12.alloc (.cells #[.pointer none, .int .i64 0, .int .i64 0, .int .i64 0, .int .i64 0, .int .i64 0] 29) = v15 at *
          have hs15 := Lib.hid (show v15.heap.size = v12.heap.size + 1 from by rw [← hN]; simp)
          clear hN
          refine ⟨HS.out _ HR15.out, ?_⟩
          refine fm_one ?_
          refine opW_take rfl rfl ?_
          go_simp
          refine (Hy.out.of t _ HBw15.out).mono ?_
          rintro e v16 ⟨⟨v, stv, sv, vs, rfl, kya, kyb, hz, hp, hi, hll⟩, hb⟩
          have HR16 := Lib.hid (below_step HR15.out HR15.out.size hb)
          have hsz16 := (hb).size
          have HBw16 := Lib.hid (below_step HBw15.out HBw15.out.size hb)
          have Z16_X0 := Lib.hid (Z15_X0.out.below hb)
          have Z16_X1 := Lib.hid (Z15_X1.out.below hb)
          have Z16_sx := Lib.hid (Z15_sx.out.below hb)
          have Z16_b9 := Lib.hid (Z15_b9.out.below hb)
          have Z16_b10 := Lib.hid (Z15_b10.out.below hb)
          have hl16 := sto_lts hz
          have Z16_sy := Lib.hid hz
          have Py := Lib.hid (And.intro hp (And.intro hi hll))
          clear hz hp hi hll hb
          refine ⟨HS.out _ HR16.out, ?_⟩
          refine fm_skip rfl ?_
          refine fm_skip rfl ?_
          refine fm_nil ?_
          unfold Vw.val
          have hgw := HBw16.out.size
          have hlx1 := hlx0.out
          have ehs12 := hs12.out
          have ehs15 := hs15.out
          have hf := stw_make Z16_X0.out Z16_X1.out Z16_b9.out Z16_b10.out Z16_sx.out Z16_sy.out Px.out.1 Py.out.1 HBw16.out (by omega) (by omega) (by omega) (by omega) (by omega) (by omega) (by omega) (by omega) (by omega) (by omega) (by omega) (by omega) (by omega) (by omega) (by omega) (by omega) (by omega) (by omega)
          have n1 : v1.heap.size ≠ v12.heap.size := by omega
          have n2 : v12.heap.size ≠ v1.heap.size := fun h => n1 h.symm
          have hne : stu ≠ stv := by omega
          have HFin := Lib.hid hf
          have HNe := Lib.hid hne
          obtain ⟨c1, c2, c3⟩ := Z16_b9.out.facts
          obtain ⟨d1, d2, d3⟩ := Z16_b10.out.facts
          clear hf hne hgw hlx1 ehs12 ehs15
          go_simp
          go_wp2
          refine NoPanic.normal ?_
          go_wp2_with fail
          go_meet
          case rel => exact ⟨_, _, u, v, su, sv, us, vs, stu, stv, rfl, rfl, HFin.out, Px.out.1, Py.out.1, Px.out.2.1, Py.out.2.1, Px.out.2.2, Py.out.2.2, HNe.out⟩
    · skip
      refine opW_take rfl rfl ?_
      go_simp
      have hbA : Below v0.heap.size v0 (v0.alloc (.cells #[.pointer none, .int .i64 0, .int .i64 0, .int .i64 0, .int .i64 0, .int .i64 0] 29)) := (Below.refl _ _).alloc (Nat.le_refl _) _
      have hz : Box (v0.alloc (.cells #[.pointer none, .int .i64 0, .int .i64 0, .int .i64 0, .int .i64 0, .int .i64 0] 29)) v0.heap.size [.pointer none, .int .i64 0, .int .i64 0, .int .i64 0, .int .i64 0, .int .i64 0] := Box.newA v0 _ _ rfl
      have HR17 := Lib.hid (below_step HR.out HR.out.size hbA)
      have hsz17 := (hbA).size
      have HBw17 := Lib.hid (below_step HB1.out HB1.out.size hbA)
      have Z17_X0 := Lib.hid (X0.out.below hbA)
      have Z17_X1 := Lib.hid (X1.out.below hbA)
      have Z17_b10 := Lib.hid hz
      clear hbA hz
      generalize hN : v0.alloc (.cells #[.pointer none, .int .i64 0, .int .i64 0, .int .i64 0, .int .i64 0, .int .i64 0] 29) = v17 at *
      have hs17 := Lib.hid (show v17.heap.size = v0.heap.size + 1 from by rw [← hN]; simp)
      clear hN
      refine ⟨HS.out _ HR17.out, ?_⟩
      refine fm_one1 ?_ ?_
      · skip
        refine opW_take rfl rfl ?_
        go_simp
        refine (Hx.out.of false _ HBw17.out).mono ?_
        rintro e v18 ⟨⟨u, stu, su, us, rfl, kxa, kxb, hz, hp, hi, hll⟩, hb⟩
        have HR18 := Lib.hid (below_step HR17.out HR17.out.size hb)
        have hsz18 := (hb).size
        have HBw18 := Lib.hid (below_step HBw17.out HBw17.out.size hb)
        have Z18_X0 := Lib.hid (Z17_X0.out.below hb)
        have Z18_X1 := Lib.hid (Z17_X1.out.below hb)
        have Z18_b10 := Lib.hid (Z17_b10.out.below hb)
        have hl18 := sto_lts hz
        have Z18_sx := Lib.hid hz
        have Px := Lib.hid (And.intro hp (And.intro hi hll))
        clear hz hp hi hll hb
        refine ⟨HS.out _ HR18.out, ?_⟩
        refine fm_one1 ?_ ?_
        · skip
          refine opW_take rfl rfl ?_
          go_simp
          refine (Hy.out.of t _ HBw18.out).mono ?_
          rintro e v19 ⟨⟨v, stv, sv, vs, rfl, kya, kyb, hz, hp, hi, hll⟩, hb⟩
          have HR19 := Lib.hid (below_step HR18.out HR18.out.size hb)
          have hsz19 := (hb).size
          have HBw19 := Lib.hid (below_step HBw18.out HBw18.out.size hb)
          have Z19_X0 := Lib.hid (Z18_X0.out.below hb)
          have Z19_X1 := Lib.hid (Z18_X1.out.below hb)
          have Z19_b10 := Lib.hid (Z18_b10.out.below hb)
          have Z19_sx := Lib.hid (Z18_sx.out.below hb)
          have hl19 := sto_lts hz
          have Z19_sy := Lib.hid hz
          have Py := Lib.hid (And.intro hp (And.intro hi hll))
          clear hz hp hi hll hb
          refine ⟨HS.out _ HR19.out, ?_⟩
          refine fm_now ?_
          refine opW_take rfl rfl ?_
          go_simp
          have hbA : Below v19.heap.size v19 (v19.alloc (.cells #[.pointer none, .int .i64 0, .int .i64 0, .int .i64 0, .int .i64 0, .int .i64 0] 29)) := (Below.refl _ _).alloc (Nat.le_refl _) _
          have hz : Box (v19.alloc (.cells #[.pointer none, .int .i64 0, .int .i64 0, .int .i64 0, .int .i64 0, .int .i64 0] 29)) v19.heap.size [.pointer none, .int .i64 0, .int .i64 0, .int .i64 0, .int .i64 0, .int .i64 0] := Box.newA v19 _ _ rfl
          have HR20 := Lib.hid (below_step HR19.out HR19.out.size hbA)
          have hsz20 := (hbA).size
          have HBw20 := Lib.hid (below_step HBw19.out HBw19.out.size hbA)
          have Z20_X0 := Lib.hid (Z19_X0.out.below hbA)
          have Z20_X1 := Lib.hid (Z19_X1.out.below hbA)
          have Z20_b10 := Lib.hid (Z19_b10.out.below hbA)
          have Z20_sx := Lib.hid (Z19_sx.out.below hbA)
          have Z20_sy := Lib.hid (Z19_sy.out.below hbA)
          have Z20_b9 := Lib.hid hz
          clear hbA hz
          generalize hN : v19.alloc (.cells #[.pointer none, .int .i64 0, .int .i64 0, .int .i64 0, .int .i64 0, .int .i64 0] 29) = v20 at *
          have hs20 := Lib.hid (show v20.heap.size = v19.heap.size + 1 from by rw [← hN]; simp)
          clear hN
          refine ⟨HS.out _ HR20.out, ?_⟩
          refine fm_skip rfl ?_
          refine fm_skip rfl ?_
          refine fm_nil ?_
          unfold Vw.val
          have hgw := HBw20.out.size
          have hlx1 := hlx0.out
          have ehs17 := hs17.out
          have ehs20 := hs20.out
          have hf := stw_make Z20_X0.out Z20_X1.out Z20_b9.out Z20_b10.out Z20_sx.out Z20_sy.out Px.out.1 Py.out.1 HBw20.out (by omega) (by omega) (by omega) (by omega) (by omega) (by omega) (by omega) (by omega) (by omega) (by omega) (by omega) (by omega) (by omega) (by omega) (by omega) (by omega) (by omega) (by omega)
          have n1 : v19.heap.size ≠ v0.heap.size := by omega
          have n2 : v0.heap.size ≠ v19.heap.size := fun h => n1 h.symm
          have hne : stu ≠ stv := by omega
          have HFin := Lib.hid hf
          have HNe := Lib.hid hne
          obtain ⟨c1, c2, c3⟩ := Z20_b9.out.facts
          obtain ⟨d1, d2, d3⟩ := Z20_b10.out.facts
          clear hf hne hgw hlx1 ehs17 ehs20
          go_simp
          go_wp2
          refine NoPanic.normal ?_
          go_wp2_with fail
          go_meet
          case rel => exact ⟨_, _, u, v, su, sv, us, vs, stu, stv, rfl, rfl, HFin.out, Px.out.1, Py.out.1, Px.out.2.1, Py.out.2.1, Px.out.2.2, Py.out.2.2, HNe.out⟩
        · skip
          refine opW_take rfl rfl ?_
          go_simp
          have hbA : Below v18.heap.size v18 (v18.alloc (.cells #[.pointer none, .int .i64 0, .int .i64 0, .int .i64 0, .int .i64 0, .int .i64 0] 29)) := (Below.refl _ _).alloc (Nat.le_refl _) _
          have hz : Box (v18.alloc (.cells #[.pointer none, .int .i64 0, .int .i64 0, .int .i64 0, .int .i64 0, .int .i64 0] 29)) v18.heap.size [.pointer none, .int .i64 0, .int .i64 0, .int .i64 0, .int .i64 0, .int .i64 0] := Box.newA v18 _ _ rfl
          have HR21 := Lib.hid (below_step HR18.out HR18.out.size hbA)
          have hsz21 := (hbA).size
          have HBw21 := Lib.hid (below_step HBw18.out HBw18.out.size hbA)
          have Z21_X0 := Lib.hid (Z18_X0.out.below hbA)
          have Z21_X1 := Lib.hid (Z18_X1.out.below hbA)
          have Z21_b10 := Lib.hid (Z18_b10.out.below hbA)
          have Z21_sx := Lib.hid (Z18_sx.out.below hbA)
          have Z21_b9 := Lib.hid hz
          clear hbA hz
          generalize hN : v18.alloc (.cells #[.pointer none, .int .i64 0, .int .i64 0, .int .i64 0, .int .i64 0, .int .i64 0] 29) = v21 at *
          have hs21 := Lib.hid (show v21.heap.size = v18.heap.size + 1 from by rw [← hN]; simp)
          clear hN
          refine ⟨HS.out _ HR21.out, ?_⟩
          refine fm_one ?_
          refine opW_take rfl rfl ?_
          go_simp
          refine (Hy.out.of t _ HBw21.out).mono ?_
          rintro e v22 ⟨⟨v, stv, sv, vs, rfl, kya, kyb, hz, hp, hi, hll⟩, hb⟩
          have HR22 := Lib.hid (below_step HR21.out HR21.out.size hb)
          have hsz22 := (hb).size
          have HBw22 := Lib.hid (below_step HBw21.out HBw21.out.size hb)
          have Z22_X0 := Lib.hid (Z21_X0.out.below hb)
          have Z22_X1 := Lib.hid (Z21_X1.out.below hb)
          have Z22_b10 := Lib.hid (Z21_b10.out.below hb)
          have Z22_sx := Lib.hid (Z21_sx.out.below hb)
          have Z22_b9 := Lib.hid (Z21_b9.out.below hb)
          have hl22 := sto_lts hz
          have Z22_sy := Lib.hid hz
          have Py := Lib.hid (And.intro hp (And.intro hi hll))
          clear hz hp hi hll hb
          refine ⟨HS.out _ HR22.out, ?_⟩
          refine fm_skip rfl ?_
          refine fm_skip rfl ?_
          refine fm_nil ?_
          unfold Vw.val
          have hgw := HBw22.out.size
          have hlx1 := hlx0.out
          have ehs17 := hs17.out
          have ehs21 := hs21.out
          have hf := stw_make Z22_X0.out Z22_X1.out Z22_b9.out Z22_b10.out Z22_sx.out Z22_sy.out Px.out.1 Py.out.1 HBw22.out (by omega) (by omega) (by omega) (by omega) (by omega) (by omega) (by omega) (by omega) (by omega) (by omega) (by omega) (by omega) (by omega) (by omega) (by omega) (by omega) (by omega) (by omega)
          have n1 : v18.heap.size ≠ v0.heap.size := by omega
          have n2 : v0.heap.size ≠ v18.heap.size := fun h => n1 h.symm
          have hne : stu ≠ stv := by omega
          have HFin := Lib.hid hf
          have HNe := Lib.hid hne
          obtain ⟨c1, c2, c3⟩ := Z22_b9.out.facts
          obtain ⟨d1, d2, d3⟩ := Z22_b10.out.facts
          clear hf hne hgw hlx1 ehs17 ehs21
          go_simp
          go_wp2
          refine NoPanic.normal ?_
          go_wp2_with fail
          go_meet
          case rel => exact ⟨_, _, u, v, su, sv, us, vs, stu, stv, rfl, rfl, HFin.out, Px.out.1, Py.out.1, Px.out.2.1, Py.out.2.1, Px.out.2.2, Py.out.2.2, HNe.out⟩
      · skip
        refine opW_take rfl rfl ?_
        go_simp
        have hbA : Below v17.heap.size v17 (v17.alloc (.cells #[.pointer none, .int .i64 0, .int .i64 0, .int .i64 0, .int .i64 0, .int .i64 0] 29)) := (Below.refl _ _).alloc (Nat.le_refl _) _
        have hz : Box (v17.alloc (.cells #[.pointer none, .int .i64 0, .int .i64 0, .int .i64 0, .int .i64 0, .int .i64 0] 29)) v17.heap.size [.pointer none, .int .i64 0, .int .i64 0, .int .i64 0, .int .i64 0, .int .i64 0] := Box.newA v17 _ _ rfl
        have HR23 := Lib.hid (below_step HR17.out HR17.out.size hbA)
        have hsz23 := (hbA).size
        have HBw23 := Lib.hid (below_step HBw17.out HBw17.out.size hbA)
        have Z23_X0 := Lib.hid (Z17_X0.out.below hbA)
        have Z23_X1 := Lib.hid (Z17_X1.out.below hbA)
        have Z23_b10 := Lib.hid (Z17_b10.out.below hbA)
        have Z23_b9 := Lib.hid hz
        clear hbA hz
        generalize hN : v17.alloc (.cells #[.pointer none, .int .i64 0, .int .i64 0, .int .i64 0, .int .i64 0, .int .i64 0] 29) = v23 at *
        have hs23 := Lib.hid (show v23.heap.size = v17.heap.size + 1 from by rw [← hN]; simp)
        clear hN
        refine ⟨HS.out _ HR23.out, ?_⟩
        refine fm_one ?_
        refine opW_take rfl rfl ?_
        go_simp
        refine (Hx.out.of false _ HBw23.out).mono ?_
        rintro e v24 ⟨⟨u, stu, su, us, rfl, kxa, kxb, hz, hp, hi, hll⟩, hb⟩
        have HR24 := Lib.hid (below_step HR23.out HR23.out.size hb)
        have hsz24 := (hb).size
        have HBw24 := Lib.hid (below_step HBw23.out HBw23.out.size hb)
        have Z24_X0 := Lib.hid (Z23_X0.out.below hb)
        have Z24_X1 := Lib.hid (Z23_X1.out.below hb)
        have Z24_b10 := Lib.hid (Z23_b10.out.below hb)
        have Z24_b9 := Lib.hid (Z23_b9.out.below hb)
        have hl24 := sto_lts hz
        have Z24_sx := Lib.hid hz
        have Px := Lib.hid (And.intro hp (And.intro hi hll))
        clear hz hp hi hll hb
        refine ⟨HS.out _ HR24.out, ?_⟩
        refine fm_one ?_
        refine opW_take rfl rfl ?_
        go_simp
        refine (Hy.out.of t _ HBw24.out).mono ?_
        rintro e v25 ⟨⟨v, stv, sv, vs, rfl, kya, kyb, hz, hp, hi, hll⟩, hb⟩
        have HR25 := Lib.hid (below_step HR24.out HR24.out.size hb)
        have hsz25 := (hb).size
        have HBw25 := Lib.hid (below_step HBw24.out HBw24.out.size hb)
        have Z25_X0 := Lib.hid (Z24_X0.out.below hb)
        have Z25_X1 := Lib.hid (Z24_X1.out.below hb)
        have Z25_b10 := Lib.hid (Z24_b10.out.below hb)
        have Z25_b9 := Lib.hid (Z24_b9.out.below hb)
        have Z25_sx := Lib.hid (Z24_sx.out.below hb)
        have hl25 := sto_lts hz
        have Z25_sy := Lib.hid hz
        have Py := Lib.hid (And.intro hp (And.intro hi hll))
        clear hz hp hi hll hb
        refine ⟨HS.out _ HR25.out, ?_⟩
        refine fm_skip rfl ?_
        refine fm_skip rfl ?_
        refine fm_nil ?_
        unfold Vw.val
        have hgw := HBw25.out.size
        have hlx1 := hlx0.out
        have ehs17 := hs17.out
        have ehs23 := hs23.out
        have hf := stw_make Z25_X0.out Z25_X1.out Z25_b9.out Z25_b10.out Z25_sx.out Z25_sy.out Px.out.1 Py.out.1 HBw25.out (by omega) (by omega) (by omega) (by omega) (by omega) (by omega) (by omega) (by omega) (by omega) (by omega) (by omega) (by omega) (by omega) (by omega) (by omega) (by omega) (by omega) (by omega)
        have n1 : v17.heap.size ≠ v0.heap.size := by omega
        have n2 : v0.heap.size ≠ v17.heap.size := fun h => n1 h.symm
        have hne : stu ≠ stv := by omega
        have HFin := Lib.hid hf
        have HNe := Lib.hid hne
        obtain ⟨c1, c2, c3⟩ := Z25_b9.out.facts
        obtain ⟨d1, d2, d3⟩ := Z25_b10.out.facts
        clear hf hne hgw hlx1 ehs17 ehs23
        go_simp
        go_wp2
        refine NoPanic.normal ?_
        go_wp2_with fail
        go_meet
        case rel => exact ⟨_, _, u, v, su, sv, us, vs, stu, stv, rfl, rfl, HFin.out, Px.out.1, Py.out.1, Px.out.2.1, Py.out.2.1, Px.out.2.2, Py.out.2.2, HNe.out⟩
    · skip
      refine opW_take rfl rfl ?_
      go_simp
      have hbA : Below v0.heap.size v0 (v0.alloc (.cells #[.pointer none, .int .i64 0, .int .i64 0, .int .i64 0, .int .i64 0, .int .i64 0] 29)) := (Below.refl _ _).alloc (Nat.le_refl _) _
      have hz : Box (v0.alloc (.cells #[.pointer none, .int .i64 0, .int .i64 0, .int .i64 0, .int .i64 0, .int .i64 0] 29)) v0.heap.size [.pointer none, .int .i64 0, .int .i64 0, .int .i64 0, .int .i64 0, .int .i64 0] := Box.newA v0 _ _ rfl
      have HR26 := Lib.hid (below_step HR.out HR.out.size hbA)
      have hsz26 := (hbA).size
      have HBw26 := Lib.hid (below_step HB1.out HB1.out.size hbA)
      have Z26_X0 := Lib.hid (X0.out.below hbA)
      have Z26_X1 := Lib.hid (X1.out.below hbA)
      have Z26_b9 := Lib.hid hz
      clear hbA hz
      generalize hN : v0.alloc (.cells #[.pointer none, .int .i64 0, .int .i64 0, .int .i64 0, .int .i64 0, .int .i64 0] 29) = v26 at *
      have hs26 := Lib.hid (show v26.heap.size = v0.heap.size + 1 from by rw [← hN]; simp)
      clear hN
      refine ⟨HS.out _ HR26.out, ?_⟩
      refine fm_one1 ?_ ?_
      · skip
        refine opW_take rfl rfl ?_
        go_simp
        refine (Hx.out.of false _ HBw26.out).mono ?_
        rintro e v27 ⟨⟨u, stu, su, us, rfl, kxa, kxb, hz, hp, hi, hll⟩, hb⟩
        have HR27 := Lib.hid (below_step HR26.out HR26.out.size hb)
        have hsz27 := (hb).size
        have HBw27 := Lib.hid (below_step HBw26.out HBw26.out.size hb)
        have Z27_X0 := Lib.hid (Z26_X0.out.below hb)
        have Z27_X1 := Lib.hid (Z26_X1.out.below hb)
        have Z27_b9 := Lib.hid (Z26_b9.out.below hb)
        have hl27 := sto_lts hz
        have Z27_sx := Lib.hid hz
        have Px := Lib.hid (And.intro hp (And.intro hi hll))
        clear hz hp hi hll hb
        refine ⟨HS.out _ HR27.out, ?_⟩
        refine fm_one1 ?_ ?_
        · skip
          refine opW_take rfl rfl ?_
          go_simp
          refine (Hy.out.of t _ HBw27.out).mono ?_
          rintro e v28 ⟨⟨v, stv, sv, vs, rfl, kya, kyb, hz, hp, hi, hll⟩, hb⟩
          have HR28 := Lib.hid (below_step HR27.out HR27.out.size hb)
          have hsz28 := (hb).size
          have HBw28 := Lib.hid (below_step HBw27.out HBw27.out.size hb)
          have Z28_X0 := Lib.hid (Z27_X0.out.below hb)
          have Z28_X1 := Lib.hid (Z27_X1.out.below hb)
          have Z28_b9 := Lib.hid (Z27_b9.out.below hb)
          have Z28_sx := Lib.hid (Z27_sx.out.below hb)
          have hl28 := sto_lts hz
          have Z28_sy := Lib.hid hz
          have Py := Lib.hid (And.intro hp (And.intro hi hll))
          clear hz hp hi hll hb
          refine ⟨HS.out _ HR28.out, ?_⟩
          refine fm_skip rfl ?_
          refine fm_now ?_
          refine opW_take rfl rfl ?_
          go_simp
          have hbA : Below v28.heap.size v28 (v28.alloc (.cells #[.pointer none, .int .i64 0, .int .i64 0, .int .i64 0, .int .i64 0, .int .i64 0] 29)) := (Below.refl _ _).alloc (Nat.le_refl _) _
          have hz : Box (v28.alloc (.cells #[.pointer none, .int .i64 0, .int .i64 0, .int .i64 0, .int .i64 0, .int .i64 0] 29)) v28.heap.size [.pointer none, .int .i64 0, .int .i64 0, .int .i64 0, .int .i64 0, .int .i64 0] := Box.newA v28 _ _ rfl
          have HR29 := Lib.hid (below_step HR28.out HR28.out.size hbA)
          have hsz29 := (hbA).size
          have HBw29 := Lib.hid (below_step HBw28.out HBw28.out.size hbA)
          have Z29_X0 := Lib.hid (Z28_X0.out.below hbA)
          have Z29_X1 := Lib.hid (Z28_X1.out.below hbA)
          have Z29_b9 := Lib.hid (Z28_b9.out.below hbA)
          have Z29_sx := Lib.hid (Z28_sx.out.below hbA)
          have Z29_sy := Lib.hid (Z28_sy.out.below hbA)
          have Z29_b10 := Lib.hid hz
          clear hbA hz
          generalize hN : v28.alloc (.cells #[.pointer none, .int .i64 0, .int .i64 0, .int .i64 0, .int .i64 0, .int .i64 0] 29) = v29 at *
          have hs29 := Lib.hid (show v29.heap.size = v28.heap.size + 1 from by rw [← hN]; simp)
          clear hN
          refine ⟨HS.out _ HR29.out, ?_⟩
          refine fm_skip rfl ?_
          refine fm_nil ?_
          unfold Vw.val
          have hgw := HBw29.out.size
          have hlx1 := hlx0.out
          have ehs26 := hs26.out
          have ehs29 := hs29.out
          have hf := stw_make Z29_X0.out Z29_X1.out Z29_b9.out Z29_b10.out Z29_sx.out Z29_sy.out Px.out.1 Py.out.1 HBw29.out (by omega) (by omega) (by omega) (by omega) (by omega) (by omega) (by omega) (by omega) (by omega) (by omega) (by omega) (by omega) (by omega) (by omega) (by omega) (by omega) (by omega) (by omega)
          have n1 : v0.heap.size ≠ v28.heap.size := by omega
          have n2 : v28.heap.size ≠ v0.heap.size := fun h => n1 h.symm
          have hne : stu ≠ stv := by omega
          have HFin := Lib.hid hf
          have HNe := Lib.hid hne
          obtain ⟨c1, c2, c3⟩ := Z29_b9.out.facts
          obtain ⟨d1, d2, d3⟩ := Z29_b10.out.facts
          clear hf hne hgw hlx1 ehs26 ehs29
          go_simp
          go_wp2
          refine NoPanic.normal ?_
          go_wp2_with fail
          go_meet
          case rel => exact ⟨_, _, u, v, su, sv, us, vs, stu, stv, rfl, rfl, HFin.out, Px.out.1, Py.out.1, Px.out.2.1, Py.out.2.1, Px.out.2.2, Py.out.2.2, HNe.out⟩
        · skip
          refine opW_take rfl rfl ?_
          go_simp
          have hbA : Below v27.heap.size v27 (v27.alloc (.cells #[.pointer none, .int .i64 0, .int .i64 0, .int .i64 0, .int .i64 0, .int .i64 0] 29)) := (Below.refl _ _).alloc (Nat.le_refl _) _
          have hz : Box (v27.alloc (.cells #[.pointer none, .int .i64 0, .int .i64 0, .int .i64 0, .int .i64 0, .int .i64 0] 29)) v27.heap.size [.pointer none, .int .i64 0, .int .i64 0, .int .i64 0, .int .i64 0, .int .i64 0] := Box.newA v27 _ _ rfl
          have HR30 := Lib.hid (below_step HR27.out HR27.out.size hbA)
          have hsz30 := (hbA).size
          have HBw30 := Lib.hid (below_step HBw27.out HBw27.out.size hbA)
          have Z30_X0 := Lib.hid (Z27_X0.out.below hbA)
          have Z30_X1 := Lib.hid (Z27_X1.out.below hbA)
          have Z30_b9 := Lib.hid (Z27_b9.out.below hbA)
          have Z30_sx := Lib.hid (Z27_sx.out.below hbA)
          have Z30_b10 := Lib.hid hz
          clear hbA hz
          generalize hN : v27.alloc (.cells #[.pointer none, .int .i64 0, .int .i64 0, .int .i64 0, .int .i64 0, .int .i64 0] 29) = v30 at *
          have hs30 := Lib.hid (show v30.heap.size = v27.heap.size + 1 from by rw [← hN]; simp)
          clear hN
          refine ⟨HS.out _ HR30.out, ?_⟩
          refine fm_one ?_
          refine opW_take rfl rfl ?_
          go_simp
          refine (Hy.out.of t _ HBw30.out).mono ?_
          rintro e v31 ⟨⟨v, stv, sv, vs, rfl, kya, kyb, hz, hp, hi, hll⟩, hb⟩
          have HR31 := Lib.hid (below_step HR30.out HR30.out.size hb)
          have hsz31 := (hb).size
          have HBw31 := Lib.hid (below_step HBw30.out HBw30.out.size hb)
          have Z31_X0 := Lib.hid (Z30_X0.out.below hb)
          have Z31_X1 := Lib.hid (Z30_X1.out.below hb)
          have Z31_b9 := Lib.hid (Z30_b9.out.below hb)
          have Z31_sx := Lib.hid (Z30_sx.out.below hb)
          have Z31_b10 := Lib.hid (Z30_b10.out.below hb)
          have hl31 := sto_lts hz
          have Z31_sy := Lib.hid hz
          have Py := Lib.hid (And.intro hp (And.intro hi hll))
          clear hz hp hi hll hb
          refine ⟨HS.out _ HR31.out, ?_⟩
          refine fm_skip rfl ?_
          refine fm_skip rfl ?_
          refine fm_nil ?_
          unfold Vw.val
          have hgw := HBw31.out.size
          have hlx1 := hlx0.out
          have ehs26 := hs26.out
          have ehs30 := hs30.out
          have hf := stw_make Z31_X0.out Z31_X1.out Z31_b9.out Z31_b10.out Z31_sx.out Z31_sy.out Px.out.1 Py.out.1 HBw31.out (by omega) (by omega) (by omega) (by omega) (by omega) (by omega) (by omega) (by omega) (by omega) (by omega) (by omega) (by omega) (by omega) (by omega) (by omega) (by omega) (by omega) (by omega)
          have n1 : v0.heap.size ≠ v27.heap.size := by omega
          have n2 : v27.heap.size ≠ v0.heap.size := fun h => n1 h.symm
          have hne : stu ≠ stv := by omega
          have HFin := Lib.hid hf
          have HNe := Lib.hid hne
          obtain ⟨c1, c2, c3⟩ := Z31_b9.out.facts
          obtain ⟨d1, d2, d3⟩ := Z31_b10.out.facts
          clear hf hne hgw hlx1 ehs26 ehs30
          go_simp
          go_wp2
          refine NoPanic.normal ?_
          go_wp2_with fail
          go_meet
          case rel => exact ⟨_, _, u, v, su, sv, us, vs, stu, stv, rfl, rfl, HFin.out, Px.out.1, Py.out.1, Px.out.2.1, Py.out.2.1, Px.out.2.2, Py.out.2.2, HNe.out⟩
      · skip
        refine opW_take rfl rfl ?_
        go_simp
        have hbA : Below v26.heap.size v26 (v26.alloc (.cells #[.pointer none, .int .i64 0, .int .i64 0, .int .i64 0, .int .i64 0, .int .i64 0] 29)) := (Below.refl _ _).alloc (Nat.le_refl _) _
        have hz : Box (v26.alloc (.cells #[.pointer none, .int .i64 0, .int .i64 0, .int .i64 0, .int .i64 0, .int .i64 0] 29)) v26.heap.size [.pointer none, .int .i64 0, .int .i64 0, .int .i64 0, .int .i64 0, .int .i64 0] := Box.newA v26 _ _ rfl
        have HR32 := Lib.hid (below_step HR26.out HR26.out.size hbA)
        have hsz32 := (hbA).size
        have HBw32 := Lib.hid (below_step HBw26.out HBw26.out.size hbA)
        have Z32_X0 := Lib.hid (Z26_X0.out.below hbA)
        have Z32_X1 := Lib.hid (Z26_X1.out.below hbA)
        have Z32_b9 := Lib.hid (Z26_b9.out.below hbA)
        have Z32_b10 := Lib.hid hz
        clear hbA hz
        generalize hN : v26.alloc (.cells #[.pointer none, .int .i64 0, .int .i64 0, .int .i64 0, .int .i64 0, .int .i64 0] 29) = v32 at *
        have hs32 := Lib.hid (show v32.heap.size = v26.heap.size + 1 from by rw [← hN]; simp)
        clear hN
        refine ⟨HS.out _ HR32.out, ?_⟩
        refine fm_one ?_
        refine opW_take rfl rfl ?_
        go_simp
        refine (Hx.out.of false _ HBw32.out).mono ?_
        rintro e v33 ⟨⟨u, stu, su, us, rfl, kxa, kxb, hz, hp, hi, hll⟩, hb⟩
        have HR33 := Lib.hid (below_step HR32.out HR32.out.size hb)
        have hsz33 := (hb).size
        have HBw33 := Lib.hid (below_step HBw32.out HBw32.out.size hb)
        have Z33_X0 := Lib.hid (Z32_X0.out.below hb)
        have Z33_X1 := Lib.hid (Z32_X1.out.below hb)
        have Z33_b9 := Lib.hid (Z32_b9.out.below hb)
        have Z33_b10 := Lib.hid (Z32_b10.out.below hb)
        have hl33 := sto_lts hz
        have Z33_sx := Lib.hid hz
        have Px := Lib.hid (And.intro hp (And.intro hi hll))
        clear hz hp hi hll hb
        refine ⟨HS.out _ HR33.out, ?_⟩
        refine fm_one ?_
        refine opW_take rfl rfl ?_
        go_simp
        refine (Hy.out.of t _ HBw33.out).mono ?_
        rintro e v34 ⟨⟨v, stv, sv, vs, rfl, kya, kyb, hz, hp, hi, hll⟩, hb⟩
        have HR34 := Lib.hid (below_step HR33.out HR33.out.size hb)
        have hsz34 := (hb).size
        have HBw34 := Lib.hid (below_step HBw33.out HBw33.out.size hb)
        have Z34_X0 := Lib.hid (Z33_X0.out.below hb)
        have Z34_X1 := Lib.hid (Z33_X1.out.below hb)
        have Z34_b9 := Lib.hid (Z33_b9.out.below hb)
        have Z34_b10 := Lib.hid (Z33_b10.out.below hb)
        have Z34_sx := Lib.hid (Z33_sx.out.below hb)
        have hl34 := sto_lts hz
        have Z34_sy := Lib.hid hz
        have Py := Lib.hid (And.intro hp (And.intro hi hll))
        clear hz hp hi hll hb
        refine ⟨HS.out _ HR34.out, ?_⟩
        refine fm_skip rfl ?_
        refine fm_skip rfl ?_
        refine fm_nil ?_
        unfold Vw.val
        have hgw := HBw34.out.size
        have hlx1 := hlx0.out
        have ehs26 := hs26.out
        have ehs32 := hs32.out
        have hf := stw_make Z34_X0.out Z34_X1.out Z34_b9.out Z34_b10.out Z34_sx.out Z34_sy.out Px.out.1 Py.out.1 HBw34.out (by omega) (by omega) (by omega) (by omega) (by omega) (by omega) (by omega) (by omega) (by omega) (by omega) (by omega) (by omega) (by omega) (by omega) (by omega) (by omega) (by omega) (by omega)
        have n1 : v0.heap.size ≠ v26.heap.size := by omega
        have n2 : v26.heap.size ≠ v0.heap.size := fun h => n1 h.symm
        have hne : stu ≠ stv := by omega
        have HFin := Lib.hid hf
        have HNe := Lib.hid hne
        obtain ⟨c1, c2, c3⟩ := Z34_b9.out.facts
        obtain ⟨d1, d2, d3⟩ := Z34_b10.out.facts
        clear hf hne hgw hlx1 ehs26 ehs32
        go_simp
        go_wp2
        refine NoPanic.normal ?_
        go_wp2_with fail
        go_meet
        case rel => exact ⟨_, _, u, v, su, sv, us, vs, stu, stv, rfl, rfl, HFin.out, Px.out.1, Py.out.1, Px.out.2.1, Py.out.2.1, Px.out.2.2, Py.out.2.2, HNe.out⟩
  case rest =>
    obtain ⟨b9, b10, u, v, su, sv, us, vs, stu, stv, rfl, rfl, hs, Pu, Pv, Iu, Iv, hlu, hlv, hd⟩ := hcut
    have T0 := Lib.hid hs
    have PU := Lib.hid Pu
    have PV := Lib.hid Pv
    have II := Lib.hid (show _ ∧ _ ∧ _ ∧ _ ∧ _ from ⟨Iu, Iv, hlu, hlv, hd⟩)
    have PP := Lib.hid (show u.p.isSome = true ∧ v.p.isSome = true from ⟨by rw [PU.out.ep]; rfl, by rw [PV.out.ep]; rfl⟩)
    clear hs Pu Pv Iu Iv hlu hlv hd S2 HBx HBy
    have hk := Axpy_any wc a u v su sv us vs T0.out.ou.1 T0.out.ov.1 T0.out.wu T0.out.wv
    rw [PU.out.two PV.out Hx.out.hn Hy.out.hn] at hk
    obtain ⟨L, hL⟩ : ∃ L, L = wantL (fit8 rx cx ry cy zx.length zy.length) a zx zy := ⟨_, rfl⟩
    have hRw := fun Y hR => axpy_rw (a := a) (Y := Y) PU.out PV.out II.out.2.1 II.out.2.2.2.1 Hx.out.hn Hy.out.hn hR
    have hLl := hL ▸ wantL_len (a := a) Hx.out.hn Hy.out.hn
    have hLw := hL ▸ wantL_words (a := a) (zx := zx) (fit8 rx cx ry cy zx.length zy.length) Hy.out.words
    rw [← hL] at hRw
    have HLL := Lib.hid (And.intro hLl hLw)
    have HRw := Lib.hid hRw
    clear hRw hLl hLw
    unfold fit8 at hk hL
    obtain ⟨q1, e1⟩ : ∃ q, q = vec8 rx cx := ⟨_, rfl⟩
    simp only [← e1] at hk hL HVx
    have EE1 := Lib.hid e1
    clear e1
    obtain ⟨q2, e2⟩ : ∃ q, q = vec8 ry cy := ⟨_, rfl⟩
    simp only [← e2] at hk hL HVy
    have EE2 := Lib.hid e2
    clear e2
    obtain ⟨q3, e3⟩ : ∃ q, q = decide (zx.length = zy.length) := ⟨_, rfl⟩
    simp only [← e3] at hk hL HT3
    have EE3 := Lib.hid e3
    clear e3
    obtain ⟨qq, hqq⟩ : ∃ b, b = (q1 && (q2 && q3)) := ⟨_, rfl⟩
    rw [← hqq] at hk hL
    have HQQ := Lib.hid hqq
    clear hqq
    obtain ⟨E, hE⟩ : ∃ E : Int, E = (if qq = true then (0 : Int) else 8) := ⟨_, rfl⟩
    rw [← hE] at hk
    have HE := Lib.hid hE
    have HLe := Lib.hid hL
    have HK := Lib.hid hk
    clear hE hL hk
    obtain ⟨f21, f22, f23⟩ := (T0.out.get 2 rfl).facts
    obtain ⟨f31, f32, f33⟩ := (T0.out.get 3 rfl).facts
    go_wp2_with fail
    refine HK.out.mono ?_
    rintro e y1 ⟨rfl, ys, hok, hR, hW, hb⟩
    have T1 := Lib.hid (T0.out.setV hb hok hW)
    have AX := Lib.hid (HRw.out ys hR)
    clear f21 f22 f23 f31 f32 f33 hok hR hW hb HK HRw
    dsimp only
    obtain ⟨f01, f02, f03⟩ := (T1.out.get 0 rfl).facts
    obtain ⟨f11, f12, f13⟩ := (T1.out.get 1 rfl).facts
    obtain ⟨f21, f22, f23⟩ := (T1.out.get 2 rfl).facts
    obtain ⟨f31, f32, f33⟩ := (T1.out.get 3 rfl).facts
    go_upto_region 6 with (fail)
    clear f01 f02 f03 f11 f12 f13 f21 f22 f23 f31 f32 f33
    have T2 := Lib.hid (T1.out.alloc PP.out.1 PP.out.2 [.int .i64 ry, .int .i64 cy, .slice ay zy.length py] 24)
    have HD := Lib.hid (show (∀ p ∈ ([(w.heap.size, [.int .i64 rx, .int .i64 cx, .slice ax zx.length px]), (w.heap.size + 1, [.int .i64 ry, .int .i64 cy, .slice ay zy.length py]), (b9, [.pointer u.p, .int .i64 u.r, .int .i64 u.c, .int .i64 u.o, .int .i64 u.d, .int .i64 u.u]), (b10, [.pointer v.p, .int .i64 v.r, .int .i64 v.c, .int .i64 v.o, .int .i64 v.d, .int .i64 v.u])] : List (Nat × List Value)), p.1 ≠ y1.heap.size) ∧ w.heap.size ≤ y1.heap.size from ⟨fun p hp => by have := (T1.out.bx p hp).lt; omega, T1.out.below.size⟩)
    obtain ⟨P, hPP⟩ : ∃ P, P = y1.heap.size := ⟨_, rfl⟩
    simp only [← hPP] at T2 HD ⊢
    generalize y1.alloc (.cells #[.int .i64 ry, .int .i64 cy, .slice ay zy.length py] 24) = V0 at *
    clear hPP
    go_cut [47] from 33 to 46 (fun s47 wx => s47 = .bool qq ∧ StW w wx ([(w.heap.size, [.int .i64 rx, .int .i64 cx, .slice ax zx.length px]), (w.heap.size + 1, [.int .i64 ry, .int .i64 cy, .slice ay zy.length py]), (b9, [.pointer u.p, .int .i64 u.r, .int .i64 u.c, .int .i64 u.o, .int .i64 u.d, .int .i64 u.u]), (b10, [.pointer v.p, .int .i64 v.r, .int .i64 v.c, .int .i64 v.o, .int .i64 v.d, .int .i64 v.u])] ++ [(P, [.int .i64 ry, .int .i64 cy, .slice ay zy.length py])]) u v su sv us ys)
    case first =>
      obtain ⟨f01, f02, f03⟩ := (T2.out.get 0 rfl).facts
      obtain ⟨f11, f12, f13⟩ := (T2.out.get 1 rfl).facts
      obtain ⟨f41, f42, f43⟩ := (T2.out.get 4 rfl).facts
      go_wp2_with fail
      refine (HVx.out _).mono ?_
      rintro e y2 ⟨rfl, hb⟩
      have T3 := Lib.hid (T2.out.step hb)
      clear f01 f02 f03 f11 f12 f13 f41 f42 f43 hb
      dsimp only
      cases q1
      · skip
        obtain ⟨f01, f02, f03⟩ := (T3.out.get 0 rfl).facts
        obtain ⟨f11, f12, f13⟩ := (T3.out.get 1 rfl).facts
        obtain ⟨f41, f42, f43⟩ := (T3.out.get 4 rfl).facts
        go_wp2_with fail
        clear f01 f02 f03 f11 f12 f13 f41 f42 f43
        go_meet
        case rel => exact ⟨by rw [HQQ.out]; rfl, T3.out⟩
      · skip
        obtain ⟨f01, f02, f03⟩ := (T3.out.get 0 rfl).facts
        obtain ⟨f11, f12, f13⟩ := (T3.out.get 1 rfl).facts
        obtain ⟨f41, f42, f43⟩ := (T3.out.get 4 rfl).facts
        go_wp2_with fail
        refine (HVy.out _).mono ?_
        rintro e y3 ⟨rfl, hb⟩
        have T4 := Lib.hid (T3.out.step hb)
        clear f01 f02 f03 f11 f12 f13 f41 f42 f43 hb
        dsimp only
        cases q2
        · skip
          obtain ⟨f01, f02, f03⟩ := (T4.out.get 0 rfl).facts
          obtain ⟨f11, f12, f13⟩ := (T4.out.get 1 rfl).facts
          obtain ⟨f41, f42, f43⟩ := (T4.out.get 4 rfl).facts
          go_wp2_with fail
          clear f01 f02 f03 f11 f12 f13 f41 f42 f43
          go_meet
          case rel => exact ⟨by rw [HQQ.out]; rfl, T4.out⟩
        · skip
          have ht3 := HT3.out
          obtain ⟨f01, f02, f03⟩ := (T4.out.get 0 rfl).facts
          obtain ⟨f11, f12, f13⟩ := (T4.out.get 1 rfl).facts
          obtain ⟨f41, f42, f43⟩ := (T4.out.get 4 rfl).facts
          go_wp2_with fail
          clear f01 f02 f03 f11 f12 f13 f41 f42 f43
          go_meet
          case rel => exact ⟨by rw [HQQ.out]; rfl, T4.out⟩
    case rest =>
      obtain ⟨rfl, hT⟩ := hcut
      have T22 := Lib.hid hT
      clear hT
      go_upto_if 47 with (fail)
      go_cut [] from 48 to 61 (fun wx => ∃ (aw : Option Addr) (cw : Nat), StW w wx ([(w.heap.size, [.int .i64 rx, .int .i64 cx, .slice ax zx.length px]), (w.heap.size + 1, [.int .i64 ry, .int .i64 cy, .slice ay zy.length py]), (b9, [.pointer u.p, .int .i64 u.r, .int .i64 u.c, .int .i64 u.o, .int .i64 u.d, .int .i64 u.u]), (b10, [.pointer v.p, .int .i64 v.r, .int .i64 v.c, .int .i64 v.o, .int .i64 v.d, .int .i64 v.u])] ++ [(P, [.int .i64 ry, .int .i64 cy, .slice aw L.length cw])]) u v su sv us ys ∧ FlN wx aw L su sv)
      case first =>
        have hE := HE.out
        cases qq
        · skip
          simp only [Bool.false_and, Bool.and_false, Bool.true_and, Bool.and_true, Bool.and_self, Bool.false_eq_true, if_false, if_true] at hE
          subst hE
          simp only [wantL, Bool.false_and, Bool.and_false, Bool.true_and, Bool.and_true, Bool.and_self, Bool.false_eq_true, if_false, if_true] at HLe
          obtain ⟨f01, f02, f03⟩ := (T22.out.get 0 rfl).facts
          obtain ⟨f11, f12, f13⟩ := (T22.out.get 1 rfl).facts
          obtain ⟨f41, f42, f43⟩ := (T22.out.get 4 rfl).facts
          go_wp2_with (go_at_call 22; refine (num8_any _ _).mono ?_; rintro e w' ⟨rfl, rfl⟩)
          clear f01 f02 f03 f11 f12 f13 f41 f42 f43
          go_meet
          case rel =>
            obtain rfl : L = zy := HLe.out
            exact ⟨ay, py, T22.out, FlN.of (Hy.out.fls w (Below.refl _ _)) T22.out.below T22.out.lu T22.out.lv⟩
        · skip
          simp only [Bool.false_and, Bool.and_false, Bool.true_and, Bool.and_true, Bool.and_self, Bool.false_eq_true, if_false, if_true] at hE
          subst hE
          simp only [wantL, Bool.false_and, Bool.and_false, Bool.true_and, Bool.and_true, Bool.and_self, Bool.false_eq_true, if_false, if_true] at HLe
          go_upto_region 7 with (fail)
          have hdr : Below wc.heap.size wc wc.drew := below_drewN 1 (Below.refl _ wc)
          have T23 := Lib.hid (T22.out.step hdr)
          have HS := Lib.hid (show ∀ W, Below wc.drew.heap.size wc.drew W → (fun W => (∀ i, W.cell? ⟨w.heap.size, i, none⟩ = ([.int .i64 rx, .int .i64 cx, .slice ax zx.length px] : List Value)[i]?) ∧ (∀ i, W.cell? ⟨w.heap.size + 1, i, none⟩ = ([.int .i64 ry, .int .i64 cy, .slice ay zy.length py] : List Value)[i]?)) W from fun W h => ⟨((T23.out.step h).get 0 rfl).cell, ((T23.out.step h).get 1 rfl).cell⟩)
          refine wp_region_items 7 [(true, 0), (true, 1), (true, 2), (true, 3), (true, 4), (true, 5), (false, 6)] (fun W => (∀ i, W.cell? ⟨w.heap.size, i, none⟩ = ([.int .i64 rx, .int .i64 cx, .slice ax zx.length px] : List Value)[i]?) ∧ (∀ i, W.cell? ⟨w.heap.size + 1, i, none⟩ = ([.int .i64 ry, .int .i64 cy, .slice ay zy.length py] : List Value)[i]?)) (by kernel_rfl) (by kernel_rfl) (HS.out _ (Below.refl _ _)) ?_
          generalize wc.drew = y2 at *
          clear hdr
          iterate 6 (refine iW_take (v := ?_) rfl rfl ?_ ?_; rotate_left; (next => (intro w' hSw; (try dsimp only at hSw); go_simp; (try (rw [if_pos (by omega)]; go_simp)); (try with_reducible rfl))); (simp only [Act.put, List.setIfInBounds_toArray, List.set_cons_zero, List.set_cons_succ]))
          have he : zx.length = zy.length := by have h := HQQ.out; rw [EE3.out] at h; simp at h; exact h.2.2
          have HDo := Lib.hid (RAxpy_eq y2 a ax ay zx zy px py (Hx.out.fls _ T23.out.below) (Hy.out.fls _ T23.out.below) he (by have := Hx.out.hl; omega))
          clear he
          refine iW_mid rfl rfl ?_
          go_simp
          refine HDo.out.mono ?_
          clear HDo
          rintro e y3 ⟨⟨dv, rfl, hO⟩, hb⟩
          have T24 := Lib.hid (T23.out.step hb)
          obtain ⟨aw, cw, rfl, hF⟩ := hO.fln (T23.out.ltu PP.out.1).1 (T23.out.ltv PP.out.2).1
          have F1 := Lib.hid hF
          refine ⟨HS.out _ hb, ?_⟩
          clear hb hO hF
          refine iW_nil ?_
          go_simp
          obtain ⟨f41, f42, f43⟩ := (T24.out.get 4 rfl).facts
          go_wp2_with fail
          refine (like_any _ ry cy ay aw zy.length py _ cw).mono ?_
          rintro e y4 ⟨rfl, hb⟩
          have T25 := Lib.hid (T24.out.step hb)
          have G26 := Lib.hid (F1.out.step hb)
          clear f41 f42 f43 hb
          dsimp only
          obtain ⟨f41, f42, f43⟩ := (T25.out.get 4 rfl).facts
          go_wp2_with fail
          refine NoPanic.normal ?_
          go_wp2_with (go_at_call 22; refine (num8_any _ _).mono ?_; rintro e w' ⟨rfl, rfl⟩)
          clear f41 f42 f43
          go_meet
          case rel =>
            refine ⟨aw, cw, ?_, ?_⟩
            · rw [HLe.out]; exact T25.out.put3 PP.out.1 PP.out.2 HD.out.1 HD.out.2 _ _ _
            · rw [HLe.out]; exact G26.out.put3 (T25.out.get 4 rfl) (mat_nofloat _ _ _ _ _) _ _ _
      case rest =>
        obtain ⟨aw, cw, hT, hF⟩ := hcut
        have T43 := Lib.hid hT
        have FA := Lib.hid hF
        clear hT hF
        obtain ⟨f31, f32, f33⟩ := (T43.out.get 3 rfl).facts
        obtain ⟨f41, f42, f43⟩ := (T43.out.get 4 rfl).facts
        go_wp2_with fail
        refine (shows_any _ v sv ys ry cy aw L cw T43.out.ov.1 T43.out.wv PV.out.er PV.out.ec FA.out.fls HLL.out.2 (by have := HLL.out.1; have := Hy.out.hl; have := Hy.out.hn; omega) AX.out.2).mono ?_
        rintro e y2 ⟨rfl, hb⟩
        have T44 := Lib.hid (T43.out.step hb)
        have G45 := Lib.hid (FA.out.step hb)
        clear f31 f32 f33 f41 f42 f43 hb
        dsimp only
        obtain ⟨f01, f02, f03⟩ := (T44.out.get 0 rfl).facts
        obtain ⟨f21, f22, f23⟩ := (T44.out.get 2 rfl).facts
        go_wp2_with fail
        refine (shows_any _ u su us rx cx ax zx px T44.out.ou.1 T44.out.wu PU.out.er PU.out.ec (Hx.out.fls _ T44.out.below) Hx.out.words (by have := Hx.out.hl; omega) (PU.out.same Hx.out.hn (Rw.self PU.out.words))).mono ?_
        rintro e y3 ⟨rfl, hb⟩
        have T46 := Lib.hid (T44.out.step hb)
        have G47 := Lib.hid (G45.out.step hb)
        clear f01 f02 f03 f21 f22 f23 hb
        dsimp only
        go_upto_region 14 with (fail)
        have hk := Scal_any y3 a u su us T46.out.ou.1 T46.out.wu
        rw [PU.out.one, ← EE1.out] at hk
        obtain ⟨M, hM⟩ : ∃ M, M = scaledL (vec8 rx cx) a zx := ⟨_, rfl⟩
        have hRw := fun X hR => scal_rw (a := a) (X := X) PU.out II.out.1 II.out.2.2.1 Hx.out.hn hR
        have hMl := hM ▸ scaledL_len (a := a) (vec8 rx cx) Hx.out.hn
        have hMw := hM ▸ scaledL_words (a := a) (vec8 rx cx) Hx.out.words
        rw [← hM] at hRw
        rw [← EE1.out] at hM
        have HMM := Lib.hid (And.intro hMl hMw)
        have HRw := Lib.hid hRw
        have HMe := Lib.hid hM
        clear hRw hMl hMw hM
        obtain ⟨F, hF⟩ : ∃ F : Int, F = (if q1 = true then (0 : Int) else 8) := ⟨_, rfl⟩
        rw [← hF] at hk
        have HF := Lib.hid hF
        have HK := Lib.hid hk
        clear hF hk
        obtain ⟨f21, f22, f23⟩ := (T46.out.get 2 rfl).facts
        go_wp2_with fail
        refine HK.out.mono ?_
        rintro e y4 ⟨rfl, xs, hok, hR, hW, hb⟩
        have T48 := Lib.hid (T46.out.setU hb hok hW)
        have G49 := Lib.hid (G47.out.setU hb)
        have SC := Lib.hid (HRw.out xs hR)
        clear f21 f22 f23 hok hR hW hb HK HRw
        dsimp only
        go_upto_region 15 with (fail)
        go_cut [14] from 75 to 80 (fun s14 wx => ∃ (P14 : Nat) (am : Option Addr) (cm : Nat) (K : List Nat), s14 = .pointer (some ⟨P14, 0, none⟩) ∧ K = scalR a zx zx.length ∧ StW w wx (([(w.heap.size, [.int .i64 rx, .int .i64 cx, .slice ax zx.length px]), (w.heap.size + 1, [.int .i64 ry, .int .i64 cy, .slice ay zy.length py]), (b9, [.pointer u.p, .int .i64 u.r, .int .i64 u.c, .int .i64 u.o, .int .i64 u.d, .int .i64 u.u]), (b10, [.pointer v.p, .int .i64 v.r, .int .i64 v.c, .int .i64 v.o, .int .i64 v.d, .int .i64 v.u])] ++ [(P, [.int .i64 ry, .int .i64 cy, .slice aw L.length cw])]) ++ [(P14, [.int .i64 rx, .int .i64 cx, .slice am K.length cm])]) u v su sv xs ys ∧ FlN wx aw L su sv ∧ FlN wx am K su sv ∧ (∀ p ∈ (([(w.heap.size, [.int .i64 rx, .int .i64 cx, .slice ax zx.length px]), (w.heap.size + 1, [.int .i64 ry, .int .i64 cy, .slice ay zy.length py]), (b9, [.pointer u.p, .int .i64 u.r, .int .i64 u.c, .int .i64 u.o, .int .i64 u.d, .int .i64 u.u]), (b10, [.pointer v.p, .int .i64 v.r, .int .i64 v.c, .int .i64 v.o, .int .i64 v.d, .int .i64 v.u])] ++ [(P, [.int .i64 ry, .int .i64 cy, .slice aw L.length cw])]) : List (Nat × List Value)), p.1 ≠ P14) ∧ w.heap.size ≤ P14)
        case first =>
          have hdr : Below y4.heap.size y4 y4.drew := below_drewN 1 (Below.refl _ y4)
          have TA := Lib.hid (T48.out.step hdr)
          have FB := Lib.hid (G49.out.step hdr)
          have HS := Lib.hid (show ∀ W, Below y4.drew.heap.size y4.drew W → (fun W => (∀ i, W.cell? ⟨w.heap.size, i, none⟩ = ([.int .i64 rx, .int .i64 cx, .slice ax zx.length px] : List Value)[i]?)) W from fun W h => ((TA.out.step h).get 0 rfl).cell)
          refine wp_region_many 7 60 [(0, 0), (0, 1), (0, 2), (0, 3), (3, 6), (1, 4), (1, 5), (2, 6)] (fun W => (∀ i, W.cell? ⟨w.heap.size, i, none⟩ = ([.int .i64 rx, .int .i64 cx, .slice ax zx.length px] : List Value)[i]?)) (by kernel_rfl) (by kernel_rfl) (HS.out _ (Below.refl _ _)) ?_
          clear hdr
          generalize y4.drew = v0 at *
          have HR := Lib.hid (Below.refl v0.heap.size v0)
          iterate 1 (refine fm_take (v := ?_) rfl rfl ?_ ?_; rotate_left; (next => (intro w' hSw; (try dsimp only at hSw); go_simp; (try (rw [if_pos (by omega)]; go_simp)); (try with_reducible rfl))); (simp only [Act.put, List.setIfInBounds_toArray, List.set_cons_zero, List.set_cons_succ]))
          iterate 1 (refine fm_take (v := ?_) rfl rfl ?_ ?_; rotate_left; (next => (intro w' hSw; (try dsimp only at hSw); go_simp; (try (rw [if_pos (by omega)]; go_simp)); (try with_reducible rfl))); (simp only [Act.put, List.setIfInBounds_toArray, List.set_cons_zero, List.set_cons_succ]))
          iterate 1 (refine fm_take (v := ?_) rfl rfl ?_ ?_; rotate_left; (next => (intro w' hSw; (try dsimp only at hSw); go_simp; (try (rw [if_pos (by omega)]; go_simp)); (try with_reducible rfl))); (simp only [Act.put, List.setIfInBounds_toArray, List.set_cons_zero, List.set_cons_succ]))
          iterate 1 (refine fm_take (v := ?_) rfl rfl ?_ ?_; rotate_left; (next => (intro w' hSw; (try dsimp only at hSw); go_simp; (try (rw [if_pos (by omega)]; go_simp)); (try with_reducible rfl))); (simp only [Act.put, List.setIfInBounds_toArray, List.set_cons_zero, List.set_cons_succ]))
          refine fm_from ?_
          refine fm_one1 ?_ ?_
          · skip
            refine opW_take rfl rfl ?_
            go_simp
            refine (RScal_any v0 a zx.length ax zx px (Hx.out.fls _ TA.out.below) rfl (by have := Hx.out.hl; omega)).mono ?_
            rintro e v1 ⟨⟨dv, rfl, hO⟩, hb⟩
            obtain ⟨am, cm, rfl, hFm⟩ := hO.fln (TA.out.ltu PP.out.1).1 (TA.out.ltv PP.out.2).1
            have FM0 := Lib.hid hFm
            clear hO hFm
            have HR1 := Lib.hid (below_step HR.out HR.out.size hb)
            have Z1_T := Lib.hid (TA.out.step hb)
            have Z1_W := Lib.hid (FB.out.step hb)
            clear hb
            refine ⟨HS.out _ HR1.out, ?_⟩
            refine fm_one1 ?_ ?_
            · skip
              refine opW_take rfl rfl ?_
              go_simp
              refine (like_any _ rx cx ax am zx.length px _ cm).mono ?_
              rintro e v2 ⟨rfl, hb⟩
              have HR2 := Lib.hid (below_step HR1.out HR1.out.size hb)
              have Z2_T := Lib.hid (Z1_T.out.step hb)
              have Z2_W := Lib.hid (Z1_W.out.step hb)
              have Z2_M := Lib.hid (FM0.out.step hb)
              clear hb
              refine ⟨HS.out _ HR2.out, ?_⟩
              refine fm_now ?_
              refine opW_take rfl rfl ?_
              go_simp
              have hbA : Below v2.heap.size v2 (v2.alloc (.cells #[.int .i64 0, .int .i64 0, .slice none 0 0] 24)) := (Below.refl _ _).alloc (Nat.le_refl _) _
              have HDD := Lib.hid (show (∀ p ∈ (([(w.heap.size, [.int .i64 rx, .int .i64 cx, .slice ax zx.length px]), (w.heap.size + 1, [.int .i64 ry, .int .i64 cy, .slice ay zy.length py]), (b9, [.pointer u.p, .int .i64 u.r, .int .i64 u.c, .int .i64 u.o, .int .i64 u.d, .int .i64 u.u]), (b10, [.pointer v.p, .int .i64 v.r, .int .i64 v.c, .int .i64 v.o, .int .i64 v.d, .int .i64 v.u])] ++ [(P, [.int .i64 ry, .int .i64 cy, .slice aw L.length cw])]) : List (Nat × List Value)), p.1 ≠ v2.heap.size) ∧ w.heap.size ≤ v2.heap.size from ⟨fun p hp => by have := (Z2_T.out.bx p hp).lt; omega, Z2_T.out.below.size⟩)
              have TN := Lib.hid (Z2_T.out.alloc PP.out.1 PP.out.2 [.int .i64 0, .int .i64 0, .slice none 0 0] 24)
              have HR3 := Lib.hid (below_step HR2.out HR2.out.size hbA)
              have Z3_W := Lib.hid (Z2_W.out.step hbA)
              have Z3_M := Lib.hid (Z2_M.out.step hbA)
              clear hbA
              generalize v2.alloc (.cells #[.int .i64 0, .int .i64 0, .slice none 0 0] 24) = v3 at *
              refine ⟨HS.out _ HR3.out, ?_⟩
              refine fm_skip rfl ?_
              refine fm_nil ?_
              obtain ⟨c1, c2, c3⟩ := (TN.out.get 5 rfl).facts
              go_simp
              go_wp2
              refine NoPanic.normal ?_
              go_wp2_with fail
              go_meet
              case rel => exact ⟨_, am, cm, _, rfl, rfl, TN.out.put3 PP.out.1 PP.out.2 HDD.out.1 HDD.out.2 _ _ _, Z3_W.out.put3 (TN.out.get 5 rfl) (mat_nofloat _ _ _ _ _) _ _ _, Z3_M.out.put3 (TN.out.get 5 rfl) (mat_nofloat _ _ _ _ _) _ _ _, HDD.out.1, HDD.out.2⟩
            · skip
              refine opW_take rfl rfl ?_
              go_simp
              have hbA : Below v1.heap.size v1 (v1.alloc (.cells #[.int .i64 0, .int .i64 0, .slice none 0 0] 24)) := (Below.refl _ _).alloc (Nat.le_refl _) _
              have HDD := Lib.hid (show (∀ p ∈ (([(w.heap.size, [.int .i64 rx, .int .i64 cx, .slice ax zx.length px]), (w.heap.size + 1, [.int .i64 ry, .int .i64 cy, .slice ay zy.length py]), (b9, [.pointer u.p, .int .i64 u.r, .int .i64 u.c, .int .i64 u.o, .int .i64 u.d, .int .i64 u.u]), (b10, [.pointer v.p, .int .i64 v.r, .int .i64 v.c, .int .i64 v.o, .int .i64 v.d, .int .i64 v.u])] ++ [(P, [.int .i64 ry, .int .i64 cy, .slice aw L.length cw])]) : List (Nat × List Value)), p.1 ≠ v1.heap.size) ∧ w.heap.size ≤ v1.heap.size from ⟨fun p hp => by have := (Z1_T.out.bx p hp).lt; omega, Z1_T.out.below.size⟩)
              have TN := Lib.hid (Z1_T.out.alloc PP.out.1 PP.out.2 [.int .i64 0, .int .i64 0, .slice none 0 0] 24)
              have HR4 := Lib.hid (below_step HR1.out HR1.out.size hbA)
              have Z4_W := Lib.hid (Z1_W.out.step hbA)
              have Z4_M := Lib.hid (FM0.out.step hbA)
              clear hbA
              generalize v1.alloc (.cells #[.int .i64 0, .int .i64 0, .slice none 0 0] 24) = v4 at *
              refine ⟨HS.out _ HR4.out, ?_⟩
              refine fm_one ?_
              refine opW_take rfl rfl ?_
              go_simp
              refine (like_any _ rx cx ax am zx.length px _ cm).mono ?_
              rintro e v5 ⟨rfl, hb⟩
              have HR5 := Lib.hid (below_step HR4.out HR4.out.size hb)
              have Z5_T := Lib.hid (TN.out.step hb)
              have Z5_W := Lib.hid (Z4_W.out.step hb)
              have Z5_M := Lib.hid (Z4_M.out.step hb)
              clear hb
              refine ⟨HS.out _ HR5.out, ?_⟩
              refine fm_skip rfl ?_
              refine fm_nil ?_
              obtain ⟨c1, c2, c3⟩ := (Z5_T.out.get 5 rfl).facts
              go_simp
              go_wp2
              refine NoPanic.normal ?_
              go_wp2_with fail
              go_meet
              case rel => exact ⟨_, am, cm, _, rfl, rfl, Z5_T.out.put3 PP.out.1 PP.out.2 HDD.out.1 HDD.out.2 _ _ _, Z5_W.out.put3 (Z5_T.out.get 5 rfl) (mat_nofloat _ _ _ _ _) _ _ _, Z5_M.out.put3 (Z5_T.out.get 5 rfl) (mat_nofloat _ _ _ _ _) _ _ _, HDD.out.1, HDD.out.2⟩
          · skip
            refine opW_take rfl rfl ?_
            go_simp
            have hbA : Below v0.heap.size v0 (v0.alloc (.cells #[.int .i64 0, .int .i64 0, .slice none 0 0] 24)) := (Below.refl _ _).alloc (Nat.le_refl _) _
            have HDD := Lib.hid (show (∀ p ∈ (([(w.heap.size, [.int .i64 rx, .int .i64 cx, .slice ax zx.length px]), (w.heap.size + 1, [.int .i64 ry, .int .i64 cy, .slice ay zy.length py]), (b9, [.pointer u.p, .int .i64 u.r, .int .i64 u.c, .int .i64 u.o, .int .i64 u.d, .int .i64 u.u]), (b10, [.pointer v.p, .int .i64 v.r, .int .i64 v.c, .int .i64 v.o, .int .i64 v.d, .int .i64 v.u])] ++ [(P, [.int .i64 ry, .int .i64 cy, .slice aw L.length cw])]) : List (Nat × List Value)), p.1 ≠ v0.heap.size) ∧ w.heap.size ≤ v0.heap.size from ⟨fun p hp => by have := (TA.out.bx p hp).lt; omega, TA.out.below.size⟩)
            have TN := Lib.hid (TA.out.alloc PP.out.1 PP.out.2 [.int .i64 0, .int .i64 0, .slice none 0 0] 24)
            have HR6 := Lib.hid (below_step HR.out HR.out.size hbA)
            have Z6_W := Lib.hid (FB.out.step hbA)
            clear hbA
            generalize v0.alloc (.cells #[.int .i64 0, .int .i64 0, .slice none 0 0] 24) = v6 at *
            refine ⟨HS.out _ HR6.out, ?_⟩
            refine fm_one ?_
            refine opW_take rfl rfl ?_
            go_simp
            refine (RScal_any v6 a zx.length ax zx px (Hx.out.fls _ TN.out.below) rfl (by have := Hx.out.hl; omega)).mono ?_
            rintro e v7 ⟨⟨dv, rfl, hO⟩, hb⟩
            obtain ⟨am, cm, rfl, hFm⟩ := hO.fln (TN.out.ltu PP.out.1).1 (TN.out.ltv PP.out.2).1
            have FM0 := Lib.hid hFm
            clear hO hFm
            have HR7 := Lib.hid (below_step HR6.out HR6.out.size hb)
            have Z7_T := Lib.hid (TN.out.step hb)
            have Z7_W := Lib.hid (Z6_W.out.step hb)
            clear hb
            refine ⟨HS.out _ HR7.out, ?_⟩
            refine fm_one ?_
            refine opW_take rfl rfl ?_
            go_simp
            refine (like_any _ rx cx ax am zx.length px _ cm).mono ?_
            rintro e v8 ⟨rfl, hb⟩
            have HR8 := Lib.hid (below_step HR7.out HR7.out.size hb)
            have Z8_T := Lib.hid (Z7_T.out.step hb)
            have Z8_W := Lib.hid (Z7_W.out.step hb)
            have Z8_M := Lib.hid (FM0.out.step hb)
            clear hb
            refine ⟨HS.out _ HR8.out, ?_⟩
            refine fm_skip rfl ?_
            refine fm_nil ?_
            obtain ⟨c1, c2, c3⟩ := (Z8_T.out.get 5 rfl).facts
            go_simp
            go_wp2
            refine NoPanic.normal ?_
            go_wp2_with fail
            go_meet
            case rel => exact ⟨_, am, cm, _, rfl, rfl, Z8_T.out.put3 PP.out.1 PP.out.2 HDD.out.1 HDD.out.2 _ _ _, Z8_W.out.put3 (Z8_T.out.get 5 rfl) (mat_nofloat _ _ _ _ _) _ _ _, Z8_M.out.put3 (Z8_T.out.get 5 rfl) (mat_nofloat _ _ _ _ _) _ _ _, HDD.out.1, HDD.out.2⟩
        case rest =>
          obtain ⟨P14, am, cm, K, rfl, hK, hT, hF, hG, hD⟩ := hcut
          have T50 := Lib.hid hT
          have FC := Lib.hid hF
          have FD := Lib.hid hG
          have HDD := Lib.hid hD
          have HKe := Lib.hid hK
          clear hK hT hF hG hD
          obtain ⟨f01, f02, f03⟩ := (T50.out.get 0 rfl).facts
          go_wp2_with fail
          refine (HVx.out _).mono ?_
          rintro e y5 ⟨rfl, hb⟩
          have T51 := Lib.hid (T50.out.step hb)
          have G52 := Lib.hid (FC.out.step hb)
          have G53 := Lib.hid (FD.out.step hb)
          clear f01 f02 f03 hb
          dsimp only
          go_upto_if 83 with (fail)
          go_cut [] from 84 to 84 (fun wx => ∃ (am : Option Addr) (cm : Nat), StW w wx (([(w.heap.size, [.int .i64 rx, .int .i64 cx, .slice ax zx.length px]), (w.heap.size + 1, [.int .i64 ry, .int .i64 cy, .slice ay zy.length py]), (b9, [.pointer u.p, .int .i64 u.r, .int .i64 u.c, .int .i64 u.o, .int .i64 u.d, .int .i64 u.u]), (b10, [.pointer v.p, .int .i64 v.r, .int .i64 v.c, .int .i64 v.o, .int .i64 v.d, .int .i64 v.u])] ++ [(P, [.int .i64 ry, .int .i64 cy, .slice aw L.length cw])]) ++ [(P14, [.int .i64 rx, .int .i64 cx, .slice am M.length cm])]) u v su sv xs ys ∧ FlN wx aw L su sv ∧ FlN wx am M su sv)
          case first =>
            cases q1
            · skip
              obtain rfl : M = zx := HMe.out
              obtain ⟨f01, f02, f03⟩ := (T51.out.get 0 rfl).facts
              obtain ⟨f51, f52, f53⟩ := (T51.out.get 5 rfl).facts
              go_wp2_with fail
              go_meet
              case rel => exact ⟨ax, px, T51.out.put3 PP.out.1 PP.out.2 HDD.out.1 HDD.out.2 _ _ _, G52.out.put3 (T51.out.get 5 rfl) (mat_nofloat _ _ _ _ _) _ _ _, (FlN.of (Hx.out.fls w (Below.refl _ _)) T51.out.below T51.out.lu T51.out.lv).put3 (T51.out.get 5 rfl) (mat_nofloat _ _ _ _ _) _ _ _⟩
            · skip
              obtain rfl : M = K := HMe.out.trans HKe.out.symm
              go_wp2_with fail
              go_meet
              case rel => exact ⟨am, cm, T51.out, G52.out, G53.out⟩
          case rest =>
            clear HDD HKe
            obtain ⟨ao, co, hT, hF, hG⟩ := hcut
            have T54 := Lib.hid hT
            have FE := Lib.hid hF
            have FG := Lib.hid hG
            clear hT hF hG
            go_upto_region 18 with (fail)
            go_cut [106] from 85 to 105 (fun s106 wx => s106 = .bool false ∧ StW w wx (([(w.heap.size, [.int .i64 rx, .int .i64 cx, .slice ax zx.length px]), (w.heap.size + 1, [.int .i64 ry, .int .i64 cy, .slice ay zy.length py]), (b9, [.pointer u.p, .int .i64 u.r, .int .i64 u.c, .int .i64 u.o, .int .i64 u.d, .int .i64 u.u]), (b10, [.pointer v.p, .int .i64 v.r, .int .i64 v.c, .int .i64 v.o, .int .i64 v.d, .int .i64 v.u])] ++ [(P, [.int .i64 ry, .int .i64 cy, .slice aw L.length cw])]) ++ [(P14, [.int .i64 rx, .int .i64 cx, .slice ao M.length co])]) u v su sv xs ys ∧ FlN wx aw L su sv ∧ FlN wx ao M su sv)
            case first =>
              have hdr : Below wc.heap.size wc wc.drew := below_drewN 1 (Below.refl _ wc)
              have T55 := Lib.hid (T54.out.step hdr)
              have G56 := Lib.hid (FE.out.step hdr)
              have G57 := Lib.hid (FG.out.step hdr)
              have HS := Lib.hid (show ∀ W, Below wc.drew.heap.size wc.drew W → (fun W => (∀ i, W.cell? ⟨w.heap.size, i, none⟩ = ([.int .i64 rx, .int .i64 cx, .slice ax zx.length px] : List Value)[i]?) ∧ (∀ i, W.cell? ⟨b9, i, none⟩ = ([.pointer u.p, .int .i64 u.r, .int .i64 u.c, .int .i64 u.o, .int .i64 u.d, .int .i64 u.u] : List Value)[i]?) ∧ (∀ i, W.cell? ⟨P14, i, none⟩ = ([.int .i64 rx, .int .i64 cx, .slice ao M.length co] : List Value)[i]?)) W from fun W h => ⟨((T55.out.step h).get 0 rfl).cell, ((T55.out.step h).get 2 rfl).cell, ((T55.out.step h).get 5 rfl).cell⟩)
              have hE := HF.out
              cases q1
              · skip
                simp only [Bool.false_and, Bool.and_false, Bool.true_and, Bool.and_true, Bool.and_self, Bool.false_eq_true, if_false, if_true] at hE
                subst hE
                refine wp_region_many 19 60 [(0, 0), (0, 3), (1, 1), (0, 2), (1, 4), (0, 5), (0, 6), (0, 7), (1, 8), (0, 9), (0, 10), (0, 11), (1, 12), (0, 13), (0, 14), (0, 15), (0, 16), (0, 17), (0, 18)] (fun W => (∀ i, W.cell? ⟨w.heap.size, i, none⟩ = ([.int .i64 rx, .int .i64 cx, .slice ax zx.length px] : List Value)[i]?) ∧ (∀ i, W.cell? ⟨b9, i, none⟩ = ([.pointer u.p, .int .i64 u.r, .int .i64 u.c, .int .i64 u.o, .int .i64 u.d, .int .i64 u.u] : List Value)[i]?) ∧ (∀ i, W.cell? ⟨P14, i, none⟩ = ([.int .i64 rx, .int .i64 cx, .slice ao M.length co] : List Value)[i]?)) (by kernel_rfl) (by kernel_rfl) (HS.out _ (Below.refl _ _)) ?_
                clear hdr
                generalize wc.drew = v0 at *
                have HR := Lib.hid (Below.refl v0.heap.size v0)
                iterate 1 (refine fm_take (v := ?_) rfl rfl ?_ ?_; rotate_left; (next => (intro w' hSw; (try dsimp only at hSw); go_simp; (try (rw [if_pos (by omega)]; go_simp)); (try with_reducible rfl))); (simp only [Act.put, List.setIfInBounds_toArray, List.set_cons_zero, List.set_cons_succ]))
                iterate 1 (refine fm_take (v := ?_) rfl rfl ?_ ?_; rotate_left; (next => (intro w' hSw; (try dsimp only at hSw); go_simp; (try (rw [if_pos (by omega)]; go_simp)); (try with_reducible rfl))); (simp only [Act.put, List.setIfInBounds_toArray, List.set_cons_zero, List.set_cons_succ]))
                refine fm_one ?_
                refine opW_take rfl rfl ?_
                go_simp
                refine (num8_any _ _).mono ?_
                rintro e w' ⟨rfl, rfl⟩
                refine ⟨HS.out _ HR.out, ?_⟩
                iterate 1 (refine fm_take (v := ?_) rfl rfl ?_ ?_; rotate_left; (next => (intro w' hSw; (try dsimp only at hSw); go_simp; (try (rw [if_pos (by omega)]; go_simp)); (try with_reducible rfl))); (simp only [Act.put, List.setIfInBounds_toArray, List.set_cons_zero, List.set_cons_succ]))
                refine fm_one ?_
                refine opW_take rfl rfl ?_
                go_simp
                refine (HVx.out _).mono ?_
                rintro e y6 ⟨rfl, hb⟩
                have T58 := Lib.hid (T55.out.step hb)
                have G59 := Lib.hid (G56.out.step hb)
                have G60 := Lib.hid (G57.out.step hb)
                have HR2 := Lib.hid (below_step HR.out HR.out.size hb)
                clear hb
                refine ⟨HS.out _ HR2.out, ?_⟩
                iterate 1 (refine fm_take (v := ?_) rfl rfl ?_ ?_; rotate_left; (next => (intro w' hSw; (try dsimp only at hSw); go_simp; (try (rw [if_pos (by omega)]; go_simp)); (try with_reducible rfl))); (simp only [Act.put, List.setIfInBounds_toArray, List.set_cons_zero, List.set_cons_succ]))
                iterate 1 (refine fm_take (v := ?_) rfl rfl ?_ ?_; rotate_left; (next => (intro w' hSw; (try dsimp only at hSw); go_simp; (try (rw [if_pos (by omega)]; go_simp)); (try with_reducible rfl))); (simp only [Act.put, List.setIfInBounds_toArray, List.set_cons_zero, List.set_cons_succ]))
                iterate 1 (refine fm_take (v := ?_) rfl rfl ?_ ?_; rotate_left; (next => (intro w' hSw; (try dsimp only at hSw); go_simp; (try (rw [if_pos (by omega)]; go_simp)); (try with_reducible rfl))); (simp only [Act.put, List.setIfInBounds_toArray, List.set_cons_zero, List.set_cons_succ]))
                refine fm_one ?_
                refine opW_take rfl rfl ?_
                go_simp
                refine (num8_any _ _).mono ?_
                rintro e w' ⟨rfl, rfl⟩
                refine ⟨HS.out _ HR2.out, ?_⟩
                iterate 1 (refine fm_take (v := ?_) rfl rfl ?_ ?_; rotate_left; (next => (intro w' hSw; (try dsimp only at hSw); go_simp; (try (rw [if_pos (by omega)]; go_simp)); (try with_reducible rfl))); (simp only [Act.put, List.setIfInBounds_toArray, List.set_cons_zero, List.set_cons_succ]))
                iterate 1 (refine fm_take (v := ?_) rfl rfl ?_ ?_; rotate_left; (next => (intro w' hSw; (try dsimp only at hSw); go_simp; (try (rw [if_pos (by omega)]; go_simp)); (try with_reducible rfl))); (simp only [Act.put, List.setIfInBounds_toArray, List.set_cons_zero, List.set_cons_succ]))
                iterate 1 (refine fm_take (v := ?_) rfl rfl ?_ ?_; rotate_left; (next => (intro w' hSw; (try dsimp only at hSw); go_simp; (try (rw [if_pos (by omega)]; go_simp)); (try with_reducible rfl))); (simp only [Act.put, List.setIfInBounds_toArray, List.set_cons_zero, List.set_cons_succ]))
                refine fm_one ?_
                refine opW_take rfl rfl ?_
                go_simp
                refine (num8_any _ _).mono ?_
                rintro e w' ⟨rfl, rfl⟩
                refine ⟨HS.out _ HR2.out, ?_⟩
                iterate 1 (refine fm_take (v := ?_) rfl rfl ?_ ?_; rotate_left; (next => (intro w' hSw; (try dsimp only at hSw); go_simp; (try (rw [if_pos (by omega)]; go_simp)); (try with_reducible rfl))); (simp only [Act.put, List.setIfInBounds_toArray, List.set_cons_zero, List.set_cons_succ]))
                iterate 1 (refine fm_take (v := ?_) rfl rfl ?_ ?_; rotate_left; (next => (intro w' hSw; (try dsimp only at hSw); go_simp; (try (rw [if_pos (by omega)]; go_simp)); (try with_reducible rfl))); (simp only [Act.put, List.setIfInBounds_toArray, List.set_cons_zero, List.set_cons_succ]))
                iterate 1 (refine fm_take (v := ?_) rfl rfl ?_ ?_; rotate_left; (next => (intro w' hSw; (try dsimp only at hSw); go_simp; (try (rw [if_pos (by omega)]; go_simp)); (try with_reducible rfl))); (simp only [Act.put, List.setIfInBounds_toArray, List.set_cons_zero, List.set_cons_succ]))
                iterate 1 (refine fm_take (v := ?_) rfl rfl ?_ ?_; rotate_left; (next => (intro w' hSw; (try dsimp only at hSw); go_simp; (try (rw [if_pos (by omega)]; go_simp)); (try with_reducible rfl))); (simp only [Act.put, List.setIfInBounds_toArray, List.set_cons_zero, List.set_cons_succ]))
                iterate 1 (refine fm_take (v := ?_) rfl rfl ?_ ?_; rotate_left; (next => (intro w' hSw; (try dsimp only at hSw); go_simp; (try (rw [if_pos (by omega)]; go_simp)); (try with_reducible rfl))); (simp only [Act.put, List.setIfInBounds_toArray, List.set_cons_zero, List.set_cons_succ]))
                iterate 1 (refine fm_take (v := ?_) rfl rfl ?_ ?_; rotate_left; (next => (intro w' hSw; (try dsimp only at hSw); go_simp; (try (rw [if_pos (by omega)]; go_simp)); (try with_reducible rfl))); (simp only [Act.put, List.setIfInBounds_toArray, List.set_cons_zero, List.set_cons_succ]))
                refine fm_nil ?_
                go_simp
                go_wp2_with fail
                refine (shows_any _ u su xs rx cx ao M co T58.out.ou.1 T58.out.wu PU.out.er PU.out.ec G60.out.fls HMM.out.2 (by have := HMM.out.1; have := Hx.out.hl; have := Hx.out.hn; omega) SC.out.2).mono ?_
                rintro e y7 ⟨rfl, hb⟩
                have T61 := Lib.hid (T58.out.step hb)
                have G62 := Lib.hid (G59.out.step hb)
                have G63 := Lib.hid (G60.out.step hb)
                clear hb
                dsimp only
                go_wp2
                refine NoPanic.normal ?_
                go_wp2_with fail
                go_meet
                case rel => exact ⟨rfl, T61.out, G62.out, G63.out⟩
              · skip
                simp only [Bool.false_and, Bool.and_false, Bool.true_and, Bool.and_true, Bool.and_self, Bool.false_eq_true, if_false, if_true] at hE
                subst hE
                refine wp_region_many 19 60 [(0, 0), (0, 3), (1, 1), (0, 2), (1, 4), (0, 5), (0, 6), (0, 7), (1, 8), (0, 9), (0, 10), (0, 11), (0, 12), (0, 13), (0, 14), (0, 15), (0, 16), (0, 17), (0, 18)] (fun W => (∀ i, W.cell? ⟨w.heap.size, i, none⟩ = ([.int .i64 rx, .int .i64 cx, .slice ax zx.length px] : List Value)[i]?) ∧ (∀ i, W.cell? ⟨b9, i, none⟩ = ([.pointer u.p, .int .i64 u.r, .int .i64 u.c, .int .i64 u.o, .int .i64 u.d, .int .i64 u.u] : List Value)[i]?) ∧ (∀ i, W.cell? ⟨P14, i, none⟩ = ([.int .i64 rx, .int .i64 cx, .slice ao M.length co] : List Value)[i]?)) (by kernel_rfl) (by kernel_rfl) (HS.out _ (Below.refl _ _)) ?_
                clear hdr
                generalize wc.drew = v0 at *
                have HR := Lib.hid (Below.refl v0.heap.size v0)
                iterate 1 (refine fm_take (v := ?_) rfl rfl ?_ ?_; rotate_left; (next => (intro w' hSw; (try dsimp only at hSw); go_simp; (try (rw [if_pos (by omega)]; go_simp)); (try with_reducible rfl))); (simp only [Act.put, List.setIfInBounds_toArray, List.set_cons_zero, List.set_cons_succ]))
                iterate 1 (refine fm_take (v := ?_) rfl rfl ?_ ?_; rotate_left; (next => (intro w' hSw; (try dsimp only at hSw); go_simp; (try (rw [if_pos (by omega)]; go_simp)); (try with_reducible rfl))); (simp only [Act.put, List.setIfInBounds_toArray, List.set_cons_zero, List.set_cons_succ]))
                refine fm_one ?_
                refine opW_take rfl rfl ?_
                go_simp
                refine (num8_any _ _).mono ?_
                rintro e w' ⟨rfl, rfl⟩
                refine ⟨HS.out _ HR.out, ?_⟩
                iterate 1 (refine fm_take (v := ?_) rfl rfl ?_ ?_; rotate_left; (next => (intro w' hSw; (try dsimp only at hSw); go_simp; (try (rw [if_pos (by omega)]; go_simp)); (try with_reducible rfl))); (simp only [Act.put, List.setIfInBounds_toArray, List.set_cons_zero, List.set_cons_succ]))
                refine fm_one ?_
                refine opW_take rfl rfl ?_
                go_simp
                refine (HVx.out _).mono ?_
                rintro e y6 ⟨rfl, hb⟩
                have T58 := Lib.hid (T55.out.step hb)
                have G59 := Lib.hid (G56.out.step hb)
                have G60 := Lib.hid (G57.out.step hb)
                have HR2 := Lib.hid (below_step HR.out HR.out.size hb)
                clear hb
                refine ⟨HS.out _ HR2.out, ?_⟩
                iterate 1 (refine fm_take (v := ?_) rfl rfl ?_ ?_; rotate_left; (next => (intro w' hSw; (try dsimp only at hSw); go_simp; (try (rw [if_pos (by omega)]; go_simp)); (try with_reducible rfl))); (simp only [Act.put, List.setIfInBounds_toArray, List.set_cons_zero, List.set_cons_succ]))
                iterate 1 (refine fm_take (v := ?_) rfl rfl ?_ ?_; rotate_left; (next => (intro w' hSw; (try dsimp only at hSw); go_simp; (try (rw [if_pos (by omega)]; go_simp)); (try with_reducible rfl))); (simp only [Act.put, List.setIfInBounds_toArray, List.set_cons_zero, List.set_cons_succ]))
                iterate 1 (refine fm_take (v := ?_) rfl rfl ?_ ?_; rotate_left; (next => (intro w' hSw; (try dsimp only at hSw); go_simp; (try (rw [if_pos (by omega)]; go_simp)); (try with_reducible rfl))); (simp only [Act.put, List.setIfInBounds_toArray, List.set_cons_zero, List.set_cons_succ]))
                refine fm_one ?_
                refine opW_take rfl rfl ?_
                go_simp
                refine (num8_any _ _).mono ?_
                rintro e w' ⟨rfl, rfl⟩
                refine ⟨HS.out _ HR2.out, ?_⟩
                iterate 1 (refine fm_take (v := ?_) rfl rfl ?_ ?_; rotate_left; (next => (intro w' hSw; (try dsimp only at hSw); go_simp; (try (rw [if_pos (by omega)]; go_simp)); (try with_reducible rfl))); (simp only [Act.put, List.setIfInBounds_toArray, List.set_cons_zero, List.set_cons_succ]))
                iterate 1 (refine fm_take (v := ?_) rfl rfl ?_ ?_; rotate_left; (next => (intro w' hSw; (try dsimp only at hSw); go_simp; (try (rw [if_pos (by omega)]; go_simp)); (try with_reducible rfl))); (simp only [Act.put, List.setIfInBounds_toArray, List.set_cons_zero, List.set_cons_succ]))
                iterate 1 (refine fm_out rfl rfl ?_; (simp only [Act.put, List.setIfInBounds_toArray, List.set_cons_zero, List.set_cons_succ]))
                iterate 1 (refine fm_out rfl rfl ?_; (simp only [Act.put, List.setIfInBounds_toArray, List.set_cons_zero, List.set_cons_succ]))
                iterate 1 (refine fm_out rfl rfl ?_; (simp only [Act.put, List.setIfInBounds_toArray, List.set_cons_zero, List.set_cons_succ]))
                iterate 1 (refine fm_take (v := ?_) rfl rfl ?_ ?_; rotate_left; (next => (intro w' hSw; (try dsimp only at hSw); go_simp; (try (rw [if_pos (by omega)]; go_simp)); (try with_reducible rfl))); (simp only [Act.put, List.setIfInBounds_toArray, List.set_cons_zero, List.set_cons_succ]))
                iterate 1 (refine fm_take (v := ?_) rfl rfl ?_ ?_; rotate_left; (next => (intro w' hSw; (try dsimp only at hSw); go_simp; (try (rw [if_pos (by omega)]; go_simp)); (try with_reducible rfl))); (simp only [Act.put, List.setIfInBounds_toArray, List.set_cons_zero, List.set_cons_succ]))
                iterate 1 (refine fm_take (v := ?_) rfl rfl ?_ ?_; rotate_left; (next => (intro w' hSw; (try dsimp only at hSw); go_simp; (try (rw [if_pos (by omega)]; go_simp)); (try with_reducible rfl))); (simp only [Act.put, List.setIfInBounds_toArray, List.set_cons_zero, List.set_cons_succ]))
                iterate 1 (refine fm_take (v := ?_) rfl rfl ?_ ?_; rotate_left; (next => (intro w' hSw; (try dsimp only at hSw); go_simp; (try (rw [if_pos (by omega)]; go_simp)); (try with_reducible rfl))); (simp only [Act.put, List.setIfInBounds_toArray, List.set_cons_zero, List.set_cons_succ]))
                iterate 1 (refine fm_take (v := ?_) rfl rfl ?_ ?_; rotate_left; (next => (intro w' hSw; (try dsimp only at hSw); go_simp; (try (rw [if_pos (by omega)]; go_simp)); (try with_reducible rfl))); (simp only [Act.put, List.setIfInBounds_toArray, List.set_cons_zero, List.set_cons_succ]))
                refine fm_nil ?_
                go_simp
                go_wp2_with fail
                refine (shows_any _ u su xs rx cx ao M co T58.out.ou.1 T58.out.wu PU.out.er PU.out.ec G60.out.fls HMM.out.2 (by have := HMM.out.1; have := Hx.out.hl; have := Hx.out.hn; omega) SC.out.2).mono ?_
                rintro e y7 ⟨rfl, hb⟩
                have T61 := Lib.hid (T58.out.step hb)
                have G62 := Lib.hid (G59.out.step hb)
                have G63 := Lib.hid (G60.out.step hb)
                clear hb
                dsimp only
                go_wp2
                refine NoPanic.normal ?_
                go_wp2_with fail
                go_meet
                case rel => exact ⟨rfl, T61.out, G62.out, G63.out⟩
            case rest =>
              obtain ⟨rfl, hT, hF, hG⟩ := hcut
              have T77 := Lib.hid hT
              have FH := Lib.hid hF
              have FI := Lib.hid hG
              clear hT hF hG
              have hk := T77.out.swap PU.out II.out.1 PV.out II.out.2.1 II.out.2.2.2.2 SC.out.1 AX.out.1 SC.out.2 HMM.out.1 AX.out.2 HLL.out.1
              obtain ⟨p1, e1⟩ : ∃ q, q = decide (rx = ry) := ⟨_, rfl⟩
              simp only [← e1] at hk HT1
              have GG1 := Lib.hid e1
              clear e1
              obtain ⟨p2, e2⟩ : ∃ q, q = decide (cx = cy) := ⟨_, rfl⟩
              simp only [← e2] at hk HT2
              have GG2 := Lib.hid e2
              clear e2
              obtain ⟨C, hC⟩ : ∃ C : Int, C = (if (p1 && p2) = true then (0 : Int) else 8) := ⟨_, rfl⟩
              rw [← hC] at hk
              have HC := Lib.hid hC
              have HK := Lib.hid hk
              clear hC hk
              obtain ⟨f21, f22, f23⟩ := (T77.out.get 2 rfl).facts
              obtain ⟨f31, f32, f33⟩ := (T77.out.get 3 rfl).facts
              go_wp2_with fail
              refine HK.out.mono ?_
              rintro e y6 ⟨rfl, hQ⟩
              have HQ := Lib.hid hQ
              clear f21 f22 f23 f31 f32 f33 hQ HK
              dsimp only
              have ht1 := HT1.out
              have ht2 := HT2.out
              have hC := HC.out
              cases p1
              · skip
                simp only [Bool.false_and, Bool.and_false, Bool.true_and, Bool.and_true, Bool.and_self, Bool.false_eq_true, if_false, if_true, Bool.not_false, Bool.not_true] at hC ht1 ht2 HQ
                subst hC
                obtain ⟨hT, hFs⟩ := HQ.out
                have TZ := Lib.hid hT
                have FJ := Lib.hid (hFs _ _ FH.out)
                have FK := Lib.hid (hFs _ _ FI.out)
                clear hT hFs
                obtain ⟨f01, f02, f03⟩ := (TZ.out.get 0 rfl).facts
                obtain ⟨f11, f12, f13⟩ := (TZ.out.get 1 rfl).facts
                obtain ⟨f21, f22, f23⟩ := (TZ.out.get 2 rfl).facts
                obtain ⟨f31, f32, f33⟩ := (TZ.out.get 3 rfl).facts
                obtain ⟨f41, f42, f43⟩ := (TZ.out.get 4 rfl).facts
                obtain ⟨f51, f52, f53⟩ := (TZ.out.get 5 rfl).facts
                go_wp2_with (go_at_call 22; refine (num8_any _ _).mono ?_; rintro e w' ⟨rfl, rfl⟩)
                refine (shows_any _ u su xs rx cx ao M co TZ.out.ou.1 TZ.out.wu PU.out.er PU.out.ec FK.out.fls HMM.out.2 (by have := HMM.out.1; have := Hx.out.hl; have := Hx.out.hn; omega) SC.out.2).mono ?_
                rintro e y7 ⟨rfl, hb⟩
                have T78 := Lib.hid (TZ.out.step hb)
                have G79 := Lib.hid (FJ.out.step hb)
                have G80 := Lib.hid (FK.out.step hb)
                clear f01 f02 f03 f11 f12 f13 f21 f22 f23 f31 f32 f33 f41 f42 f43 f51 f52 f53 hb
                dsimp only
                obtain ⟨f21, f22, f23⟩ := (T78.out.get 2 rfl).facts
                obtain ⟨f31, f32, f33⟩ := (T78.out.get 3 rfl).facts
                obtain ⟨f41, f42, f43⟩ := (T78.out.get 4 rfl).facts
                obtain ⟨f51, f52, f53⟩ := (T78.out.get 5 rfl).facts
                go_wp2_with fail
                refine (shows_any _ v sv ys ry cy aw L cw T78.out.ov.1 T78.out.wv PV.out.er PV.out.ec G79.out.fls HLL.out.2 (by have := HLL.out.1; have := Hy.out.hl; have := Hy.out.hn; omega) AX.out.2).mono ?_
                rintro e y8 ⟨rfl, hb⟩
                have T81 := Lib.hid (T78.out.step hb)
                have G82 := Lib.hid (G79.out.step hb)
                have G83 := Lib.hid (G80.out.step hb)
                clear f21 f22 f23 f31 f32 f33 f41 f42 f43 f51 f52 f53 hb
                dsimp only
                go_wp2_with fail
                refine (known08_any _).mono ?_
                rintro e y9 ⟨rfl, hb⟩
                have T84 := Lib.hid (T81.out.step hb)
                have G85 := Lib.hid (G82.out.step hb)
                have G86 := Lib.hid (G83.out.step hb)
                clear hb
                dsimp only
                go_wp2_with fail
                go_ret
                exact ⟨rfl, T84.out.below⟩
              · skip
                cases p2
                · skip
                  simp only [Bool.false_and, Bool.and_false, Bool.true_and, Bool.and_true, Bool.and_self, Bool.false_eq_true, if_false, if_true, Bool.not_false, Bool.not_true] at hC ht1 ht2 HQ
                  subst hC
                  obtain ⟨hT, hFs⟩ := HQ.out
                  have TZ := Lib.hid hT
                  have FJ := Lib.hid (hFs _ _ FH.out)
                  have FK := Lib.hid (hFs _ _ FI.out)
                  clear hT hFs
                  obtain ⟨f01, f02, f03⟩ := (TZ.out.get 0 rfl).facts
                  obtain ⟨f11, f12, f13⟩ := (TZ.out.get 1 rfl).facts
                  obtain ⟨f21, f22, f23⟩ := (TZ.out.get 2 rfl).facts
                  obtain ⟨f31, f32, f33⟩ := (TZ.out.get 3 rfl).facts
                  obtain ⟨f41, f42, f43⟩ := (TZ.out.get 4 rfl).facts
                  obtain ⟨f51, f52, f53⟩ := (TZ.out.get 5 rfl).facts
                  go_wp2_with (go_at_call 22; refine (num8_any _ _).mono ?_; rintro e w' ⟨rfl, rfl⟩)
                  refine (shows_any _ u su xs rx cx ao M co TZ.out.ou.1 TZ.out.wu PU.out.er PU.out.ec FK.out.fls HMM.out.2 (by have := HMM.out.1; have := Hx.out.hl; have := Hx.out.hn; omega) SC.out.2).mono ?_
                  rintro e y7 ⟨rfl, hb⟩
                  have T78 := Lib.hid (TZ.out.step hb)
                  have G79 := Lib.hid (FJ.out.step hb)
                  have G80 := Lib.hid (FK.out.step hb)
                  clear f01 f02 f03 f11 f12 f13 f21 f22 f23 f31 f32 f33 f41 f42 f43 f51 f52 f53 hb
                  dsimp only
                  obtain ⟨f21, f22, f23⟩ := (T78.out.get 2 rfl).facts
                  obtain ⟨f31, f32, f33⟩ := (T78.out.get 3 rfl).facts
                  obtain ⟨f41, f42, f43⟩ := (T78.out.get 4 rfl).facts
                  obtain ⟨f51, f52, f53⟩ := (T78.out.get 5 rfl).facts
                  go_wp2_with fail
                  refine (shows_any _ v sv ys ry cy aw L cw T78.out.ov.1 T78.out.wv PV.out.er PV.out.ec G79.out.fls HLL.out.2 (by have := HLL.out.1; have := Hy.out.hl; have := Hy.out.hn; omega) AX.out.2).mono ?_
                  rintro e y8 ⟨rfl, hb⟩
                  have T81 := Lib.hid (T78.out.step hb)
                  have G82 := Lib.hid (G79.out.step hb)
                  have G83 := Lib.hid (G80.out.step hb)
                  clear f21 f22 f23 f31 f32 f33 f41 f42 f43 f51 f52 f53 hb
                  dsimp only
                  go_wp2_with fail
                  refine (known08_any _).mono ?_
                  rintro e y9 ⟨rfl, hb⟩
                  have T84 := Lib.hid (T81.out.step hb)
                  have G85 := Lib.hid (G82.out.step hb)
                  have G86 := Lib.hid (G83.out.step hb)
                  clear hb
                  dsimp only
                  go_wp2_with fail
                  go_ret
                  exact ⟨rfl, T84.out.below⟩
                · skip
                  simp only [Bool.false_and, Bool.and_false, Bool.true_and, Bool.and_true, Bool.and_self, Bool.false_eq_true, if_false, if_true, Bool.not_false, Bool.not_true] at hC ht1 ht2 HQ
                  subst hC
                  have er := of_decide_eq_true GG1.out.symm
                  have ec := of_decide_eq_true GG2.out.symm
                  have ER := Lib.hid (And.intro er ec)
                  clear er ec
                  obtain ⟨X, Y, hT, hFs, hR1, hR2⟩ := HQ.out
                  have RR := Lib.hid (And.intro hR1 hR2)
                  have TZ := Lib.hid hT
                  have FJ := Lib.hid (hFs _ _ FH.out)
                  have FK := Lib.hid (hFs _ _ FI.out)
                  clear hT hFs hR1 hR2
                  obtain ⟨f01, f02, f03⟩ := (TZ.out.get 0 rfl).facts
                  obtain ⟨f11, f12, f13⟩ := (TZ.out.get 1 rfl).facts
                  obtain ⟨f21, f22, f23⟩ := (TZ.out.get 2 rfl).facts
                  obtain ⟨f31, f32, f33⟩ := (TZ.out.get 3 rfl).facts
                  obtain ⟨f41, f42, f43⟩ := (TZ.out.get 4 rfl).facts
                  obtain ⟨f51, f52, f53⟩ := (TZ.out.get 5 rfl).facts
                  go_wp2_with (go_at_call 22; refine (num8_any _ _).mono ?_; rintro e w' ⟨rfl, rfl⟩)
                  refine (shows_any _ u su X ry cy aw L cw TZ.out.ou.1 TZ.out.wu (PU.out.er.trans ER.out.1) (PU.out.ec.trans ER.out.2) FJ.out.fls HLL.out.2 (by have := HLL.out.1; have := Hy.out.hl; have := Hy.out.hn; omega) RR.out.1).mono ?_
                  rintro e y7 ⟨rfl, hb⟩
                  have T78 := Lib.hid (TZ.out.step hb)
                  have G79 := Lib.hid (FJ.out.step hb)
                  have G80 := Lib.hid (FK.out.step hb)
                  clear f01 f02 f03 f11 f12 f13 f21 f22 f23 f31 f32 f33 f41 f42 f43 f51 f52 f53 hb
                  dsimp only
                  obtain ⟨f21, f22, f23⟩ := (T78.out.get 2 rfl).facts
                  obtain ⟨f31, f32, f33⟩ := (T78.out.get 3 rfl).facts
                  obtain ⟨f41, f42, f43⟩ := (T78.out.get 4 rfl).facts
                  obtain ⟨f51, f52, f53⟩ := (T78.out.get 5 rfl).facts
                  go_wp2_with fail
                  refine (shows_any _ v sv Y rx cx ao M co T78.out.ov.1 T78.out.wv (PV.out.er.trans ER.out.1.symm) (PV.out.ec.trans ER.out.2.symm) G80.out.fls HMM.out.2 (by have := HMM.out.1; have := Hx.out.hl; have := Hx.out.hn; omega) RR.out.2).mono ?_
                  rintro e y8 ⟨rfl, hb⟩
                  have T81 := Lib.hid (T78.out.step hb)
                  have G82 := Lib.hid (G79.out.step hb)
                  have G83 := Lib.hid (G80.out.step hb)
                  clear f21 f22 f23 f31 f32 f33 f41 f42 f43 f51 f52 f53 hb
                  dsimp only
                  go_wp2_with fail
                  refine (known08_any _).mono ?_
                  rintro e y9 ⟨rfl, hb⟩
                  have T84 := Lib.hid (T81.out.step hb)
                  have G85 := Lib.hid (G82.out.step hb)
                  have G86 := Lib.hid (G83.out.step hb)
                  clear hb
                  dsimp only
                  go_wp2_with fail
                  go_ret
                  exact ⟨rfl, T84.out.below⟩
end Go.Proofs.Ytbcdpibcieadlaa
