/- Layer 8: the tests of Gemv and Ger (printed by gen_kh.py). No condition but on lengths. -/
import Derived.Test.YtbcdpibcieadlaaZz11
namespace Go.Proofs.Ytbcdpibcieadlaa
open Go Go.RowKit
set_option maxRecDepth 100000

/-- Is it a vector of so many places? -/
def vecN (x : Vw) (n : Nat) : Bool := vecV x.p x.r x.c && decide ((lenV x.p x.r x.c : Int) = (n : Int))
def fits_Gemv (m x y : Vw) : Bool := vecN x m.c && vecN y m.r
set_option maxHeartbeats 8000000 in
theorem Gemvf_any (w : World) (m x y : Vw) (km kx ky : Nat) (hm : Box w km m.cs) (hx : Box w kx x.cs) (hy : Box w ky y.cs) (sm : m.r ≤ 512 ∧ m.c ≤ 512) (sx : x.r ≤ 512 ∧ x.c ≤ 512) (sy : y.r ≤ 512 ∧ y.c ≤ 512) :
    Calls Try.prog 69 #[.pointer (some ⟨km, 0, none⟩), .pointer (some ⟨kx, 0, none⟩), .pointer (some ⟨ky, 0, none⟩)] w fun e w' => e = .returned (.bool (fits_Gemv m x y)) ∧ Below w.heap.size w w' := by
  have HC1 := Lib.hid (fun W => Cols_any m.p m.r m.c m.o m.d m.u W)
  have HC2 := Lib.hid (fun W => Rows_any m.p m.r m.c m.o m.d m.u W)
  have HT1 := Lib.hid (fun (n : Nat) W b hb => vectors_any W n b [x] hb (fun v hv => by rw [List.mem_singleton] at hv; rw [hv]; exact sx) (by simp))
  have HT2 := Lib.hid (fun (n : Nat) W b hb => vectors_any W n b [y] hb (fun v hv => by rw [List.mem_singleton] at hv; rw [hv]; exact sy) (by simp))
  unfold fits_Gemv
  have HS := Lib.hid (show ∀ W, Below w.heap.size w W → (fun W => (∀ i, W.cell? ⟨km, i, none⟩ = ([.pointer m.p, .int .i64 m.r, .int .i64 m.c, .int .i64 m.o, .int .i64 m.d, .int .i64 m.u] : List Value)[i]?) ∧ (∀ i, W.cell? ⟨kx, i, none⟩ = ([.pointer x.p, .int .i64 x.r, .int .i64 x.c, .int .i64 x.o, .int .i64 x.d, .int .i64 x.u] : List Value)[i]?) ∧ (∀ i, W.cell? ⟨ky, i, none⟩ = ([.pointer y.p, .int .i64 y.r, .int .i64 y.c, .int .i64 y.o, .int .i64 y.d, .int .i64 y.u] : List Value)[i]?)) W from fun W h => ⟨(hm.below h).cell, (hx.below h).cell, (hy.below h).cell⟩)
  have HB1 := Lib.hid (show Below w.heap.size w w.drew from below_drewN 1 (Below.refl w.heap.size w))
  have e1 : ([x].all fun v => vecV v.p v.r v.c && decide ((lenV v.p v.r v.c : Int) = (m.c : Int))) = vecN x m.c := by unfold vecN; simp
  replace HT1 := Lib.hid (fun W b hb => HT1.out m.c W b hb)
  rw [e1] at HT1
  have e2 : ([y].all fun v => vecV v.p v.r v.c && decide ((lenV v.p v.r v.c : Int) = (m.r : Int))) = vecN y m.r := by unfold vecN; simp
  replace HT2 := Lib.hid (fun W b hb => HT2.out m.r W b hb)
  rw [e2] at HT2
  clear hm hx hy sm sx sy e1 e2
  generalize hq1 : vecN x m.c = q1 at *
  generalize hq2 : vecN y m.r = q2 at *
  clear hq1 hq2
  cases q1
  · go_enter Try.func69, Try.ntmps69
    go_upto_region 1 with (fail)
    refine wp_region_many 12 40 [(0, 0), (0, 2), (3, 3), (1, 1), (2, 3), (1, 4), (0, 5), (0, 6), (0, 7), (0, 8), (0, 9), (0, 10), (0, 11)] (fun W => (∀ i, W.cell? ⟨km, i, none⟩ = ([.pointer m.p, .int .i64 m.r, .int .i64 m.c, .int .i64 m.o, .int .i64 m.d, .int .i64 m.u] : List Value)[i]?) ∧ (∀ i, W.cell? ⟨kx, i, none⟩ = ([.pointer x.p, .int .i64 x.r, .int .i64 x.c, .int .i64 x.o, .int .i64 x.d, .int .i64 x.u] : List Value)[i]?) ∧ (∀ i, W.cell? ⟨ky, i, none⟩ = ([.pointer y.p, .int .i64 y.r, .int .i64 y.c, .int .i64 y.o, .int .i64 y.d, .int .i64 y.u] : List Value)[i]?)) (by kernel_rfl) (by kernel_rfl) (HS.out _ HB1.out) ?_
    generalize w.drew = w1 at *
    iterate 1 (refine fm_take (v := ?_) rfl rfl ?_ ?_; rotate_left; (next => (intro w' hSw; (try dsimp only at hSw); go_simp; (try (rw [if_pos (by omega)]; go_simp)); (try with_reducible rfl))); (simp only [Act.put, List.setIfInBounds_toArray, List.set_cons_zero, List.set_cons_succ]))
    iterate 1 (refine fm_take (v := ?_) rfl rfl ?_ ?_; rotate_left; (next => (intro w' hSw; (try dsimp only at hSw); go_simp; (try (rw [if_pos (by omega)]; go_simp)); (try with_reducible rfl))); (simp only [Act.put, List.setIfInBounds_toArray, List.set_cons_zero, List.set_cons_succ]))
    refine fm_from ?_
    refine fm_one1 ?_ ?_
    · skip
      refine opW_take rfl rfl ?_
      go_simp
      refine (HC1.out w1).mono ?_
      rintro e v1 ⟨rfl, hb⟩
      have hB1 := Lib.hid (below_step HB1.out HB1.out.size hb)
      clear hb
      refine ⟨HS.out _ hB1.out, ?_⟩
      refine fm_now ?_
      refine opW_take rfl rfl ?_
      go_simp
      have hbA : Below v1.heap.size v1 (v1.alloc (.cells #[.pointer x.p, .int .i64 x.r, .int .i64 x.c, .int .i64 x.o, .int .i64 x.d, .int .i64 x.u] 29)) := (Below.refl _ _).alloc (Nat.le_refl _) _
      have hz : Box (v1.alloc (.cells #[.pointer x.p, .int .i64 x.r, .int .i64 x.c, .int .i64 x.o, .int .i64 x.d, .int .i64 x.u] 29)) v1.heap.size ([x].flatMap Vw.cs) := Box.newA v1 ([x].flatMap Vw.cs) _ rfl
      have hB2 := Lib.hid (below_step hB1.out hB1.out.size hbA)
      have Z2_z1 := Lib.hid hz
      clear hbA hz
      generalize hN : v1.alloc (.cells #[.pointer x.p, .int .i64 x.r, .int .i64 x.c, .int .i64 x.o, .int .i64 x.d, .int .i64 x.u] 29) = v2 at *
      generalize v1.heap.size = b2 at *
      clear hN
      refine ⟨HS.out _ hB2.out, ?_⟩
      refine fm_skip rfl ?_
      refine fm_one ?_
      refine opW_take rfl rfl ?_
      go_simp
      refine (HT1.out v2 _ Z2_z1.out).mono ?_
      rintro e v3 ⟨rfl, hb⟩
      have hB3 := Lib.hid (below_step hB2.out hB2.out.size hb)
      have Z3_z1 := Lib.hid (Z2_z1.out.below hb)
      clear hb
      refine ⟨HS.out _ hB3.out, ?_⟩
      iterate 1 (refine fm_take (v := ?_) rfl rfl ?_ ?_; rotate_left; (next => (intro w' hSw; (try dsimp only at hSw); go_simp; (try (rw [if_pos (by omega)]; go_simp)); (try with_reducible rfl))); (simp only [Act.put, List.setIfInBounds_toArray, List.set_cons_zero, List.set_cons_succ]))
      iterate 1 (refine fm_out rfl rfl ?_; (simp only [Act.put, List.setIfInBounds_toArray, List.set_cons_zero, List.set_cons_succ]))
      iterate 1 (refine fm_out rfl rfl ?_; (simp only [Act.put, List.setIfInBounds_toArray, List.set_cons_zero, List.set_cons_succ]))
      iterate 1 (refine fm_out rfl rfl ?_; (simp only [Act.put, List.setIfInBounds_toArray, List.set_cons_zero, List.set_cons_succ]))
      iterate 1 (refine fm_out rfl rfl ?_; (simp only [Act.put, List.setIfInBounds_toArray, List.set_cons_zero, List.set_cons_succ]))
      iterate 1 (refine fm_out rfl rfl ?_; (simp only [Act.put, List.setIfInBounds_toArray, List.set_cons_zero, List.set_cons_succ]))
      iterate 1 (refine fm_take (v := ?_) rfl rfl ?_ ?_; rotate_left; (next => (intro w' hSw; (try dsimp only at hSw); go_simp; (try (rw [if_pos (by omega)]; go_simp)); (try with_reducible rfl))); (simp only [Act.put, List.setIfInBounds_toArray, List.set_cons_zero, List.set_cons_succ]))
      refine fm_nil ?_
      go_simp
      go_wp2
      refine NoPanic.normal ?_
      go_wp2_with fail
      go_ret
      exact ⟨by simp, hB3.out⟩
    · skip
      refine opW_take rfl rfl ?_
      go_simp
      have hbA : Below w1.heap.size w1 (w1.alloc (.cells #[.pointer x.p, .int .i64 x.r, .int .i64 x.c, .int .i64 x.o, .int .i64 x.d, .int .i64 x.u] 29)) := (Below.refl _ _).alloc (Nat.le_refl _) _
      have hz : Box (w1.alloc (.cells #[.pointer x.p, .int .i64 x.r, .int .i64 x.c, .int .i64 x.o, .int .i64 x.d, .int .i64 x.u] 29)) w1.heap.size ([x].flatMap Vw.cs) := Box.newA w1 ([x].flatMap Vw.cs) _ rfl
      have hB4 := Lib.hid (below_step HB1.out HB1.out.size hbA)
      have Z4_z1 := Lib.hid hz
      clear hbA hz
      generalize hN : w1.alloc (.cells #[.pointer x.p, .int .i64 x.r, .int .i64 x.c, .int .i64 x.o, .int .i64 x.d, .int .i64 x.u] 29) = v4 at *
      generalize w1.heap.size = b4 at *
      clear hN
      refine ⟨HS.out _ hB4.out, ?_⟩
      refine fm_one ?_
      refine opW_take rfl rfl ?_
      go_simp
      refine (HC1.out v4).mono ?_
      rintro e v5 ⟨rfl, hb⟩
      have hB5 := Lib.hid (below_step hB4.out hB4.out.size hb)
      have Z5_z1 := Lib.hid (Z4_z1.out.below hb)
      clear hb
      refine ⟨HS.out _ hB5.out, ?_⟩
      refine fm_skip rfl ?_
      refine fm_one ?_
      refine opW_take rfl rfl ?_
      go_simp
      refine (HT1.out v5 _ Z5_z1.out).mono ?_
      rintro e v6 ⟨rfl, hb⟩
      have hB6 := Lib.hid (below_step hB5.out hB5.out.size hb)
      have Z6_z1 := Lib.hid (Z5_z1.out.below hb)
      clear hb
      refine ⟨HS.out _ hB6.out, ?_⟩
      iterate 1 (refine fm_take (v := ?_) rfl rfl ?_ ?_; rotate_left; (next => (intro w' hSw; (try dsimp only at hSw); go_simp; (try (rw [if_pos (by omega)]; go_simp)); (try with_reducible rfl))); (simp only [Act.put, List.setIfInBounds_toArray, List.set_cons_zero, List.set_cons_succ]))
      iterate 1 (refine fm_out rfl rfl ?_; (simp only [Act.put, List.setIfInBounds_toArray, List.set_cons_zero, List.set_cons_succ]))
      iterate 1 (refine fm_out rfl rfl ?_; (simp only [Act.put, List.setIfInBounds_toArray, List.set_cons_zero, List.set_cons_succ]))
      iterate 1 (refine fm_out rfl rfl ?_; (simp only [Act.put, List.setIfInBounds_toArray, List.set_cons_zero, List.set_cons_succ]))
      iterate 1 (refine fm_out rfl rfl ?_; (simp only [Act.put, List.setIfInBounds_toArray, List.set_cons_zero, List.set_cons_succ]))
      iterate 1 (refine fm_out rfl rfl ?_; (simp only [Act.put, List.setIfInBounds_toArray, List.set_cons_zero, List.set_cons_succ]))
      iterate 1 (refine fm_take (v := ?_) rfl rfl ?_ ?_; rotate_left; (next => (intro w' hSw; (try dsimp only at hSw); go_simp; (try (rw [if_pos (by omega)]; go_simp)); (try with_reducible rfl))); (simp only [Act.put, List.setIfInBounds_toArray, List.set_cons_zero, List.set_cons_succ]))
      refine fm_nil ?_
      go_simp
      go_wp2
      refine NoPanic.normal ?_
      go_wp2_with fail
      go_ret
      exact ⟨by simp, hB6.out⟩
  · go_enter Try.func69, Try.ntmps69
    go_upto_region 1 with (fail)
    refine wp_region_many 12 40 [(0, 0), (0, 2), (3, 3), (1, 1), (2, 3), (1, 4), (0, 5), (0, 6), (0, 8), (3, 9), (1, 7), (2, 9), (1, 10), (0, 11)] (fun W => (∀ i, W.cell? ⟨km, i, none⟩ = ([.pointer m.p, .int .i64 m.r, .int .i64 m.c, .int .i64 m.o, .int .i64 m.d, .int .i64 m.u] : List Value)[i]?) ∧ (∀ i, W.cell? ⟨kx, i, none⟩ = ([.pointer x.p, .int .i64 x.r, .int .i64 x.c, .int .i64 x.o, .int .i64 x.d, .int .i64 x.u] : List Value)[i]?) ∧ (∀ i, W.cell? ⟨ky, i, none⟩ = ([.pointer y.p, .int .i64 y.r, .int .i64 y.c, .int .i64 y.o, .int .i64 y.d, .int .i64 y.u] : List Value)[i]?)) (by kernel_rfl) (by kernel_rfl) (HS.out _ HB1.out) ?_
    generalize w.drew = w1 at *
    iterate 1 (refine fm_take (v := ?_) rfl rfl ?_ ?_; rotate_left; (next => (intro w' hSw; (try dsimp only at hSw); go_simp; (try (rw [if_pos (by omega)]; go_simp)); (try with_reducible rfl))); (simp only [Act.put, List.setIfInBounds_toArray, List.set_cons_zero, List.set_cons_succ]))
    iterate 1 (refine fm_take (v := ?_) rfl rfl ?_ ?_; rotate_left; (next => (intro w' hSw; (try dsimp only at hSw); go_simp; (try (rw [if_pos (by omega)]; go_simp)); (try with_reducible rfl))); (simp only [Act.put, List.setIfInBounds_toArray, List.set_cons_zero, List.set_cons_succ]))
    refine fm_from ?_
    refine fm_one1 ?_ ?_
    · skip
      refine opW_take rfl rfl ?_
      go_simp
      refine (HC1.out w1).mono ?_
      rintro e v1 ⟨rfl, hb⟩
      have hB1 := Lib.hid (below_step HB1.out HB1.out.size hb)
      clear hb
      refine ⟨HS.out _ hB1.out, ?_⟩
      refine fm_now ?_
      refine opW_take rfl rfl ?_
      go_simp
      have hbA : Below v1.heap.size v1 (v1.alloc (.cells #[.pointer x.p, .int .i64 x.r, .int .i64 x.c, .int .i64 x.o, .int .i64 x.d, .int .i64 x.u] 29)) := (Below.refl _ _).alloc (Nat.le_refl _) _
      have hz : Box (v1.alloc (.cells #[.pointer x.p, .int .i64 x.r, .int .i64 x.c, .int .i64 x.o, .int .i64 x.d, .int .i64 x.u] 29)) v1.heap.size ([x].flatMap Vw.cs) := Box.newA v1 ([x].flatMap Vw.cs) _ rfl
      have hB2 := Lib.hid (below_step hB1.out hB1.out.size hbA)
      have Z2_z1 := Lib.hid hz
      clear hbA hz
      generalize hN : v1.alloc (.cells #[.pointer x.p, .int .i64 x.r, .int .i64 x.c, .int .i64 x.o, .int .i64 x.d, .int .i64 x.u] 29) = v2 at *
      generalize v1.heap.size = b2 at *
      clear hN
      refine ⟨HS.out _ hB2.out, ?_⟩
      refine fm_skip rfl ?_
      refine fm_one ?_
      refine opW_take rfl rfl ?_
      go_simp
      refine (HT1.out v2 _ Z2_z1.out).mono ?_
      rintro e v3 ⟨rfl, hb⟩
      have hB3 := Lib.hid (below_step hB2.out hB2.out.size hb)
      have Z3_z1 := Lib.hid (Z2_z1.out.below hb)
      clear hb
      refine ⟨HS.out _ hB3.out, ?_⟩
      iterate 1 (refine fm_take (v := ?_) rfl rfl ?_ ?_; rotate_left; (next => (intro w' hSw; (try dsimp only at hSw); go_simp; (try (rw [if_pos (by omega)]; go_simp)); (try with_reducible rfl))); (simp only [Act.put, List.setIfInBounds_toArray, List.set_cons_zero, List.set_cons_succ]))
      iterate 1 (refine fm_take (v := ?_) rfl rfl ?_ ?_; rotate_left; (next => (intro w' hSw; (try dsimp only at hSw); go_simp; (try (rw [if_pos (by omega)]; go_simp)); (try with_reducible rfl))); (simp only [Act.put, List.setIfInBounds_toArray, List.set_cons_zero, List.set_cons_succ]))
      iterate 1 (refine fm_take (v := ?_) rfl rfl ?_ ?_; rotate_left; (next => (intro w' hSw; (try dsimp only at hSw); go_simp; (try (rw [if_pos (by omega)]; go_simp)); (try with_reducible rfl))); (simp only [Act.put, List.setIfInBounds_toArray, List.set_cons_zero, List.set_cons_succ]))
      refine fm_from ?_
      refine fm_one1 ?_ ?_
      · skip
        refine opW_take rfl rfl ?_
        go_simp
        refine (HC2.out v3).mono ?_
        rintro e v4 ⟨rfl, hb⟩
        have hB4 := Lib.hid (below_step hB3.out hB3.out.size hb)
        have Z4_z1 := Lib.hid (Z3_z1.out.below hb)
        clear hb
        refine ⟨HS.out _ hB4.out, ?_⟩
        refine fm_now ?_
        refine opW_take rfl rfl ?_
        go_simp
        have hbA : Below v4.heap.size v4 (v4.alloc (.cells #[.pointer y.p, .int .i64 y.r, .int .i64 y.c, .int .i64 y.o, .int .i64 y.d, .int .i64 y.u] 29)) := (Below.refl _ _).alloc (Nat.le_refl _) _
        have hz : Box (v4.alloc (.cells #[.pointer y.p, .int .i64 y.r, .int .i64 y.c, .int .i64 y.o, .int .i64 y.d, .int .i64 y.u] 29)) v4.heap.size ([y].flatMap Vw.cs) := Box.newA v4 ([y].flatMap Vw.cs) _ rfl
        have hB5 := Lib.hid (below_step hB4.out hB4.out.size hbA)
        have Z5_z1 := Lib.hid (Z4_z1.out.below hbA)
        have Z5_z2 := Lib.hid hz
        clear hbA hz
        generalize hN : v4.alloc (.cells #[.pointer y.p, .int .i64 y.r, .int .i64 y.c, .int .i64 y.o, .int .i64 y.d, .int .i64 y.u] 29) = v5 at *
        generalize v4.heap.size = b5 at *
        clear hN
        refine ⟨HS.out _ hB5.out, ?_⟩
        refine fm_skip rfl ?_
        refine fm_one ?_
        refine opW_take rfl rfl ?_
        go_simp
        refine (HT2.out v5 _ Z5_z2.out).mono ?_
        rintro e v6 ⟨rfl, hb⟩
        have hB6 := Lib.hid (below_step hB5.out hB5.out.size hb)
        have Z6_z1 := Lib.hid (Z5_z1.out.below hb)
        have Z6_z2 := Lib.hid (Z5_z2.out.below hb)
        clear hb
        refine ⟨HS.out _ hB6.out, ?_⟩
        iterate 1 (refine fm_take (v := ?_) rfl rfl ?_ ?_; rotate_left; (next => (intro w' hSw; (try dsimp only at hSw); go_simp; (try (rw [if_pos (by omega)]; go_simp)); (try with_reducible rfl))); (simp only [Act.put, List.setIfInBounds_toArray, List.set_cons_zero, List.set_cons_succ]))
        refine fm_nil ?_
        go_simp
        go_wp2
        refine NoPanic.normal ?_
        go_wp2_with fail
        go_ret
        exact ⟨by simp, hB6.out⟩
      · skip
        refine opW_take rfl rfl ?_
        go_simp
        have hbA : Below v3.heap.size v3 (v3.alloc (.cells #[.pointer y.p, .int .i64 y.r, .int .i64 y.c, .int .i64 y.o, .int .i64 y.d, .int .i64 y.u] 29)) := (Below.refl _ _).alloc (Nat.le_refl _) _
        have hz : Box (v3.alloc (.cells #[.pointer y.p, .int .i64 y.r, .int .i64 y.c, .int .i64 y.o, .int .i64 y.d, .int .i64 y.u] 29)) v3.heap.size ([y].flatMap Vw.cs) := Box.newA v3 ([y].flatMap Vw.cs) _ rfl
        have hB7 := Lib.hid (below_step hB3.out hB3.out.size hbA)
        have Z7_z1 := Lib.hid (Z3_z1.out.below hbA)
        have Z7_z2 := Lib.hid hz
        clear hbA hz
        generalize hN : v3.alloc (.cells #[.pointer y.p, .int .i64 y.r, .int .i64 y.c, .int .i64 y.o, .int .i64 y.d, .int .i64 y.u] 29) = v7 at *
        generalize v3.heap.size = b7 at *
        clear hN
        refine ⟨HS.out _ hB7.out, ?_⟩
        refine fm_one ?_
        refine opW_take rfl rfl ?_
        go_simp
        refine (HC2.out v7).mono ?_
        rintro e v8 ⟨rfl, hb⟩
        have hB8 := Lib.hid (below_step hB7.out hB7.out.size hb)
        have Z8_z1 := Lib.hid (Z7_z1.out.below hb)
        have Z8_z2 := Lib.hid (Z7_z2.out.below hb)
        clear hb
        refine ⟨HS.out _ hB8.out, ?_⟩
        refine fm_skip rfl ?_
        refine fm_one ?_
        refine opW_take rfl rfl ?_
        go_simp
        refine (HT2.out v8 _ Z8_z2.out).mono ?_
        rintro e v9 ⟨rfl, hb⟩
        have hB9 := Lib.hid (below_step hB8.out hB8.out.size hb)
        have Z9_z1 := Lib.hid (Z8_z1.out.below hb)
        have Z9_z2 := Lib.hid (Z8_z2.out.below hb)
        clear hb
        refine ⟨HS.out _ hB9.out, ?_⟩
        iterate 1 (refine fm_take (v := ?_) rfl rfl ?_ ?_; rotate_left; (next => (intro w' hSw; (try dsimp only at hSw); go_simp; (try (rw [if_pos (by omega)]; go_simp)); (try with_reducible rfl))); (simp only [Act.put, List.setIfInBounds_toArray, List.set_cons_zero, List.set_cons_succ]))
        refine fm_nil ?_
        go_simp
        go_wp2
        refine NoPanic.normal ?_
        go_wp2_with fail
        go_ret
        exact ⟨by simp, hB9.out⟩
    · skip
      refine opW_take rfl rfl ?_
      go_simp
      have hbA : Below w1.heap.size w1 (w1.alloc (.cells #[.pointer x.p, .int .i64 x.r, .int .i64 x.c, .int .i64 x.o, .int .i64 x.d, .int .i64 x.u] 29)) := (Below.refl _ _).alloc (Nat.le_refl _) _
      have hz : Box (w1.alloc (.cells #[.pointer x.p, .int .i64 x.r, .int .i64 x.c, .int .i64 x.o, .int .i64 x.d, .int .i64 x.u] 29)) w1.heap.size ([x].flatMap Vw.cs) := Box.newA w1 ([x].flatMap Vw.cs) _ rfl
      have hB10 := Lib.hid (below_step HB1.out HB1.out.size hbA)
      have Z10_z1 := Lib.hid hz
      clear hbA hz
      generalize hN : w1.alloc (.cells #[.pointer x.p, .int .i64 x.r, .int .i64 x.c, .int .i64 x.o, .int .i64 x.d, .int .i64 x.u] 29) = v10 at *
      generalize w1.heap.size = b10 at *
      clear hN
      refine ⟨HS.out _ hB10.out, ?_⟩
      refine fm_one ?_
      refine opW_take rfl rfl ?_
      go_simp
      refine (HC1.out v10).mono ?_
      rintro e v11 ⟨rfl, hb⟩
      have hB11 := Lib.hid (below_step hB10.out hB10.out.size hb)
      have Z11_z1 := Lib.hid (Z10_z1.out.below hb)
      clear hb
      refine ⟨HS.out _ hB11.out, ?_⟩
      refine fm_skip rfl ?_
      refine fm_one ?_
      refine opW_take rfl rfl ?_
      go_simp
      refine (HT1.out v11 _ Z11_z1.out).mono ?_
      rintro e v12 ⟨rfl, hb⟩
      have hB12 := Lib.hid (below_step hB11.out hB11.out.size hb)
      have Z12_z1 := Lib.hid (Z11_z1.out.below hb)
      clear hb
      refine ⟨HS.out _ hB12.out, ?_⟩
      iterate 1 (refine fm_take (v := ?_) rfl rfl ?_ ?_; rotate_left; (next => (intro w' hSw; (try dsimp only at hSw); go_simp; (try (rw [if_pos (by omega)]; go_simp)); (try with_reducible rfl))); (simp only [Act.put, List.setIfInBounds_toArray, List.set_cons_zero, List.set_cons_succ]))
      iterate 1 (refine fm_take (v := ?_) rfl rfl ?_ ?_; rotate_left; (next => (intro w' hSw; (try dsimp only at hSw); go_simp; (try (rw [if_pos (by omega)]; go_simp)); (try with_reducible rfl))); (simp only [Act.put, List.setIfInBounds_toArray, List.set_cons_zero, List.set_cons_succ]))
      iterate 1 (refine fm_take (v := ?_) rfl rfl ?_ ?_; rotate_left; (next => (intro w' hSw; (try dsimp only at hSw); go_simp; (try (rw [if_pos (by omega)]; go_simp)); (try with_reducible rfl))); (simp only [Act.put, List.setIfInBounds_toArray, List.set_cons_zero, List.set_cons_succ]))
      refine fm_from ?_
      refine fm_one1 ?_ ?_
      · skip
        refine opW_take rfl rfl ?_
        go_simp
        refine (HC2.out v12).mono ?_
        rintro e v13 ⟨rfl, hb⟩
        have hB13 := Lib.hid (below_step hB12.out hB12.out.size hb)
        have Z13_z1 := Lib.hid (Z12_z1.out.below hb)
        clear hb
        refine ⟨HS.out _ hB13.out, ?_⟩
        refine fm_now ?_
        refine opW_take rfl rfl ?_
        go_simp
        have hbA : Below v13.heap.size v13 (v13.alloc (.cells #[.pointer y.p, .int .i64 y.r, .int .i64 y.c, .int .i64 y.o, .int .i64 y.d, .int .i64 y.u] 29)) := (Below.refl _ _).alloc (Nat.le_refl _) _
        have hz : Box (v13.alloc (.cells #[.pointer y.p, .int .i64 y.r, .int .i64 y.c, .int .i64 y.o, .int .i64 y.d, .int .i64 y.u] 29)) v13.heap.size ([y].flatMap Vw.cs) := Box.newA v13 ([y].flatMap Vw.cs) _ rfl
        have hB14 := Lib.hid (below_step hB13.out hB13.out.size hbA)
        have Z14_z1 := Lib.hid (Z13_z1.out.below hbA)
        have Z14_z2 := Lib.hid hz
        clear hbA hz
        generalize hN : v13.alloc (.cells #[.pointer y.p, .int .i64 y.r, .int .i64 y.c, .int .i64 y.o, .int .i64 y.d, .int .i64 y.u] 29) = v14 at *
        generalize v13.heap.size = b14 at *
        clear hN
        refine ⟨HS.out _ hB14.out, ?_⟩
        refine fm_skip rfl ?_
        refine fm_one ?_
        refine opW_take rfl rfl ?_
        go_simp
        refine (HT2.out v14 _ Z14_z2.out).mono ?_
        rintro e v15 ⟨rfl, hb⟩
        have hB15 := Lib.hid (below_step hB14.out hB14.out.size hb)
        have Z15_z1 := Lib.hid (Z14_z1.out.below hb)
        have Z15_z2 := Lib.hid (Z14_z2.out.below hb)
        clear hb
        refine ⟨HS.out _ hB15.out, ?_⟩
        iterate 1 (refine fm_take (v := ?_) rfl rfl ?_ ?_; rotate_left; (next => (intro w' hSw; (try dsimp only at hSw); go_simp; (try (rw [if_pos (by omega)]; go_simp)); (try with_reducible rfl))); (simp only [Act.put, List.setIfInBounds_toArray, List.set_cons_zero, List.set_cons_succ]))
        refine fm_nil ?_
        go_simp
        go_wp2
        refine NoPanic.normal ?_
        go_wp2_with fail
        go_ret
        exact ⟨by simp, hB15.out⟩
      · skip
        refine opW_take rfl rfl ?_
        go_simp
        have hbA : Below v12.heap.size v12 (v12.alloc (.cells #[.pointer y.p, .int .i64 y.r, .int .i64 y.c, .int .i64 y.o, .int .i64 y.d, .int .i64 y.u] 29)) := (Below.refl _ _).alloc (Nat.le_refl _) _
        have hz : Box (v12.alloc (.cells #[.pointer y.p, .int .i64 y.r, .int .i64 y.c, .int .i64 y.o, .int .i64 y.d, .int .i64 y.u] 29)) v12.heap.size ([y].flatMap Vw.cs) := Box.newA v12 ([y].flatMap Vw.cs) _ rfl
        have hB16 := Lib.hid (below_step hB12.out hB12.out.size hbA)
        have Z16_z1 := Lib.hid (Z12_z1.out.below hbA)
        have Z16_z2 := Lib.hid hz
        clear hbA hz
        generalize hN : v12.alloc (.cells #[.pointer y.p, .int .i64 y.r, .int .i64 y.c, .int .i64 y.o, .int .i64 y.d, .int .i64 y.u] 29) = v16 at *
        generalize v12.heap.size = b16 at *
        clear hN
        refine ⟨HS.out _ hB16.out, ?_⟩
        refine fm_one ?_
        refine opW_take rfl rfl ?_
        go_simp
        refine (HC2.out v16).mono ?_
        rintro e v17 ⟨rfl, hb⟩
        have hB17 := Lib.hid (below_step hB16.out hB16.out.size hb)
        have Z17_z1 := Lib.hid (Z16_z1.out.below hb)
        have Z17_z2 := Lib.hid (Z16_z2.out.below hb)
        clear hb
        refine ⟨HS.out _ hB17.out, ?_⟩
        refine fm_skip rfl ?_
        refine fm_one ?_
        refine opW_take rfl rfl ?_
        go_simp
        refine (HT2.out v17 _ Z17_z2.out).mono ?_
        rintro e v18 ⟨rfl, hb⟩
        have hB18 := Lib.hid (below_step hB17.out hB17.out.size hb)
        have Z18_z1 := Lib.hid (Z17_z1.out.below hb)
        have Z18_z2 := Lib.hid (Z17_z2.out.below hb)
        clear hb
        refine ⟨HS.out _ hB18.out, ?_⟩
        iterate 1 (refine fm_take (v := ?_) rfl rfl ?_ ?_; rotate_left; (next => (intro w' hSw; (try dsimp only at hSw); go_simp; (try (rw [if_pos (by omega)]; go_simp)); (try with_reducible rfl))); (simp only [Act.put, List.setIfInBounds_toArray, List.set_cons_zero, List.set_cons_succ]))
        refine fm_nil ?_
        go_simp
        go_wp2
        refine NoPanic.normal ?_
        go_wp2_with fail
        go_ret
        exact ⟨by simp, hB18.out⟩
def fits_Ger (m x y : Vw) : Bool := vecN x m.r && vecN y m.c
set_option maxHeartbeats 8000000 in
theorem Gerf_any (w : World) (m x y : Vw) (km kx ky : Nat) (hm : Box w km m.cs) (hx : Box w kx x.cs) (hy : Box w ky y.cs) (sm : m.r ≤ 512 ∧ m.c ≤ 512) (sx : x.r ≤ 512 ∧ x.c ≤ 512) (sy : y.r ≤ 512 ∧ y.c ≤ 512) :
    Calls Try.prog 91 #[.pointer (some ⟨km, 0, none⟩), .pointer (some ⟨kx, 0, none⟩), .pointer (some ⟨ky, 0, none⟩)] w fun e w' => e = .returned (.bool (fits_Ger m x y)) ∧ Below w.heap.size w w' := by
  have HC1 := Lib.hid (fun W => Rows_any m.p m.r m.c m.o m.d m.u W)
  have HC2 := Lib.hid (fun W => Cols_any m.p m.r m.c m.o m.d m.u W)
  have HT1 := Lib.hid (fun (n : Nat) W b hb => vectors_any W n b [x] hb (fun v hv => by rw [List.mem_singleton] at hv; rw [hv]; exact sx) (by simp))
  have HT2 := Lib.hid (fun (n : Nat) W b hb => vectors_any W n b [y] hb (fun v hv => by rw [List.mem_singleton] at hv; rw [hv]; exact sy) (by simp))
  unfold fits_Ger
  have HS := Lib.hid (show ∀ W, Below w.heap.size w W → (fun W => (∀ i, W.cell? ⟨km, i, none⟩ = ([.pointer m.p, .int .i64 m.r, .int .i64 m.c, .int .i64 m.o, .int .i64 m.d, .int .i64 m.u] : List Value)[i]?) ∧ (∀ i, W.cell? ⟨kx, i, none⟩ = ([.pointer x.p, .int .i64 x.r, .int .i64 x.c, .int .i64 x.o, .int .i64 x.d, .int .i64 x.u] : List Value)[i]?) ∧ (∀ i, W.cell? ⟨ky, i, none⟩ = ([.pointer y.p, .int .i64 y.r, .int .i64 y.c, .int .i64 y.o, .int .i64 y.d, .int .i64 y.u] : List Value)[i]?)) W from fun W h => ⟨(hm.below h).cell, (hx.below h).cell, (hy.below h).cell⟩)
  have HB1 := Lib.hid (show Below w.heap.size w w.drew from below_drewN 1 (Below.refl w.heap.size w))
  have e1 : ([x].all fun v => vecV v.p v.r v.c && decide ((lenV v.p v.r v.c : Int) = (m.r : Int))) = vecN x m.r := by unfold vecN; simp
  replace HT1 := Lib.hid (fun W b hb => HT1.out m.r W b hb)
  rw [e1] at HT1
  have e2 : ([y].all fun v => vecV v.p v.r v.c && decide ((lenV v.p v.r v.c : Int) = (m.c : Int))) = vecN y m.c := by unfold vecN; simp
  replace HT2 := Lib.hid (fun W b hb => HT2.out m.c W b hb)
  rw [e2] at HT2
  clear hm hx hy sm sx sy e1 e2
  generalize hq1 : vecN x m.r = q1 at *
  generalize hq2 : vecN y m.c = q2 at *
  clear hq1 hq2
  cases q1
  · go_enter Try.func91, Try.ntmps91
    go_upto_region 1 with (fail)
    refine wp_region_many 12 40 [(0, 0), (0, 2), (3, 3), (1, 1), (2, 3), (1, 4), (0, 5), (0, 6), (0, 7), (0, 8), (0, 9), (0, 10), (0, 11)] (fun W => (∀ i, W.cell? ⟨km, i, none⟩ = ([.pointer m.p, .int .i64 m.r, .int .i64 m.c, .int .i64 m.o, .int .i64 m.d, .int .i64 m.u] : List Value)[i]?) ∧ (∀ i, W.cell? ⟨kx, i, none⟩ = ([.pointer x.p, .int .i64 x.r, .int .i64 x.c, .int .i64 x.o, .int .i64 x.d, .int .i64 x.u] : List Value)[i]?) ∧ (∀ i, W.cell? ⟨ky, i, none⟩ = ([.pointer y.p, .int .i64 y.r, .int .i64 y.c, .int .i64 y.o, .int .i64 y.d, .int .i64 y.u] : List Value)[i]?)) (by kernel_rfl) (by kernel_rfl) (HS.out _ HB1.out) ?_
    generalize w.drew = w1 at *
    iterate 1 (refine fm_take (v := ?_) rfl rfl ?_ ?_; rotate_left; (next => (intro w' hSw; (try dsimp only at hSw); go_simp; (try (rw [if_pos (by omega)]; go_simp)); (try with_reducible rfl))); (simp only [Act.put, List.setIfInBounds_toArray, List.set_cons_zero, List.set_cons_succ]))
    iterate 1 (refine fm_take (v := ?_) rfl rfl ?_ ?_; rotate_left; (next => (intro w' hSw; (try dsimp only at hSw); go_simp; (try (rw [if_pos (by omega)]; go_simp)); (try with_reducible rfl))); (simp only [Act.put, List.setIfInBounds_toArray, List.set_cons_zero, List.set_cons_succ]))
    refine fm_from ?_
    refine fm_one1 ?_ ?_
    · skip
      refine opW_take rfl rfl ?_
      go_simp
      refine (HC1.out w1).mono ?_
      rintro e v1 ⟨rfl, hb⟩
      have hB1 := Lib.hid (below_step HB1.out HB1.out.size hb)
      clear hb
      refine ⟨HS.out _ hB1.out, ?_⟩
      refine fm_now ?_
      refine opW_take rfl rfl ?_
      go_simp
      have hbA : Below v1.heap.size v1 (v1.alloc (.cells #[.pointer x.p, .int .i64 x.r, .int .i64 x.c, .int .i64 x.o, .int .i64 x.d, .int .i64 x.u] 29)) := (Below.refl _ _).alloc (Nat.le_refl _) _
      have hz : Box (v1.alloc (.cells #[.pointer x.p, .int .i64 x.r, .int .i64 x.c, .int .i64 x.o, .int .i64 x.d, .int .i64 x.u] 29)) v1.heap.size ([x].flatMap Vw.cs) := Box.newA v1 ([x].flatMap Vw.cs) _ rfl
      have hB2 := Lib.hid (below_step hB1.out hB1.out.size hbA)
      have Z2_z1 := Lib.hid hz
      clear hbA hz
      generalize hN : v1.alloc (.cells #[.pointer x.p, .int .i64 x.r, .int .i64 x.c, .int .i64 x.o, .int .i64 x.d, .int .i64 x.u] 29) = v2 at *
      generalize v1.heap.size = b2 at *
      clear hN
      refine ⟨HS.out _ hB2.out, ?_⟩
      refine fm_skip rfl ?_
      refine fm_one ?_
      refine opW_take rfl rfl ?_
      go_simp
      refine (HT1.out v2 _ Z2_z1.out).mono ?_
      rintro e v3 ⟨rfl, hb⟩
      have hB3 := Lib.hid (below_step hB2.out hB2.out.size hb)
      have Z3_z1 := Lib.hid (Z2_z1.out.below hb)
      clear hb
      refine ⟨HS.out _ hB3.out, ?_⟩
      iterate 1 (refine fm_take (v := ?_) rfl rfl ?_ ?_; rotate_left; (next => (intro w' hSw; (try dsimp only at hSw); go_simp; (try (rw [if_pos (by omega)]; go_simp)); (try with_reducible rfl))); (simp only [Act.put, List.setIfInBounds_toArray, List.set_cons_zero, List.set_cons_succ]))
      iterate 1 (refine fm_out rfl rfl ?_; (simp only [Act.put, List.setIfInBounds_toArray, List.set_cons_zero, List.set_cons_succ]))
      iterate 1 (refine fm_out rfl rfl ?_; (simp only [Act.put, List.setIfInBounds_toArray, List.set_cons_zero, List.set_cons_succ]))
      iterate 1 (refine fm_out rfl rfl ?_; (simp only [Act.put, List.setIfInBounds_toArray, List.set_cons_zero, List.set_cons_succ]))
      iterate 1 (refine fm_out rfl rfl ?_; (simp only [Act.put, List.setIfInBounds_toArray, List.set_cons_zero, List.set_cons_succ]))
      iterate 1 (refine fm_out rfl rfl ?_; (simp only [Act.put, List.setIfInBounds_toArray, List.set_cons_zero, List.set_cons_succ]))
      iterate 1 (refine fm_take (v := ?_) rfl rfl ?_ ?_; rotate_left; (next => (intro w' hSw; (try dsimp only at hSw); go_simp; (try (rw [if_pos (by omega)]; go_simp)); (try with_reducible rfl))); (simp only [Act.put, List.setIfInBounds_toArray, List.set_cons_zero, List.set_cons_succ]))
      refine fm_nil ?_
      go_simp
      go_wp2
      refine NoPanic.normal ?_
      go_wp2_with fail
      go_ret
      exact ⟨by simp, hB3.out⟩
    · skip
      refine opW_take rfl rfl ?_
      go_simp
      have hbA : Below w1.heap.size w1 (w1.alloc (.cells #[.pointer x.p, .int .i64 x.r, .int .i64 x.c, .int .i64 x.o, .int .i64 x.d, .int .i64 x.u] 29)) := (Below.refl _ _).alloc (Nat.le_refl _) _
      have hz : Box (w1.alloc (.cells #[.pointer x.p, .int .i64 x.r, .int .i64 x.c, .int .i64 x.o, .int .i64 x.d, .int .i64 x.u] 29)) w1.heap.size ([x].flatMap Vw.cs) := Box.newA w1 ([x].flatMap Vw.cs) _ rfl
      have hB4 := Lib.hid (below_step HB1.out HB1.out.size hbA)
      have Z4_z1 := Lib.hid hz
      clear hbA hz
      generalize hN : w1.alloc (.cells #[.pointer x.p, .int .i64 x.r, .int .i64 x.c, .int .i64 x.o, .int .i64 x.d, .int .i64 x.u] 29) = v4 at *
      generalize w1.heap.size = b4 at *
      clear hN
      refine ⟨HS.out _ hB4.out, ?_⟩
      refine fm_one ?_
      refine opW_take rfl rfl ?_
      go_simp
      refine (HC1.out v4).mono ?_
      rintro e v5 ⟨rfl, hb⟩
      have hB5 := Lib.hid (below_step hB4.out hB4.out.size hb)
      have Z5_z1 := Lib.hid (Z4_z1.out.below hb)
      clear hb
      refine ⟨HS.out _ hB5.out, ?_⟩
      refine fm_skip rfl ?_
      refine fm_one ?_
      refine opW_take rfl rfl ?_
      go_simp
      refine (HT1.out v5 _ Z5_z1.out).mono ?_
      rintro e v6 ⟨rfl, hb⟩
      have hB6 := Lib.hid (below_step hB5.out hB5.out.size hb)
      have Z6_z1 := Lib.hid (Z5_z1.out.below hb)
      clear hb
      refine ⟨HS.out _ hB6.out, ?_⟩
      iterate 1 (refine fm_take (v := ?_) rfl rfl ?_ ?_; rotate_left; (next => (intro w' hSw; (try dsimp only at hSw); go_simp; (try (rw [if_pos (by omega)]; go_simp)); (try with_reducible rfl))); (simp only [Act.put, List.setIfInBounds_toArray, List.set_cons_zero, List.set_cons_succ]))
      iterate 1 (refine fm_out rfl rfl ?_; (simp only [Act.put, List.setIfInBounds_toArray, List.set_cons_zero, List.set_cons_succ]))
      iterate 1 (refine fm_out rfl rfl ?_; (simp only [Act.put, List.setIfInBounds_toArray, List.set_cons_zero, List.set_cons_succ]))
      iterate 1 (refine fm_out rfl rfl ?_; (simp only [Act.put, List.setIfInBounds_toArray, List.set_cons_zero, List.set_cons_succ]))
      iterate 1 (refine fm_out rfl rfl ?_; (simp only [Act.put, List.setIfInBounds_toArray, List.set_cons_zero, List.set_cons_succ]))
      iterate 1 (refine fm_out rfl rfl ?_; (simp only [Act.put, List.setIfInBounds_toArray, List.set_cons_zero, List.set_cons_succ]))
      iterate 1 (refine fm_take (v := ?_) rfl rfl ?_ ?_; rotate_left; (next => (intro w' hSw; (try dsimp only at hSw); go_simp; (try (rw [if_pos (by omega)]; go_simp)); (try with_reducible rfl))); (simp only [Act.put, List.setIfInBounds_toArray, List.set_cons_zero, List.set_cons_succ]))
      refine fm_nil ?_
      go_simp
      go_wp2
      refine NoPanic.normal ?_
      go_wp2_with fail
      go_ret
      exact ⟨by simp, hB6.out⟩
  · go_enter Try.func91, Try.ntmps91
    go_upto_region 1 with (fail)
    refine wp_region_many 12 40 [(0, 0), (0, 2), (3, 3), (1, 1), (2, 3), (1, 4), (0, 5), (0, 6), (0, 8), (3, 9), (1, 7), (2, 9), (1, 10), (0, 11)] (fun W => (∀ i, W.cell? ⟨km, i, none⟩ = ([.pointer m.p, .int .i64 m.r, .int .i64 m.c, .int .i64 m.o, .int .i64 m.d, .int .i64 m.u] : List Value)[i]?) ∧ (∀ i, W.cell? ⟨kx, i, none⟩ = ([.pointer x.p, .int .i64 x.r, .int .i64 x.c, .int .i64 x.o, .int .i64 x.d, .int .i64 x.u] : List Value)[i]?) ∧ (∀ i, W.cell? ⟨ky, i, none⟩ = ([.pointer y.p, .int .i64 y.r, .int .i64 y.c, .int .i64 y.o, .int .i64 y.d, .int .i64 y.u] : List Value)[i]?)) (by kernel_rfl) (by kernel_rfl) (HS.out _ HB1.out) ?_
    generalize w.drew = w1 at *
    iterate 1 (refine fm_take (v := ?_) rfl rfl ?_ ?_; rotate_left; (next => (intro w' hSw; (try dsimp only at hSw); go_simp; (try (rw [if_pos (by omega)]; go_simp)); (try with_reducible rfl))); (simp only [Act.put, List.setIfInBounds_toArray, List.set_cons_zero, List.set_cons_succ]))
    iterate 1 (refine fm_take (v := ?_) rfl rfl ?_ ?_; rotate_left; (next => (intro w' hSw; (try dsimp only at hSw); go_simp; (try (rw [if_pos (by omega)]; go_simp)); (try with_reducible rfl))); (simp only [Act.put, List.setIfInBounds_toArray, List.set_cons_zero, List.set_cons_succ]))
    refine fm_from ?_
    refine fm_one1 ?_ ?_
    · skip
      refine opW_take rfl rfl ?_
      go_simp
      refine (HC1.out w1).mono ?_
      rintro e v1 ⟨rfl, hb⟩
      have hB1 := Lib.hid (below_step HB1.out HB1.out.size hb)
      clear hb
      refine ⟨HS.out _ hB1.out, ?_⟩
      refine fm_now ?_
      refine opW_take rfl rfl ?_
      go_simp
      have hbA : Below v1.heap.size v1 (v1.alloc (.cells #[.pointer x.p, .int .i64 x.r, .int .i64 x.c, .int .i64 x.o, .int .i64 x.d, .int .i64 x.u] 29)) := (Below.refl _ _).alloc (Nat.le_refl _) _
      have hz : Box (v1.alloc (.cells #[.pointer x.p, .int .i64 x.r, .int .i64 x.c, .int .i64 x.o, .int .i64 x.d, .int .i64 x.u] 29)) v1.heap.size ([x].flatMap Vw.cs) := Box.newA v1 ([x].flatMap Vw.cs) _ rfl
      have hB2 := Lib.hid (below_step hB1.out hB1.out.size hbA)
      have Z2_z1 := Lib.hid hz
      clear hbA hz
      generalize hN : v1.alloc (.cells #[.pointer x.p, .int .i64 x.r, .int .i64 x.c, .int .i64 x.o, .int .i64 x.d, .int .i64 x.u] 29) = v2 at *
      generalize v1.heap.size = b2 at *
      clear hN
      refine ⟨HS.out _ hB2.out, ?_⟩
      refine fm_skip rfl ?_
      refine fm_one ?_
      refine opW_take rfl rfl ?_
      go_simp
      refine (HT1.out v2 _ Z2_z1.out).mono ?_
      rintro e v3 ⟨rfl, hb⟩
      have hB3 := Lib.hid (below_step hB2.out hB2.out.size hb)
      have Z3_z1 := Lib.hid (Z2_z1.out.below hb)
      clear hb
      refine ⟨HS.out _ hB3.out, ?_⟩
      iterate 1 (refine fm_take (v := ?_) rfl rfl ?_ ?_; rotate_left; (next => (intro w' hSw; (try dsimp only at hSw); go_simp; (try (rw [if_pos (by omega)]; go_simp)); (try with_reducible rfl))); (simp only [Act.put, List.setIfInBounds_toArray, List.set_cons_zero, List.set_cons_succ]))
      iterate 1 (refine fm_take (v := ?_) rfl rfl ?_ ?_; rotate_left; (next => (intro w' hSw; (try dsimp only at hSw); go_simp; (try (rw [if_pos (by omega)]; go_simp)); (try with_reducible rfl))); (simp only [Act.put, List.setIfInBounds_toArray, List.set_cons_zero, List.set_cons_succ]))
      iterate 1 (refine fm_take (v := ?_) rfl rfl ?_ ?_; rotate_left; (next => (intro w' hSw; (try dsimp only at hSw); go_simp; (try (rw [if_pos (by omega)]; go_simp)); (try with_reducible rfl))); (simp only [Act.put, List.setIfInBounds_toArray, List.set_cons_zero, List.set_cons_succ]))
      refine fm_from ?_
      refine fm_one1 ?_ ?_
      · skip
        refine opW_take rfl rfl ?_
        go_simp
        refine (HC2.out v3).mono ?_
        rintro e v4 ⟨rfl, hb⟩
        have hB4 := Lib.hid (below_step hB3.out hB3.out.size hb)
        have Z4_z1 := Lib.hid (Z3_z1.out.below hb)
        clear hb
        refine ⟨HS.out _ hB4.out, ?_⟩
        refine fm_now ?_
        refine opW_take rfl rfl ?_
        go_simp
        have hbA : Below v4.heap.size v4 (v4.alloc (.cells #[.pointer y.p, .int .i64 y.r, .int .i64 y.c, .int .i64 y.o, .int .i64 y.d, .int .i64 y.u] 29)) := (Below.refl _ _).alloc (Nat.le_refl _) _
        have hz : Box (v4.alloc (.cells #[.pointer y.p, .int .i64 y.r, .int .i64 y.c, .int .i64 y.o, .int .i64 y.d, .int .i64 y.u] 29)) v4.heap.size ([y].flatMap Vw.cs) := Box.newA v4 ([y].flatMap Vw.cs) _ rfl
        have hB5 := Lib.hid (below_step hB4.out hB4.out.size hbA)
        have Z5_z1 := Lib.hid (Z4_z1.out.below hbA)
        have Z5_z2 := Lib.hid hz
        clear hbA hz
        generalize hN : v4.alloc (.cells #[.pointer y.p, .int .i64 y.r, .int .i64 y.c, .int .i64 y.o, .int .i64 y.d, .int .i64 y.u] 29) = v5 at *
        generalize v4.heap.size = b5 at *
        clear hN
        refine ⟨HS.out _ hB5.out, ?_⟩
        refine fm_skip rfl ?_
        refine fm_one ?_
        refine opW_take rfl rfl ?_
        go_simp
        refine (HT2.out v5 _ Z5_z2.out).mono ?_
        rintro e v6 ⟨rfl, hb⟩
        have hB6 := Lib.hid (below_step hB5.out hB5.out.size hb)
        have Z6_z1 := Lib.hid (Z5_z1.out.below hb)
        have Z6_z2 := Lib.hid (Z5_z2.out.below hb)
        clear hb
        refine ⟨HS.out _ hB6.out, ?_⟩
        iterate 1 (refine fm_take (v := ?_) rfl rfl ?_ ?_; rotate_left; (next => (intro w' hSw; (try dsimp only at hSw); go_simp; (try (rw [if_pos (by omega)]; go_simp)); (try with_reducible rfl))); (simp only [Act.put, List.setIfInBounds_toArray, List.set_cons_zero, List.set_cons_succ]))
        refine fm_nil ?_
        go_simp
        go_wp2
        refine NoPanic.normal ?_
        go_wp2_with fail
        go_ret
        exact ⟨by simp, hB6.out⟩
      · skip
        refine opW_take rfl rfl ?_
        go_simp
        have hbA : Below v3.heap.size v3 (v3.alloc (.cells #[.pointer y.p, .int .i64 y.r, .int .i64 y.c, .int .i64 y.o, .int .i64 y.d, .int .i64 y.u] 29)) := (Below.refl _ _).alloc (Nat.le_refl _) _
        have hz : Box (v3.alloc (.cells #[.pointer y.p, .int .i64 y.r, .int .i64 y.c, .int .i64 y.o, .int .i64 y.d, .int .i64 y.u] 29)) v3.heap.size ([y].flatMap Vw.cs) := Box.newA v3 ([y].flatMap Vw.cs) _ rfl
        have hB7 := Lib.hid (below_step hB3.out hB3.out.size hbA)
        have Z7_z1 := Lib.hid (Z3_z1.out.below hbA)
        have Z7_z2 := Lib.hid hz
        clear hbA hz
        generalize hN : v3.alloc (.cells #[.pointer y.p, .int .i64 y.r, .int .i64 y.c, .int .i64 y.o, .int .i64 y.d, .int .i64 y.u] 29) = v7 at *
        generalize v3.heap.size = b7 at *
        clear hN
        refine ⟨HS.out _ hB7.out, ?_⟩
        refine fm_one ?_
        refine opW_take rfl rfl ?_
        go_simp
        refine (HC2.out v7).mono ?_
        rintro e v8 ⟨rfl, hb⟩
        have hB8 := Lib.hid (below_step hB7.out hB7.out.size hb)
        have Z8_z1 := Lib.hid (Z7_z1.out.below hb)
        have Z8_z2 := Lib.hid (Z7_z2.out.below hb)
        clear hb
        refine ⟨HS.out _ hB8.out, ?_⟩
        refine fm_skip rfl ?_
        refine fm_one ?_
        refine opW_take rfl rfl ?_
        go_simp
        refine (HT2.out v8 _ Z8_z2.out).mono ?_
        rintro e v9 ⟨rfl, hb⟩
        have hB9 := Lib.hid (below_step hB8.out hB8.out.size hb)
        have Z9_z1 := Lib.hid (Z8_z1.out.below hb)
        have Z9_z2 := Lib.hid (Z8_z2.out.below hb)
        clear hb
        refine ⟨HS.out _ hB9.out, ?_⟩
        iterate 1 (refine fm_take (v := ?_) rfl rfl ?_ ?_; rotate_left; (next => (intro w' hSw; (try dsimp only at hSw); go_simp; (try (rw [if_pos (by omega)]; go_simp)); (try with_reducible rfl))); (simp only [Act.put, List.setIfInBounds_toArray, List.set_cons_zero, List.set_cons_succ]))
        refine fm_nil ?_
        go_simp
        go_wp2
        refine NoPanic.normal ?_
        go_wp2_with fail
        go_ret
        exact ⟨by simp, hB9.out⟩
    · skip
      refine opW_take rfl rfl ?_
      go_simp
      have hbA : Below w1.heap.size w1 (w1.alloc (.cells #[.pointer x.p, .int .i64 x.r, .int .i64 x.c, .int .i64 x.o, .int .i64 x.d, .int .i64 x.u] 29)) := (Below.refl _ _).alloc (Nat.le_refl _) _
      have hz : Box (w1.alloc (.cells #[.pointer x.p, .int .i64 x.r, .int .i64 x.c, .int .i64 x.o, .int .i64 x.d, .int .i64 x.u] 29)) w1.heap.size ([x].flatMap Vw.cs) := Box.newA w1 ([x].flatMap Vw.cs) _ rfl
      have hB10 := Lib.hid (below_step HB1.out HB1.out.size hbA)
      have Z10_z1 := Lib.hid hz
      clear hbA hz
      generalize hN : w1.alloc (.cells #[.pointer x.p, .int .i64 x.r, .int .i64 x.c, .int .i64 x.o, .int .i64 x.d, .int .i64 x.u] 29) = v10 at *
      generalize w1.heap.size = b10 at *
      clear hN
      refine ⟨HS.out _ hB10.out, ?_⟩
      refine fm_one ?_
      refine opW_take rfl rfl ?_
      go_simp
      refine (HC1.out v10).mono ?_
      rintro e v11 ⟨rfl, hb⟩
      have hB11 := Lib.hid (below_step hB10.out hB10.out.size hb)
      have Z11_z1 := Lib.hid (Z10_z1.out.below hb)
      clear hb
      refine ⟨HS.out _ hB11.out, ?_⟩
      refine fm_skip rfl ?_
      refine fm_one ?_
      refine opW_take rfl rfl ?_
      go_simp
      refine (HT1.out v11 _ Z11_z1.out).mono ?_
      rintro e v12 ⟨rfl, hb⟩
      have hB12 := Lib.hid (below_step hB11.out hB11.out.size hb)
      have Z12_z1 := Lib.hid (Z11_z1.out.below hb)
      clear hb
      refine ⟨HS.out _ hB12.out, ?_⟩
      iterate 1 (refine fm_take (v := ?_) rfl rfl ?_ ?_; rotate_left; (next => (intro w' hSw; (try dsimp only at hSw); go_simp; (try (rw [if_pos (by omega)]; go_simp)); (try with_reducible rfl))); (simp only [Act.put, List.setIfInBounds_toArray, List.set_cons_zero, List.set_cons_succ]))
      iterate 1 (refine fm_take (v := ?_) rfl rfl ?_ ?_; rotate_left; (next => (intro w' hSw; (try dsimp only at hSw); go_simp; (try (rw [if_pos (by omega)]; go_simp)); (try with_reducible rfl))); (simp only [Act.put, List.setIfInBounds_toArray, List.set_cons_zero, List.set_cons_succ]))
      iterate 1 (refine fm_take (v := ?_) rfl rfl ?_ ?_; rotate_left; (next => (intro w' hSw; (try dsimp only at hSw); go_simp; (try (rw [if_pos (by omega)]; go_simp)); (try with_reducible rfl))); (simp only [Act.put, List.setIfInBounds_toArray, List.set_cons_zero, List.set_cons_succ]))
      refine fm_from ?_
      refine fm_one1 ?_ ?_
      · skip
        refine opW_take rfl rfl ?_
        go_simp
        refine (HC2.out v12).mono ?_
        rintro e v13 ⟨rfl, hb⟩
        have hB13 := Lib.hid (below_step hB12.out hB12.out.size hb)
        have Z13_z1 := Lib.hid (Z12_z1.out.below hb)
        clear hb
        refine ⟨HS.out _ hB13.out, ?_⟩
        refine fm_now ?_
        refine opW_take rfl rfl ?_
        go_simp
        have hbA : Below v13.heap.size v13 (v13.alloc (.cells #[.pointer y.p, .int .i64 y.r, .int .i64 y.c, .int .i64 y.o, .int .i64 y.d, .int .i64 y.u] 29)) := (Below.refl _ _).alloc (Nat.le_refl _) _
        have hz : Box (v13.alloc (.cells #[.pointer y.p, .int .i64 y.r, .int .i64 y.c, .int .i64 y.o, .int .i64 y.d, .int .i64 y.u] 29)) v13.heap.size ([y].flatMap Vw.cs) := Box.newA v13 ([y].flatMap Vw.cs) _ rfl
        have hB14 := Lib.hid (below_step hB13.out hB13.out.size hbA)
        have Z14_z1 := Lib.hid (Z13_z1.out.below hbA)
        have Z14_z2 := Lib.hid hz
        clear hbA hz
        generalize hN : v13.alloc (.cells #[.pointer y.p, .int .i64 y.r, .int .i64 y.c, .int .i64 y.o, .int .i64 y.d, .int .i64 y.u] 29) = v14 at *
        generalize v13.heap.size = b14 at *
        clear hN
        refine ⟨HS.out _ hB14.out, ?_⟩
        refine fm_skip rfl ?_
        refine fm_one ?_
        refine opW_take rfl rfl ?_
        go_simp
        refine (HT2.out v14 _ Z14_z2.out).mono ?_
        rintro e v15 ⟨rfl, hb⟩
        have hB15 := Lib.hid (below_step hB14.out hB14.out.size hb)
        have Z15_z1 := Lib.hid (Z14_z1.out.below hb)
        have Z15_z2 := Lib.hid (Z14_z2.out.below hb)
        clear hb
        refine ⟨HS.out _ hB15.out, ?_⟩
        iterate 1 (refine fm_take (v := ?_) rfl rfl ?_ ?_; rotate_left; (next => (intro w' hSw; (try dsimp only at hSw); go_simp; (try (rw [if_pos (by omega)]; go_simp)); (try with_reducible rfl))); (simp only [Act.put, List.setIfInBounds_toArray, List.set_cons_zero, List.set_cons_succ]))
        refine fm_nil ?_
        go_simp
        go_wp2
        refine NoPanic.normal ?_
        go_wp2_with fail
        go_ret
        exact ⟨by simp, hB15.out⟩
      · skip
        refine opW_take rfl rfl ?_
        go_simp
        have hbA : Below v12.heap.size v12 (v12.alloc (.cells #[.pointer y.p, .int .i64 y.r, .int .i64 y.c, .int .i64 y.o, .int .i64 y.d, .int .i64 y.u] 29)) := (Below.refl _ _).alloc (Nat.le_refl _) _
        have hz : Box (v12.alloc (.cells #[.pointer y.p, .int .i64 y.r, .int .i64 y.c, .int .i64 y.o, .int .i64 y.d, .int .i64 y.u] 29)) v12.heap.size ([y].flatMap Vw.cs) := Box.newA v12 ([y].flatMap Vw.cs) _ rfl
        have hB16 := Lib.hid (below_step hB12.out hB12.out.size hbA)
        have Z16_z1 := Lib.hid (Z12_z1.out.below hbA)
        have Z16_z2 := Lib.hid hz
        clear hbA hz
        generalize hN : v12.alloc (.cells #[.pointer y.p, .int .i64 y.r, .int .i64 y.c, .int .i64 y.o, .int .i64 y.d, .int .i64 y.u] 29) = v16 at *
        generalize v12.heap.size = b16 at *
        clear hN
        refine ⟨HS.out _ hB16.out, ?_⟩
        refine fm_one ?_
        refine opW_take rfl rfl ?_
        go_simp
        refine (HC2.out v16).mono ?_
        rintro e v17 ⟨rfl, hb⟩
        have hB17 := Lib.hid (below_step hB16.out hB16.out.size hb)
        have Z17_z1 := Lib.hid (Z16_z1.out.below hb)
        have Z17_z2 := Lib.hid (Z16_z2.out.below hb)
        clear hb
        refine ⟨HS.out _ hB17.out, ?_⟩
        refine fm_skip rfl ?_
        refine fm_one ?_
        refine opW_take rfl rfl ?_
        go_simp
        refine (HT2.out v17 _ Z17_z2.out).mono ?_
        rintro e v18 ⟨rfl, hb⟩
        have hB18 := Lib.hid (below_step hB17.out hB17.out.size hb)
        have Z18_z1 := Lib.hid (Z17_z1.out.below hb)
        have Z18_z2 := Lib.hid (Z17_z2.out.below hb)
        clear hb
        refine ⟨HS.out _ hB18.out, ?_⟩
        iterate 1 (refine fm_take (v := ?_) rfl rfl ?_ ?_; rotate_left; (next => (intro w' hSw; (try dsimp only at hSw); go_simp; (try (rw [if_pos (by omega)]; go_simp)); (try with_reducible rfl))); (simp only [Act.put, List.setIfInBounds_toArray, List.set_cons_zero, List.set_cons_succ]))
        refine fm_nil ?_
        go_simp
        go_wp2
        refine NoPanic.normal ?_
        go_wp2_with fail
        go_ret
        exact ⟨by simp, hB18.out⟩
end Go.Proofs.Ytbcdpibcieadlaa
