/- Layer 8: the tests of Symv, Syr2, Syr2k (printed by gen_ls.py). No condition but on lengths. -/
import Derived.Test.YtbcdpibcieadlaaZz13
namespace Go.Proofs.Ytbcdpibcieadlaa
open Go Go.RowKit
set_option maxRecDepth 100000

def fits_Symv (m x y : Vw) : Bool := decide (m.r = m.c) && (vecN x m.c && vecN y m.c)
set_option maxHeartbeats 8000000 in
theorem Symvf_any (w : World) (m x y : Vw) (km kx ky : Nat) (hm : Box w km m.cs) (hx : Box w kx x.cs) (hy : Box w ky y.cs) (sx : x.r ≤ 512 ∧ x.c ≤ 512) (sy : y.r ≤ 512 ∧ y.c ≤ 512) :
    Calls Try.prog 89 #[.pointer (some ⟨km, 0, none⟩), .pointer (some ⟨kx, 0, none⟩), .pointer (some ⟨ky, 0, none⟩)] w fun e w' => e = .returned (.bool (fits_Symv m x y)) ∧ Below w.heap.size w w' := by
  have HQ := Lib.hid (fun W => square_any m W)
  have HC1 := Lib.hid (fun W => Cols_any m.p m.r m.c m.o m.d m.u W)
  have HT1 := Lib.hid (fun W b hb => vectors_any W (m.c : Nat) b [x, y] hb (fun v hv => by simp only [List.mem_cons, List.not_mem_nil, or_false] at hv; rcases hv with rfl | rfl; exact sx; exact sy) (by simp))
  unfold fits_Symv
  have HS := Lib.hid (show ∀ W, Below w.heap.size w W → (fun W => (∀ i, W.cell? ⟨km, i, none⟩ = ([.pointer m.p, .int .i64 m.r, .int .i64 m.c, .int .i64 m.o, .int .i64 m.d, .int .i64 m.u] : List Value)[i]?) ∧ (∀ i, W.cell? ⟨kx, i, none⟩ = ([.pointer x.p, .int .i64 x.r, .int .i64 x.c, .int .i64 x.o, .int .i64 x.d, .int .i64 x.u] : List Value)[i]?) ∧ (∀ i, W.cell? ⟨ky, i, none⟩ = ([.pointer y.p, .int .i64 y.r, .int .i64 y.c, .int .i64 y.o, .int .i64 y.d, .int .i64 y.u] : List Value)[i]?)) W from fun W h => ⟨(hm.below h).cell, (hx.below h).cell, (hy.below h).cell⟩)
  have HB1 := Lib.hid (show Below w.heap.size w w.drew from below_drewN 1 (Below.refl w.heap.size w))
  have e1 : ([x, y].all fun v => vecV v.p v.r v.c && decide ((lenV v.p v.r v.c : Int) = (m.c : Nat))) = (vecN x m.c && vecN y m.c) := by unfold vecN; simp
  rw [e1] at HT1
  clear hm hx hy sx sy e1
  generalize (vecN x m.c && vecN y m.c) = q2 at *
  generalize decide (m.r = m.c) = q1 at *
  cases q1
  · go_enter Try.func89, Try.ntmps89
    go_upto_region 1 with (fail)
    refine wp_region_many 10 40 [(0, 0), (1, 1), (0, 2), (0, 3), (0, 4), (0, 5), (0, 6), (0, 7), (0, 8), (0, 9)] (fun W => (∀ i, W.cell? ⟨km, i, none⟩ = ([.pointer m.p, .int .i64 m.r, .int .i64 m.c, .int .i64 m.o, .int .i64 m.d, .int .i64 m.u] : List Value)[i]?) ∧ (∀ i, W.cell? ⟨kx, i, none⟩ = ([.pointer x.p, .int .i64 x.r, .int .i64 x.c, .int .i64 x.o, .int .i64 x.d, .int .i64 x.u] : List Value)[i]?) ∧ (∀ i, W.cell? ⟨ky, i, none⟩ = ([.pointer y.p, .int .i64 y.r, .int .i64 y.c, .int .i64 y.o, .int .i64 y.d, .int .i64 y.u] : List Value)[i]?)) (by kernel_rfl) (by kernel_rfl) (HS.out _ HB1.out) ?_
    generalize w.drew = w1 at *
    iterate 1 (refine fm_take (v := ?_) rfl rfl ?_ ?_; rotate_left; (next => (intro w' hSw; (try dsimp only at hSw); go_simp; (try (rw [if_pos (by omega)]; go_simp)); (try with_reducible rfl))); (simp only [Act.put, List.setIfInBounds_toArray, List.set_cons_zero, List.set_cons_succ]))
    refine fm_one ?_
    refine opW_take rfl rfl ?_
    go_simp
    refine (HQ.out w1).mono ?_
    rintro e v1 ⟨rfl, hb⟩
    have hB1 := Lib.hid (below_step HB1.out HB1.out.size hb)
    clear hb
    refine ⟨HS.out _ hB1.out, ?_⟩
    iterate 1 (refine fm_take (v := ?_) rfl rfl ?_ ?_; rotate_left; (next => (intro w' hSw; (try dsimp only at hSw); go_simp; (try (rw [if_pos (by omega)]; go_simp)); (try with_reducible rfl))); (simp only [Act.put, List.setIfInBounds_toArray, List.set_cons_zero, List.set_cons_succ]))
    iterate 1 (refine fm_out rfl rfl ?_; (simp only [Act.put, List.setIfInBounds_toArray, List.set_cons_zero, List.set_cons_succ]))
    iterate 1 (refine fm_out rfl rfl ?_; (simp only [Act.put, List.setIfInBounds_toArray, List.set_cons_zero, List.set_cons_succ]))
    iterate 1 (refine fm_out rfl rfl ?_; (simp only [Act.put, List.setIfInBounds_toArray, List.set_cons_zero, List.set_cons_succ]))
    iterate 1 (refine fm_out rfl rfl ?_; (simp only [Act.put, List.setIfInBounds_toArray, List.set_cons_zero, List.set_cons_succ]))
    iterate 1 (refine fm_out rfl rfl ?_; (simp only [Act.put, List.setIfInBounds_toArray, List.set_cons_zero, List.set_cons_succ]))
    iterate 1 (refine fm_out rfl rfl ?_; (simp only [Act.put, List.setIfInBounds_toArray, List.set_cons_zero, List.set_cons_succ]))
    iterate 1 (refine fm_take (v := ?_) rfl rfl ?_ ?_; rotate_left; (next => (intro w' hSw; (try dsimp only at hSw); go_simp; (try (rw [if_pos (by omega)]; go_simp)); (try with_reducible rfl))); (simp only [Act.put, List.setIfInBounds_toArray, List.set_cons_zero, List.set_cons_succ]))
    refine fm_nil ?_
    go_simp
    go_wp2
    refine NoPanic.normal ?_
    go_wp2_with fail
    go_ret
    exact ⟨by simp, hB1.out⟩
  · go_enter Try.func89, Try.ntmps89
    go_upto_region 1 with (fail)
    refine wp_region_many 10 40 [(0, 0), (1, 1), (0, 2), (0, 3), (0, 5), (0, 6), (3, 7), (1, 4), (2, 7), (1, 8), (0, 9)] (fun W => (∀ i, W.cell? ⟨km, i, none⟩ = ([.pointer m.p, .int .i64 m.r, .int .i64 m.c, .int .i64 m.o, .int .i64 m.d, .int .i64 m.u] : List Value)[i]?) ∧ (∀ i, W.cell? ⟨kx, i, none⟩ = ([.pointer x.p, .int .i64 x.r, .int .i64 x.c, .int .i64 x.o, .int .i64 x.d, .int .i64 x.u] : List Value)[i]?) ∧ (∀ i, W.cell? ⟨ky, i, none⟩ = ([.pointer y.p, .int .i64 y.r, .int .i64 y.c, .int .i64 y.o, .int .i64 y.d, .int .i64 y.u] : List Value)[i]?)) (by kernel_rfl) (by kernel_rfl) (HS.out _ HB1.out) ?_
    generalize w.drew = w1 at *
    iterate 1 (refine fm_take (v := ?_) rfl rfl ?_ ?_; rotate_left; (next => (intro w' hSw; (try dsimp only at hSw); go_simp; (try (rw [if_pos (by omega)]; go_simp)); (try with_reducible rfl))); (simp only [Act.put, List.setIfInBounds_toArray, List.set_cons_zero, List.set_cons_succ]))
    refine fm_one ?_
    refine opW_take rfl rfl ?_
    go_simp
    refine (HQ.out w1).mono ?_
    rintro e v1 ⟨rfl, hb⟩
    have hB1 := Lib.hid (below_step HB1.out HB1.out.size hb)
    clear hb
    refine ⟨HS.out _ hB1.out, ?_⟩
    iterate 1 (refine fm_take (v := ?_) rfl rfl ?_ ?_; rotate_left; (next => (intro w' hSw; (try dsimp only at hSw); go_simp; (try (rw [if_pos (by omega)]; go_simp)); (try with_reducible rfl))); (simp only [Act.put, List.setIfInBounds_toArray, List.set_cons_zero, List.set_cons_succ]))
    iterate 1 (refine fm_take (v := ?_) rfl rfl ?_ ?_; rotate_left; (next => (intro w' hSw; (try dsimp only at hSw); go_simp; (try (rw [if_pos (by omega)]; go_simp)); (try with_reducible rfl))); (simp only [Act.put, List.setIfInBounds_toArray, List.set_cons_zero, List.set_cons_succ]))
    iterate 1 (refine fm_take (v := ?_) rfl rfl ?_ ?_; rotate_left; (next => (intro w' hSw; (try dsimp only at hSw); go_simp; (try (rw [if_pos (by omega)]; go_simp)); (try with_reducible rfl))); (simp only [Act.put, List.setIfInBounds_toArray, List.set_cons_zero, List.set_cons_succ]))
    iterate 1 (refine fm_take (v := ?_) rfl rfl ?_ ?_; rotate_left; (next => (intro w' hSw; (try dsimp only at hSw); go_simp; (try (rw [if_pos (by omega)]; go_simp)); (try with_reducible rfl))); (simp only [Act.put, List.setIfInBounds_toArray, List.set_cons_zero, List.set_cons_succ]))
    refine fm_from ?_
    refine fm_one1 ?_ ?_
    · skip
      refine opW_take rfl rfl ?_
      go_simp
      refine (HC1.out v1).mono ?_
      rintro e v2 ⟨rfl, hb⟩
      have hB2 := Lib.hid (below_step hB1.out hB1.out.size hb)
      clear hb
      refine ⟨HS.out _ hB2.out, ?_⟩
      refine fm_now ?_
      refine opW_take rfl rfl ?_
      go_simp
      have hbA : Below v2.heap.size v2 (v2.alloc (.cells #[.pointer x.p, .int .i64 x.r, .int .i64 x.c, .int .i64 x.o, .int .i64 x.d, .int .i64 x.u, .pointer y.p, .int .i64 y.r, .int .i64 y.c, .int .i64 y.o, .int .i64 y.d, .int .i64 y.u] 29)) := (Below.refl _ _).alloc (Nat.le_refl _) _
      have hz : Box (v2.alloc (.cells #[.pointer x.p, .int .i64 x.r, .int .i64 x.c, .int .i64 x.o, .int .i64 x.d, .int .i64 x.u, .pointer y.p, .int .i64 y.r, .int .i64 y.c, .int .i64 y.o, .int .i64 y.d, .int .i64 y.u] 29)) v2.heap.size ([x, y].flatMap Vw.cs) := Box.newA v2 ([x, y].flatMap Vw.cs) _ rfl
      have hB3 := Lib.hid (below_step hB2.out hB2.out.size hbA)
      have Z3_z1 := Lib.hid hz
      clear hbA hz
      generalize hN : v2.alloc (.cells #[.pointer x.p, .int .i64 x.r, .int .i64 x.c, .int .i64 x.o, .int .i64 x.d, .int .i64 x.u, .pointer y.p, .int .i64 y.r, .int .i64 y.c, .int .i64 y.o, .int .i64 y.d, .int .i64 y.u] 29) = v3 at *
      generalize v2.heap.size = b3 at *
      clear hN
      refine ⟨HS.out _ hB3.out, ?_⟩
      refine fm_skip rfl ?_
      refine fm_one ?_
      refine opW_take rfl rfl ?_
      go_simp
      refine (HT1.out v3 _ Z3_z1.out).mono ?_
      rintro e v4 ⟨rfl, hb⟩
      have hB4 := Lib.hid (below_step hB3.out hB3.out.size hb)
      have Z4_z1 := Lib.hid (Z3_z1.out.below hb)
      clear hb
      refine ⟨HS.out _ hB4.out, ?_⟩
      iterate 1 (refine fm_take (v := ?_) rfl rfl ?_ ?_; rotate_left; (next => (intro w' hSw; (try dsimp only at hSw); go_simp; (try (rw [if_pos (by omega)]; go_simp)); (try with_reducible rfl))); (simp only [Act.put, List.setIfInBounds_toArray, List.set_cons_zero, List.set_cons_succ]))
      refine fm_nil ?_
      go_simp
      go_wp2
      refine NoPanic.normal ?_
      go_wp2_with fail
      go_ret
      exact ⟨by simp, hB4.out⟩
    · skip
      refine opW_take rfl rfl ?_
      go_simp
      have hbA : Below v1.heap.size v1 (v1.alloc (.cells #[.pointer x.p, .int .i64 x.r, .int .i64 x.c, .int .i64 x.o, .int .i64 x.d, .int .i64 x.u, .pointer y.p, .int .i64 y.r, .int .i64 y.c, .int .i64 y.o, .int .i64 y.d, .int .i64 y.u] 29)) := (Below.refl _ _).alloc (Nat.le_refl _) _
      have hz : Box (v1.alloc (.cells #[.pointer x.p, .int .i64 x.r, .int .i64 x.c, .int .i64 x.o, .int .i64 x.d, .int .i64 x.u, .pointer y.p, .int .i64 y.r, .int .i64 y.c, .int .i64 y.o, .int .i64 y.d, .int .i64 y.u] 29)) v1.heap.size ([x, y].flatMap Vw.cs) := Box.newA v1 ([x, y].flatMap Vw.cs) _ rfl
      have hB5 := Lib.hid (below_step hB1.out hB1.out.size hbA)
      have Z5_z1 := Lib.hid hz
      clear hbA hz
      generalize hN : v1.alloc (.cells #[.pointer x.p, .int .i64 x.r, .int .i64 x.c, .int .i64 x.o, .int .i64 x.d, .int .i64 x.u, .pointer y.p, .int .i64 y.r, .int .i64 y.c, .int .i64 y.o, .int .i64 y.d, .int .i64 y.u] 29) = v5 at *
      generalize v1.heap.size = b5 at *
      clear hN
      refine ⟨HS.out _ hB5.out, ?_⟩
      refine fm_one ?_
      refine opW_take rfl rfl ?_
      go_simp
      refine (HC1.out v5).mono ?_
      rintro e v6 ⟨rfl, hb⟩
      have hB6 := Lib.hid (below_step hB5.out hB5.out.size hb)
      have Z6_z1 := Lib.hid (Z5_z1.out.below hb)
      clear hb
      refine ⟨HS.out _ hB6.out, ?_⟩
      refine fm_skip rfl ?_
      refine fm_one ?_
      refine opW_take rfl rfl ?_
      go_simp
      refine (HT1.out v6 _ Z6_z1.out).mono ?_
      rintro e v7 ⟨rfl, hb⟩
      have hB7 := Lib.hid (below_step hB6.out hB6.out.size hb)
      have Z7_z1 := Lib.hid (Z6_z1.out.below hb)
      clear hb
      refine ⟨HS.out _ hB7.out, ?_⟩
      iterate 1 (refine fm_take (v := ?_) rfl rfl ?_ ?_; rotate_left; (next => (intro w' hSw; (try dsimp only at hSw); go_simp; (try (rw [if_pos (by omega)]; go_simp)); (try with_reducible rfl))); (simp only [Act.put, List.setIfInBounds_toArray, List.set_cons_zero, List.set_cons_succ]))
      refine fm_nil ?_
      go_simp
      go_wp2
      refine NoPanic.normal ?_
      go_wp2_with fail
      go_ret
      exact ⟨by simp, hB7.out⟩
def fits_Syr2 (m x y : Vw) : Bool := decide (m.r = m.c) && (vecN x m.r && vecN y m.r)
set_option maxHeartbeats 8000000 in
theorem Syr2f_any (w : World) (m x y : Vw) (km kx ky : Nat) (hm : Box w km m.cs) (hx : Box w kx x.cs) (hy : Box w ky y.cs) (sx : x.r ≤ 512 ∧ x.c ≤ 512) (sy : y.r ≤ 512 ∧ y.c ≤ 512) :
    Calls Try.prog 92 #[.pointer (some ⟨km, 0, none⟩), .pointer (some ⟨kx, 0, none⟩), .pointer (some ⟨ky, 0, none⟩)] w fun e w' => e = .returned (.bool (fits_Syr2 m x y)) ∧ Below w.heap.size w w' := by
  have HQ := Lib.hid (fun W => square_any m W)
  have HC1 := Lib.hid (fun W => Rows_any m.p m.r m.c m.o m.d m.u W)
  have HT1 := Lib.hid (fun W b hb => vectors_any W (m.r : Nat) b [x, y] hb (fun v hv => by simp only [List.mem_cons, List.not_mem_nil, or_false] at hv; rcases hv with rfl | rfl; exact sx; exact sy) (by simp))
  unfold fits_Syr2
  have HS := Lib.hid (show ∀ W, Below w.heap.size w W → (fun W => (∀ i, W.cell? ⟨km, i, none⟩ = ([.pointer m.p, .int .i64 m.r, .int .i64 m.c, .int .i64 m.o, .int .i64 m.d, .int .i64 m.u] : List Value)[i]?) ∧ (∀ i, W.cell? ⟨kx, i, none⟩ = ([.pointer x.p, .int .i64 x.r, .int .i64 x.c, .int .i64 x.o, .int .i64 x.d, .int .i64 x.u] : List Value)[i]?) ∧ (∀ i, W.cell? ⟨ky, i, none⟩ = ([.pointer y.p, .int .i64 y.r, .int .i64 y.c, .int .i64 y.o, .int .i64 y.d, .int .i64 y.u] : List Value)[i]?)) W from fun W h => ⟨(hm.below h).cell, (hx.below h).cell, (hy.below h).cell⟩)
  have HB1 := Lib.hid (show Below w.heap.size w w.drew from below_drewN 1 (Below.refl w.heap.size w))
  have e1 : ([x, y].all fun v => vecV v.p v.r v.c && decide ((lenV v.p v.r v.c : Int) = (m.r : Nat))) = (vecN x m.r && vecN y m.r) := by unfold vecN; simp
  rw [e1] at HT1
  clear hm hx hy sx sy e1
  generalize (vecN x m.r && vecN y m.r) = q2 at *
  generalize decide (m.r = m.c) = q1 at *
  cases q1
  · go_enter Try.func92, Try.ntmps92
    go_upto_region 1 with (fail)
    refine wp_region_many 10 40 [(0, 0), (1, 1), (0, 2), (0, 3), (0, 4), (0, 5), (0, 6), (0, 7), (0, 8), (0, 9)] (fun W => (∀ i, W.cell? ⟨km, i, none⟩ = ([.pointer m.p, .int .i64 m.r, .int .i64 m.c, .int .i64 m.o, .int .i64 m.d, .int .i64 m.u] : List Value)[i]?) ∧ (∀ i, W.cell? ⟨kx, i, none⟩ = ([.pointer x.p, .int .i64 x.r, .int .i64 x.c, .int .i64 x.o, .int .i64 x.d, .int .i64 x.u] : List Value)[i]?) ∧ (∀ i, W.cell? ⟨ky, i, none⟩ = ([.pointer y.p, .int .i64 y.r, .int .i64 y.c, .int .i64 y.o, .int .i64 y.d, .int .i64 y.u] : List Value)[i]?)) (by kernel_rfl) (by kernel_rfl) (HS.out _ HB1.out) ?_
    generalize w.drew = w1 at *
    iterate 1 (refine fm_take (v := ?_) rfl rfl ?_ ?_; rotate_left; (next => (intro w' hSw; (try dsimp only at hSw); go_simp; (try (rw [if_pos (by omega)]; go_simp)); (try with_reducible rfl))); (simp only [Act.put, List.setIfInBounds_toArray, List.set_cons_zero, List.set_cons_succ]))
    refine fm_one ?_
    refine opW_take rfl rfl ?_
    go_simp
    refine (HQ.out w1).mono ?_
    rintro e v1 ⟨rfl, hb⟩
    have hB1 := Lib.hid (below_step HB1.out HB1.out.size hb)
    clear hb
    refine ⟨HS.out _ hB1.out, ?_⟩
    iterate 1 (refine fm_take (v := ?_) rfl rfl ?_ ?_; rotate_left; (next => (intro w' hSw; (try dsimp only at hSw); go_simp; (try (rw [if_pos (by omega)]; go_simp)); (try with_reducible rfl))); (simp only [Act.put, List.setIfInBounds_toArray, List.set_cons_zero, List.set_cons_succ]))
    iterate 1 (refine fm_out rfl rfl ?_; (simp only [Act.put, List.setIfInBounds_toArray, List.set_cons_zero, List.set_cons_succ]))
    iterate 1 (refine fm_out rfl rfl ?_; (simp only [Act.put, List.setIfInBounds_toArray, List.set_cons_zero, List.set_cons_succ]))
    iterate 1 (refine fm_out rfl rfl ?_; (simp only [Act.put, List.setIfInBounds_toArray, List.set_cons_zero, List.set_cons_succ]))
    iterate 1 (refine fm_out rfl rfl ?_; (simp only [Act.put, List.setIfInBounds_toArray, List.set_cons_zero, List.set_cons_succ]))
    iterate 1 (refine fm_out rfl rfl ?_; (simp only [Act.put, List.setIfInBounds_toArray, List.set_cons_zero, List.set_cons_succ]))
    iterate 1 (refine fm_out rfl rfl ?_; (simp only [Act.put, List.setIfInBounds_toArray, List.set_cons_zero, List.set_cons_succ]))
    iterate 1 (refine fm_take (v := ?_) rfl rfl ?_ ?_; rotate_left; (next => (intro w' hSw; (try dsimp only at hSw); go_simp; (try (rw [if_pos (by omega)]; go_simp)); (try with_reducible rfl))); (simp only [Act.put, List.setIfInBounds_toArray, List.set_cons_zero, List.set_cons_succ]))
    refine fm_nil ?_
    go_simp
    go_wp2
    refine NoPanic.normal ?_
    go_wp2_with fail
    go_ret
    exact ⟨by simp, hB1.out⟩
  · go_enter Try.func92, Try.ntmps92
    go_upto_region 1 with (fail)
    refine wp_region_many 10 40 [(0, 0), (1, 1), (0, 2), (0, 3), (0, 5), (0, 6), (3, 7), (1, 4), (2, 7), (1, 8), (0, 9)] (fun W => (∀ i, W.cell? ⟨km, i, none⟩ = ([.pointer m.p, .int .i64 m.r, .int .i64 m.c, .int .i64 m.o, .int .i64 m.d, .int .i64 m.u] : List Value)[i]?) ∧ (∀ i, W.cell? ⟨kx, i, none⟩ = ([.pointer x.p, .int .i64 x.r, .int .i64 x.c, .int .i64 x.o, .int .i64 x.d, .int .i64 x.u] : List Value)[i]?) ∧ (∀ i, W.cell? ⟨ky, i, none⟩ = ([.pointer y.p, .int .i64 y.r, .int .i64 y.c, .int .i64 y.o, .int .i64 y.d, .int .i64 y.u] : List Value)[i]?)) (by kernel_rfl) (by kernel_rfl) (HS.out _ HB1.out) ?_
    generalize w.drew = w1 at *
    iterate 1 (refine fm_take (v := ?_) rfl rfl ?_ ?_; rotate_left; (next => (intro w' hSw; (try dsimp only at hSw); go_simp; (try (rw [if_pos (by omega)]; go_simp)); (try with_reducible rfl))); (simp only [Act.put, List.setIfInBounds_toArray, List.set_cons_zero, List.set_cons_succ]))
    refine fm_one ?_
    refine opW_take rfl rfl ?_
    go_simp
    refine (HQ.out w1).mono ?_
    rintro e v1 ⟨rfl, hb⟩
    have hB1 := Lib.hid (below_step HB1.out HB1.out.size hb)
    clear hb
    refine ⟨HS.out _ hB1.out, ?_⟩
    iterate 1 (refine fm_take (v := ?_) rfl rfl ?_ ?_; rotate_left; (next => (intro w' hSw; (try dsimp only at hSw); go_simp; (try (rw [if_pos (by omega)]; go_simp)); (try with_reducible rfl))); (simp only [Act.put, List.setIfInBounds_toArray, List.set_cons_zero, List.set_cons_succ]))
    iterate 1 (refine fm_take (v := ?_) rfl rfl ?_ ?_; rotate_left; (next => (intro w' hSw; (try dsimp only at hSw); go_simp; (try (rw [if_pos (by omega)]; go_simp)); (try with_reducible rfl))); (simp only [Act.put, List.setIfInBounds_toArray, List.set_cons_zero, List.set_cons_succ]))
    iterate 1 (refine fm_take (v := ?_) rfl rfl ?_ ?_; rotate_left; (next => (intro w' hSw; (try dsimp only at hSw); go_simp; (try (rw [if_pos (by omega)]; go_simp)); (try with_reducible rfl))); (simp only [Act.put, List.setIfInBounds_toArray, List.set_cons_zero, List.set_cons_succ]))
    iterate 1 (refine fm_take (v := ?_) rfl rfl ?_ ?_; rotate_left; (next => (intro w' hSw; (try dsimp only at hSw); go_simp; (try (rw [if_pos (by omega)]; go_simp)); (try with_reducible rfl))); (simp only [Act.put, List.setIfInBounds_toArray, List.set_cons_zero, List.set_cons_succ]))
    refine fm_from ?_
    refine fm_one1 ?_ ?_
    · skip
      refine opW_take rfl rfl ?_
      go_simp
      refine (HC1.out v1).mono ?_
      rintro e v2 ⟨rfl, hb⟩
      have hB2 := Lib.hid (below_step hB1.out hB1.out.size hb)
      clear hb
      refine ⟨HS.out _ hB2.out, ?_⟩
      refine fm_now ?_
      refine opW_take rfl rfl ?_
      go_simp
      have hbA : Below v2.heap.size v2 (v2.alloc (.cells #[.pointer x.p, .int .i64 x.r, .int .i64 x.c, .int .i64 x.o, .int .i64 x.d, .int .i64 x.u, .pointer y.p, .int .i64 y.r, .int .i64 y.c, .int .i64 y.o, .int .i64 y.d, .int .i64 y.u] 29)) := (Below.refl _ _).alloc (Nat.le_refl _) _
      have hz : Box (v2.alloc (.cells #[.pointer x.p, .int .i64 x.r, .int .i64 x.c, .int .i64 x.o, .int .i64 x.d, .int .i64 x.u, .pointer y.p, .int .i64 y.r, .int .i64 y.c, .int .i64 y.o, .int .i64 y.d, .int .i64 y.u] 29)) v2.heap.size ([x, y].flatMap Vw.cs) := Box.newA v2 ([x, y].flatMap Vw.cs) _ rfl
      have hB3 := Lib.hid (below_step hB2.out hB2.out.size hbA)
      have Z3_z1 := Lib.hid hz
      clear hbA hz
      generalize hN : v2.alloc (.cells #[.pointer x.p, .int .i64 x.r, .int .i64 x.c, .int .i64 x.o, .int .i64 x.d, .int .i64 x.u, .pointer y.p, .int .i64 y.r, .int .i64 y.c, .int .i64 y.o, .int .i64 y.d, .int .i64 y.u] 29) = v3 at *
      generalize v2.heap.size = b3 at *
      clear hN
      refine ⟨HS.out _ hB3.out, ?_⟩
      refine fm_skip rfl ?_
      refine fm_one ?_
      refine opW_take rfl rfl ?_
      go_simp
      refine (HT1.out v3 _ Z3_z1.out).mono ?_
      rintro e v4 ⟨rfl, hb⟩
      have hB4 := Lib.hid (below_step hB3.out hB3.out.size hb)
      have Z4_z1 := Lib.hid (Z3_z1.out.below hb)
      clear hb
      refine ⟨HS.out _ hB4.out, ?_⟩
      iterate 1 (refine fm_take (v := ?_) rfl rfl ?_ ?_; rotate_left; (next => (intro w' hSw; (try dsimp only at hSw); go_simp; (try (rw [if_pos (by omega)]; go_simp)); (try with_reducible rfl))); (simp only [Act.put, List.setIfInBounds_toArray, List.set_cons_zero, List.set_cons_succ]))
      refine fm_nil ?_
      go_simp
      go_wp2
      refine NoPanic.normal ?_
      go_wp2_with fail
      go_ret
      exact ⟨by simp, hB4.out⟩
    · skip
      refine opW_take rfl rfl ?_
      go_simp
      have hbA : Below v1.heap.size v1 (v1.alloc (.cells #[.pointer x.p, .int .i64 x.r, .int .i64 x.c, .int .i64 x.o, .int .i64 x.d, .int .i64 x.u, .pointer y.p, .int .i64 y.r, .int .i64 y.c, .int .i64 y.o, .int .i64 y.d, .int .i64 y.u] 29)) := (Below.refl _ _).alloc (Nat.le_refl _) _
      have hz : Box (v1.alloc (.cells #[.pointer x.p, .int .i64 x.r, .int .i64 x.c, .int .i64 x.o, .int .i64 x.d, .int .i64 x.u, .pointer y.p, .int .i64 y.r, .int .i64 y.c, .int .i64 y.o, .int .i64 y.d, .int .i64 y.u] 29)) v1.heap.size ([x, y].flatMap Vw.cs) := Box.newA v1 ([x, y].flatMap Vw.cs) _ rfl
      have hB5 := Lib.hid (below_step hB1.out hB1.out.size hbA)
      have Z5_z1 := Lib.hid hz
      clear hbA hz
      generalize hN : v1.alloc (.cells #[.pointer x.p, .int .i64 x.r, .int .i64 x.c, .int .i64 x.o, .int .i64 x.d, .int .i64 x.u, .pointer y.p, .int .i64 y.r, .int .i64 y.c, .int .i64 y.o, .int .i64 y.d, .int .i64 y.u] 29) = v5 at *
      generalize v1.heap.size = b5 at *
      clear hN
      refine ⟨HS.out _ hB5.out, ?_⟩
      refine fm_one ?_
      refine opW_take rfl rfl ?_
      go_simp
      refine (HC1.out v5).mono ?_
      rintro e v6 ⟨rfl, hb⟩
      have hB6 := Lib.hid (below_step hB5.out hB5.out.size hb)
      have Z6_z1 := Lib.hid (Z5_z1.out.below hb)
      clear hb
      refine ⟨HS.out _ hB6.out, ?_⟩
      refine fm_skip rfl ?_
      refine fm_one ?_
      refine opW_take rfl rfl ?_
      go_simp
      refine (HT1.out v6 _ Z6_z1.out).mono ?_
      rintro e v7 ⟨rfl, hb⟩
      have hB7 := Lib.hid (below_step hB6.out hB6.out.size hb)
      have Z7_z1 := Lib.hid (Z6_z1.out.below hb)
      clear hb
      refine ⟨HS.out _ hB7.out, ?_⟩
      iterate 1 (refine fm_take (v := ?_) rfl rfl ?_ ?_; rotate_left; (next => (intro w' hSw; (try dsimp only at hSw); go_simp; (try (rw [if_pos (by omega)]; go_simp)); (try with_reducible rfl))); (simp only [Act.put, List.setIfInBounds_toArray, List.set_cons_zero, List.set_cons_succ]))
      refine fm_nil ?_
      go_simp
      go_wp2
      refine NoPanic.normal ?_
      go_wp2_with fail
      go_ret
      exact ⟨by simp, hB7.out⟩
def fits_Syr2k (o m n : Vw) : Bool := decide (o.r = o.c) && (decide (m.r = o.r) && (decide (n.r = o.r) && decide (m.c = n.c)))
set_option maxHeartbeats 8000000 in
theorem Syr2kf_any (w : World) (o m n : Vw) (ko km kn : Nat) (ho : Box w ko o.cs) (hm : Box w km m.cs) (hn : Box w kn n.cs) :
    Calls Try.prog 94 #[.pointer (some ⟨ko, 0, none⟩), .pointer (some ⟨km, 0, none⟩), .pointer (some ⟨kn, 0, none⟩)] w fun e w' => e = .returned (.bool (fits_Syr2k o m n)) ∧ Below w.heap.size w w' := by
  have HQ := Lib.hid (fun W => square_any o W)
  have HRo := Lib.hid (fun W => Rows_any o.p o.r o.c o.o o.d o.u W)
  have HCo := Lib.hid (fun W => Cols_any o.p o.r o.c o.o o.d o.u W)
  have HRm := Lib.hid (fun W => Rows_any m.p m.r m.c m.o m.d m.u W)
  have HCm := Lib.hid (fun W => Cols_any m.p m.r m.c m.o m.d m.u W)
  have HRn := Lib.hid (fun W => Rows_any n.p n.r n.c n.o n.d n.u W)
  have HCn := Lib.hid (fun W => Cols_any n.p n.r n.c n.o n.d n.u W)
  unfold fits_Syr2k
  have HS := Lib.hid (show ∀ W, Below w.heap.size w W → (fun W => (∀ i, W.cell? ⟨ko, i, none⟩ = ([.pointer o.p, .int .i64 o.r, .int .i64 o.c, .int .i64 o.o, .int .i64 o.d, .int .i64 o.u] : List Value)[i]?) ∧ (∀ i, W.cell? ⟨km, i, none⟩ = ([.pointer m.p, .int .i64 m.r, .int .i64 m.c, .int .i64 m.o, .int .i64 m.d, .int .i64 m.u] : List Value)[i]?) ∧ (∀ i, W.cell? ⟨kn, i, none⟩ = ([.pointer n.p, .int .i64 n.r, .int .i64 n.c, .int .i64 n.o, .int .i64 n.d, .int .i64 n.u] : List Value)[i]?)) W from fun W h => ⟨(ho.below h).cell, (hm.below h).cell, (hn.below h).cell⟩)
  have HB1 := Lib.hid (show Below w.heap.size w w.drew from below_drewN 1 (Below.refl w.heap.size w))
  have ee2 : ((m.r : Int) == (o.r : Int)) = decide (m.r = o.r) := by rw [Bool.eq_iff_iff]; simp; omega
  have ee3 : ((n.r : Int) == (o.r : Int)) = decide (n.r = o.r) := by rw [Bool.eq_iff_iff]; simp; omega
  have ee4 : ((m.c : Int) == (n.c : Int)) = decide (m.c = n.c) := by rw [Bool.eq_iff_iff]; simp; omega
  clear ho hm hn
  generalize decide (o.r = o.c) = q1 at *
  generalize decide (m.r = o.r) = q2 at *
  generalize decide (n.r = o.r) = q3 at *
  generalize decide (m.c = n.c) = q4 at *
  cases q1
  · go_enter Try.func94, Try.ntmps94
    go_upto_region 1 with (fail)
    refine wp_region_many 23 40 [(0, 0), (1, 1), (0, 2), (0, 3), (0, 5), (0, 4), (0, 6), (0, 7), (0, 8), (0, 9), (0, 10), (0, 12), (0, 11), (0, 13), (0, 14), (0, 15), (0, 16), (0, 17), (0, 19), (0, 18), (0, 20), (0, 21), (0, 22)] (fun W => (∀ i, W.cell? ⟨ko, i, none⟩ = ([.pointer o.p, .int .i64 o.r, .int .i64 o.c, .int .i64 o.o, .int .i64 o.d, .int .i64 o.u] : List Value)[i]?) ∧ (∀ i, W.cell? ⟨km, i, none⟩ = ([.pointer m.p, .int .i64 m.r, .int .i64 m.c, .int .i64 m.o, .int .i64 m.d, .int .i64 m.u] : List Value)[i]?) ∧ (∀ i, W.cell? ⟨kn, i, none⟩ = ([.pointer n.p, .int .i64 n.r, .int .i64 n.c, .int .i64 n.o, .int .i64 n.d, .int .i64 n.u] : List Value)[i]?)) (by kernel_rfl) (by kernel_rfl) (HS.out _ HB1.out) ?_
    generalize w.drew = w1 at *
    iterate 1 (refine fm_take (v := ?_) rfl rfl ?_ ?_; rotate_left; (next => (intro w' hSw; (try dsimp only at hSw); go_simp; (try (rw [if_pos (by omega)]; go_simp)); (try with_reducible rfl))); (simp only [Act.put, List.setIfInBounds_toArray, List.set_cons_zero, List.set_cons_succ]))
    refine fm_one ?_
    refine opW_take rfl rfl ?_
    go_simp
    refine (HQ.out w1).mono ?_
    rintro e v1 ⟨rfl, hb⟩
    have hB1 := Lib.hid (below_step HB1.out HB1.out.size hb)
    clear hb
    refine ⟨HS.out _ hB1.out, ?_⟩
    iterate 1 (refine fm_take (v := ?_) rfl rfl ?_ ?_; rotate_left; (next => (intro w' hSw; (try dsimp only at hSw); go_simp; (try (rw [if_pos (by omega)]; go_simp)); (try with_reducible rfl))); (simp only [Act.put, List.setIfInBounds_toArray, List.set_cons_zero, List.set_cons_succ]))
    iterate 1 (refine fm_out rfl rfl ?_; (simp only [Act.put, List.setIfInBounds_toArray, List.set_cons_zero, List.set_cons_succ]))
    iterate 1 (refine fm_out rfl rfl ?_; (simp only [Act.put, List.setIfInBounds_toArray, List.set_cons_zero, List.set_cons_succ]))
    iterate 1 (refine fm_out rfl rfl ?_; (simp only [Act.put, List.setIfInBounds_toArray, List.set_cons_zero, List.set_cons_succ]))
    iterate 1 (refine fm_out rfl rfl ?_; (simp only [Act.put, List.setIfInBounds_toArray, List.set_cons_zero, List.set_cons_succ]))
    iterate 1 (refine fm_out rfl rfl ?_; (simp only [Act.put, List.setIfInBounds_toArray, List.set_cons_zero, List.set_cons_succ]))
    iterate 1 (refine fm_take (v := ?_) rfl rfl ?_ ?_; rotate_left; (next => (intro w' hSw; (try dsimp only at hSw); go_simp; (try (rw [if_pos (by omega)]; go_simp)); (try with_reducible rfl))); (simp only [Act.put, List.setIfInBounds_toArray, List.set_cons_zero, List.set_cons_succ]))
    iterate 1 (refine fm_take (v := ?_) rfl rfl ?_ ?_; rotate_left; (next => (intro w' hSw; (try dsimp only at hSw); go_simp; (try (rw [if_pos (by omega)]; go_simp)); (try with_reducible rfl))); (simp only [Act.put, List.setIfInBounds_toArray, List.set_cons_zero, List.set_cons_succ]))
    iterate 1 (refine fm_out rfl rfl ?_; (simp only [Act.put, List.setIfInBounds_toArray, List.set_cons_zero, List.set_cons_succ]))
    iterate 1 (refine fm_out rfl rfl ?_; (simp only [Act.put, List.setIfInBounds_toArray, List.set_cons_zero, List.set_cons_succ]))
    iterate 1 (refine fm_out rfl rfl ?_; (simp only [Act.put, List.setIfInBounds_toArray, List.set_cons_zero, List.set_cons_succ]))
    iterate 1 (refine fm_out rfl rfl ?_; (simp only [Act.put, List.setIfInBounds_toArray, List.set_cons_zero, List.set_cons_succ]))
    iterate 1 (refine fm_out rfl rfl ?_; (simp only [Act.put, List.setIfInBounds_toArray, List.set_cons_zero, List.set_cons_succ]))
    iterate 1 (refine fm_take (v := ?_) rfl rfl ?_ ?_; rotate_left; (next => (intro w' hSw; (try dsimp only at hSw); go_simp; (try (rw [if_pos (by omega)]; go_simp)); (try with_reducible rfl))); (simp only [Act.put, List.setIfInBounds_toArray, List.set_cons_zero, List.set_cons_succ]))
    iterate 1 (refine fm_take (v := ?_) rfl rfl ?_ ?_; rotate_left; (next => (intro w' hSw; (try dsimp only at hSw); go_simp; (try (rw [if_pos (by omega)]; go_simp)); (try with_reducible rfl))); (simp only [Act.put, List.setIfInBounds_toArray, List.set_cons_zero, List.set_cons_succ]))
    iterate 1 (refine fm_out rfl rfl ?_; (simp only [Act.put, List.setIfInBounds_toArray, List.set_cons_zero, List.set_cons_succ]))
    iterate 1 (refine fm_out rfl rfl ?_; (simp only [Act.put, List.setIfInBounds_toArray, List.set_cons_zero, List.set_cons_succ]))
    iterate 1 (refine fm_out rfl rfl ?_; (simp only [Act.put, List.setIfInBounds_toArray, List.set_cons_zero, List.set_cons_succ]))
    iterate 1 (refine fm_out rfl rfl ?_; (simp only [Act.put, List.setIfInBounds_toArray, List.set_cons_zero, List.set_cons_succ]))
    iterate 1 (refine fm_out rfl rfl ?_; (simp only [Act.put, List.setIfInBounds_toArray, List.set_cons_zero, List.set_cons_succ]))
    iterate 1 (refine fm_take (v := ?_) rfl rfl ?_ ?_; rotate_left; (next => (intro w' hSw; (try dsimp only at hSw); go_simp; (try (rw [if_pos (by omega)]; go_simp)); (try with_reducible rfl))); (simp only [Act.put, List.setIfInBounds_toArray, List.set_cons_zero, List.set_cons_succ]))
    refine fm_nil ?_
    go_simp
    go_wp2
    refine NoPanic.normal ?_
    go_wp2_with fail
    go_ret
    exact ⟨by simp, hB1.out⟩
  cases q2
  · go_enter Try.func94, Try.ntmps94
    go_upto_region 1 with (fail)
    refine wp_region_many 23 40 [(0, 0), (1, 1), (0, 2), (0, 3), (0, 5), (1, 4), (1, 6), (0, 7), (0, 8), (0, 9), (0, 10), (0, 12), (0, 11), (0, 13), (0, 14), (0, 15), (0, 16), (0, 17), (0, 19), (0, 18), (0, 20), (0, 21), (0, 22)] (fun W => (∀ i, W.cell? ⟨ko, i, none⟩ = ([.pointer o.p, .int .i64 o.r, .int .i64 o.c, .int .i64 o.o, .int .i64 o.d, .int .i64 o.u] : List Value)[i]?) ∧ (∀ i, W.cell? ⟨km, i, none⟩ = ([.pointer m.p, .int .i64 m.r, .int .i64 m.c, .int .i64 m.o, .int .i64 m.d, .int .i64 m.u] : List Value)[i]?) ∧ (∀ i, W.cell? ⟨kn, i, none⟩ = ([.pointer n.p, .int .i64 n.r, .int .i64 n.c, .int .i64 n.o, .int .i64 n.d, .int .i64 n.u] : List Value)[i]?)) (by kernel_rfl) (by kernel_rfl) (HS.out _ HB1.out) ?_
    generalize w.drew = w1 at *
    iterate 1 (refine fm_take (v := ?_) rfl rfl ?_ ?_; rotate_left; (next => (intro w' hSw; (try dsimp only at hSw); go_simp; (try (rw [if_pos (by omega)]; go_simp)); (try with_reducible rfl))); (simp only [Act.put, List.setIfInBounds_toArray, List.set_cons_zero, List.set_cons_succ]))
    refine fm_one ?_
    refine opW_take rfl rfl ?_
    go_simp
    refine (HQ.out w1).mono ?_
    rintro e v1 ⟨rfl, hb⟩
    have hB1 := Lib.hid (below_step HB1.out HB1.out.size hb)
    clear hb
    refine ⟨HS.out _ hB1.out, ?_⟩
    iterate 1 (refine fm_take (v := ?_) rfl rfl ?_ ?_; rotate_left; (next => (intro w' hSw; (try dsimp only at hSw); go_simp; (try (rw [if_pos (by omega)]; go_simp)); (try with_reducible rfl))); (simp only [Act.put, List.setIfInBounds_toArray, List.set_cons_zero, List.set_cons_succ]))
    iterate 1 (refine fm_take (v := ?_) rfl rfl ?_ ?_; rotate_left; (next => (intro w' hSw; (try dsimp only at hSw); go_simp; (try (rw [if_pos (by omega)]; go_simp)); (try with_reducible rfl))); (simp only [Act.put, List.setIfInBounds_toArray, List.set_cons_zero, List.set_cons_succ]))
    iterate 1 (refine fm_take (v := ?_) rfl rfl ?_ ?_; rotate_left; (next => (intro w' hSw; (try dsimp only at hSw); go_simp; (try (rw [if_pos (by omega)]; go_simp)); (try with_reducible rfl))); (simp only [Act.put, List.setIfInBounds_toArray, List.set_cons_zero, List.set_cons_succ]))
    refine fm_one ?_
    refine opW_take rfl rfl ?_
    go_simp
    refine (HRm.out v1).mono ?_
    rintro e v2 ⟨rfl, hb⟩
    have hB2 := Lib.hid (below_step hB1.out hB1.out.size hb)
    clear hb
    refine ⟨HS.out _ hB2.out, ?_⟩
    refine fm_one ?_
    refine opW_take rfl rfl ?_
    go_simp
    refine (HRo.out v2).mono ?_
    rintro e v3 ⟨rfl, hb⟩
    have hB3 := Lib.hid (below_step hB2.out hB2.out.size hb)
    clear hb
    refine ⟨HS.out _ hB3.out, ?_⟩
    iterate 1 (refine fm_take (v := ?_) rfl rfl ?_ ?_; rotate_left; (next => (intro w' hSw; (try dsimp only at hSw); go_simp; (try (rw [if_pos (by omega)]; go_simp)); (try with_reducible rfl))); (simp only [Act.put, List.setIfInBounds_toArray, List.set_cons_zero, List.set_cons_succ]))
    iterate 1 (refine fm_take (v := ?_) rfl rfl ?_ ?_; rotate_left; (next => (intro w' hSw; (try dsimp only at hSw); go_simp; (try (rw [if_pos (by omega)]; go_simp)); (try with_reducible rfl))); (simp only [Act.put, List.setIfInBounds_toArray, List.set_cons_zero, List.set_cons_succ]))
    iterate 1 (refine fm_take (v := ?_) rfl rfl ?_ ?_; rotate_left; (next => (intro w' hSw; (try dsimp only at hSw); go_simp; (try (rw [if_pos (by omega)]; go_simp)); (try with_reducible rfl))); (simp only [Act.put, List.setIfInBounds_toArray, List.set_cons_zero, List.set_cons_succ]))
    iterate 1 (refine fm_out rfl rfl ?_; (simp only [Act.put, List.setIfInBounds_toArray, List.set_cons_zero, List.set_cons_succ]))
    iterate 1 (refine fm_out rfl rfl ?_; (simp only [Act.put, List.setIfInBounds_toArray, List.set_cons_zero, List.set_cons_succ]))
    iterate 1 (refine fm_out rfl rfl ?_; (simp only [Act.put, List.setIfInBounds_toArray, List.set_cons_zero, List.set_cons_succ]))
    iterate 1 (refine fm_out rfl rfl ?_; (simp only [Act.put, List.setIfInBounds_toArray, List.set_cons_zero, List.set_cons_succ]))
    iterate 1 (refine fm_out rfl rfl ?_; (simp only [Act.put, List.setIfInBounds_toArray, List.set_cons_zero, List.set_cons_succ]))
    iterate 1 (refine fm_take (v := ?_) rfl rfl ?_ ?_; rotate_left; (next => (intro w' hSw; (try dsimp only at hSw); go_simp; (try (rw [if_pos (by omega)]; go_simp)); (try with_reducible rfl))); (simp only [Act.put, List.setIfInBounds_toArray, List.set_cons_zero, List.set_cons_succ]))
    iterate 1 (refine fm_take (v := ?_) rfl rfl ?_ ?_; rotate_left; (next => (intro w' hSw; (try dsimp only at hSw); go_simp; (try (rw [if_pos (by omega)]; go_simp)); (try with_reducible rfl))); (simp only [Act.put, List.setIfInBounds_toArray, List.set_cons_zero, List.set_cons_succ]))
    iterate 1 (refine fm_out rfl rfl ?_; (simp only [Act.put, List.setIfInBounds_toArray, List.set_cons_zero, List.set_cons_succ]))
    iterate 1 (refine fm_out rfl rfl ?_; (simp only [Act.put, List.setIfInBounds_toArray, List.set_cons_zero, List.set_cons_succ]))
    iterate 1 (refine fm_out rfl rfl ?_; (simp only [Act.put, List.setIfInBounds_toArray, List.set_cons_zero, List.set_cons_succ]))
    iterate 1 (refine fm_out rfl rfl ?_; (simp only [Act.put, List.setIfInBounds_toArray, List.set_cons_zero, List.set_cons_succ]))
    iterate 1 (refine fm_out rfl rfl ?_; (simp only [Act.put, List.setIfInBounds_toArray, List.set_cons_zero, List.set_cons_succ]))
    iterate 1 (refine fm_take (v := ?_) rfl rfl ?_ ?_; rotate_left; (next => (intro w' hSw; (try dsimp only at hSw); go_simp; (try (rw [if_pos (by omega)]; go_simp)); (try with_reducible rfl))); (simp only [Act.put, List.setIfInBounds_toArray, List.set_cons_zero, List.set_cons_succ]))
    refine fm_nil ?_
    go_simp
    go_wp2
    refine NoPanic.normal ?_
    go_wp2_with fail
    go_ret
    exact ⟨by simp, hB3.out⟩
  cases q3
  · go_enter Try.func94, Try.ntmps94
    go_upto_region 1 with (fail)
    refine wp_region_many 23 40 [(0, 0), (1, 1), (0, 2), (0, 3), (0, 5), (1, 4), (1, 6), (0, 7), (0, 8), (0, 9), (0, 10), (0, 12), (1, 11), (1, 13), (0, 14), (0, 15), (0, 16), (0, 17), (0, 19), (0, 18), (0, 20), (0, 21), (0, 22)] (fun W => (∀ i, W.cell? ⟨ko, i, none⟩ = ([.pointer o.p, .int .i64 o.r, .int .i64 o.c, .int .i64 o.o, .int .i64 o.d, .int .i64 o.u] : List Value)[i]?) ∧ (∀ i, W.cell? ⟨km, i, none⟩ = ([.pointer m.p, .int .i64 m.r, .int .i64 m.c, .int .i64 m.o, .int .i64 m.d, .int .i64 m.u] : List Value)[i]?) ∧ (∀ i, W.cell? ⟨kn, i, none⟩ = ([.pointer n.p, .int .i64 n.r, .int .i64 n.c, .int .i64 n.o, .int .i64 n.d, .int .i64 n.u] : List Value)[i]?)) (by kernel_rfl) (by kernel_rfl) (HS.out _ HB1.out) ?_
    generalize w.drew = w1 at *
    iterate 1 (refine fm_take (v := ?_) rfl rfl ?_ ?_; rotate_left; (next => (intro w' hSw; (try dsimp only at hSw); go_simp; (try (rw [if_pos (by omega)]; go_simp)); (try with_reducible rfl))); (simp only [Act.put, List.setIfInBounds_toArray, List.set_cons_zero, List.set_cons_succ]))
    refine fm_one ?_
    refine opW_take rfl rfl ?_
    go_simp
    refine (HQ.out w1).mono ?_
    rintro e v1 ⟨rfl, hb⟩
    have hB1 := Lib.hid (below_step HB1.out HB1.out.size hb)
    clear hb
    refine ⟨HS.out _ hB1.out, ?_⟩
    iterate 1 (refine fm_take (v := ?_) rfl rfl ?_ ?_; rotate_left; (next => (intro w' hSw; (try dsimp only at hSw); go_simp; (try (rw [if_pos (by omega)]; go_simp)); (try with_reducible rfl))); (simp only [Act.put, List.setIfInBounds_toArray, List.set_cons_zero, List.set_cons_succ]))
    iterate 1 (refine fm_take (v := ?_) rfl rfl ?_ ?_; rotate_left; (next => (intro w' hSw; (try dsimp only at hSw); go_simp; (try (rw [if_pos (by omega)]; go_simp)); (try with_reducible rfl))); (simp only [Act.put, List.setIfInBounds_toArray, List.set_cons_zero, List.set_cons_succ]))
    iterate 1 (refine fm_take (v := ?_) rfl rfl ?_ ?_; rotate_left; (next => (intro w' hSw; (try dsimp only at hSw); go_simp; (try (rw [if_pos (by omega)]; go_simp)); (try with_reducible rfl))); (simp only [Act.put, List.setIfInBounds_toArray, List.set_cons_zero, List.set_cons_succ]))
    refine fm_one ?_
    refine opW_take rfl rfl ?_
    go_simp
    refine (HRm.out v1).mono ?_
    rintro e v2 ⟨rfl, hb⟩
    have hB2 := Lib.hid (below_step hB1.out hB1.out.size hb)
    clear hb
    refine ⟨HS.out _ hB2.out, ?_⟩
    refine fm_one ?_
    refine opW_take rfl rfl ?_
    go_simp
    refine (HRo.out v2).mono ?_
    rintro e v3 ⟨rfl, hb⟩
    have hB3 := Lib.hid (below_step hB2.out hB2.out.size hb)
    clear hb
    refine ⟨HS.out _ hB3.out, ?_⟩
    iterate 1 (refine fm_take (v := ?_) rfl rfl ?_ ?_; rotate_left; (next => (intro w' hSw; (try dsimp only at hSw); go_simp; (try (rw [if_pos (by omega)]; go_simp)); (try with_reducible rfl))); (simp only [Act.put, List.setIfInBounds_toArray, List.set_cons_zero, List.set_cons_succ]))
    iterate 1 (refine fm_take (v := ?_) rfl rfl ?_ ?_; rotate_left; (next => (intro w' hSw; (try dsimp only at hSw); go_simp; (try (rw [if_pos (by omega)]; go_simp)); (try with_reducible rfl))); (simp only [Act.put, List.setIfInBounds_toArray, List.set_cons_zero, List.set_cons_succ]))
    iterate 1 (refine fm_take (v := ?_) rfl rfl ?_ ?_; rotate_left; (next => (intro w' hSw; (try dsimp only at hSw); go_simp; (try (rw [if_pos (by omega)]; go_simp)); (try with_reducible rfl))); (simp only [Act.put, List.setIfInBounds_toArray, List.set_cons_zero, List.set_cons_succ]))
    iterate 1 (refine fm_take (v := ?_) rfl rfl ?_ ?_; rotate_left; (next => (intro w' hSw; (try dsimp only at hSw); go_simp; (try (rw [if_pos (by omega)]; go_simp)); (try with_reducible rfl))); (simp only [Act.put, List.setIfInBounds_toArray, List.set_cons_zero, List.set_cons_succ]))
    iterate 1 (refine fm_take (v := ?_) rfl rfl ?_ ?_; rotate_left; (next => (intro w' hSw; (try dsimp only at hSw); go_simp; (try (rw [if_pos (by omega)]; go_simp)); (try with_reducible rfl))); (simp only [Act.put, List.setIfInBounds_toArray, List.set_cons_zero, List.set_cons_succ]))
    refine fm_one ?_
    refine opW_take rfl rfl ?_
    go_simp
    refine (HRn.out v3).mono ?_
    rintro e v4 ⟨rfl, hb⟩
    have hB4 := Lib.hid (below_step hB3.out hB3.out.size hb)
    clear hb
    refine ⟨HS.out _ hB4.out, ?_⟩
    refine fm_one ?_
    refine opW_take rfl rfl ?_
    go_simp
    refine (HRo.out v4).mono ?_
    rintro e v5 ⟨rfl, hb⟩
    have hB5 := Lib.hid (below_step hB4.out hB4.out.size hb)
    clear hb
    refine ⟨HS.out _ hB5.out, ?_⟩
    iterate 1 (refine fm_take (v := ?_) rfl rfl ?_ ?_; rotate_left; (next => (intro w' hSw; (try dsimp only at hSw); go_simp; (try (rw [if_pos (by omega)]; go_simp)); (try with_reducible rfl))); (simp only [Act.put, List.setIfInBounds_toArray, List.set_cons_zero, List.set_cons_succ]))
    iterate 1 (refine fm_take (v := ?_) rfl rfl ?_ ?_; rotate_left; (next => (intro w' hSw; (try dsimp only at hSw); go_simp; (try (rw [if_pos (by omega)]; go_simp)); (try with_reducible rfl))); (simp only [Act.put, List.setIfInBounds_toArray, List.set_cons_zero, List.set_cons_succ]))
    iterate 1 (refine fm_take (v := ?_) rfl rfl ?_ ?_; rotate_left; (next => (intro w' hSw; (try dsimp only at hSw); go_simp; (try (rw [if_pos (by omega)]; go_simp)); (try with_reducible rfl))); (simp only [Act.put, List.setIfInBounds_toArray, List.set_cons_zero, List.set_cons_succ]))
    iterate 1 (refine fm_out rfl rfl ?_; (simp only [Act.put, List.setIfInBounds_toArray, List.set_cons_zero, List.set_cons_succ]))
    iterate 1 (refine fm_out rfl rfl ?_; (simp only [Act.put, List.setIfInBounds_toArray, List.set_cons_zero, List.set_cons_succ]))
    iterate 1 (refine fm_out rfl rfl ?_; (simp only [Act.put, List.setIfInBounds_toArray, List.set_cons_zero, List.set_cons_succ]))
    iterate 1 (refine fm_out rfl rfl ?_; (simp only [Act.put, List.setIfInBounds_toArray, List.set_cons_zero, List.set_cons_succ]))
    iterate 1 (refine fm_out rfl rfl ?_; (simp only [Act.put, List.setIfInBounds_toArray, List.set_cons_zero, List.set_cons_succ]))
    iterate 1 (refine fm_take (v := ?_) rfl rfl ?_ ?_; rotate_left; (next => (intro w' hSw; (try dsimp only at hSw); go_simp; (try (rw [if_pos (by omega)]; go_simp)); (try with_reducible rfl))); (simp only [Act.put, List.setIfInBounds_toArray, List.set_cons_zero, List.set_cons_succ]))
    refine fm_nil ?_
    go_simp
    go_wp2
    refine NoPanic.normal ?_
    go_wp2_with fail
    go_ret
    exact ⟨by simp, hB5.out⟩
  · go_enter Try.func94, Try.ntmps94
    go_upto_region 1 with (fail)
    refine wp_region_many 23 40 [(0, 0), (1, 1), (0, 2), (0, 3), (0, 5), (1, 4), (1, 6), (0, 7), (0, 8), (0, 9), (0, 10), (0, 12), (1, 11), (1, 13), (0, 14), (0, 15), (0, 16), (0, 17), (0, 19), (1, 18), (1, 20), (0, 21), (0, 22)] (fun W => (∀ i, W.cell? ⟨ko, i, none⟩ = ([.pointer o.p, .int .i64 o.r, .int .i64 o.c, .int .i64 o.o, .int .i64 o.d, .int .i64 o.u] : List Value)[i]?) ∧ (∀ i, W.cell? ⟨km, i, none⟩ = ([.pointer m.p, .int .i64 m.r, .int .i64 m.c, .int .i64 m.o, .int .i64 m.d, .int .i64 m.u] : List Value)[i]?) ∧ (∀ i, W.cell? ⟨kn, i, none⟩ = ([.pointer n.p, .int .i64 n.r, .int .i64 n.c, .int .i64 n.o, .int .i64 n.d, .int .i64 n.u] : List Value)[i]?)) (by kernel_rfl) (by kernel_rfl) (HS.out _ HB1.out) ?_
    generalize w.drew = w1 at *
    iterate 1 (refine fm_take (v := ?_) rfl rfl ?_ ?_; rotate_left; (next => (intro w' hSw; (try dsimp only at hSw); go_simp; (try (rw [if_pos (by omega)]; go_simp)); (try with_reducible rfl))); (simp only [Act.put, List.setIfInBounds_toArray, List.set_cons_zero, List.set_cons_succ]))
    refine fm_one ?_
    refine opW_take rfl rfl ?_
    go_simp
    refine (HQ.out w1).mono ?_
    rintro e v1 ⟨rfl, hb⟩
    have hB1 := Lib.hid (below_step HB1.out HB1.out.size hb)
    clear hb
    refine ⟨HS.out _ hB1.out, ?_⟩
    iterate 1 (refine fm_take (v := ?_) rfl rfl ?_ ?_; rotate_left; (next => (intro w' hSw; (try dsimp only at hSw); go_simp; (try (rw [if_pos (by omega)]; go_simp)); (try with_reducible rfl))); (simp only [Act.put, List.setIfInBounds_toArray, List.set_cons_zero, List.set_cons_succ]))
    iterate 1 (refine fm_take (v := ?_) rfl rfl ?_ ?_; rotate_left; (next => (intro w' hSw; (try dsimp only at hSw); go_simp; (try (rw [if_pos (by omega)]; go_simp)); (try with_reducible rfl))); (simp only [Act.put, List.setIfInBounds_toArray, List.set_cons_zero, List.set_cons_succ]))
    iterate 1 (refine fm_take (v := ?_) rfl rfl ?_ ?_; rotate_left; (next => (intro w' hSw; (try dsimp only at hSw); go_simp; (try (rw [if_pos (by omega)]; go_simp)); (try with_reducible rfl))); (simp only [Act.put, List.setIfInBounds_toArray, List.set_cons_zero, List.set_cons_succ]))
    refine fm_one ?_
    refine opW_take rfl rfl ?_
    go_simp
    refine (HRm.out v1).mono ?_
    rintro e v2 ⟨rfl, hb⟩
    have hB2 := Lib.hid (below_step hB1.out hB1.out.size hb)
    clear hb
    refine ⟨HS.out _ hB2.out, ?_⟩
    refine fm_one ?_
    refine opW_take rfl rfl ?_
    go_simp
    refine (HRo.out v2).mono ?_
    rintro e v3 ⟨rfl, hb⟩
    have hB3 := Lib.hid (below_step hB2.out hB2.out.size hb)
    clear hb
    refine ⟨HS.out _ hB3.out, ?_⟩
    iterate 1 (refine fm_take (v := ?_) rfl rfl ?_ ?_; rotate_left; (next => (intro w' hSw; (try dsimp only at hSw); go_simp; (try (rw [if_pos (by omega)]; go_simp)); (try with_reducible rfl))); (simp only [Act.put, List.setIfInBounds_toArray, List.set_cons_zero, List.set_cons_succ]))
    iterate 1 (refine fm_take (v := ?_) rfl rfl ?_ ?_; rotate_left; (next => (intro w' hSw; (try dsimp only at hSw); go_simp; (try (rw [if_pos (by omega)]; go_simp)); (try with_reducible rfl))); (simp only [Act.put, List.setIfInBounds_toArray, List.set_cons_zero, List.set_cons_succ]))
    iterate 1 (refine fm_take (v := ?_) rfl rfl ?_ ?_; rotate_left; (next => (intro w' hSw; (try dsimp only at hSw); go_simp; (try (rw [if_pos (by omega)]; go_simp)); (try with_reducible rfl))); (simp only [Act.put, List.setIfInBounds_toArray, List.set_cons_zero, List.set_cons_succ]))
    iterate 1 (refine fm_take (v := ?_) rfl rfl ?_ ?_; rotate_left; (next => (intro w' hSw; (try dsimp only at hSw); go_simp; (try (rw [if_pos (by omega)]; go_simp)); (try with_reducible rfl))); (simp only [Act.put, List.setIfInBounds_toArray, List.set_cons_zero, List.set_cons_succ]))
    iterate 1 (refine fm_take (v := ?_) rfl rfl ?_ ?_; rotate_left; (next => (intro w' hSw; (try dsimp only at hSw); go_simp; (try (rw [if_pos (by omega)]; go_simp)); (try with_reducible rfl))); (simp only [Act.put, List.setIfInBounds_toArray, List.set_cons_zero, List.set_cons_succ]))
    refine fm_one ?_
    refine opW_take rfl rfl ?_
    go_simp
    refine (HRn.out v3).mono ?_
    rintro e v4 ⟨rfl, hb⟩
    have hB4 := Lib.hid (below_step hB3.out hB3.out.size hb)
    clear hb
    refine ⟨HS.out _ hB4.out, ?_⟩
    refine fm_one ?_
    refine opW_take rfl rfl ?_
    go_simp
    refine (HRo.out v4).mono ?_
    rintro e v5 ⟨rfl, hb⟩
    have hB5 := Lib.hid (below_step hB4.out hB4.out.size hb)
    clear hb
    refine ⟨HS.out _ hB5.out, ?_⟩
    iterate 1 (refine fm_take (v := ?_) rfl rfl ?_ ?_; rotate_left; (next => (intro w' hSw; (try dsimp only at hSw); go_simp; (try (rw [if_pos (by omega)]; go_simp)); (try with_reducible rfl))); (simp only [Act.put, List.setIfInBounds_toArray, List.set_cons_zero, List.set_cons_succ]))
    iterate 1 (refine fm_take (v := ?_) rfl rfl ?_ ?_; rotate_left; (next => (intro w' hSw; (try dsimp only at hSw); go_simp; (try (rw [if_pos (by omega)]; go_simp)); (try with_reducible rfl))); (simp only [Act.put, List.setIfInBounds_toArray, List.set_cons_zero, List.set_cons_succ]))
    iterate 1 (refine fm_take (v := ?_) rfl rfl ?_ ?_; rotate_left; (next => (intro w' hSw; (try dsimp only at hSw); go_simp; (try (rw [if_pos (by omega)]; go_simp)); (try with_reducible rfl))); (simp only [Act.put, List.setIfInBounds_toArray, List.set_cons_zero, List.set_cons_succ]))
    iterate 1 (refine fm_take (v := ?_) rfl rfl ?_ ?_; rotate_left; (next => (intro w' hSw; (try dsimp only at hSw); go_simp; (try (rw [if_pos (by omega)]; go_simp)); (try with_reducible rfl))); (simp only [Act.put, List.setIfInBounds_toArray, List.set_cons_zero, List.set_cons_succ]))
    iterate 1 (refine fm_take (v := ?_) rfl rfl ?_ ?_; rotate_left; (next => (intro w' hSw; (try dsimp only at hSw); go_simp; (try (rw [if_pos (by omega)]; go_simp)); (try with_reducible rfl))); (simp only [Act.put, List.setIfInBounds_toArray, List.set_cons_zero, List.set_cons_succ]))
    refine fm_one ?_
    refine opW_take rfl rfl ?_
    go_simp
    refine (HCm.out v5).mono ?_
    rintro e v6 ⟨rfl, hb⟩
    have hB6 := Lib.hid (below_step hB5.out hB5.out.size hb)
    clear hb
    refine ⟨HS.out _ hB6.out, ?_⟩
    refine fm_one ?_
    refine opW_take rfl rfl ?_
    go_simp
    refine (HCn.out v6).mono ?_
    rintro e v7 ⟨rfl, hb⟩
    have hB7 := Lib.hid (below_step hB6.out hB6.out.size hb)
    clear hb
    refine ⟨HS.out _ hB7.out, ?_⟩
    iterate 1 (refine fm_take (v := ?_) rfl rfl ?_ ?_; rotate_left; (next => (intro w' hSw; (try dsimp only at hSw); go_simp; (try (rw [if_pos (by omega)]; go_simp)); (try with_reducible rfl))); (simp only [Act.put, List.setIfInBounds_toArray, List.set_cons_zero, List.set_cons_succ]))
    iterate 1 (refine fm_take (v := ?_) rfl rfl ?_ ?_; rotate_left; (next => (intro w' hSw; (try dsimp only at hSw); go_simp; (try (rw [if_pos (by omega)]; go_simp)); (try with_reducible rfl))); (simp only [Act.put, List.setIfInBounds_toArray, List.set_cons_zero, List.set_cons_succ]))
    refine fm_nil ?_
    go_simp
    go_wp2
    refine NoPanic.normal ?_
    go_wp2_with fail
    go_ret
    exact ⟨by simp, hB7.out⟩
end Go.Proofs.Ytbcdpibcieadlaa
