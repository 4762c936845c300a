/- Layer 8: Swap (printed by gen_ph.py). No condition but on lengths. -/
import Derived.Test.YtbcdpibcieadlaaPgZ
import Derived.Test.YtbcdpibcieadlaaZz21
namespace Go.Proofs.Ytbcdpibcieadlaa
open Go Go.RowKit
set_option maxRecDepth 1000000

def fits_Swap (x y : Vw) (sh : Bool) : Bool := decide (x.r = y.r) && (decide (x.c = y.c) && !sh)
set_option maxHeartbeats 8000000 in
theorem Swapf_any (w : World) (x y : Vw) (kx ky : Nat) (sh : Bool) (hx : Box w kx x.cs) (hy : Box w ky y.cs) (hsh : ∀ W, Below w.heap.size w W → Calls Try.prog 97 #[(.agg #[.pointer x.p, .int .i64 x.r, .int .i64 x.c, .int .i64 x.o, .int .i64 x.d, .int .i64 x.u]), (.agg #[.pointer y.p, .int .i64 y.r, .int .i64 y.c, .int .i64 y.o, .int .i64 y.d, .int .i64 y.u])] W fun e w' => e = .returned (.bool sh) ∧ Below W.heap.size W w') :
    Calls Try.prog 96 #[.pointer (some ⟨kx, 0, none⟩), .pointer (some ⟨ky, 0, none⟩)] w fun e w' => e = .returned (.bool (fits_Swap x y sh)) ∧ Below w.heap.size w w' := by
  have HRx := Lib.hid (fun W => Rows_any x.p x.r x.c x.o x.d x.u W)
  have HCx := Lib.hid (fun W => Cols_any x.p x.r x.c x.o x.d x.u W)
  have HRy := Lib.hid (fun W => Rows_any y.p y.r y.c y.o y.d y.u W)
  have HCy := Lib.hid (fun W => Cols_any y.p y.r y.c y.o y.d y.u W)
  have HSh := Lib.hid hsh
  unfold fits_Swap
  have HS := Lib.hid (show ∀ W, Below w.heap.size w W → (fun W => (∀ i, W.cell? ⟨kx, i, none⟩ = ([.pointer x.p, .int .i64 x.r, .int .i64 x.c, .int .i64 x.o, .int .i64 x.d, .int .i64 x.u] : List Value)[i]?) ∧ (∀ i, W.cell? ⟨ky, i, none⟩ = ([.pointer y.p, .int .i64 y.r, .int .i64 y.c, .int .i64 y.o, .int .i64 y.d, .int .i64 y.u] : List Value)[i]?)) W from fun W h => ⟨(hx.below h).cell, (hy.below h).cell⟩)
  have HB1 := Lib.hid (show Below w.heap.size w w.drew from below_drewN 1 (Below.refl w.heap.size w))
  have ee1 : ((x.r : Int) == (y.r : Int)) = decide (x.r = y.r) := by rw [Bool.eq_iff_iff]; simp; omega
  have ee2 : ((x.c : Int) == (y.c : Int)) = decide (x.c = y.c) := by rw [Bool.eq_iff_iff]; simp; omega
  clear hx hy hsh
  generalize decide (x.r = y.r) = q1 at *
  generalize decide (x.c = y.c) = q2 at *
  cases q1
  · go_enter Try.func96, Try.ntmps96
    go_upto_region 1 with (fail)
    refine wp_region_many 18 40 [(0, 0), (0, 2), (1, 1), (1, 3), (0, 4), (0, 5), (0, 6), (0, 8), (0, 7), (0, 9), (0, 10), (0, 11), (0, 12), (0, 13), (0, 14), (0, 15), (0, 16), (0, 17)] (fun W => (∀ i, W.cell? ⟨kx, i, none⟩ = ([.pointer x.p, .int .i64 x.r, .int .i64 x.c, .int .i64 x.o, .int .i64 x.d, .int .i64 x.u] : List Value)[i]?) ∧ (∀ i, W.cell? ⟨ky, i, none⟩ = ([.pointer y.p, .int .i64 y.r, .int .i64 y.c, .int .i64 y.o, .int .i64 y.d, .int .i64 y.u] : List Value)[i]?)) (by kernel_rfl) (by kernel_rfl) (HS.out _ HB1.out) ?_
    generalize w.drew = w1 at *
    iterate 1 (refine fm_take (v := ?_) rfl rfl ?_ ?_; rotate_left; (next => (intro w' hSw; (try dsimp only at hSw); go_simp; (try (rw [if_pos (by omega)]; go_simp)); (try with_reducible rfl))); (simp only [Act.put, List.setIfInBounds_toArray, List.set_cons_zero, List.set_cons_succ]))
    iterate 1 (refine fm_take (v := ?_) rfl rfl ?_ ?_; rotate_left; (next => (intro w' hSw; (try dsimp only at hSw); go_simp; (try (rw [if_pos (by omega)]; go_simp)); (try with_reducible rfl))); (simp only [Act.put, List.setIfInBounds_toArray, List.set_cons_zero, List.set_cons_succ]))
    refine fm_one ?_
    refine opW_take rfl rfl ?_
    go_simp
    refine (HRx.out w1).mono ?_
    rintro e v1 ⟨rfl, hb⟩
    have hB1 := Lib.hid (below_step HB1.out HB1.out.size hb)
    clear hb
    refine ⟨HS.out _ hB1.out, ?_⟩
    refine fm_one ?_
    refine opW_take rfl rfl ?_
    go_simp
    refine (HRy.out v1).mono ?_
    rintro e v2 ⟨rfl, hb⟩
    have hB2 := Lib.hid (below_step hB1.out hB1.out.size hb)
    clear hb
    refine ⟨HS.out _ hB2.out, ?_⟩
    iterate 1 (refine fm_take (v := ?_) rfl rfl ?_ ?_; rotate_left; (next => (intro w' hSw; (try dsimp only at hSw); go_simp; (try (rw [if_pos (by omega)]; go_simp)); (try with_reducible rfl))); (simp only [Act.put, List.setIfInBounds_toArray, List.set_cons_zero, List.set_cons_succ]))
    iterate 1 (refine fm_take (v := ?_) rfl rfl ?_ ?_; rotate_left; (next => (intro w' hSw; (try dsimp only at hSw); go_simp; (try (rw [if_pos (by omega)]; go_simp)); (try with_reducible rfl))); (simp only [Act.put, List.setIfInBounds_toArray, List.set_cons_zero, List.set_cons_succ]))
    iterate 1 (refine fm_out rfl rfl ?_; (simp only [Act.put, List.setIfInBounds_toArray, List.set_cons_zero, List.set_cons_succ]))
    iterate 1 (refine fm_out rfl rfl ?_; (simp only [Act.put, List.setIfInBounds_toArray, List.set_cons_zero, List.set_cons_succ]))
    iterate 1 (refine fm_out rfl rfl ?_; (simp only [Act.put, List.setIfInBounds_toArray, List.set_cons_zero, List.set_cons_succ]))
    iterate 1 (refine fm_out rfl rfl ?_; (simp only [Act.put, List.setIfInBounds_toArray, List.set_cons_zero, List.set_cons_succ]))
    iterate 1 (refine fm_out rfl rfl ?_; (simp only [Act.put, List.setIfInBounds_toArray, List.set_cons_zero, List.set_cons_succ]))
    iterate 1 (refine fm_take (v := ?_) rfl rfl ?_ ?_; rotate_left; (next => (intro w' hSw; (try dsimp only at hSw); go_simp; (try (rw [if_pos (by omega)]; go_simp)); (try with_reducible rfl))); (simp only [Act.put, List.setIfInBounds_toArray, List.set_cons_zero, List.set_cons_succ]))
    iterate 1 (refine fm_take (v := ?_) rfl rfl ?_ ?_; rotate_left; (next => (intro w' hSw; (try dsimp only at hSw); go_simp; (try (rw [if_pos (by omega)]; go_simp)); (try with_reducible rfl))); (simp only [Act.put, List.setIfInBounds_toArray, List.set_cons_zero, List.set_cons_succ]))
    iterate 1 (refine fm_out rfl rfl ?_; (simp only [Act.put, List.setIfInBounds_toArray, List.set_cons_zero, List.set_cons_succ]))
    iterate 1 (refine fm_out rfl rfl ?_; (simp only [Act.put, List.setIfInBounds_toArray, List.set_cons_zero, List.set_cons_succ]))
    iterate 1 (refine fm_out rfl rfl ?_; (simp only [Act.put, List.setIfInBounds_toArray, List.set_cons_zero, List.set_cons_succ]))
    iterate 1 (refine fm_out rfl rfl ?_; (simp only [Act.put, List.setIfInBounds_toArray, List.set_cons_zero, List.set_cons_succ]))
    iterate 1 (refine fm_take (v := ?_) rfl rfl ?_ ?_; rotate_left; (next => (intro w' hSw; (try dsimp only at hSw); go_simp; (try (rw [if_pos (by omega)]; go_simp)); (try with_reducible rfl))); (simp only [Act.put, List.setIfInBounds_toArray, List.set_cons_zero, List.set_cons_succ]))
    refine fm_nil ?_
    go_simp
    go_wp2
    refine NoPanic.normal ?_
    go_wp2_with fail
    go_ret
    exact ⟨by simp, hB2.out⟩
  cases q2
  · go_enter Try.func96, Try.ntmps96
    go_upto_region 1 with (fail)
    refine wp_region_many 18 40 [(0, 0), (0, 2), (1, 1), (1, 3), (0, 4), (0, 5), (0, 6), (0, 8), (1, 7), (1, 9), (0, 10), (0, 11), (0, 12), (0, 13), (0, 14), (0, 15), (0, 16), (0, 17)] (fun W => (∀ i, W.cell? ⟨kx, i, none⟩ = ([.pointer x.p, .int .i64 x.r, .int .i64 x.c, .int .i64 x.o, .int .i64 x.d, .int .i64 x.u] : List Value)[i]?) ∧ (∀ i, W.cell? ⟨ky, i, none⟩ = ([.pointer y.p, .int .i64 y.r, .int .i64 y.c, .int .i64 y.o, .int .i64 y.d, .int .i64 y.u] : List Value)[i]?)) (by kernel_rfl) (by kernel_rfl) (HS.out _ HB1.out) ?_
    generalize w.drew = w1 at *
    iterate 1 (refine fm_take (v := ?_) rfl rfl ?_ ?_; rotate_left; (next => (intro w' hSw; (try dsimp only at hSw); go_simp; (try (rw [if_pos (by omega)]; go_simp)); (try with_reducible rfl))); (simp only [Act.put, List.setIfInBounds_toArray, List.set_cons_zero, List.set_cons_succ]))
    iterate 1 (refine fm_take (v := ?_) rfl rfl ?_ ?_; rotate_left; (next => (intro w' hSw; (try dsimp only at hSw); go_simp; (try (rw [if_pos (by omega)]; go_simp)); (try with_reducible rfl))); (simp only [Act.put, List.setIfInBounds_toArray, List.set_cons_zero, List.set_cons_succ]))
    refine fm_one ?_
    refine opW_take rfl rfl ?_
    go_simp
    refine (HRx.out w1).mono ?_
    rintro e v1 ⟨rfl, hb⟩
    have hB1 := Lib.hid (below_step HB1.out HB1.out.size hb)
    clear hb
    refine ⟨HS.out _ hB1.out, ?_⟩
    refine fm_one ?_
    refine opW_take rfl rfl ?_
    go_simp
    refine (HRy.out v1).mono ?_
    rintro e v2 ⟨rfl, hb⟩
    have hB2 := Lib.hid (below_step hB1.out hB1.out.size hb)
    clear hb
    refine ⟨HS.out _ hB2.out, ?_⟩
    iterate 1 (refine fm_take (v := ?_) rfl rfl ?_ ?_; rotate_left; (next => (intro w' hSw; (try dsimp only at hSw); go_simp; (try (rw [if_pos (by omega)]; go_simp)); (try with_reducible rfl))); (simp only [Act.put, List.setIfInBounds_toArray, List.set_cons_zero, List.set_cons_succ]))
    iterate 1 (refine fm_take (v := ?_) rfl rfl ?_ ?_; rotate_left; (next => (intro w' hSw; (try dsimp only at hSw); go_simp; (try (rw [if_pos (by omega)]; go_simp)); (try with_reducible rfl))); (simp only [Act.put, List.setIfInBounds_toArray, List.set_cons_zero, List.set_cons_succ]))
    iterate 1 (refine fm_take (v := ?_) rfl rfl ?_ ?_; rotate_left; (next => (intro w' hSw; (try dsimp only at hSw); go_simp; (try (rw [if_pos (by omega)]; go_simp)); (try with_reducible rfl))); (simp only [Act.put, List.setIfInBounds_toArray, List.set_cons_zero, List.set_cons_succ]))
    iterate 1 (refine fm_take (v := ?_) rfl rfl ?_ ?_; rotate_left; (next => (intro w' hSw; (try dsimp only at hSw); go_simp; (try (rw [if_pos (by omega)]; go_simp)); (try with_reducible rfl))); (simp only [Act.put, List.setIfInBounds_toArray, List.set_cons_zero, List.set_cons_succ]))
    refine fm_one ?_
    refine opW_take rfl rfl ?_
    go_simp
    refine (HCx.out v2).mono ?_
    rintro e v3 ⟨rfl, hb⟩
    have hB3 := Lib.hid (below_step hB2.out hB2.out.size hb)
    clear hb
    refine ⟨HS.out _ hB3.out, ?_⟩
    refine fm_one ?_
    refine opW_take rfl rfl ?_
    go_simp
    refine (HCy.out v3).mono ?_
    rintro e v4 ⟨rfl, hb⟩
    have hB4 := Lib.hid (below_step hB3.out hB3.out.size hb)
    clear hb
    refine ⟨HS.out _ hB4.out, ?_⟩
    iterate 1 (refine fm_take (v := ?_) rfl rfl ?_ ?_; rotate_left; (next => (intro w' hSw; (try dsimp only at hSw); go_simp; (try (rw [if_pos (by omega)]; go_simp)); (try with_reducible rfl))); (simp only [Act.put, List.setIfInBounds_toArray, List.set_cons_zero, List.set_cons_succ]))
    iterate 1 (refine fm_take (v := ?_) rfl rfl ?_ ?_; rotate_left; (next => (intro w' hSw; (try dsimp only at hSw); go_simp; (try (rw [if_pos (by omega)]; go_simp)); (try with_reducible rfl))); (simp only [Act.put, List.setIfInBounds_toArray, List.set_cons_zero, List.set_cons_succ]))
    iterate 1 (refine fm_take (v := ?_) rfl rfl ?_ ?_; rotate_left; (next => (intro w' hSw; (try dsimp only at hSw); go_simp; (try (rw [if_pos (by omega)]; go_simp)); (try with_reducible rfl))); (simp only [Act.put, List.setIfInBounds_toArray, List.set_cons_zero, List.set_cons_succ]))
    iterate 1 (refine fm_out rfl rfl ?_; (simp only [Act.put, List.setIfInBounds_toArray, List.set_cons_zero, List.set_cons_succ]))
    iterate 1 (refine fm_out rfl rfl ?_; (simp only [Act.put, List.setIfInBounds_toArray, List.set_cons_zero, List.set_cons_succ]))
    iterate 1 (refine fm_out rfl rfl ?_; (simp only [Act.put, List.setIfInBounds_toArray, List.set_cons_zero, List.set_cons_succ]))
    iterate 1 (refine fm_out rfl rfl ?_; (simp only [Act.put, List.setIfInBounds_toArray, List.set_cons_zero, List.set_cons_succ]))
    iterate 1 (refine fm_take (v := ?_) rfl rfl ?_ ?_; rotate_left; (next => (intro w' hSw; (try dsimp only at hSw); go_simp; (try (rw [if_pos (by omega)]; go_simp)); (try with_reducible rfl))); (simp only [Act.put, List.setIfInBounds_toArray, List.set_cons_zero, List.set_cons_succ]))
    refine fm_nil ?_
    go_simp
    go_wp2
    refine NoPanic.normal ?_
    go_wp2_with fail
    go_ret
    exact ⟨by simp, hB4.out⟩
  · go_enter Try.func96, Try.ntmps96
    go_upto_region 1 with (fail)
    refine wp_region_many 18 40 [(0, 0), (0, 2), (1, 1), (1, 3), (0, 4), (0, 5), (0, 6), (0, 8), (1, 7), (1, 9), (0, 10), (0, 11), (0, 12), (0, 13), (0, 14), (1, 15), (0, 16), (0, 17)] (fun W => (∀ i, W.cell? ⟨kx, i, none⟩ = ([.pointer x.p, .int .i64 x.r, .int .i64 x.c, .int .i64 x.o, .int .i64 x.d, .int .i64 x.u] : List Value)[i]?) ∧ (∀ i, W.cell? ⟨ky, i, none⟩ = ([.pointer y.p, .int .i64 y.r, .int .i64 y.c, .int .i64 y.o, .int .i64 y.d, .int .i64 y.u] : List Value)[i]?)) (by kernel_rfl) (by kernel_rfl) (HS.out _ HB1.out) ?_
    generalize w.drew = w1 at *
    iterate 1 (refine fm_take (v := ?_) rfl rfl ?_ ?_; rotate_left; (next => (intro w' hSw; (try dsimp only at hSw); go_simp; (try (rw [if_pos (by omega)]; go_simp)); (try with_reducible rfl))); (simp only [Act.put, List.setIfInBounds_toArray, List.set_cons_zero, List.set_cons_succ]))
    iterate 1 (refine fm_take (v := ?_) rfl rfl ?_ ?_; rotate_left; (next => (intro w' hSw; (try dsimp only at hSw); go_simp; (try (rw [if_pos (by omega)]; go_simp)); (try with_reducible rfl))); (simp only [Act.put, List.setIfInBounds_toArray, List.set_cons_zero, List.set_cons_succ]))
    refine fm_one ?_
    refine opW_take rfl rfl ?_
    go_simp
    refine (HRx.out w1).mono ?_
    rintro e v1 ⟨rfl, hb⟩
    have hB1 := Lib.hid (below_step HB1.out HB1.out.size hb)
    clear hb
    refine ⟨HS.out _ hB1.out, ?_⟩
    refine fm_one ?_
    refine opW_take rfl rfl ?_
    go_simp
    refine (HRy.out v1).mono ?_
    rintro e v2 ⟨rfl, hb⟩
    have hB2 := Lib.hid (below_step hB1.out hB1.out.size hb)
    clear hb
    refine ⟨HS.out _ hB2.out, ?_⟩
    iterate 1 (refine fm_take (v := ?_) rfl rfl ?_ ?_; rotate_left; (next => (intro w' hSw; (try dsimp only at hSw); go_simp; (try (rw [if_pos (by omega)]; go_simp)); (try with_reducible rfl))); (simp only [Act.put, List.setIfInBounds_toArray, List.set_cons_zero, List.set_cons_succ]))
    iterate 1 (refine fm_take (v := ?_) rfl rfl ?_ ?_; rotate_left; (next => (intro w' hSw; (try dsimp only at hSw); go_simp; (try (rw [if_pos (by omega)]; go_simp)); (try with_reducible rfl))); (simp only [Act.put, List.setIfInBounds_toArray, List.set_cons_zero, List.set_cons_succ]))
    iterate 1 (refine fm_take (v := ?_) rfl rfl ?_ ?_; rotate_left; (next => (intro w' hSw; (try dsimp only at hSw); go_simp; (try (rw [if_pos (by omega)]; go_simp)); (try with_reducible rfl))); (simp only [Act.put, List.setIfInBounds_toArray, List.set_cons_zero, List.set_cons_succ]))
    iterate 1 (refine fm_take (v := ?_) rfl rfl ?_ ?_; rotate_left; (next => (intro w' hSw; (try dsimp only at hSw); go_simp; (try (rw [if_pos (by omega)]; go_simp)); (try with_reducible rfl))); (simp only [Act.put, List.setIfInBounds_toArray, List.set_cons_zero, List.set_cons_succ]))
    refine fm_one ?_
    refine opW_take rfl rfl ?_
    go_simp
    refine (HCx.out v2).mono ?_
    rintro e v3 ⟨rfl, hb⟩
    have hB3 := Lib.hid (below_step hB2.out hB2.out.size hb)
    clear hb
    refine ⟨HS.out _ hB3.out, ?_⟩
    refine fm_one ?_
    refine opW_take rfl rfl ?_
    go_simp
    refine (HCy.out v3).mono ?_
    rintro e v4 ⟨rfl, hb⟩
    have hB4 := Lib.hid (below_step hB3.out hB3.out.size hb)
    clear hb
    refine ⟨HS.out _ hB4.out, ?_⟩
    iterate 1 (refine fm_take (v := ?_) rfl rfl ?_ ?_; rotate_left; (next => (intro w' hSw; (try dsimp only at hSw); go_simp; (try (rw [if_pos (by omega)]; go_simp)); (try with_reducible rfl))); (simp only [Act.put, List.setIfInBounds_toArray, List.set_cons_zero, List.set_cons_succ]))
    iterate 1 (refine fm_take (v := ?_) rfl rfl ?_ ?_; rotate_left; (next => (intro w' hSw; (try dsimp only at hSw); go_simp; (try (rw [if_pos (by omega)]; go_simp)); (try with_reducible rfl))); (simp only [Act.put, List.setIfInBounds_toArray, List.set_cons_zero, List.set_cons_succ]))
    iterate 1 (refine fm_take (v := ?_) rfl rfl ?_ ?_; rotate_left; (next => (intro w' hSw; (try dsimp only at hSw); go_simp; (try (rw [if_pos (by omega)]; go_simp)); (try with_reducible rfl))); (simp only [Act.put, List.setIfInBounds_toArray, List.set_cons_zero, List.set_cons_succ]))
    iterate 1 (refine fm_take (v := ?_) rfl rfl ?_ ?_; rotate_left; (next => (intro w' hSw; (try dsimp only at hSw); go_simp; (try (rw [if_pos (by omega)]; go_simp)); (try with_reducible rfl))); (simp only [Act.put, List.setIfInBounds_toArray, List.set_cons_zero, List.set_cons_succ]))
    iterate 1 (refine fm_take (v := ?_) rfl rfl ?_ ?_; rotate_left; (next => (intro w' hSw; (try dsimp only at hSw); go_simp; (try (rw [if_pos (by omega)]; go_simp)); (try with_reducible rfl))); (simp only [Act.put, List.setIfInBounds_toArray, List.set_cons_zero, List.set_cons_succ]))
    refine fm_one ?_
    refine opW_take rfl rfl ?_
    go_simp
    refine (HSh.out v4 hB4.out).mono ?_
    rintro e v5 ⟨rfl, hb⟩
    have hB5 := Lib.hid (below_step hB4.out hB4.out.size hb)
    clear hb
    refine ⟨HS.out _ hB5.out, ?_⟩
    iterate 1 (refine fm_take (v := ?_) rfl rfl ?_ ?_; rotate_left; (next => (intro w' hSw; (try dsimp only at hSw); go_simp; (try (rw [if_pos (by omega)]; go_simp)); (try with_reducible rfl))); (simp only [Act.put, List.setIfInBounds_toArray, List.set_cons_zero, List.set_cons_succ]))
    iterate 1 (refine fm_take (v := ?_) rfl rfl ?_ ?_; rotate_left; (next => (intro w' hSw; (try dsimp only at hSw); go_simp; (try (rw [if_pos (by omega)]; go_simp)); (try with_reducible rfl))); (simp only [Act.put, List.setIfInBounds_toArray, List.set_cons_zero, List.set_cons_succ]))
    refine fm_nil ?_
    go_simp
    go_wp2
    refine NoPanic.normal ?_
    go_wp2_with fail
    go_ret
    exact ⟨by simp, hB5.out⟩
theorem takeE_zero {x y : Vw} (h1 : x.p.isSome = true) (h2 : y.p.isSome = true) (e1 : x.r = y.r) (e2 : x.c = y.c) : takeE x y = 0 := by
  unfold takeE
  rw [isNone_some h1, isNone_some h2]
  simp [e1, e2]
/-- Behind a swap. -/
def SwapP (w w' : World) (x y : Vw) (sx sy : Nat) (xs ys : List Nat) (Y1 : List Nat → List Nat) : Prop :=
  ∃ w1 st, x.Ok w1 sx (x.take y ys xs) ∧ Bel w.heap.size sx w w1 ∧ w.heap.size ≤ w1.heap.size ∧ y.Ok w' sy (y.take (cpyV x st) (x.list xs) (Y1 (x.take y ys xs))) ∧ Bel w1.heap.size sy w1 w'
set_option maxHeartbeats 16000000 in
theorem Swap_any (w : World) (x y : Vw) (sx sy : Nat) (xs ys : List Nat) (Y1 : List Nat → List Nat) (sh : Bool) (hx : x.Ok w sx xs) (hy : y.Ok w sy ys)
    (hsh : ∀ W, Below w.heap.size w W → Calls Try.prog 97 #[(.agg #[.pointer x.p, .int .i64 x.r, .int .i64 x.c, .int .i64 x.o, .int .i64 x.d, .int .i64 x.u]), (.agg #[.pointer y.p, .int .i64 y.r, .int .i64 y.c, .int .i64 y.o, .int .i64 y.d, .int .i64 y.u])] W fun e w' => e = .returned (.bool sh) ∧ Below W.heap.size W w')
    (hst : ∀ W W' X1, y.Ok W sy ys → x.Ok W' sx X1 → Bel W.heap.size sx W W' → y.Ok W' sy (Y1 X1)) :
    Calls Try.prog 51 #[x.val, y.val] w fun e w' => e = .returned (.int .i64 (openE [x, y] (fits_Swap x y sh))) ∧
      (openE [x, y] (fits_Swap x y sh) = 0 → SwapP w w' x y sx sy xs ys Y1) ∧ (openE [x, y] (fits_Swap x y sh) ≠ 0 → Below w.heap.size w w') := by
  have HO := Lib.hid (fun W (h : Below w.heap.size w W) bx bY b hbx hby hb => open_any W 96 #[.pointer (some ⟨bx, 0, none⟩), .pointer (some ⟨bY, 0, none⟩)] b [x, y] (fits_Swap x y sh) hb (fun v hv => by
    simp only [List.mem_cons, List.not_mem_nil, or_false] at hv
    rcases hv with rfl | rfl
    · exact ⟨sx, xs, hx.below h⟩
    · exact ⟨sy, ys, hy.below h⟩) (by simp) (enters_of Try.func96 (by kernel_rfl) rfl) (fun _ W' h' => Swapf_any W' x y bx bY sh (Box.below hbx h') (Box.below hby h') (fun W2 h2 => hsh W2 (below_step (below_step h h.size h') (below_step h h.size h').size h2))))
  have HC := Lib.hid (fun W (h : Below w.heap.size w W) => Copy_any W x sx xs (hx.below h))
  have HZ := Lib.hid (fun (h : openE [x, y] (fits_Swap x y sh) = 0) => openE_zero h)
  have HY := Lib.hid (show _ ∧ _ from ⟨hx, hy⟩)
  have HSt := Lib.hid hst
  generalize openE [x, y] (fits_Swap x y sh) = E at *
  obtain ⟨W0, hW0⟩ : ∃ W0, W0 = (w.alloc (.cells #[.pointer x.p, .int .i64 x.r, .int .i64 x.c, .int .i64 x.o, .int .i64 x.d, .int .i64 x.u] 29)).alloc (.cells #[.pointer y.p, .int .i64 y.r, .int .i64 y.c, .int .i64 y.o, .int .i64 y.d, .int .i64 y.u] 29) := ⟨_, rfl⟩
  have hB0 : Below w.heap.size w W0 := hW0 ▸ ((Below.refl _ _).alloc (Nat.le_refl _) _).alloc (by simp) _
  have x0 : Box W0 w.heap.size [.pointer x.p, .int .i64 x.r, .int .i64 x.c, .int .i64 x.o, .int .i64 x.d, .int .i64 x.u] := hW0 ▸ (Box.newA w [.pointer x.p, .int .i64 x.r, .int .i64 x.c, .int .i64 x.o, .int .i64 x.d, .int .i64 x.u] _ rfl).alloc _
  have x1 : Box W0 (w.heap.size + 1) [.pointer y.p, .int .i64 y.r, .int .i64 y.c, .int .i64 y.o, .int .i64 y.d, .int .i64 y.u] := hW0 ▸ Box.newA _ [.pointer y.p, .int .i64 y.r, .int .i64 y.c, .int .i64 y.o, .int .i64 y.d, .int .i64 y.u] _ (by simp)
  have HX := Lib.hid (show _ ∧ _ ∧ _ from ⟨hB0, x0, x1⟩)
  clear hx hy hB0 x0 x1 hsh hst
  show Calls Try.prog 51 #[(.agg #[.pointer x.p, .int .i64 x.r, .int .i64 x.c, .int .i64 x.o, .int .i64 x.d, .int .i64 x.u]), (.agg #[.pointer y.p, .int .i64 y.r, .int .i64 y.c, .int .i64 y.o, .int .i64 y.d, .int .i64 y.u])] w _
  go_enter Try.func51, Try.ntmps51
  go_upto_region 1 with (fail)
  rw [← hW0]
  clear hW0
  obtain ⟨hB0, x0, x1⟩ := HX.out
  have hbA : Below W0.heap.size W0 (W0.alloc (.cells #[.pointer x.p, .int .i64 x.r, .int .i64 x.c, .int .i64 x.o, .int .i64 x.d, .int .i64 x.u, .pointer y.p, .int .i64 y.r, .int .i64 y.c, .int .i64 y.o, .int .i64 y.d, .int .i64 y.u] 29)) := (Below.refl _ _).alloc (Nat.le_refl _) _
  have hz : Box (W0.alloc (.cells #[.pointer x.p, .int .i64 x.r, .int .i64 x.c, .int .i64 x.o, .int .i64 x.d, .int .i64 x.u, .pointer y.p, .int .i64 y.r, .int .i64 y.c, .int .i64 y.o, .int .i64 y.d, .int .i64 y.u] 29)) W0.heap.size ([x, y].flatMap Vw.cs) := Box.newA W0 ([x, y].flatMap Vw.cs) _ rfl
  have hB1 := below_step hB0 hB0.size hbA
  have HCo := Lib.hid (HO.out _ hB1 _ _ _ (x0.below hbA) (x1.below hbA) hz)
  obtain ⟨p1, p2, p3⟩ := x0.facts
  obtain ⟨q1, q2, q3⟩ := x1.facts
  have HB1 := Lib.hid (show _ ∧ _ ∧ _ from ⟨hB1, x0.below hbA, x1.below hbA⟩)
  clear hB0 x0 x1 hbA hz hB1 HO HX
  go_wp2_with fail
  refine HCo.out.mono ?_
  rintro e w1 ⟨rfl, hb1⟩
  obtain ⟨hB1, x0, x1⟩ := HB1.out
  have HB2 := Lib.hid (show _ ∧ _ ∧ _ from ⟨below_step hB1 hB1.size hb1, x0.below hb1, x1.below hb1⟩)
  clear p1 p2 p3 q1 q2 q3 hB1 hb1 x0 x1 HB1 HCo
  dsimp only
  by_cases hE : E = 0
  · subst hE
    obtain ⟨hsome, hfit⟩ := HZ.out rfl
    have HSome := Lib.hid (show x.p.isSome = true ∧ y.p.isSome = true from ⟨hsome x (by simp), hsome y (by simp)⟩)
    have HSx := Lib.hid (Vw.Ok.sto HY.out.1 HSome.out.1).1
    have HSy := Lib.hid (Vw.Ok.sto HY.out.2 HSome.out.2).1
    unfold fits_Swap at hfit
    simp only [Bool.and_eq_true, decide_eq_true_eq] at hfit
    have HT1 := Lib.hid (takeE_zero HSome.out.1 HSome.out.2 hfit.1 hfit.2.1)
    clear hsome hfit HZ
    obtain ⟨p1, p2, p3⟩ := HB2.out.2.1.facts
    go_wp2_with fail
    refine (HC.out _ HB2.out.1).mono ?_
    rintro e w3 ⟨st1, sb1, rfl, hst1, k1, k2, hb3⟩
    have hs1 := hst1 (isNone_some HSome.out.1)
    have hl1 := sto_lts hs1
    have hws := HB2.out.1.size
    have hB3 := below_step HB2.out.1 HB2.out.1.size hb3
    have x0 := HB2.out.2.1.below hb3
    have x1 := HB2.out.2.2.below hb3
    have hcp := cpy_ok HY.out.1 hst1
    have hcpp := (CpyF.of xs st1 HSome.out.1 HY.out.1.small.1 HY.out.1.small.2).p
    obtain ⟨cA, hcA⟩ : ∃ cA, cA = cpyV x st1 := ⟨_, rfl⟩
    rw [← hcA] at hcp hcpp
    have HCA := Lib.hid hcA
    rw [← hcA]
    clear p1 p2 p3 hst1 hs1 hcA
    dsimp only [Vw.val]
    have hbC : Below w3.heap.size w3 (w3.alloc (.cells #[.pointer cA.p, .int .i64 cA.r, .int .i64 cA.c, .int .i64 cA.o, .int .i64 cA.d, .int .i64 cA.u] 29)) := (Below.refl _ _).alloc (Nat.le_refl _) _
    have x6 : Box (w3.alloc (.cells #[.pointer cA.p, .int .i64 cA.r, .int .i64 cA.c, .int .i64 cA.o, .int .i64 cA.d, .int .i64 cA.u] 29)) w3.heap.size [.pointer cA.p, .int .i64 cA.r, .int .i64 cA.c, .int .i64 cA.o, .int .i64 cA.d, .int .i64 cA.u] := Box.newA _ _ _ rfl
    have HK := Lib.hid (show KerW (w3.alloc (.cells #[.pointer cA.p, .int .i64 cA.r, .int .i64 cA.c, .int .i64 cA.o, .int .i64 cA.d, .int .i64 cA.u] 29)) [(w.heap.size, [.pointer x.p, .int .i64 x.r, .int .i64 x.c, .int .i64 x.o, .int .i64 x.d, .int .i64 x.u]), (w.heap.size + 1, [.pointer y.p, .int .i64 y.r, .int .i64 y.c, .int .i64 y.o, .int .i64 y.d, .int .i64 y.u]), (w3.heap.size, [.pointer cA.p, .int .i64 cA.r, .int .i64 cA.c, .int .i64 cA.o, .int .i64 cA.d, .int .i64 cA.u])] [(cA, sb1, x.list xs)] sx ∧ Below w.heap.size w (w3.alloc (.cells #[.pointer cA.p, .int .i64 cA.r, .int .i64 cA.c, .int .i64 cA.o, .int .i64 cA.d, .int .i64 cA.u] 29)) ∧ sb1 ≠ sx ∧ w.heap.size ≤ w3.heap.size from by
      have h1 := HSx.out
      have h3 := hB3.size
      refine ⟨⟨fun p hp => ?_, fun p hp => ?_, fun q hq => ?_⟩, below_step hB3 hB3.size hbC, by omega, h3⟩
      · simp only [List.mem_cons, List.not_mem_nil, or_false] at hp
        rcases hp with rfl | rfl | rfl
        · exact x0.below hbC
        · exact x1.below hbC
        · exact x6
      · simp only [List.mem_cons, List.not_mem_nil, or_false] at hp
        rcases hp with rfl | rfl | rfl
        · show w.heap.size ≠ sx; omega
        · show w.heap.size + 1 ≠ sx; omega
        · show w3.heap.size ≠ sx; omega
      · simp only [List.mem_cons, List.not_mem_nil, or_false] at hq
        subst hq
        exact Vw.Apart.of (hcp.below hbC) (.inr hcpp) (show sb1 ≠ sx by omega) (show st1 ≠ sx by omega))
    clear k1 k2 hl1 hws hB3 x0 x1 hb3 HB2 HC hcp hcpp hbC x6
    go_upto_region 5 with (fail)
    obtain ⟨P, hP⟩ : ∃ P, P = w3.heap.size := ⟨_, rfl⟩
    simp only [← hP] at HK ⊢
    generalize w3.alloc (.cells #[.pointer cA.p, .int .i64 cA.r, .int .i64 cA.c, .int .i64 cA.o, .int .i64 cA.d, .int .i64 cA.u] 29) = w4 at *
    clear hP
    obtain ⟨p1, p2, p3⟩ := (HK.out.1.get 0 rfl).facts
    obtain ⟨q1, q2, q3⟩ := (HK.out.1.get 1 rfl).facts
    go_wp2_with fail
    refine (Take_any w4 x y sx sy xs ys (HY.out.1.below HK.out.2.1) (HY.out.2.below HK.out.2.1)).mono ?_
    rintro e w5 ⟨rfl, hok5, hb5⟩
    have HK5 := Lib.hid (show _ ∧ _ ∧ _ ∧ _ ∧ _ from ⟨HK.out.1.bel hb5, hok5, HSt.out _ _ _ (HY.out.2.below HK.out.2.1) hok5 hb5, (Bel.of HK.out.2.1).trans (hb5.mono HK.out.2.1.size), Nat.le_trans HK.out.2.1.size hb5.size⟩)
    clear p1 p2 p3 q1 q2 q3 hok5 hb5 HK
    dsimp only
    obtain ⟨q1, q2, q3⟩ := (HK5.out.1.get 1 rfl).facts
    obtain ⟨r1, r2, r3⟩ := (HK5.out.1.get 2 rfl).facts
    go_wp2_with fail
    refine (Take_any w5 y cA sy sb1 _ (x.list xs) HK5.out.2.2.1 (HK5.out.1.vw 0 rfl).1).mono ?_
    rintro e w6 ⟨rfl, hok6, hb6⟩
    have HE := Lib.hid (show _ ∧ _ from ⟨hok6, hb6⟩)
    clear q1 q2 q3 r1 r2 r3 hok6 hb6
    dsimp only
    go_wp2_with fail
    go_ret
    have HSW : SwapP w w6 x y sx sy xs ys Y1 := ⟨w5, st1, HK5.out.2.1, HK5.out.2.2.2.1, HK5.out.2.2.2.2, by rw [← HCA.out]; exact HE.out.1, HE.out.2⟩
    first
      | exact ⟨rfl, HSW⟩
      | exact ⟨rfl, fun _ => HSW, fun h => absurd rfl h⟩
      | exact ⟨rfl, HSW, fun h => absurd rfl h⟩
  · have t1 : (E != 0) = true := by simp [hE]
    have HEE := Lib.hid hE
    clear hE
    go_wp2_with fail
    go_ret
    exact ⟨rfl, fun h => absurd h HEE.out, fun _ => HB2.out.1⟩
end Go.Proofs.Ytbcdpibcieadlaa

/- Layer 8, the document: a vector times a float; added to another one. No condition but on lengths. -/
namespace Go.Proofs.Ytbcdpibcieadlaa
open Go Go.RowKit
set_option maxRecDepth 1000000

def scalR (a : Nat) (xs : List Nat) (n : Nat) : List Nat := (List.range n).map fun k => fmul a (atL xs k)
theorem scalR_len (a : Nat) (xs : List Nat) (n : Nat) : (scalR a xs n).length = n := by unfold scalR; simp
theorem scalR_succ (a : Nat) (xs : List Nat) (n : Nat) : scalR a xs (n + 1) = scalR a xs n ++ [fmul a (atL xs n)] := by
  unfold scalR
  rw [List.range_succ, List.map_append]
  rfl
theorem scalR_at (a : Nat) (xs : List Nat) (n k : Nat) (hk : k < n) : atL (scalR a xs n) k = fmul a (atL xs k) := by
  show (scalR a xs n).getD k 0 = _
  unfold scalR
  rw [List.getD_eq_getElem?_getD, List.getElem?_map, List.getElem?_range hk]
  rfl
theorem scalR_words (a : Nat) (xs : List Nat) (n : Nat) : Words (scalR a xs n) := fun v hv => by
  unfold scalR at hv
  obtain ⟨i, _, rfl⟩ := List.mem_map.1 hv
  exact fmul_lt _ _
def axpyR (a : Nat) (xs ys : List Nat) (n : Nat) : List Nat := (List.range n).map fun k => fadd (atL ys k) (fmul a (atL xs k))
theorem axpyR_len (a : Nat) (xs ys : List Nat) (n : Nat) : (axpyR a xs ys n).length = n := by unfold axpyR; simp
theorem axpyR_succ (a : Nat) (xs ys : List Nat) (n : Nat) : axpyR a xs ys (n + 1) = axpyR a xs ys n ++ [fadd (atL ys n) (fmul a (atL xs n))] := by
  unfold axpyR
  rw [List.range_succ, List.map_append]
  rfl
theorem axpyR_at (a : Nat) (xs ys : List Nat) (n k : Nat) (hk : k < n) : atL (axpyR a xs ys n) k = fadd (atL ys k) (fmul a (atL xs k)) := by
  show (axpyR a xs ys n).getD k 0 = _
  unfold axpyR
  rw [List.getD_eq_getElem?_getD, List.getElem?_map, List.getElem?_range hk]
  rfl
theorem axpyR_words (a : Nat) (xs ys : List Nat) (n : Nat) : Words (axpyR a xs ys n) := fun v hv => by
  unfold axpyR at hv
  obtain ⟨i, _, rfl⟩ := List.mem_map.1 hv
  exact fadd_lt _ _
set_option maxHeartbeats 8000000 in
theorem RScal_any (w : World) (a n : Nat) (xa : Option Addr) (xs : List Nat) (xc : Nat) (hX : Fls w xa xs) (hn : xs.length = n) (hl : n ≤ 262144) :
    Calls Try.prog 55 #[.float .f64 a, .slice xa n xc] w fun e w' => (∃ v, e = .returned v ∧ OwnF w' w.heap.size v (scalR a xs n)) ∧ Below w.heap.size w w' := by
  have HX := Lib.hid (fun W (h : Below w.heap.size w W) k (hk : k < n) => (hX.below h).at8 (i := k) (by omega))
  clear hX hn
  go_enter Try.func55, Try.ntmps55
  go_wp2_with fail
  go_loopw [5, 6] (fun s5 s6 wr => ∃ k : Nat, k ≤ n ∧ OwnF wr w.heap.size s5 (scalR a xs k) ∧ s6 = .int .i64 k ∧ Below w.heap.size w wr) (fun _ s6 _ => n - (intOf s6).toNat)
  case atStart => exact ⟨0, Nat.zero_le _, OwnF.nil _ _, rfl, Below.refl _ _⟩
  case round =>
    obtain ⟨k, hk, hO, rfl, hB⟩ := hrel
    by_cases hlt : k < n
    · obtain ⟨b1, o1, s1, rfl, c1, d1⟩ := HX.out wr hB k hlt
      have HO := Lib.hid (fun m => hO.below (below_drewN m (Below.refl _ wr)))
      have HB := Lib.hid (fun m => below_step hB hB.size (below_drewN m (Below.refl _ wr)))
      have HL := Lib.hid (scalR_succ a xs k)
      generalize atL xs k = X at *
      clear hO hB hk
      go_wp2_with (first | (refine wpList_flt rfl rfl rfl rfl rfl ?_; intro K hK sq nq; go_frame; refine hK _ _ ?_; clear hK K) | (at_builtin; refine wpList_append_one rfl _ _ rfl w.heap.size _ (scalR a xs k) rfl (HO.out _) _ _ _ rfl (by rw [scalR_len]; omega) (HB.out _).size ?_; intro v' w6 hO6 hb6))
      go_roundw
      case rel => exact ⟨k + 1, hlt, by rw [HL.out]; simpa only [fmul_rawl, fmul_rawr] using hO6, by go_num, (HB.out _).trans hb6⟩
      case measure => simp [intOf]; omega
    · obtain rfl : k = n := by omega
      have HB := Lib.hid (show _ ∧ _ from ⟨hO, hB⟩)
      clear hB hk hO
      go_wp2_with fail
      go_ret
      exact ⟨⟨_, rfl, HB.out.1⟩, HB.out.2⟩
set_option maxHeartbeats 8000000 in
theorem RAxpy_any (w : World) (a n : Nat) (xa ya : Option Addr) (xs ys : List Nat) (xc yc : Nat) (hX : Fls w xa xs) (hY : Fls w ya ys) (hn : xs.length = n) (hm : ys.length = n) (hl : n ≤ 262144) :
    Calls Try.prog 53 #[.float .f64 a, .slice xa n xc, .slice ya n yc] w fun e w' => (∃ v, e = .returned v ∧ OwnF w' w.heap.size v (axpyR a xs ys n)) ∧ Below w.heap.size w w' := by
  have HX := Lib.hid (fun W (h : Below w.heap.size w W) k (hk : k < n) => (hX.below h).at8 (i := k) (by omega))
  have HY := Lib.hid (fun W (h : Below w.heap.size w W) k (hk : k < n) => (hY.below h).at8 (i := k) (by omega))
  clear hX hn hY hm
  go_enter Try.func53, Try.ntmps53
  go_wp2_with fail
  go_loopw [7, 8] (fun s7 s8 wr => ∃ k : Nat, k ≤ n ∧ OwnF wr w.heap.size s7 (axpyR a xs ys k) ∧ s8 = .int .i64 k ∧ Below w.heap.size w wr) (fun _ s8 _ => n - (intOf s8).toNat)
  case atStart => exact ⟨0, Nat.zero_le _, OwnF.nil _ _, rfl, Below.refl _ _⟩
  case round =>
    obtain ⟨k, hk, hO, rfl, hB⟩ := hrel
    by_cases hlt : k < n
    · obtain ⟨b1, o1, s1, rfl, c1, d1⟩ := HX.out wr hB k hlt
      have HR := Lib.hid (show _ ∧ _ from ⟨hO, hB⟩)
      have HL := Lib.hid (axpyR_succ a xs ys k)
      generalize atL xs k = X at *
      clear hO hB hk
      go_upto_region 6 with (refine wpList_flt rfl rfl rfl rfl rfl ?_; intro K hK sq nq; go_frame; refine hK _ _ ?_; clear hK K)
      have hdq : Below wr.heap.size wr (wr.drewN nq) := below_drewN nq (Below.refl _ _)
      have hB2 := below_step HR.out.2 HR.out.2.size hdq
      obtain ⟨b2, o2, s2, rfl, c2, d2⟩ := HY.out _ hB2 k hlt
      have HO := Lib.hid (fun m => (HR.out.1.below hdq).below (below_drewN m (Below.refl _ (wr.drewN nq))))
      have HB := Lib.hid (fun m => below_step hB2 hB2.size (below_drewN m (Below.refl _ (wr.drewN nq))))
      clear hdq hB2 c1 d1 HR
      generalize wr.drewN nq = w2 at *
      generalize atL ys k = Y at *
      go_wp2_with (first | (refine wpList_flt rfl rfl rfl rfl rfl ?_; intro K hK sq nq; go_frame; refine hK _ _ ?_; clear hK K) | (at_builtin; refine wpList_append_one rfl _ _ rfl w.heap.size _ (axpyR a xs ys k) rfl (HO.out _) _ _ _ rfl (by rw [axpyR_len]; omega) (HB.out _).size ?_; intro v' w6 hO6 hb6))
      go_roundw
      case rel => exact ⟨k + 1, hlt, by rw [HL.out]; simpa only [fadd_rawl, fadd_rawr, fmul_rawl, fmul_rawr] using hO6, by go_num, (HB.out _).trans hb6⟩
      case measure => simp [intOf]; omega
    · obtain rfl : k = n := by omega
      have HB := Lib.hid (show _ ∧ _ from ⟨hO, hB⟩)
      clear hB hk hO
      go_wp2_with fail
      go_ret
      exact ⟨⟨_, rfl, HB.out.1⟩, HB.out.2⟩
end Go.Proofs.Ytbcdpibcieadlaa
