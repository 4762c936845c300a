/- Layer 8: Gemm's test (printed by gen_ko.py). No condition but on lengths. -/
import Derived.Test.YtbcdpibcieadlaaKn
namespace Go.Proofs.Ytbcdpibcieadlaa
open Go Go.RowKit
set_option maxRecDepth 100000

def fits_Gemm (m n y : Vw) : Bool := decide (m.c = n.r) && (decide (y.r = m.r) && decide (y.c = n.c))
set_option maxHeartbeats 8000000 in
theorem Gemmf_any (w : World) (m n y : Vw) (km kn ky : Nat) (hm : Box w km m.cs) (hn : Box w kn n.cs) (hy : Box w ky y.cs) :
    Calls Try.prog 78 #[.pointer (some ⟨km, 0, none⟩), .pointer (some ⟨kn, 0, none⟩), .pointer (some ⟨ky, 0, none⟩)] w fun e w' => e = .returned (.bool (fits_Gemm m n y)) ∧ Below w.heap.size w w' := by
  have t1 : ((m.c : Int) == (n.r : Int)) = decide (m.c = n.r) := by rw [Bool.eq_iff_iff]; simp; omega
  have t2 : ((y.r : Int) == (m.r : Int)) = decide (y.r = m.r) := by rw [Bool.eq_iff_iff]; simp; omega
  have t3 : ((y.c : Int) == (n.c : Int)) = decide (y.c = n.c) := by rw [Bool.eq_iff_iff]; simp; omega
  unfold fits_Gemm
  have HS := Lib.hid (show ∀ W, Below w.heap.size w W → (fun W => (∀ i, W.cell? ⟨km, i, none⟩ = ([.pointer m.p, .int .i64 m.r, .int .i64 m.c, .int .i64 m.o, .int .i64 m.d, .int .i64 m.u] : List Value)[i]?) ∧ (∀ i, W.cell? ⟨kn, i, none⟩ = ([.pointer n.p, .int .i64 n.r, .int .i64 n.c, .int .i64 n.o, .int .i64 n.d, .int .i64 n.u] : List Value)[i]?) ∧ (∀ i, W.cell? ⟨ky, i, none⟩ = ([.pointer y.p, .int .i64 y.r, .int .i64 y.c, .int .i64 y.o, .int .i64 y.d, .int .i64 y.u] : List Value)[i]?)) W from fun W h => ⟨(hm.below h).cell, (hn.below h).cell, (hy.below h).cell⟩)
  have HB1 := Lib.hid (show Below w.heap.size w w.drew from below_drewN 1 (Below.refl w.heap.size w))
  clear hm hn hy
  generalize decide (m.c = n.r) = q1 at *
  generalize decide (y.r = m.r) = q2 at *
  generalize decide (y.c = n.c) = q3 at *
  cases q1
  · go_enter Try.func78, Try.ntmps78
    go_upto_region 1 with (fail)
    refine wp_region_many 19 40 [(0, 0), (0, 2), (1, 1), (1, 3), (0, 4), (0, 5), (0, 6), (0, 7), (0, 8), (0, 9), (0, 10), (0, 11), (0, 12), (0, 13), (0, 14), (0, 15), (0, 16), (0, 17), (0, 18)] (fun W => (∀ i, W.cell? ⟨km, i, none⟩ = ([.pointer m.p, .int .i64 m.r, .int .i64 m.c, .int .i64 m.o, .int .i64 m.d, .int .i64 m.u] : List Value)[i]?) ∧ (∀ i, W.cell? ⟨kn, i, none⟩ = ([.pointer n.p, .int .i64 n.r, .int .i64 n.c, .int .i64 n.o, .int .i64 n.d, .int .i64 n.u] : List Value)[i]?) ∧ (∀ i, W.cell? ⟨ky, i, none⟩ = ([.pointer y.p, .int .i64 y.r, .int .i64 y.c, .int .i64 y.o, .int .i64 y.d, .int .i64 y.u] : List Value)[i]?)) (by kernel_rfl) (by kernel_rfl) (HS.out _ HB1.out) ?_
    generalize w.drew = w1 at *
    iterate 1 (refine fm_take (v := ?_) rfl rfl ?_ ?_; rotate_left; (next => (intro w' hSw; (try dsimp only at hSw); go_simp; (try (rw [if_pos (by omega)]; go_simp)); (try with_reducible rfl))); (simp only [Act.put, List.setIfInBounds_toArray, List.set_cons_zero, List.set_cons_succ]))
    iterate 1 (refine fm_take (v := ?_) rfl rfl ?_ ?_; rotate_left; (next => (intro w' hSw; (try dsimp only at hSw); go_simp; (try (rw [if_pos (by omega)]; go_simp)); (try with_reducible rfl))); (simp only [Act.put, List.setIfInBounds_toArray, List.set_cons_zero, List.set_cons_succ]))
    refine fm_one ?_
    refine opW_take rfl rfl ?_
    go_simp
    refine (Cols_any m.p m.r m.c m.o m.d m.u w1).mono ?_
    rintro e v1 ⟨rfl, hb⟩
    have hB1 := Lib.hid (below_step HB1.out HB1.out.size hb)
    clear hb
    refine ⟨HS.out _ hB1.out, ?_⟩
    refine fm_one ?_
    refine opW_take rfl rfl ?_
    go_simp
    refine (Rows_any n.p n.r n.c n.o n.d n.u v1).mono ?_
    rintro e v2 ⟨rfl, hb⟩
    have hB2 := Lib.hid (below_step hB1.out hB1.out.size hb)
    clear hb
    refine ⟨HS.out _ hB2.out, ?_⟩
    iterate 1 (refine fm_take (v := ?_) rfl rfl ?_ ?_; rotate_left; (next => (intro w' hSw; (try dsimp only at hSw); go_simp; (try (rw [if_pos (by omega)]; go_simp)); (try with_reducible rfl))); (simp only [Act.put, List.setIfInBounds_toArray, List.set_cons_zero, List.set_cons_succ]))
    iterate 1 (refine fm_take (v := ?_) rfl rfl ?_ ?_; rotate_left; (next => (intro w' hSw; (try dsimp only at hSw); go_simp; (try (rw [if_pos (by omega)]; go_simp)); (try with_reducible rfl))); (simp only [Act.put, List.setIfInBounds_toArray, List.set_cons_zero, List.set_cons_succ]))
    iterate 1 (refine fm_out rfl rfl ?_; (simp only [Act.put, List.setIfInBounds_toArray, List.set_cons_zero, List.set_cons_succ]))
    iterate 1 (refine fm_out rfl rfl ?_; (simp only [Act.put, List.setIfInBounds_toArray, List.set_cons_zero, List.set_cons_succ]))
    iterate 1 (refine fm_out rfl rfl ?_; (simp only [Act.put, List.setIfInBounds_toArray, List.set_cons_zero, List.set_cons_succ]))
    iterate 1 (refine fm_out rfl rfl ?_; (simp only [Act.put, List.setIfInBounds_toArray, List.set_cons_zero, List.set_cons_succ]))
    iterate 1 (refine fm_out rfl rfl ?_; (simp only [Act.put, List.setIfInBounds_toArray, List.set_cons_zero, List.set_cons_succ]))
    iterate 1 (refine fm_take (v := ?_) rfl rfl ?_ ?_; rotate_left; (next => (intro w' hSw; (try dsimp only at hSw); go_simp; (try (rw [if_pos (by omega)]; go_simp)); (try with_reducible rfl))); (simp only [Act.put, List.setIfInBounds_toArray, List.set_cons_zero, List.set_cons_succ]))
    iterate 1 (refine fm_take (v := ?_) rfl rfl ?_ ?_; rotate_left; (next => (intro w' hSw; (try dsimp only at hSw); go_simp; (try (rw [if_pos (by omega)]; go_simp)); (try with_reducible rfl))); (simp only [Act.put, List.setIfInBounds_toArray, List.set_cons_zero, List.set_cons_succ]))
    iterate 1 (refine fm_out rfl rfl ?_; (simp only [Act.put, List.setIfInBounds_toArray, List.set_cons_zero, List.set_cons_succ]))
    iterate 1 (refine fm_out rfl rfl ?_; (simp only [Act.put, List.setIfInBounds_toArray, List.set_cons_zero, List.set_cons_succ]))
    iterate 1 (refine fm_out rfl rfl ?_; (simp only [Act.put, List.setIfInBounds_toArray, List.set_cons_zero, List.set_cons_succ]))
    iterate 1 (refine fm_out rfl rfl ?_; (simp only [Act.put, List.setIfInBounds_toArray, List.set_cons_zero, List.set_cons_succ]))
    iterate 1 (refine fm_out rfl rfl ?_; (simp only [Act.put, List.setIfInBounds_toArray, List.set_cons_zero, List.set_cons_succ]))
    iterate 1 (refine fm_take (v := ?_) rfl rfl ?_ ?_; rotate_left; (next => (intro w' hSw; (try dsimp only at hSw); go_simp; (try (rw [if_pos (by omega)]; go_simp)); (try with_reducible rfl))); (simp only [Act.put, List.setIfInBounds_toArray, List.set_cons_zero, List.set_cons_succ]))
    refine fm_nil ?_
    go_simp
    go_wp2
    refine NoPanic.normal ?_
    go_wp2_with fail
    go_ret
    exact ⟨by simp, hB2.out⟩
  · cases q2
    · go_enter Try.func78, Try.ntmps78
      go_upto_region 1 with (fail)
      refine wp_region_many 19 40 [(0, 0), (0, 2), (1, 1), (1, 3), (0, 4), (0, 5), (0, 6), (0, 8), (1, 7), (1, 9), (0, 10), (0, 11), (0, 12), (0, 13), (0, 14), (0, 15), (0, 16), (0, 17), (0, 18)] (fun W => (∀ i, W.cell? ⟨km, i, none⟩ = ([.pointer m.p, .int .i64 m.r, .int .i64 m.c, .int .i64 m.o, .int .i64 m.d, .int .i64 m.u] : List Value)[i]?) ∧ (∀ i, W.cell? ⟨kn, i, none⟩ = ([.pointer n.p, .int .i64 n.r, .int .i64 n.c, .int .i64 n.o, .int .i64 n.d, .int .i64 n.u] : List Value)[i]?) ∧ (∀ i, W.cell? ⟨ky, i, none⟩ = ([.pointer y.p, .int .i64 y.r, .int .i64 y.c, .int .i64 y.o, .int .i64 y.d, .int .i64 y.u] : List Value)[i]?)) (by kernel_rfl) (by kernel_rfl) (HS.out _ HB1.out) ?_
      generalize w.drew = w1 at *
      iterate 1 (refine fm_take (v := ?_) rfl rfl ?_ ?_; rotate_left; (next => (intro w' hSw; (try dsimp only at hSw); go_simp; (try (rw [if_pos (by omega)]; go_simp)); (try with_reducible rfl))); (simp only [Act.put, List.setIfInBounds_toArray, List.set_cons_zero, List.set_cons_succ]))
      iterate 1 (refine fm_take (v := ?_) rfl rfl ?_ ?_; rotate_left; (next => (intro w' hSw; (try dsimp only at hSw); go_simp; (try (rw [if_pos (by omega)]; go_simp)); (try with_reducible rfl))); (simp only [Act.put, List.setIfInBounds_toArray, List.set_cons_zero, List.set_cons_succ]))
      refine fm_one ?_
      refine opW_take rfl rfl ?_
      go_simp
      refine (Cols_any m.p m.r m.c m.o m.d m.u w1).mono ?_
      rintro e v1 ⟨rfl, hb⟩
      have hB1 := Lib.hid (below_step HB1.out HB1.out.size hb)
      clear hb
      refine ⟨HS.out _ hB1.out, ?_⟩
      refine fm_one ?_
      refine opW_take rfl rfl ?_
      go_simp
      refine (Rows_any n.p n.r n.c n.o n.d n.u v1).mono ?_
      rintro e v2 ⟨rfl, hb⟩
      have hB2 := Lib.hid (below_step hB1.out hB1.out.size hb)
      clear hb
      refine ⟨HS.out _ hB2.out, ?_⟩
      iterate 1 (refine fm_take (v := ?_) rfl rfl ?_ ?_; rotate_left; (next => (intro w' hSw; (try dsimp only at hSw); go_simp; (try (rw [if_pos (by omega)]; go_simp)); (try with_reducible rfl))); (simp only [Act.put, List.setIfInBounds_toArray, List.set_cons_zero, List.set_cons_succ]))
      iterate 1 (refine fm_take (v := ?_) rfl rfl ?_ ?_; rotate_left; (next => (intro w' hSw; (try dsimp only at hSw); go_simp; (try (rw [if_pos (by omega)]; go_simp)); (try with_reducible rfl))); (simp only [Act.put, List.setIfInBounds_toArray, List.set_cons_zero, List.set_cons_succ]))
      iterate 1 (refine fm_take (v := ?_) rfl rfl ?_ ?_; rotate_left; (next => (intro w' hSw; (try dsimp only at hSw); go_simp; (try (rw [if_pos (by omega)]; go_simp)); (try with_reducible rfl))); (simp only [Act.put, List.setIfInBounds_toArray, List.set_cons_zero, List.set_cons_succ]))
      iterate 1 (refine fm_take (v := ?_) rfl rfl ?_ ?_; rotate_left; (next => (intro w' hSw; (try dsimp only at hSw); go_simp; (try (rw [if_pos (by omega)]; go_simp)); (try with_reducible rfl))); (simp only [Act.put, List.setIfInBounds_toArray, List.set_cons_zero, List.set_cons_succ]))
      refine fm_one ?_
      refine opW_take rfl rfl ?_
      go_simp
      refine (Rows_any y.p y.r y.c y.o y.d y.u v2).mono ?_
      rintro e v3 ⟨rfl, hb⟩
      have hB3 := Lib.hid (below_step hB2.out hB2.out.size hb)
      clear hb
      refine ⟨HS.out _ hB3.out, ?_⟩
      refine fm_one ?_
      refine opW_take rfl rfl ?_
      go_simp
      refine (Rows_any m.p m.r m.c m.o m.d m.u v3).mono ?_
      rintro e v4 ⟨rfl, hb⟩
      have hB4 := Lib.hid (below_step hB3.out hB3.out.size hb)
      clear hb
      refine ⟨HS.out _ hB4.out, ?_⟩
      iterate 1 (refine fm_take (v := ?_) rfl rfl ?_ ?_; rotate_left; (next => (intro w' hSw; (try dsimp only at hSw); go_simp; (try (rw [if_pos (by omega)]; go_simp)); (try with_reducible rfl))); (simp only [Act.put, List.setIfInBounds_toArray, List.set_cons_zero, List.set_cons_succ]))
      iterate 1 (refine fm_take (v := ?_) rfl rfl ?_ ?_; rotate_left; (next => (intro w' hSw; (try dsimp only at hSw); go_simp; (try (rw [if_pos (by omega)]; go_simp)); (try with_reducible rfl))); (simp only [Act.put, List.setIfInBounds_toArray, List.set_cons_zero, List.set_cons_succ]))
      iterate 1 (refine fm_take (v := ?_) rfl rfl ?_ ?_; rotate_left; (next => (intro w' hSw; (try dsimp only at hSw); go_simp; (try (rw [if_pos (by omega)]; go_simp)); (try with_reducible rfl))); (simp only [Act.put, List.setIfInBounds_toArray, List.set_cons_zero, List.set_cons_succ]))
      iterate 1 (refine fm_out rfl rfl ?_; (simp only [Act.put, List.setIfInBounds_toArray, List.set_cons_zero, List.set_cons_succ]))
      iterate 1 (refine fm_out rfl rfl ?_; (simp only [Act.put, List.setIfInBounds_toArray, List.set_cons_zero, List.set_cons_succ]))
      iterate 1 (refine fm_out rfl rfl ?_; (simp only [Act.put, List.setIfInBounds_toArray, List.set_cons_zero, List.set_cons_succ]))
      iterate 1 (refine fm_out rfl rfl ?_; (simp only [Act.put, List.setIfInBounds_toArray, List.set_cons_zero, List.set_cons_succ]))
      iterate 1 (refine fm_out rfl rfl ?_; (simp only [Act.put, List.setIfInBounds_toArray, List.set_cons_zero, List.set_cons_succ]))
      iterate 1 (refine fm_take (v := ?_) rfl rfl ?_ ?_; rotate_left; (next => (intro w' hSw; (try dsimp only at hSw); go_simp; (try (rw [if_pos (by omega)]; go_simp)); (try with_reducible rfl))); (simp only [Act.put, List.setIfInBounds_toArray, List.set_cons_zero, List.set_cons_succ]))
      refine fm_nil ?_
      go_simp
      go_wp2
      refine NoPanic.normal ?_
      go_wp2_with fail
      go_ret
      exact ⟨by simp, hB4.out⟩
    · go_enter Try.func78, Try.ntmps78
      go_upto_region 1 with (fail)
      refine wp_region_many 19 40 [(0, 0), (0, 2), (1, 1), (1, 3), (0, 4), (0, 5), (0, 6), (0, 8), (1, 7), (1, 9), (0, 10), (0, 11), (0, 12), (0, 13), (0, 15), (1, 14), (1, 16), (0, 17), (0, 18)] (fun W => (∀ i, W.cell? ⟨km, i, none⟩ = ([.pointer m.p, .int .i64 m.r, .int .i64 m.c, .int .i64 m.o, .int .i64 m.d, .int .i64 m.u] : List Value)[i]?) ∧ (∀ i, W.cell? ⟨kn, i, none⟩ = ([.pointer n.p, .int .i64 n.r, .int .i64 n.c, .int .i64 n.o, .int .i64 n.d, .int .i64 n.u] : List Value)[i]?) ∧ (∀ i, W.cell? ⟨ky, i, none⟩ = ([.pointer y.p, .int .i64 y.r, .int .i64 y.c, .int .i64 y.o, .int .i64 y.d, .int .i64 y.u] : List Value)[i]?)) (by kernel_rfl) (by kernel_rfl) (HS.out _ HB1.out) ?_
      generalize w.drew = w1 at *
      iterate 1 (refine fm_take (v := ?_) rfl rfl ?_ ?_; rotate_left; (next => (intro w' hSw; (try dsimp only at hSw); go_simp; (try (rw [if_pos (by omega)]; go_simp)); (try with_reducible rfl))); (simp only [Act.put, List.setIfInBounds_toArray, List.set_cons_zero, List.set_cons_succ]))
      iterate 1 (refine fm_take (v := ?_) rfl rfl ?_ ?_; rotate_left; (next => (intro w' hSw; (try dsimp only at hSw); go_simp; (try (rw [if_pos (by omega)]; go_simp)); (try with_reducible rfl))); (simp only [Act.put, List.setIfInBounds_toArray, List.set_cons_zero, List.set_cons_succ]))
      refine fm_one ?_
      refine opW_take rfl rfl ?_
      go_simp
      refine (Cols_any m.p m.r m.c m.o m.d m.u w1).mono ?_
      rintro e v1 ⟨rfl, hb⟩
      have hB1 := Lib.hid (below_step HB1.out HB1.out.size hb)
      clear hb
      refine ⟨HS.out _ hB1.out, ?_⟩
      refine fm_one ?_
      refine opW_take rfl rfl ?_
      go_simp
      refine (Rows_any n.p n.r n.c n.o n.d n.u v1).mono ?_
      rintro e v2 ⟨rfl, hb⟩
      have hB2 := Lib.hid (below_step hB1.out hB1.out.size hb)
      clear hb
      refine ⟨HS.out _ hB2.out, ?_⟩
      iterate 1 (refine fm_take (v := ?_) rfl rfl ?_ ?_; rotate_left; (next => (intro w' hSw; (try dsimp only at hSw); go_simp; (try (rw [if_pos (by omega)]; go_simp)); (try with_reducible rfl))); (simp only [Act.put, List.setIfInBounds_toArray, List.set_cons_zero, List.set_cons_succ]))
      iterate 1 (refine fm_take (v := ?_) rfl rfl ?_ ?_; rotate_left; (next => (intro w' hSw; (try dsimp only at hSw); go_simp; (try (rw [if_pos (by omega)]; go_simp)); (try with_reducible rfl))); (simp only [Act.put, List.setIfInBounds_toArray, List.set_cons_zero, List.set_cons_succ]))
      iterate 1 (refine fm_take (v := ?_) rfl rfl ?_ ?_; rotate_left; (next => (intro w' hSw; (try dsimp only at hSw); go_simp; (try (rw [if_pos (by omega)]; go_simp)); (try with_reducible rfl))); (simp only [Act.put, List.setIfInBounds_toArray, List.set_cons_zero, List.set_cons_succ]))
      iterate 1 (refine fm_take (v := ?_) rfl rfl ?_ ?_; rotate_left; (next => (intro w' hSw; (try dsimp only at hSw); go_simp; (try (rw [if_pos (by omega)]; go_simp)); (try with_reducible rfl))); (simp only [Act.put, List.setIfInBounds_toArray, List.set_cons_zero, List.set_cons_succ]))
      refine fm_one ?_
      refine opW_take rfl rfl ?_
      go_simp
      refine (Rows_any y.p y.r y.c y.o y.d y.u v2).mono ?_
      rintro e v3 ⟨rfl, hb⟩
      have hB3 := Lib.hid (below_step hB2.out hB2.out.size hb)
      clear hb
      refine ⟨HS.out _ hB3.out, ?_⟩
      refine fm_one ?_
      refine opW_take rfl rfl ?_
      go_simp
      refine (Rows_any m.p m.r m.c m.o m.d m.u v3).mono ?_
      rintro e v4 ⟨rfl, hb⟩
      have hB4 := Lib.hid (below_step hB3.out hB3.out.size hb)
      clear hb
      refine ⟨HS.out _ hB4.out, ?_⟩
      iterate 1 (refine fm_take (v := ?_) rfl rfl ?_ ?_; rotate_left; (next => (intro w' hSw; (try dsimp only at hSw); go_simp; (try (rw [if_pos (by omega)]; go_simp)); (try with_reducible rfl))); (simp only [Act.put, List.setIfInBounds_toArray, List.set_cons_zero, List.set_cons_succ]))
      iterate 1 (refine fm_take (v := ?_) rfl rfl ?_ ?_; rotate_left; (next => (intro w' hSw; (try dsimp only at hSw); go_simp; (try (rw [if_pos (by omega)]; go_simp)); (try with_reducible rfl))); (simp only [Act.put, List.setIfInBounds_toArray, List.set_cons_zero, List.set_cons_succ]))
      iterate 1 (refine fm_take (v := ?_) rfl rfl ?_ ?_; rotate_left; (next => (intro w' hSw; (try dsimp only at hSw); go_simp; (try (rw [if_pos (by omega)]; go_simp)); (try with_reducible rfl))); (simp only [Act.put, List.setIfInBounds_toArray, List.set_cons_zero, List.set_cons_succ]))
      iterate 1 (refine fm_take (v := ?_) rfl rfl ?_ ?_; rotate_left; (next => (intro w' hSw; (try dsimp only at hSw); go_simp; (try (rw [if_pos (by omega)]; go_simp)); (try with_reducible rfl))); (simp only [Act.put, List.setIfInBounds_toArray, List.set_cons_zero, List.set_cons_succ]))
      iterate 1 (refine fm_take (v := ?_) rfl rfl ?_ ?_; rotate_left; (next => (intro w' hSw; (try dsimp only at hSw); go_simp; (try (rw [if_pos (by omega)]; go_simp)); (try with_reducible rfl))); (simp only [Act.put, List.setIfInBounds_toArray, List.set_cons_zero, List.set_cons_succ]))
      refine fm_one ?_
      refine opW_take rfl rfl ?_
      go_simp
      refine (Cols_any y.p y.r y.c y.o y.d y.u v4).mono ?_
      rintro e v5 ⟨rfl, hb⟩
      have hB5 := Lib.hid (below_step hB4.out hB4.out.size hb)
      clear hb
      refine ⟨HS.out _ hB5.out, ?_⟩
      refine fm_one ?_
      refine opW_take rfl rfl ?_
      go_simp
      refine (Cols_any n.p n.r n.c n.o n.d n.u v5).mono ?_
      rintro e v6 ⟨rfl, hb⟩
      have hB6 := Lib.hid (below_step hB5.out hB5.out.size hb)
      clear hb
      refine ⟨HS.out _ hB6.out, ?_⟩
      iterate 1 (refine fm_take (v := ?_) rfl rfl ?_ ?_; rotate_left; (next => (intro w' hSw; (try dsimp only at hSw); go_simp; (try (rw [if_pos (by omega)]; go_simp)); (try with_reducible rfl))); (simp only [Act.put, List.setIfInBounds_toArray, List.set_cons_zero, List.set_cons_succ]))
      iterate 1 (refine fm_take (v := ?_) rfl rfl ?_ ?_; rotate_left; (next => (intro w' hSw; (try dsimp only at hSw); go_simp; (try (rw [if_pos (by omega)]; go_simp)); (try with_reducible rfl))); (simp only [Act.put, List.setIfInBounds_toArray, List.set_cons_zero, List.set_cons_succ]))
      refine fm_nil ?_
      go_simp
      go_wp2
      refine NoPanic.normal ?_
      go_wp2_with fail
      go_ret
      exact ⟨by simp, hB6.out⟩
set_option maxHeartbeats 4000000 in
theorem Gemm_bad (w : World) (a b : Nat) (m n y : Vw) (sm sn sy : Nat) (wm wn wy : List Nat) (hm : m.Ok w sm wm) (hn : n.Ok w sn wn) (hy : y.Ok w sy wy) (hE : openE [m, n, y] (fits_Gemm m n y) ≠ 0) :
    Calls Try.prog 31 #[.float .f64 a, m.val, n.val, .float .f64 b, y.val] w fun e w' => e = .returned (.int .i64 (openE [m, n, y] (fits_Gemm m n y))) ∧ Below w.heap.size w w' := by
  have HO := Lib.hid (fun W (h : Below w.heap.size w W) km kn ky b hbm hbn hby hb => open_any W 78 #[.pointer (some ⟨km, 0, none⟩), .pointer (some ⟨kn, 0, none⟩), .pointer (some ⟨ky, 0, none⟩)] b [m, n, y] (fits_Gemm m n y) hb (fun v hv => by
    simp only [List.mem_cons, List.not_mem_nil, or_false] at hv
    rcases hv with rfl | rfl | rfl
    · exact ⟨sm, wm, hm.below h⟩
    · exact ⟨sn, wn, hn.below h⟩
    · exact ⟨sy, wy, hy.below h⟩) (by simp) (enters_of Try.func78 (by kernel_rfl) rfl) (fun _ W' h' => Gemmf_any W' m n y km kn ky (Box.below hbm h') (Box.below hbn h') (Box.below hby h')))
  generalize openE [m, n, y] (fits_Gemm m n y) = E at *
  have t1 : (E != 0) = true := by simp [hE]
  obtain ⟨W0, hW0⟩ : ∃ W0, W0 = ((((w.alloc (.cells #[.float .f64 a] 31)).alloc (.cells #[.pointer m.p, .int .i64 m.r, .int .i64 m.c, .int .i64 m.o, .int .i64 m.d, .int .i64 m.u] 29)).alloc (.cells #[.pointer n.p, .int .i64 n.r, .int .i64 n.c, .int .i64 n.o, .int .i64 n.d, .int .i64 n.u] 29)).alloc (.cells #[.float .f64 b] 31)).alloc (.cells #[.pointer y.p, .int .i64 y.r, .int .i64 y.c, .int .i64 y.o, .int .i64 y.d, .int .i64 y.u] 29) := ⟨_, rfl⟩
  have hB0 : Below w.heap.size w W0 := hW0 ▸ (((((Below.refl _ _).alloc (Nat.le_refl _) _).alloc (by simp) _).alloc (by simp; omega) _).alloc (by simp; omega) _).alloc (by simp; omega) _
  have x2 : Box W0 (w.heap.size + 1) [.pointer m.p, .int .i64 m.r, .int .i64 m.c, .int .i64 m.o, .int .i64 m.d, .int .i64 m.u] := hW0 ▸ (((Box.newA _ [.pointer m.p, .int .i64 m.r, .int .i64 m.c, .int .i64 m.o, .int .i64 m.d, .int .i64 m.u] _ (by simp)).alloc _).alloc _).alloc _
  have x3 : Box W0 (w.heap.size + 1 + 1) [.pointer n.p, .int .i64 n.r, .int .i64 n.c, .int .i64 n.o, .int .i64 n.d, .int .i64 n.u] := hW0 ▸ ((Box.newA _ [.pointer n.p, .int .i64 n.r, .int .i64 n.c, .int .i64 n.o, .int .i64 n.d, .int .i64 n.u] _ (by simp)).alloc _).alloc _
  have x4 : Box W0 (w.heap.size + 1 + 1 + 1 + 1) [.pointer y.p, .int .i64 y.r, .int .i64 y.c, .int .i64 y.o, .int .i64 y.d, .int .i64 y.u] := hW0 ▸ Box.newA _ [.pointer y.p, .int .i64 y.r, .int .i64 y.c, .int .i64 y.o, .int .i64 y.d, .int .i64 y.u] _ (by simp)
  have HX := Lib.hid (show _ ∧ _ ∧ _ ∧ _ from ⟨hB0, x2, x3, x4⟩)
  clear hm hn hy hB0 x2 x3 x4 hE
  show Calls Try.prog 31 #[.float .f64 a, (.agg #[.pointer m.p, .int .i64 m.r, .int .i64 m.c, .int .i64 m.o, .int .i64 m.d, .int .i64 m.u]), (.agg #[.pointer n.p, .int .i64 n.r, .int .i64 n.c, .int .i64 n.o, .int .i64 n.d, .int .i64 n.u]), .float .f64 b, (.agg #[.pointer y.p, .int .i64 y.r, .int .i64 y.c, .int .i64 y.o, .int .i64 y.d, .int .i64 y.u])] w _
  go_enter Try.func31, Try.ntmps31
  go_upto_region 1 with (fail)
  rw [← hW0]
  clear hW0
  obtain ⟨hB0, x2, x3, x4⟩ := HX.out
  have hbA : Below W0.heap.size W0 (W0.alloc (.cells #[.pointer m.p, .int .i64 m.r, .int .i64 m.c, .int .i64 m.o, .int .i64 m.d, .int .i64 m.u, .pointer n.p, .int .i64 n.r, .int .i64 n.c, .int .i64 n.o, .int .i64 n.d, .int .i64 n.u, .pointer y.p, .int .i64 y.r, .int .i64 y.c, .int .i64 y.o, .int .i64 y.d, .int .i64 y.u] 29)) := (Below.refl _ _).alloc (Nat.le_refl _) _
  have hz : Box (W0.alloc (.cells #[.pointer m.p, .int .i64 m.r, .int .i64 m.c, .int .i64 m.o, .int .i64 m.d, .int .i64 m.u, .pointer n.p, .int .i64 n.r, .int .i64 n.c, .int .i64 n.o, .int .i64 n.d, .int .i64 n.u, .pointer y.p, .int .i64 y.r, .int .i64 y.c, .int .i64 y.o, .int .i64 y.d, .int .i64 y.u] 29)) W0.heap.size ([m, n, y].flatMap Vw.cs) := Box.newA W0 ([m, n, y].flatMap Vw.cs) _ rfl
  have hB1 := below_step hB0 hB0.size hbA
  have HC := Lib.hid (HO.out _ hB1 _ _ _ _ (x2.below hbA) (x3.below hbA) (x4.below hbA) hz)
  obtain ⟨p1, p2, p3⟩ := x2.facts
  obtain ⟨q1, q2, q3⟩ := x3.facts
  obtain ⟨r1, r2, r3⟩ := x4.facts
  have HB1 := Lib.hid hB1
  clear hB0 x2 x3 x4 hbA hz hB1 HO HX
  go_wp2_with fail
  refine HC.out.mono ?_
  rintro e w1 ⟨rfl, hb1⟩
  have HB2 := Lib.hid (below_step HB1.out HB1.out.size hb1)
  clear p1 p2 p3 q1 q2 q3 r1 r2 r3 hb1 HB1 HC
  dsimp only
  go_wp2_with fail
  go_ret
  exact ⟨rfl, HB2.out⟩
end Go.Proofs.Ytbcdpibcieadlaa
