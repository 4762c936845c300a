/- Layer 8: Gemm's test (printed by gen_ko.py). No condition but on lengths. -/
import Derived.Test.YtbcdpibcieadlaaZz15
namespace Go.Proofs.Ytbcdpibcieadlaa
open Go Go.RowKit
set_option maxRecDepth 100000

def fits_Gemm (m n y : Vw) : Bool := decide (m.c = n.r) && (decide (y.r = m.r) && decide (y.c = n.c))
set_option maxHeartbeats 8000000 in
theorem Gemmf_any (w : World) (m n y : Vw) (km kn ky : Nat) (hm : Box w km m.cs) (hn : Box w kn n.cs) (hy : Box w ky y.cs) :
    Calls Try.prog 78 #[.pointer (some ⟨km, 0, none⟩), .pointer (some ⟨kn, 0, none⟩), .pointer (some ⟨ky, 0, none⟩)] w fun e w' => e = .returned (.bool (fits_Gemm m n y)) ∧ Below w.heap.size w w' := by
  have t1 : ((m.c : Int) == (n.r : Int)) = decide (m.c = n.r) := by rw [Bool.eq_iff_iff]; simp; omega
  have t2 : ((y.r : Int) == (m.r : Int)) = decide (y.r = m.r) := by rw [Bool.eq_iff_iff]; simp; omega
  have t3 : ((y.c : Int) == (n.c : Int)) = decide (y.c = n.c) := by rw [Bool.eq_iff_iff]; simp; omega
  unfold fits_Gemm
  have HS := Lib.hid (show ∀ W, Below w.heap.size w W → (fun W => (∀ i, W.cell? ⟨km, i, none⟩ = ([.pointer m.p, .int .i64 m.r, .int .i64 m.c, .int .i64 m.o, .int .i64 m.d, .int .i64 m.u] : List Value)[i]?) ∧ (∀ i, W.cell? ⟨kn, i, none⟩ = ([.pointer n.p, .int .i64 n.r, .int .i64 n.c, .int .i64 n.o, .int .i64 n.d, .int .i64 n.u] : List Value)[i]?) ∧ (∀ i, W.cell? ⟨ky, i, none⟩ = ([.pointer y.p, .int .i64 y.r, .int .i64 y.c, .int .i64 y.o, .int .i64 y.d, .int .i64 y.u] : List Value)[i]?)) W from fun W h => ⟨(hm.below h).cell, (hn.below h).cell, (hy.below h).cell⟩)
  have HB1 := Lib.hid (show Below w.heap.size w w.drew from below_drewN 1 (Below.refl w.heap.size w))
  clear hm hn hy
  generalize decide (m.c = n.r) = q1 at *
  generalize decide (y.r = m.r) = q2 at *
  generalize decide (y.c = n.c) = q3 at *
  cases q1
  · go_enter Try.func78, Try.ntmps78
    go_upto_region 1 with (fail)
    refine wp_region_many 19 40 [(0, 0), (0, 2), (1, 1), (1, 3), (0, 4), (0, 5), (0, 6), (0, 7), (0, 8), (0, 9), (0, 10), (0, 11), (0, 12), (0, 13), (0, 14), (0, 15), (0, 16), (0, 17), (0, 18)] (fun W => (∀ i, W.cell? ⟨km, i, none⟩ = ([.pointer m.p, .int .i64 m.r, .int .i64 m.c, .int .i64 m.o, .int .i64 m.d, .int .i64 m.u] : List Value)[i]?) ∧ (∀ i, W.cell? ⟨kn, i, none⟩ = ([.pointer n.p, .int .i64 n.r, .int .i64 n.c, .int .i64 n.o, .int .i64 n.d, .int .i64 n.u] : List Value)[i]?) ∧ (∀ i, W.cell? ⟨ky, i, none⟩ = ([.pointer y.p, .int .i64 y.r, .int .i64 y.c, .int .i64 y.o, .int .i64 y.d, .int .i64 y.u] : List Value)[i]?)) (by kernel_rfl) (by kernel_rfl) (HS.out _ HB1.out) ?_
    generalize w.drew = w1 at *
    iterate 1 (refine fm_take (v := ?_) rfl rfl ?_ ?_; rotate_left; (next => (intro w' hSw; (try dsimp only at hSw); go_simp; (try (rw [if_pos (by omega)]; go_simp)); (try with_reducible rfl))); (simp only [Act.put, List.setIfInBounds_toArray, List.set_cons_zero, List.set_cons_succ]))
    iterate 1 (refine fm_take (v := ?_) rfl rfl ?_ ?_; rotate_left; (next => (intro w' hSw; (try dsimp only at hSw); go_simp; (try (rw [if_pos (by omega)]; go_simp)); (try with_reducible rfl))); (simp only [Act.put, List.setIfInBounds_toArray, List.set_cons_zero, List.set_cons_succ]))
    refine fm_one ?_
    refine opW_take rfl rfl ?_
    go_simp
    refine (Cols_any m.p m.r m.c m.o m.d m.u w1).mono ?_
    rintro e v1 ⟨rfl, hb⟩
    have hB1 := Lib.hid (below_step HB1.out HB1.out.size hb)
    clear hb
    refine ⟨HS.out _ hB1.out, ?_⟩
    refine fm_one ?_
    refine opW_take rfl rfl ?_
    go_simp
    refine (Rows_any n.p n.r n.c n.o n.d n.u v1).mono ?_
    rintro e v2 ⟨rfl, hb⟩
    have hB2 := Lib.hid (below_step hB1.out hB1.out.size hb)
    clear hb
    refine ⟨HS.out _ hB2.out, ?_⟩
    iterate 1 (refine fm_take (v := ?_) rfl rfl ?_ ?_; rotate_left; (next => (intro w' hSw; (try dsimp only at hSw); go_simp; (try (rw [if_pos (by omega)]; go_simp)); (try with_reducible rfl))); (simp only [Act.put, List.setIfInBounds_toArray, List.set_cons_zero, List.set_cons_succ]))
    iterate 1 (refine fm_take (v := ?_) rfl rfl ?_ ?_; rotate_left; (next => (intro w' hSw; (try dsimp only at hSw); go_simp; (try (rw [if_pos (by omega)]; go_simp)); (try with_reducible rfl))); (simp only [Act.put, List.setIfInBounds_toArray, List.set_cons_zero, List.set_cons_succ]))
    iterate 1 (refine fm_out rfl rfl ?_; (simp only [Act.put, List.setIfInBounds_toArray, List.set_cons_zero, List.set_cons_succ]))
    iterate 1 (refine fm_out rfl rfl ?_; (simp only [Act.put, List.setIfInBounds_toArray, List.set_cons_zero, List.set_cons_succ]))
    iterate 1 (refine fm_out rfl rfl ?_; (simp only [Act.put, List.setIfInBounds_toArray, List.set_cons_zero, List.set_cons_succ]))
    iterate 1 (refine fm_out rfl rfl ?_; (simp only [Act.put, List.setIfInBounds_toArray, List.set_cons_zero, List.set_cons_succ]))
    iterate 1 (refine fm_out rfl rfl ?_; (simp only [Act.put, List.setIfInBounds_toArray, List.set_cons_zero, List.set_cons_succ]))
    iterate 1 (refine fm_take (v := ?_) rfl rfl ?_ ?_; rotate_left; (next => (intro w' hSw; (try dsimp only at hSw); go_simp; (try (rw [if_pos (by omega)]; go_simp)); (try with_reducible rfl))); (simp only [Act.put, List.setIfInBounds_toArray, List.set_cons_zero, List.set_cons_succ]))
    iterate 1 (refine fm_take (v := ?_) rfl rfl ?_ ?_; rotate_left; (next => (intro w' hSw; (try dsimp only at hSw); go_simp; (try (rw [if_pos (by omega)]; go_simp)); (try with_reducible rfl))); (simp only [Act.put, List.setIfInBounds_toArray, List.set_cons_zero, List.set_cons_succ]))
    iterate 1 (refine fm_out rfl rfl ?_; (simp only [Act.put, List.setIfInBounds_toArray, List.set_cons_zero, List.set_cons_succ]))
    iterate 1 (refine fm_out rfl rfl ?_; (simp only [Act.put, List.setIfInBounds_toArray, List.set_cons_zero, List.set_cons_succ]))
    iterate 1 (refine fm_out rfl rfl ?_; (simp only [Act.put, List.setIfInBounds_toArray, List.set_cons_zero, List.set_cons_succ]))
    iterate 1 (refine fm_out rfl rfl ?_; (simp only [Act.put, List.setIfInBounds_toArray, List.set_cons_zero, List.set_cons_succ]))
    iterate 1 (refine fm_out rfl rfl ?_; (simp only [Act.put, List.setIfInBounds_toArray, List.set_cons_zero, List.set_cons_succ]))
    iterate 1 (refine fm_take (v := ?_) rfl rfl ?_ ?_; rotate_left; (next => (intro w' hSw; (try dsimp only at hSw); go_simp; (try (rw [if_pos (by omega)]; go_simp)); (try with_reducible rfl))); (simp only [Act.put, List.setIfInBounds_toArray, List.set_cons_zero, List.set_cons_succ]))
    refine fm_nil ?_
    go_simp
    go_wp2
    refine NoPanic.normal ?_
    go_wp2_with fail
    go_ret
    exact ⟨by simp, hB2.out⟩
  · cases q2
    · go_enter Try.func78, Try.ntmps78
      go_upto_region 1 with (fail)
      refine wp_region_many 19 40 [(0, 0), (0, 2), (1, 1), (1, 3), (0, 4), (0, 5), (0, 6), (0, 8), (1, 7), (1, 9), (0, 10), (0, 11), (0, 12), (0, 13), (0, 14), (0, 15), (0, 16), (0, 17), (0, 18)] (fun W => (∀ i, W.cell? ⟨km, i, none⟩ = ([.pointer m.p, .int .i64 m.r, .int .i64 m.c, .int .i64 m.o, .int .i64 m.d, .int .i64 m.u] : List Value)[i]?) ∧ (∀ i, W.cell? ⟨kn, i, none⟩ = ([.pointer n.p, .int .i64 n.r, .int .i64 n.c, .int .i64 n.o, .int .i64 n.d, .int .i64 n.u] : List Value)[i]?) ∧ (∀ i, W.cell? ⟨ky, i, none⟩ = ([.pointer y.p, .int .i64 y.r, .int .i64 y.c, .int .i64 y.o, .int .i64 y.d, .int .i64 y.u] : List Value)[i]?)) (by kernel_rfl) (by kernel_rfl) (HS.out _ HB1.out) ?_
      generalize w.drew = w1 at *
      iterate 1 (refine fm_take (v := ?_) rfl rfl ?_ ?_; rotate_left; (next => (intro w' hSw; (try dsimp only at hSw); go_simp; (try (rw [if_pos (by omega)]; go_simp)); (try with_reducible rfl))); (simp only [Act.put, List.setIfInBounds_toArray, List.set_cons_zero, List.set_cons_succ]))
      iterate 1 (refine fm_take (v := ?_) rfl rfl ?_ ?_; rotate_left; (next => (intro w' hSw; (try dsimp only at hSw); go_simp; (try (rw [if_pos (by omega)]; go_simp)); (try with_reducible rfl))); (simp only [Act.put, List.setIfInBounds_toArray, List.set_cons_zero, List.set_cons_succ]))
      refine fm_one ?_
      refine opW_take rfl rfl ?_
      go_simp
      refine (Cols_any m.p m.r m.c m.o m.d m.u w1).mono ?_
      rintro e v1 ⟨rfl, hb⟩
      have hB1 := Lib.hid (below_step HB1.out HB1.out.size hb)
      clear hb
      refine ⟨HS.out _ hB1.out, ?_⟩
      refine fm_one ?_
      refine opW_take rfl rfl ?_
      go_simp
      refine (Rows_any n.p n.r n.c n.o n.d n.u v1).mono ?_
      rintro e v2 ⟨rfl, hb⟩
      have hB2 := Lib.hid (below_step hB1.out hB1.out.size hb)
      clear hb
      refine ⟨HS.out _ hB2.out, ?_⟩
      iterate 1 (refine fm_take (v := ?_) rfl rfl ?_ ?_; rotate_left; (next => (intro w' hSw; (try dsimp only at hSw); go_simp; (try (rw [if_pos (by omega)]; go_simp)); (try with_reducible rfl))); (simp only [Act.put, List.setIfInBounds_toArray, List.set_cons_zero, List.set_cons_succ]))
      iterate 1 (refine fm_take (v := ?_) rfl rfl ?_ ?_; rotate_left; (next => (intro w' hSw; (try dsimp only at hSw); go_simp; (try (rw [if_pos (by omega)]; go_simp)); (try with_reducible rfl))); (simp only [Act.put, List.setIfInBounds_toArray, List.set_cons_zero, List.set_cons_succ]))
      iterate 1 (refine fm_take (v := ?_) rfl rfl ?_ ?_; rotate_left; (next => (intro w' hSw; (try dsimp only at hSw); go_simp; (try (rw [if_pos (by omega)]; go_simp)); (try with_reducible rfl))); (simp only [Act.put, List.setIfInBounds_toArray, List.set_cons_zero, List.set_cons_succ]))
      iterate 1 (refine fm_take (v := ?_) rfl rfl ?_ ?_; rotate_left; (next => (intro w' hSw; (try dsimp only at hSw); go_simp; (try (rw [if_pos (by omega)]; go_simp)); (try with_reducible rfl))); (simp only [Act.put, List.setIfInBounds_toArray, List.set_cons_zero, List.set_cons_succ]))
      refine fm_one ?_
      refine opW_take rfl rfl ?_
      go_simp
      refine (Rows_any y.p y.r y.c y.o y.d y.u v2).mono ?_
      rintro e v3 ⟨rfl, hb⟩
      have hB3 := Lib.hid (below_step hB2.out hB2.out.size hb)
      clear hb
      refine ⟨HS.out _ hB3.out, ?_⟩
      refine fm_one ?_
      refine opW_take rfl rfl ?_
      go_simp
      refine (Rows_any m.p m.r m.c m.o m.d m.u v3).mono ?_
      rintro e v4 ⟨rfl, hb⟩
      have hB4 := Lib.hid (below_step hB3.out hB3.out.size hb)
      clear hb
      refine ⟨HS.out _ hB4.out, ?_⟩
      iterate 1 (refine fm_take (v := ?_) rfl rfl ?_ ?_; rotate_left; (next => (intro w' hSw; (try dsimp only at hSw); go_simp; (try (rw [if_pos (by omega)]; go_simp)); (try with_reducible rfl))); (simp only [Act.put, List.setIfInBounds_toArray, List.set_cons_zero, List.set_cons_succ]))
      iterate 1 (refine fm_take (v := ?_) rfl rfl ?_ ?_; rotate_left; (next => (intro w' hSw; (try dsimp only at hSw); go_simp; (try (rw [if_pos (by omega)]; go_simp)); (try with_reducible rfl))); (simp only [Act.put, List.setIfInBounds_toArray, List.set_cons_zero, List.set_cons_succ]))
      iterate 1 (refine fm_take (v := ?_) rfl rfl ?_ ?_; rotate_left; (next => (intro w' hSw; (try dsimp only at hSw); go_simp; (try (rw [if_pos (by omega)]; go_simp)); (try with_reducible rfl))); (simp only [Act.put, List.setIfInBounds_toArray, List.set_cons_zero, List.set_cons_succ]))
      iterate 1 (refine fm_out rfl rfl ?_; (simp only [Act.put, List.setIfInBounds_toArray, List.set_cons_zero, List.set_cons_succ]))
      iterate 1 (refine fm_out rfl rfl ?_; (simp only [Act.put, List.setIfInBounds_toArray, List.set_cons_zero, List.set_cons_succ]))
      iterate 1 (refine fm_out rfl rfl ?_; (simp only [Act.put, List.setIfInBounds_toArray, List.set_cons_zero, List.set_cons_succ]))
      iterate 1 (refine fm_out rfl rfl ?_; (simp only [Act.put, List.setIfInBounds_toArray, List.set_cons_zero, List.set_cons_succ]))
      iterate 1 (refine fm_out rfl rfl ?_; (simp only [Act.put, List.setIfInBounds_toArray, List.set_cons_zero, List.set_cons_succ]))
      iterate 1 (refine fm_take (v := ?_) rfl rfl ?_ ?_; rotate_left; (next => (intro w' hSw; (try dsimp only at hSw); go_simp; (try (rw [if_pos (by omega)]; go_simp)); (try with_reducible rfl))); (simp only [Act.put, List.setIfInBounds_toArray, List.set_cons_zero, List.set_cons_succ]))
      refine fm_nil ?_
      go_simp
      go_wp2
      refine NoPanic.normal ?_
      go_wp2_with fail
      go_ret
      exact ⟨by simp, hB4.out⟩
    · go_enter Try.func78, Try.ntmps78
      go_upto_region 1 with (fail)
      refine wp_region_many 19 40 [(0, 0), (0, 2), (1, 1), (1, 3), (0, 4), (0, 5), (0, 6), (0, 8), (1, 7), (1, 9), (0, 10), (0, 11), (0, 12), (0, 13), (0, 15), (1, 14), (1, 16), (0, 17), (0, 18)] (fun W => (∀ i, W.cell? ⟨km, i, none⟩ = ([.pointer m.p, .int .i64 m.r, .int .i64 m.c, .int .i64 m.o, .int .i64 m.d, .int .i64 m.u] : List Value)[i]?) ∧ (∀ i, W.cell? ⟨kn, i, none⟩ = ([.pointer n.p, .int .i64 n.r, .int .i64 n.c, .int .i64 n.o, .int .i64 n.d, .int .i64 n.u] : List Value)[i]?) ∧ (∀ i, W.cell? ⟨ky, i, none⟩ = ([.pointer y.p, .int .i64 y.r, .int .i64 y.c, .int .i64 y.o, .int .i64 y.d, .int .i64 y.u] : List Value)[i]?)) (by kernel_rfl) (by kernel_rfl) (HS.out _ HB1.out) ?_
      generalize w.drew = w1 at *
      iterate 1 (refine fm_take (v := ?_) rfl rfl ?_ ?_; rotate_left; (next => (intro w' hSw; (try dsimp only at hSw); go_simp; (try (rw [if_pos (by omega)]; go_simp)); (try with_reducible rfl))); (simp only [Act.put, List.setIfInBounds_toArray, List.set_cons_zero, List.set_cons_succ]))
      iterate 1 (refine fm_take (v := ?_) rfl rfl ?_ ?_; rotate_left; (next => (intro w' hSw; (try dsimp only at hSw); go_simp; (try (rw [if_pos (by omega)]; go_simp)); (try with_reducible rfl))); (simp only [Act.put, List.setIfInBounds_toArray, List.set_cons_zero, List.set_cons_succ]))
      refine fm_one ?_
      refine opW_take rfl rfl ?_
      go_simp
      refine (Cols_any m.p m.r m.c m.o m.d m.u w1).mono ?_
      rintro e v1 ⟨rfl, hb⟩
      have hB1 := Lib.hid (below_step HB1.out HB1.out.size hb)
      clear hb
      refine ⟨HS.out _ hB1.out, ?_⟩
      refine fm_one ?_
      refine opW_take rfl rfl ?_
      go_simp
      refine (Rows_any n.p n.r n.c n.o n.d n.u v1).mono ?_
      rintro e v2 ⟨rfl, hb⟩
      have hB2 := Lib.hid (below_step hB1.out hB1.out.size hb)
      clear hb
      refine ⟨HS.out _ hB2.out, ?_⟩
      iterate 1 (refine fm_take (v := ?_) rfl rfl ?_ ?_; rotate_left; (next => (intro w' hSw; (try dsimp only at hSw); go_simp; (try (rw [if_pos (by omega)]; go_simp)); (try with_reducible rfl))); (simp only [Act.put, List.setIfInBounds_toArray, List.set_cons_zero, List.set_cons_succ]))
      iterate 1 (refine fm_take (v := ?_) rfl rfl ?_ ?_; rotate_left; (next => (intro w' hSw; (try dsimp only at hSw); go_simp; (try (rw [if_pos (by omega)]; go_simp)); (try with_reducible rfl))); (simp only [Act.put, List.setIfInBounds_toArray, List.set_cons_zero, List.set_cons_succ]))
      iterate 1 (refine fm_take (v := ?_) rfl rfl ?_ ?_; rotate_left; (next => (intro w' hSw; (try dsimp only at hSw); go_simp; (try (rw [if_pos (by omega)]; go_simp)); (try with_reducible rfl))); (simp only [Act.put, List.setIfInBounds_toArray, List.set_cons_zero, List.set_cons_succ]))
      iterate 1 (refine fm_take (v := ?_) rfl rfl ?_ ?_; rotate_left; (next => (intro w' hSw; (try dsimp only at hSw); go_simp; (try (rw [if_pos (by omega)]; go_simp)); (try with_reducible rfl))); (simp only [Act.put, List.setIfInBounds_toArray, List.set_cons_zero, List.set_cons_succ]))
      refine fm_one ?_
      refine opW_take rfl rfl ?_
      go_simp
      refine (Rows_any y.p y.r y.c y.o y.d y.u v2).mono ?_
      rintro e v3 ⟨rfl, hb⟩
      have hB3 := Lib.hid (below_step hB2.out hB2.out.size hb)
      clear hb
      refine ⟨HS.out _ hB3.out, ?_⟩
      refine fm_one ?_
      refine opW_take rfl rfl ?_
      go_simp
      refine (Rows_any m.p m.r m.c m.o m.d m.u v3).mono ?_
      rintro e v4 ⟨rfl, hb⟩
      have hB4 := Lib.hid (below_step hB3.out hB3.out.size hb)
      clear hb
      refine ⟨HS.out _ hB4.out, ?_⟩
      iterate 1 (refine fm_take (v := ?_) rfl rfl ?_ ?_; rotate_left; (next => (intro w' hSw; (try dsimp only at hSw); go_simp; (try (rw [if_pos (by omega)]; go_simp)); (try with_reducible rfl))); (simp only [Act.put, List.setIfInBounds_toArray, List.set_cons_zero, List.set_cons_succ]))
      iterate 1 (refine fm_take (v := ?_) rfl rfl ?_ ?_; rotate_left; (next => (intro w' hSw; (try dsimp only at hSw); go_simp; (try (rw [if_pos (by omega)]; go_simp)); (try with_reducible rfl))); (simp only [Act.put, List.setIfInBounds_toArray, List.set_cons_zero, List.set_cons_succ]))
      iterate 1 (refine fm_take (v := ?_) rfl rfl ?_ ?_; rotate_left; (next => (intro w' hSw; (try dsimp only at hSw); go_simp; (try (rw [if_pos (by omega)]; go_simp)); (try with_reducible rfl))); (simp only [Act.put, List.setIfInBounds_toArray, List.set_cons_zero, List.set_cons_succ]))
      iterate 1 (refine fm_take (v := ?_) rfl rfl ?_ ?_; rotate_left; (next => (intro w' hSw; (try dsimp only at hSw); go_simp; (try (rw [if_pos (by omega)]; go_simp)); (try with_reducible rfl))); (simp only [Act.put, List.setIfInBounds_toArray, List.set_cons_zero, List.set_cons_succ]))
      iterate 1 (refine fm_take (v := ?_) rfl rfl ?_ ?_; rotate_left; (next => (intro w' hSw; (try dsimp only at hSw); go_simp; (try (rw [if_pos (by omega)]; go_simp)); (try with_reducible rfl))); (simp only [Act.put, List.setIfInBounds_toArray, List.set_cons_zero, List.set_cons_succ]))
      refine fm_one ?_
      refine opW_take rfl rfl ?_
      go_simp
      refine (Cols_any y.p y.r y.c y.o y.d y.u v4).mono ?_
      rintro e v5 ⟨rfl, hb⟩
      have hB5 := Lib.hid (below_step hB4.out hB4.out.size hb)
      clear hb
      refine ⟨HS.out _ hB5.out, ?_⟩
      refine fm_one ?_
      refine opW_take rfl rfl ?_
      go_simp
      refine (Cols_any n.p n.r n.c n.o n.d n.u v5).mono ?_
      rintro e v6 ⟨rfl, hb⟩
      have hB6 := Lib.hid (below_step hB5.out hB5.out.size hb)
      clear hb
      refine ⟨HS.out _ hB6.out, ?_⟩
      iterate 1 (refine fm_take (v := ?_) rfl rfl ?_ ?_; rotate_left; (next => (intro w' hSw; (try dsimp only at hSw); go_simp; (try (rw [if_pos (by omega)]; go_simp)); (try with_reducible rfl))); (simp only [Act.put, List.setIfInBounds_toArray, List.set_cons_zero, List.set_cons_succ]))
      iterate 1 (refine fm_take (v := ?_) rfl rfl ?_ ?_; rotate_left; (next => (intro w' hSw; (try dsimp only at hSw); go_simp; (try (rw [if_pos (by omega)]; go_simp)); (try with_reducible rfl))); (simp only [Act.put, List.setIfInBounds_toArray, List.set_cons_zero, List.set_cons_succ]))
      refine fm_nil ?_
      go_simp
      go_wp2
      refine NoPanic.normal ?_
      go_wp2_with fail
      go_ret
      exact ⟨by simp, hB6.out⟩
set_option maxHeartbeats 4000000 in
theorem Gemm_bad (w : World) (a b : Nat) (m n y : Vw) (sm sn sy : Nat) (wm wn wy : List Nat) (hm : m.Ok w sm wm) (hn : n.Ok w sn wn) (hy : y.Ok w sy wy) (hE : openE [m, n, y] (fits_Gemm m n y) ≠ 0) :
    Calls Try.prog 31 #[.float .f64 a, m.val, n.val, .float .f64 b, y.val] w fun e w' => e = .returned (.int .i64 (openE [m, n, y] (fits_Gemm m n y))) ∧ Below w.heap.size w w' := by
  have HO := Lib.hid (fun W (h : Below w.heap.size w W) km kn ky b hbm hbn hby hb => open_any W 78 #[.pointer (some ⟨km, 0, none⟩), .pointer (some ⟨kn, 0, none⟩), .pointer (some ⟨ky, 0, none⟩)] b [m, n, y] (fits_Gemm m n y) hb (fun v hv => by
    simp only [List.mem_cons, List.not_mem_nil, or_false] at hv
    rcases hv with rfl | rfl | rfl
    · exact ⟨sm, wm, hm.below h⟩
    · exact ⟨sn, wn, hn.below h⟩
    · exact ⟨sy, wy, hy.below h⟩) (by simp) (enters_of Try.func78 (by kernel_rfl) rfl) (fun _ W' h' => Gemmf_any W' m n y km kn ky (Box.below hbm h') (Box.below hbn h') (Box.below hby h')))
  generalize openE [m, n, y] (fits_Gemm m n y) = E at *
  have t1 : (E != 0) = true := by simp [hE]
  obtain ⟨W0, hW0⟩ : ∃ W0, W0 = ((((w.alloc (.cells #[.float .f64 a] 31)).alloc (.cells #[.pointer m.p, .int .i64 m.r, .int .i64 m.c, .int .i64 m.o, .int .i64 m.d, .int .i64 m.u] 29)).alloc (.cells #[.pointer n.p, .int .i64 n.r, .int .i64 n.c, .int .i64 n.o, .int .i64 n.d, .int .i64 n.u] 29)).alloc (.cells #[.float .f64 b] 31)).alloc (.cells #[.pointer y.p, .int .i64 y.r, .int .i64 y.c, .int .i64 y.o, .int .i64 y.d, .int .i64 y.u] 29) := ⟨_, rfl⟩
  have hB0 : Below w.heap.size w W0 := hW0 ▸ (((((Below.refl _ _).alloc (Nat.le_refl _) _).alloc (by simp) _).alloc (by simp; omega) _).alloc (by simp; omega) _).alloc (by simp; omega) _
  have x2 : Box W0 (w.heap.size + 1) [.pointer m.p, .int .i64 m.r, .int .i64 m.c, .int .i64 m.o, .int .i64 m.d, .int .i64 m.u] := hW0 ▸ (((Box.newA _ [.pointer m.p, .int .i64 m.r, .int .i64 m.c, .int .i64 m.o, .int .i64 m.d, .int .i64 m.u] _ (by simp)).alloc _).alloc _).alloc _
  have x3 : Box W0 (w.heap.size + 1 + 1) [.pointer n.p, .int .i64 n.r, .int .i64 n.c, .int .i64 n.o, .int .i64 n.d, .int .i64 n.u] := hW0 ▸ ((Box.newA _ [.pointer n.p, .int .i64 n.r, .int .i64 n.c, .int .i64 n.o, .int .i64 n.d, .int .i64 n.u] _ (by simp)).alloc _).alloc _
  have x4 : Box W0 (w.heap.size + 1 + 1 + 1 + 1) [.pointer y.p, .int .i64 y.r, .int .i64 y.c, .int .i64 y.o, .int .i64 y.d, .int .i64 y.u] := hW0 ▸ Box.newA _ [.pointer y.p, .int .i64 y.r, .int .i64 y.c, .int .i64 y.o, .int .i64 y.d, .int .i64 y.u] _ (by simp)
  have HX := Lib.hid (show _ ∧ _ ∧ _ ∧ _ from ⟨hB0, x2, x3, x4⟩)
  clear hm hn hy hB0 x2 x3 x4 hE
  show Calls Try.prog 31 #[.float .f64 a, (.agg #[.pointer m.p, .int .i64 m.r, .int .i64 m.c, .int .i64 m.o, .int .i64 m.d, .int .i64 m.u]), (.agg #[.pointer n.p, .int .i64 n.r, .int .i64 n.c, .int .i64 n.o, .int .i64 n.d, .int .i64 n.u]), .float .f64 b, (.agg #[.pointer y.p, .int .i64 y.r, .int .i64 y.c, .int .i64 y.o, .int .i64 y.d, .int .i64 y.u])] w _
  go_enter Try.func31, Try.ntmps31
  go_upto_region 1 with (fail)
  rw [← hW0]
  clear hW0
  obtain ⟨hB0, x2, x3, x4⟩ := HX.out
  have hbA : Below W0.heap.size W0 (W0.alloc (.cells #[.pointer m.p, .int .i64 m.r, .int .i64 m.c, .int .i64 m.o, .int .i64 m.d, .int .i64 m.u, .pointer n.p, .int .i64 n.r, .int .i64 n.c, .int .i64 n.o, .int .i64 n.d, .int .i64 n.u, .pointer y.p, .int .i64 y.r, .int .i64 y.c, .int .i64 y.o, .int .i64 y.d, .int .i64 y.u] 29)) := (Below.refl _ _).alloc (Nat.le_refl _) _
  have hz : Box (W0.alloc (.cells #[.pointer m.p, .int .i64 m.r, .int .i64 m.c, .int .i64 m.o, .int .i64 m.d, .int .i64 m.u, .pointer n.p, .int .i64 n.r, .int .i64 n.c, .int .i64 n.o, .int .i64 n.d, .int .i64 n.u, .pointer y.p, .int .i64 y.r, .int .i64 y.c, .int .i64 y.o, .int .i64 y.d, .int .i64 y.u] 29)) W0.heap.size ([m, n, y].flatMap Vw.cs) := Box.newA W0 ([m, n, y].flatMap Vw.cs) _ rfl
  have hB1 := below_step hB0 hB0.size hbA
  have HC := Lib.hid (HO.out _ hB1 _ _ _ _ (x2.below hbA) (x3.below hbA) (x4.below hbA) hz)
  obtain ⟨p1, p2, p3⟩ := x2.facts
  obtain ⟨q1, q2, q3⟩ := x3.facts
  obtain ⟨r1, r2, r3⟩ := x4.facts
  have HB1 := Lib.hid hB1
  clear hB0 x2 x3 x4 hbA hz hB1 HO HX
  go_wp2_with fail
  refine HC.out.mono ?_
  rintro e w1 ⟨rfl, hb1⟩
  have HB2 := Lib.hid (below_step HB1.out HB1.out.size hb1)
  clear p1 p2 p3 q1 q2 q3 r1 r2 r3 hb1 HB1 HC
  dsimp only
  go_wp2_with fail
  go_ret
  exact ⟨rfl, HB2.out⟩
end Go.Proofs.Ytbcdpibcieadlaa

/- The chapter's rows of layer 8 hold (printed by gen_kp.py). -/
namespace Go.Proofs.Ytbcdpibcieadlaa
open Go Go.RowKit
set_option maxRecDepth 1000000

theorem words_dec {l : List Nat} (h : (l.all fun v => Nat.blt v 18446744073709551616) = true) : Words l := fun v hv => by
  have := List.all_eq_true.1 h v hv
  simpa [Nat.blt_eq] using this
theorem nonan_dec {l : List Nat} (h : (l.all fun v => !isnan v) = true) : ∀ x ∈ l, isnan x = false := fun v hv => by
  have := List.all_eq_true.1 h v hv
  simpa using this
theorem vecK (l : List Nat) (n : Nat) (ty : TypeId) (w : World) (hn : l.length = n) (hl : n ≤ 512) :
    Calls Try.prog 36 #[.slice (some ⟨w.heap.size, 0, none⟩) n n] (w.alloc (.cells (l.map (Value.float .f64)).toArray ty)) fun e w' => ∃ st sb, e = .returned (newV st n 1).val ∧ w.heap.size ≤ st ∧ w.heap.size ≤ sb ∧ Sto w' (some ⟨st, 0, none⟩) sb l ∧ Below w.heap.size w w' := by
  subst hn
  refine (vec_any _ (some ⟨w.heap.size, 0, none⟩) l l.length (Cel.ofBox (Box.newA w _ ty (by simp))) hl).mono ?_
  rintro e w' ⟨st, sb, rfl, k1, k2, hS, hb⟩
  simp only [World.size_alloc] at k1 k2
  refine ⟨st, sb, rfl, by omega, by omega, hS, ?_⟩
  exact below_step ((Below.refl _ _).alloc (Nat.le_refl _) _) (by simp) hb
theorem twoK (l : List Nat) (ty : TypeId) (w : World) (hn : l.length = 4) :
    Calls Try.prog 58 #[.slice (some ⟨w.heap.size, 0, none⟩) 4 4] (w.alloc (.cells (l.map (Value.float .f64)).toArray ty)) fun e w' => ∃ st sb, e = .returned (newV st 2 2).val ∧ w.heap.size ≤ st ∧ w.heap.size ≤ sb ∧ Sto w' (some ⟨st, 0, none⟩) sb l ∧ Below w.heap.size w w' := by
  have h := two_any _ (some ⟨w.heap.size, 0, none⟩) l 4 (Cel.ofBox (Box.newA w (l.map (Value.float .f64)) ty rfl)) hn
  rw [hn] at h
  refine h.mono ?_
  rintro e w' ⟨st, sb, rfl, k1, k2, hS, hb⟩
  simp only [World.size_alloc] at k1 k2
  refine ⟨st, sb, rfl, by omega, by omega, hS, ?_⟩
  exact below_step ((Below.refl _ _).alloc (Nat.le_refl _) _) (by simp) hb
theorem vecB (l : List Nat) (n b : Nat) (w : World) (hn : l.length = n) (hl : n ≤ 512) (h : Box w b (l.map (Value.float .f64))) :
    Calls Try.prog 36 #[.slice (some ⟨b, 0, none⟩) n n] w fun e w' => ∃ st sb, e = .returned (newV st n 1).val ∧ w.heap.size ≤ st ∧ w.heap.size ≤ sb ∧ Sto w' (some ⟨st, 0, none⟩) sb l ∧ Below w.heap.size w w' := by
  subst hn
  exact vec_any _ (some ⟨b, 0, none⟩) l l.length (Cel.ofBox h) hl
theorem twoB (l : List Nat) (b : Nat) (w : World) (hn : l.length = 4) (h : Box w b (l.map (Value.float .f64))) :
    Calls Try.prog 58 #[.slice (some ⟨b, 0, none⟩) 4 4] w fun e w' => ∃ st sb, e = .returned (newV st 2 2).val ∧ w.heap.size ≤ st ∧ w.heap.size ≤ sb ∧ Sto w' (some ⟨st, 0, none⟩) sb l ∧ Below w.heap.size w w' := by
  have k := two_any _ (some ⟨b, 0, none⟩) l 4 (Cel.ofBox h) hn
  rw [hn] at k
  exact k
theorem DotK (w : World) (x y : Vw) (sx sy : Nat) (wx wy : List Nat) (hx : x.Ok w sx wx) (hy : y.Ok w sy wy) (hwx : Words wx) (hwy : Words wy) (V : Nat) (E : Int) (eE : openE [x, y] (fits2 x y) = E) (eV : (dotV x wx y wy == V) = true) (hV : isnan V = false) :
    Calls Try.prog 18 #[x.val, y.val] w fun e w' => e = .returned (.tuple #[.float .f64 V, .int .i64 E]) ∧ Below w.heap.size w w' := by
  refine (Dot_any w x y sx sy wx wy hx hy hwx hwy).mono ?_
  rintro e w' ⟨⟨s, rfl⟩, hb⟩
  exact ⟨by rw [eE, eq_of_beq eV, raw_of_not hV], hb⟩
theorem AsumK (w : World) (x : Vw) (sx : Nat) (wx : List Nat) (hx : x.Ok w sx wx) (hwx : Words wx) (V : Nat) (E : Int) (eE : openE [x] (vecV x.p x.r x.c) = E) (eV : (asumV x wx == V) = true) (hV : isnan V = false) :
    Calls Try.prog 19 #[x.val] w fun e w' => e = .returned (.tuple #[.float .f64 V, .int .i64 E]) ∧ Below w.heap.size w w' := by
  refine (Asum_any w x sx wx hx hwx).mono ?_
  rintro e w' ⟨⟨s, rfl⟩, hb⟩
  exact ⟨by rw [eE, eq_of_beq eV, raw_of_not hV], hb⟩
theorem AmaxK (w : World) (x : Vw) (sx : Nat) (wx : List Nat) (hx : x.Ok w sx wx) (hwx : Words wx) (V : Nat × Nat) (eE : openE [x] (vecV x.p x.r x.c) = 0) (eV : (amaxV x wx == V) = true) (hV : isnan V.2 = false) :
    Calls Try.prog 20 #[x.val] w fun e w' => e = .returned (.tuple #[.int .i64 (V.1 - 1 : Int), .float .f64 V.2, .int .i64 0]) ∧ Below w.heap.size w w' := by
  refine (Amax_any w x sx wx hx hwx).mono ?_
  rintro e w' ⟨⟨s, rfl⟩, hb⟩
  exact ⟨by rw [if_pos eE, eq_of_beq eV, raw_of_not hV], hb⟩
theorem Rw.eq {ws ts : List Nat} (h : Rw ws ts) (hn : ∀ x ∈ ts, isnan x = false) : ws = ts := by
  refine List.ext_getElem h.1 fun i h1 h2 => ?_
  obtain ⟨s, hs⟩ := h.2 i h2
  rw [List.getD_eq_getElem?_getD, List.getD_eq_getElem?_getD, List.getElem?_eq_getElem h1, List.getElem?_eq_getElem h2] at hs
  rw [raw_of_not (by simpa using hn _ (List.getElem_mem h2))] at hs
  simpa using hs
/-- What the rows' walk holds on to: a view's variable, its store. -/
structure Kn8 (w : World) (b st sb : Nat) (ws : List Nat) (W : World) : Prop where
  box : Box W b [.pointer (some ⟨st, 0, none⟩), .int .i64 (2 : Nat), .int .i64 (1 : Nat), .int .i64 (0 : Nat), .int .i64 (1 : Nat), .int .i64 (1 : Nat)]
  sto : Sto W (some ⟨st, 0, none⟩) sb ws
  below : Below w.heap.size w W
  lb : w.heap.size ≤ sb ∧ b ≠ sb
theorem Kn8.step {w : World} {b st sb : Nat} {ws : List Nat} {W W' : World} (h : Kn8 w b st sb ws W) (hb : Below W.heap.size W W') : Kn8 w b st sb ws W' :=
  ⟨h.box.below hb, h.sto.below hb, below_step h.below h.below.size hb, h.lb⟩
theorem Kn8.bel {w : World} {b st sb m : Nat} {ws : List Nat} {W W' : World} (h : Kn8 w b st sb ws W) (hb : Bel W.heap.size m W W') (hm : w.heap.size ≤ m) (h1 : b ≠ m) (h2 : st ≠ m) (h3 : sb ≠ m) : Kn8 w b st sb ws W' :=
  ⟨h.box.bel h1 hb, h.sto.bel h2 h3 hb, (bel_step (Bel.of h.below) h.below.size hb).below hm, h.lb⟩
theorem Kn8.ok {w : World} {b st sb : Nat} {ws : List Nat} {W : World} (h : Kn8 w b st sb ws W) (hl : ws.length = 2) : (newV st 2 1).Ok W sb ws := newV_ok h.sto (by decide) (by decide) hl
theorem nov_ok {w : World} {st sb r c : Nat} {zs : List Nat} (h : Sto w (some ⟨st, 0, none⟩) sb zs) (hr : r ≤ 512) (hc : c ≤ 512) (hn : zs.length = r * c) : (newV st r c).Ok w sb zs := newV_ok h hr hc hn
theorem GemvK {w W : World} {b st sb st1 sb1 st2 sb2 : Nat} (h : Kn8 w b st sb [4621256167635550208, 4621256167635550208] W) (h1 : Sto W (some ⟨st1, 0, none⟩) sb1 [4607182418800017408, 4611686018427387904, 4613937818241073152, 4616189618054758400]) (h2 : Sto W (some ⟨st2, 0, none⟩) sb2 [4607182418800017408, 4607182418800017408]) :
    Calls Try.prog 27 #[.float .f64 4607182418800017408, (newV st1 2 2).val, (newV st2 2 1).val, .float .f64 0, (.agg #[.pointer (some ⟨st, 0, none⟩), .int .i64 2, .int .i64 1, .int .i64 0, .int .i64 1, .int .i64 1])] W fun e w' => e = .returned (.int .i64 0) ∧ Kn8 w b st sb [4613937818241073152, 4619567317775286272] w' := by
  refine (Gemv_any W 4607182418800017408 0 (newV st1 2 2) (newV st2 2 1) (newV st 2 1) sb1 sb2 sb _ _ _ (newV_ok h1 (by decide) (by decide) rfl) (newV_ok h2 (by decide) (by decide) rfl) (h.ok rfl) (words_dec (by kernel_rfl)) (words_dec (by kernel_rfl)) (words_dec (by kernel_rfl))).mono ?_
  rintro e w' ⟨rfl, ws, hok, hrw, hww, hbel⟩
  have e1 : (gemvL 4607182418800017408 0 (newV st1 2 2) (newV st2 2 1) (newV st 2 1) [4607182418800017408, 4611686018427387904, 4613937818241073152, 4616189618054758400] [4607182418800017408, 4607182418800017408] [4621256167635550208, 4621256167635550208] == [4613937818241073152, 4619567317775286272]) = true := by kernel_rfl
  replace e1 := eq_of_beq e1
  rw [e1] at hrw
  obtain rfl := hrw.eq (nonan_dec (by kernel_rfl))
  refine ⟨by kernel_rfl, ?_⟩
  rcases hok with hk | ⟨hk, _⟩
  · have := congrArg Vw.p hk; cases this
  · exact ⟨h.box.bel h.lb.2 hbel, hk, (bel_step (Bel.of h.below) h.below.size hbel).below h.lb.1, h.lb⟩
theorem TrmmK {w W : World} {b st sb st1 sb1 : Nat} (h : Kn8 w b st sb [4607182418800017408, 4607182418800017408] W) (h1 : Sto W (some ⟨st1, 0, none⟩) sb1 [4607182418800017408, 4621256167635550208, 4611686018427387904, 4613937818241073152]) :
    Calls Try.prog 33 #[.bool false, .bool false, (newV st1 2 2).val, (.agg #[.pointer (some ⟨st, 0, none⟩), .int .i64 2, .int .i64 1, .int .i64 0, .int .i64 1, .int .i64 1])] W fun e w' => e = .returned (.int .i64 0) ∧ Kn8 w b st sb [4607182418800017408, 4617315517961601024] w' ∧ Bel W.heap.size sb W w' := by
  refine (Trmm_any W false false (newV st1 2 2) (newV st 2 1) sb1 sb _ _ (newV_ok h1 (by decide) (by decide) rfl) (h.ok rfl) (words_dec (by kernel_rfl)) (words_dec (by kernel_rfl))).mono ?_
  rintro e w' ⟨rfl, ws, hok, hrw, hww, hbel⟩
  have e1 : (trmmL false false (newV st1 2 2) (newV st 2 1) [4607182418800017408, 4621256167635550208, 4611686018427387904, 4613937818241073152] [4607182418800017408, 4607182418800017408] == [4607182418800017408, 4617315517961601024]) = true := by kernel_rfl
  replace e1 := eq_of_beq e1
  rw [e1] at hrw
  obtain rfl := hrw.eq (nonan_dec (by kernel_rfl))
  refine ⟨by kernel_rfl, ?_, hbel⟩
  rcases hok with hk | ⟨hk, _⟩
  · have := congrArg Vw.p hk; cases this
  · exact ⟨h.box.bel h.lb.2 hbel, hk, (bel_step (Bel.of h.below) h.below.size hbel).below h.lb.1, h.lb⟩
theorem GetY0 {w W : World} {b st sb : Nat} (h : Kn8 w b st sb [4613937818241073152, 4619567317775286272] W) : Calls Try.prog 59 #[(.agg #[.pointer (some ⟨st, 0, none⟩), .int .i64 2, .int .i64 1, .int .i64 0, .int .i64 1, .int .i64 1]), .int .i64 0] W fun e w' => e = .returned (.float .f64 4613937818241073152) ∧ Below W.heap.size W w' :=
  (Get_any W (newV st 2 1) sb [4613937818241073152, 4619567317775286272] 0 (h.ok rfl)).mono fun _ _ ⟨he, hb⟩ => ⟨he.trans (by first | rfl | kernel_rfl), hb⟩
theorem GetY1 {w W : World} {b st sb : Nat} (h : Kn8 w b st sb [4613937818241073152, 4619567317775286272] W) : Calls Try.prog 59 #[(.agg #[.pointer (some ⟨st, 0, none⟩), .int .i64 2, .int .i64 1, .int .i64 0, .int .i64 1, .int .i64 1]), .int .i64 1] W fun e w' => e = .returned (.float .f64 4619567317775286272) ∧ Below W.heap.size W w' :=
  (Get_any W (newV st 2 1) sb [4613937818241073152, 4619567317775286272] 1 (h.ok rfl)).mono fun _ _ ⟨he, hb⟩ => ⟨he.trans (by first | rfl | kernel_rfl), hb⟩
theorem GetM0 {w W : World} {b st sb : Nat} (h : Kn8 w b st sb [4607182418800017408, 4617315517961601024] W) : Calls Try.prog 59 #[(.agg #[.pointer (some ⟨st, 0, none⟩), .int .i64 2, .int .i64 1, .int .i64 0, .int .i64 1, .int .i64 1]), .int .i64 0] W fun e w' => e = .returned (.float .f64 4607182418800017408) ∧ Below W.heap.size W w' :=
  (Get_any W (newV st 2 1) sb [4607182418800017408, 4617315517961601024] 0 (h.ok rfl)).mono fun _ _ ⟨he, hb⟩ => ⟨he.trans (by first | rfl | kernel_rfl), hb⟩
theorem GetM1 {w W : World} {b st sb : Nat} (h : Kn8 w b st sb [4607182418800017408, 4617315517961601024] W) : Calls Try.prog 59 #[(.agg #[.pointer (some ⟨st, 0, none⟩), .int .i64 2, .int .i64 1, .int .i64 0, .int .i64 1, .int .i64 1]), .int .i64 1] W fun e w' => e = .returned (.float .f64 4617315517961601024) ∧ Below W.heap.size W w' :=
  (Get_any W (newV st 2 1) sb [4607182418800017408, 4617315517961601024] 1 (h.ok rfl)).mono fun _ _ ⟨he, hb⟩ => ⟨he.trans (by first | rfl | kernel_rfl), hb⟩
theorem DotN {W : World} {st sb : Nat} (h : Sto W (some ⟨st, 0, none⟩) sb [4607182418800017408]) : Calls Try.prog 18 #[(.agg #[.pointer none, .int .i64 0, .int .i64 0, .int .i64 0, .int .i64 0, .int .i64 0]), (newV st 1 1).val] W fun e w' => e = .returned (.tuple #[.float .f64 0, .int .i64 1]) ∧ Below W.heap.size W w' :=
  DotK W Vw.none (newV st 1 1) sb sb [] _ (none_ok _ _ _) (newV_ok h (by decide) (by decide) rfl) (words_dec (by kernel_rfl)) (words_dec (by kernel_rfl)) 0 1 (by kernel_rfl) (by kernel_rfl) (by kernel_rfl)
theorem NewK (W : World) : Calls Try.prog 56 #[.int .i64 2, .int .i64 3] W fun e w' => ∃ st sb, e = .returned (.tuple #[(newV st 2 3).val, .int .i64 0]) ∧ Sto w' (some ⟨st, 0, none⟩) sb [0, 0, 0, 0, 0, 0] ∧ Below W.heap.size W w' := by
  refine (New_yes 2 3 W (by decide) (by decide)).mono ?_
  rintro e w' ⟨st, sb, rfl, _, _, hS, hb⟩
  exact ⟨st, sb, rfl, hS, hb⟩
theorem GemmK {W : World} {st sb : Nat} (h : Sto W (some ⟨st, 0, none⟩) sb [0, 0, 0, 0, 0, 0]) : Calls Try.prog 31 #[.float .f64 4607182418800017408, (.agg #[.pointer (some ⟨st, 0, none⟩), .int .i64 2, .int .i64 3, .int .i64 0, .int .i64 3, .int .i64 1]), (.agg #[.pointer (some ⟨st, 0, none⟩), .int .i64 2, .int .i64 3, .int .i64 0, .int .i64 3, .int .i64 1]), .float .f64 0, (.agg #[.pointer (some ⟨st, 0, none⟩), .int .i64 2, .int .i64 3, .int .i64 0, .int .i64 3, .int .i64 1])] W fun e w' => e = .returned (.int .i64 8) ∧ Below W.heap.size W w' := by
  have ok : (newV st 2 3).Ok W sb [0, 0, 0, 0, 0, 0] := newV_ok h (by decide) (by decide) rfl
  have e1 : openE [newV st 2 3, newV st 2 3, newV st 2 3] (fits_Gemm (newV st 2 3) (newV st 2 3) (newV st 2 3)) = 8 := by kernel_rfl
  refine (Gemm_bad W 4607182418800017408 0 (newV st 2 3) (newV st 2 3) (newV st 2 3) sb sb sb _ _ _ ok ok ok (by rw [e1]; decide)).mono ?_
  rintro e w' ⟨rfl, hb⟩
  exact ⟨by rw [e1], hb⟩
theorem feqk1 : feq 4607182418800017408 4607182418800017408 = true := by kernel_rfl
theorem feqk3 : feq 4613937818241073152 4613937818241073152 = true := by kernel_rfl
theorem feqk5 : feq 4617315517961601024 4617315517961601024 = true := by kernel_rfl
theorem feqk7 : feq 4619567317775286272 4619567317775286272 = true := by kernel_rfl
theorem feqk32 : feq 4629700416936869888 4629700416936869888 = true := by kernel_rfl
end Go.Proofs.Ytbcdpibcieadlaa
