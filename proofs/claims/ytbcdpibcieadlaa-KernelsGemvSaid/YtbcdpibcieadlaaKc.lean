/- Layer 8: sums of products of two vectors. No condition but on lengths. -/
import Derived.Test.YtbcdpibcieadlaaKb
import Derived.Test.YtbcdpibcieadlaaNq11
import Derived.Test.YtbcdpibcieadlaaNq6
namespace Go.Proofs.Ytbcdpibcieadlaa
open Go Go.RowKit
set_option maxRecDepth 100000

/-- Are both vectors, of as many places? -/
def fits2 (x y : Vw) : Bool := vecV x.p x.r x.c && (vecV y.p y.r y.c && decide ((lenV y.p y.r y.c : Int) = (lenV x.p x.r x.c : Int)))
set_option maxHeartbeats 4000000 in
theorem Dotf_any (w : World) (x y : Vw) (bx by' : Nat) (hx : Box w bx x.cs) (hy : Box w by' y.cs) (sx : x.r ≤ 512 ∧ x.c ≤ 512) (sy : y.r ≤ 512 ∧ y.c ≤ 512) :
    Calls Try.prog 62 #[.pointer (some ⟨bx, 0, none⟩), .pointer (some ⟨by', 0, none⟩)] w fun e w' => e = .returned (.bool (fits2 x y)) ∧ Below w.heap.size w w' := by
  have HV := Lib.hid (fun W => Vector_any x.p x.r x.c x.o x.d x.u W)
  have HL := Lib.hid (fun W => Len_any x.p x.r x.c x.o x.d x.u W sx.1 sx.2)
  have HVs := Lib.hid (fun (n : Int) W b hb => vectors_any W n b [y] hb (fun v hv => by rw [List.mem_singleton] at hv; rw [hv]; exact sy) (by simp))
  unfold fits2
  have HB := Lib.hid (And.intro hx hy)
  generalize hv : vecV x.p x.r x.c = vx at *
  have hs : ∀ W, Below w.heap.size w W → (fun W => (∀ i, W.cell? ⟨bx, i, none⟩ = ([.pointer x.p, .int .i64 x.r, .int .i64 x.c, .int .i64 x.o, .int .i64 x.d, .int .i64 x.u] : List Value)[i]?) ∧ (∀ i, W.cell? ⟨by', i, none⟩ = ([.pointer y.p, .int .i64 y.r, .int .i64 y.c, .int .i64 y.o, .int .i64 y.d, .int .i64 y.u] : List Value)[i]?)) W := fun W h => ⟨(hx.below h).cell, (hy.below h).cell⟩
  have HS := Lib.hid hs
  clear hx hy sx sy hs hv
  have hdr : Below w.heap.size w w.drew := below_drewN 1 (Below.refl _ w)
  cases vx
  · go_enter Try.func62, Try.ntmps62
    go_upto_region 1 with (fail)
    refine wp_region_many 9 40 [(0, 0), (1, 1), (0, 2), (0, 3), (0, 4), (0, 5), (0, 6), (0, 7), (0, 8)] (fun W => (∀ i, W.cell? ⟨bx, i, none⟩ = ([.pointer x.p, .int .i64 x.r, .int .i64 x.c, .int .i64 x.o, .int .i64 x.d, .int .i64 x.u] : List Value)[i]?) ∧ (∀ i, W.cell? ⟨by', i, none⟩ = ([.pointer y.p, .int .i64 y.r, .int .i64 y.c, .int .i64 y.o, .int .i64 y.d, .int .i64 y.u] : List Value)[i]?)) (by kernel_rfl) (by kernel_rfl) (HS.out _ hdr) ?_
    have HB1 := Lib.hid hdr
    clear hdr
    generalize w.drew = w1 at *
    iterate 1 (refine fm_take (v := ?_) rfl rfl ?_ ?_; rotate_left; (next => (intro w' hSw; (try dsimp only at hSw); go_simp; (try (rw [if_pos (by omega)]; go_simp)); (try with_reducible rfl))); (simp only [Act.put, List.setIfInBounds_toArray, List.set_cons_zero, List.set_cons_succ]))
    refine fm_one (opW_take rfl rfl ?_)
    go_simp
    refine (HV.out w1).mono ?_
    rintro e w2 ⟨rfl, hb2⟩
    have HB2 := Lib.hid (below_step HB1.out HB1.out.size hb2)
    clear hb2
    refine ⟨HS.out _ HB2.out, ?_⟩
    iterate 1 (refine fm_take (v := ?_) rfl rfl ?_ ?_; rotate_left; (next => (intro w' hSw; (try dsimp only at hSw); go_simp; (try (rw [if_pos (by omega)]; go_simp)); (try with_reducible rfl))); (simp only [Act.put, List.setIfInBounds_toArray, List.set_cons_zero, List.set_cons_succ]))
    iterate 5 (refine fm_out rfl rfl ?_; (simp only [Act.put, List.setIfInBounds_toArray, List.set_cons_zero, List.set_cons_succ]))
    iterate 1 (refine fm_take (v := ?_) rfl rfl ?_ ?_; rotate_left; (next => (intro w' hSw; (try dsimp only at hSw); go_simp; (try (rw [if_pos (by omega)]; go_simp)); (try with_reducible rfl))); (simp only [Act.put, List.setIfInBounds_toArray, List.set_cons_zero, List.set_cons_succ]))
    refine fm_nil ?_
    go_simp
    go_wp2
    refine NoPanic.normal ?_
    go_wp2_with fail
    go_ret
    exact ⟨rfl, HB2.out⟩
  · go_enter Try.func62, Try.ntmps62
    go_upto_region 1 with (fail)
    refine wp_region_many 9 40 [(0, 0), (1, 1), (0, 2), (0, 3), (0, 5), (3, 6), (1, 4), (2, 6), (1, 7), (0, 8)] (fun W => (∀ i, W.cell? ⟨bx, i, none⟩ = ([.pointer x.p, .int .i64 x.r, .int .i64 x.c, .int .i64 x.o, .int .i64 x.d, .int .i64 x.u] : List Value)[i]?) ∧ (∀ i, W.cell? ⟨by', i, none⟩ = ([.pointer y.p, .int .i64 y.r, .int .i64 y.c, .int .i64 y.o, .int .i64 y.d, .int .i64 y.u] : List Value)[i]?)) (by kernel_rfl) (by kernel_rfl) (HS.out _ hdr) ?_
    have HB1 := Lib.hid hdr
    clear hdr
    generalize w.drew = w1 at *
    iterate 1 (refine fm_take (v := ?_) rfl rfl ?_ ?_; rotate_left; (next => (intro w' hSw; (try dsimp only at hSw); go_simp; (try (rw [if_pos (by omega)]; go_simp)); (try with_reducible rfl))); (simp only [Act.put, List.setIfInBounds_toArray, List.set_cons_zero, List.set_cons_succ]))
    refine fm_one (opW_take rfl rfl ?_)
    go_simp
    refine (HV.out w1).mono ?_
    rintro e w2 ⟨rfl, hb2⟩
    have HB2 := Lib.hid (below_step HB1.out HB1.out.size hb2)
    clear hb2
    refine ⟨HS.out _ HB2.out, ?_⟩
    iterate 3 (refine fm_take (v := ?_) rfl rfl ?_ ?_; rotate_left; (next => (intro w' hSw; (try dsimp only at hSw); go_simp; (try (rw [if_pos (by omega)]; go_simp)); (try with_reducible rfl))); (simp only [Act.put, List.setIfInBounds_toArray, List.set_cons_zero, List.set_cons_succ]))
    refine fm_from ?_
    refine fm_one1 ?_ ?_
    · refine opW_take rfl rfl ?_
      go_simp
      refine (HL.out w2).mono ?_
      rintro e w3 ⟨rfl, hb3⟩
      have HB3 := Lib.hid (below_step HB2.out HB2.out.size hb3)
      clear hb3
      refine ⟨HS.out _ HB3.out, ?_⟩
      refine fm_now ?_
      refine opW_take rfl rfl ?_
      go_simp
      have hbA : Below w3.heap.size w3 (w3.alloc (.cells #[.pointer y.p, .int .i64 y.r, .int .i64 y.c, .int .i64 y.o, .int .i64 y.d, .int .i64 y.u] 29)) := (Below.refl _ _).alloc (Nat.le_refl _) _
      have hz := Box.newA w3 [.pointer y.p, .int .i64 y.r, .int .i64 y.c, .int .i64 y.o, .int .i64 y.d, .int .i64 y.u] 29 rfl
      have HB4 := Lib.hid (And.intro (below_step HB3.out HB3.out.size hbA) hz)
      clear hbA hz
      refine ⟨HS.out _ HB4.out.1, ?_⟩
      refine fm_skip rfl ?_
      refine fm_one (opW_take rfl rfl ?_)
      go_simp
      refine (HVs.out _ _ _ HB4.out.2).mono ?_
      rintro e w5 ⟨rfl, hb5⟩
      have HB5 := Lib.hid (below_step HB4.out.1 HB4.out.1.size hb5)
      clear hb5
      refine ⟨HS.out _ HB5.out, ?_⟩
      iterate 1 (refine fm_take (v := ?_) rfl rfl ?_ ?_; rotate_left; (next => (intro w' hSw; (try dsimp only at hSw); go_simp; (try (rw [if_pos (by omega)]; go_simp)); (try with_reducible rfl))); (simp only [Act.put, List.setIfInBounds_toArray, List.set_cons_zero, List.set_cons_succ]))
      refine fm_nil ?_
      go_simp
      go_wp2
      refine NoPanic.normal ?_
      go_wp2_with fail
      go_ret
      exact ⟨by simp, HB5.out⟩
    · refine opW_take rfl rfl ?_
      go_simp
      have hbA : Below w2.heap.size w2 (w2.alloc (.cells #[.pointer y.p, .int .i64 y.r, .int .i64 y.c, .int .i64 y.o, .int .i64 y.d, .int .i64 y.u] 29)) := (Below.refl _ _).alloc (Nat.le_refl _) _
      have hz := Box.newA w2 [.pointer y.p, .int .i64 y.r, .int .i64 y.c, .int .i64 y.o, .int .i64 y.d, .int .i64 y.u] 29 rfl
      have HB3 := Lib.hid (And.intro (below_step HB2.out HB2.out.size hbA) hz)
      clear hbA hz
      refine ⟨HS.out _ HB3.out.1, ?_⟩
      refine fm_one (opW_take rfl rfl ?_)
      go_simp
      refine (HL.out _).mono ?_
      rintro e w4 ⟨rfl, hb4⟩
      have HB4 := Lib.hid (And.intro (below_step HB3.out.1 HB3.out.1.size hb4) (HB3.out.2.below hb4))
      clear hb4
      refine ⟨HS.out _ HB4.out.1, ?_⟩
      refine fm_skip rfl ?_
      refine fm_one (opW_take rfl rfl ?_)
      go_simp
      refine (HVs.out _ _ _ HB4.out.2).mono ?_
      rintro e w5 ⟨rfl, hb5⟩
      have HB5 := Lib.hid (below_step HB4.out.1 HB4.out.1.size hb5)
      clear hb5
      refine ⟨HS.out _ HB5.out, ?_⟩
      iterate 1 (refine fm_take (v := ?_) rfl rfl ?_ ?_; rotate_left; (next => (intro w' hSw; (try dsimp only at hSw); go_simp; (try (rw [if_pos (by omega)]; go_simp)); (try with_reducible rfl))); (simp only [Act.put, List.setIfInBounds_toArray, List.set_cons_zero, List.set_cons_succ]))
      refine fm_nil ?_
      go_simp
      go_wp2
      refine NoPanic.normal ?_
      go_wp2_with fail
      go_ret
      exact ⟨by simp, HB5.out⟩
end Go.Proofs.Ytbcdpibcieadlaa
