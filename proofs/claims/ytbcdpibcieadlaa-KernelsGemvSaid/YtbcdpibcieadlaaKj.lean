/- Layer 8: square; the closures of Trmm (printed by gen_kj.py). No condition but on lengths. -/
import Derived.Test.YtbcdpibcieadlaaKi
namespace Go.Proofs.Ytbcdpibcieadlaa
open Go Go.RowKit
set_option maxRecDepth 100000

set_option maxHeartbeats 4000000 in
theorem square_any (m : Vw) (w : World) : Calls Try.prog 85 #[(.agg #[.pointer m.p, .int .i64 m.r, .int .i64 m.c, .int .i64 m.o, .int .i64 m.d, .int .i64 m.u])] w fun e w' => e = .returned (.bool (decide (m.r = m.c))) ∧ Below w.heap.size w w' := by
  have hB0 : Below w.heap.size w (w.alloc (.cells #[.pointer m.p, .int .i64 m.r, .int .i64 m.c, .int .i64 m.o, .int .i64 m.d, .int .i64 m.u] 29)) := (Below.refl _ _).alloc (Nat.le_refl _) _
  have hm := Box.newA w [.pointer m.p, .int .i64 m.r, .int .i64 m.c, .int .i64 m.o, .int .i64 m.d, .int .i64 m.u] 29 rfl
  have ee : ((m.r : Int) == (m.c : Int)) = decide (m.r = m.c) := by rw [Bool.eq_iff_iff]; simp; omega
  generalize decide (m.r = m.c) = q at *
  go_enter Try.func85, Try.ntmps85
  go_upto_region 1 with (fail)
  generalize w.alloc (.cells #[.pointer m.p, .int .i64 m.r, .int .i64 m.c, .int .i64 m.o, .int .i64 m.d, .int .i64 m.u] 29) = w0 at *
  generalize hkm : w.heap.size = km at *
  have hdr : Below w0.heap.size w0 w0.drew := below_drewN 1 (Below.refl _ w0)
  have hl := hm.lt
  have HB1 := Lib.hid (hB0.trans (hdr.mono (Nat.le_of_lt hl)))
  have hm1 := hm.below hdr
  have HS := Lib.hid (show ∀ W, Below w0.drew.heap.size w0.drew W → (fun W => (∀ i, W.cell? ⟨km, i, none⟩ = ([.pointer m.p, .int .i64 m.r, .int .i64 m.c, .int .i64 m.o, .int .i64 m.d, .int .i64 m.u] : List Value)[i]?)) W from fun W h => (hm1.below h).cell)
  refine wp_region_many 5 40 [(0, 0), (0, 2), (1, 1), (1, 3), (0, 4)] (fun W => (∀ i, W.cell? ⟨km, i, none⟩ = ([.pointer m.p, .int .i64 m.r, .int .i64 m.c, .int .i64 m.o, .int .i64 m.d, .int .i64 m.u] : List Value)[i]?)) (by kernel_rfl) (by kernel_rfl) (HS.out _ (Below.refl _ _)) ?_
  clear hdr hl hm hm1 hB0
  generalize w0.drew = w1 at *
  iterate 2 (refine fm_take (v := ?_) rfl rfl ?_ ?_; rotate_left; (next => (intro w' hSw; (try dsimp only at hSw); go_simp; (try (rw [if_pos (by omega)]; go_simp)); (try with_reducible rfl))); (simp only [Act.put, List.setIfInBounds_toArray, List.set_cons_zero, List.set_cons_succ]))
  refine fm_one (opW_take rfl rfl ?_)
  go_simp
  refine (Rows_any m.p m.r m.c m.o m.d m.u w1).mono ?_
  rintro e w2 ⟨rfl, hb2⟩
  refine ⟨HS.out _ hb2, ?_⟩
  refine fm_one (opW_take rfl rfl ?_)
  go_simp
  refine (Cols_any m.p m.r m.c m.o m.d m.u w2).mono ?_
  rintro e w3 ⟨rfl, hb3⟩
  have hb23 := below_step hb2 hb2.size hb3
  refine ⟨HS.out _ hb23, ?_⟩
  have HB3 := Lib.hid (HB1.out.trans (hb23.mono (by have := HB1.out.size; omega)))
  clear hb2 hb3 hb23
  iterate 1 (refine fm_take (v := ?_) rfl rfl ?_ ?_; rotate_left; (next => (intro w' hSw; (try dsimp only at hSw); go_simp; (try (rw [if_pos (by omega)]; go_simp)); (try with_reducible rfl))); (simp only [Act.put, List.setIfInBounds_toArray, List.set_cons_zero, List.set_cons_succ]))
  refine fm_nil ?_
  go_simp
  go_wp2
  refine NoPanic.normal ?_
  go_wp2_with fail
  go_ret
  exact ⟨rfl, hkm ▸ HB3.out⟩
def fits_Trmm (t m : Vw) : Bool := decide (t.r = t.c) && decide (t.r = m.r)
set_option maxHeartbeats 4000000 in
theorem Trmmf_any (w : World) (t m : Vw) (kt km : Nat) (ht : Box w kt t.cs) (hm : Box w km m.cs) :
    Calls Try.prog 84 #[.pointer (some ⟨kt, 0, none⟩), .pointer (some ⟨km, 0, none⟩)] w fun e w' => e = .returned (.bool (fits_Trmm t m)) ∧ Below w.heap.size w w' := by
  have HQ := Lib.hid (fun W => square_any t W)
  have ee : ((t.r : Int) == (m.r : Int)) = decide (t.r = m.r) := by rw [Bool.eq_iff_iff]; simp; omega
  unfold fits_Trmm
  have HS := Lib.hid (show ∀ W, Below w.heap.size w W → (fun W => (∀ i, W.cell? ⟨kt, i, none⟩ = ([.pointer t.p, .int .i64 t.r, .int .i64 t.c, .int .i64 t.o, .int .i64 t.d, .int .i64 t.u] : List Value)[i]?) ∧ (∀ i, W.cell? ⟨km, i, none⟩ = ([.pointer m.p, .int .i64 m.r, .int .i64 m.c, .int .i64 m.o, .int .i64 m.d, .int .i64 m.u] : List Value)[i]?)) W from fun W h => ⟨(ht.below h).cell, (hm.below h).cell⟩)
  have HB1 := Lib.hid (show Below w.heap.size w w.drew from below_drewN 1 (Below.refl w.heap.size w))
  clear ht hm
  generalize decide (t.r = t.c) = q1 at *
  generalize decide (t.r = m.r) = q2 at *
  cases q1
  · go_enter Try.func84, Try.ntmps84
    go_upto_region 1 with (fail)
    refine wp_region_many 9 40 [(0, 0), (1, 1), (0, 2), (0, 3), (0, 4), (0, 5), (0, 6), (0, 7), (0, 8)] (fun W => (∀ i, W.cell? ⟨kt, i, none⟩ = ([.pointer t.p, .int .i64 t.r, .int .i64 t.c, .int .i64 t.o, .int .i64 t.d, .int .i64 t.u] : List Value)[i]?) ∧ (∀ i, W.cell? ⟨km, i, none⟩ = ([.pointer m.p, .int .i64 m.r, .int .i64 m.c, .int .i64 m.o, .int .i64 m.d, .int .i64 m.u] : List Value)[i]?)) (by kernel_rfl) (by kernel_rfl) (HS.out _ HB1.out) ?_
    generalize w.drew = w1 at *
    iterate 1 (refine fm_take (v := ?_) rfl rfl ?_ ?_; rotate_left; (next => (intro w' hSw; (try dsimp only at hSw); go_simp; (try (rw [if_pos (by omega)]; go_simp)); (try with_reducible rfl))); (simp only [Act.put, List.setIfInBounds_toArray, List.set_cons_zero, List.set_cons_succ]))
    refine fm_one ?_
    refine opW_take rfl rfl ?_
    go_simp
    refine (HQ.out w1).mono ?_
    rintro e v1 ⟨rfl, hb⟩
    have hB1 := Lib.hid (below_step HB1.out HB1.out.size hb)
    clear hb
    refine ⟨HS.out _ hB1.out, ?_⟩
    iterate 1 (refine fm_take (v := ?_) rfl rfl ?_ ?_; rotate_left; (next => (intro w' hSw; (try dsimp only at hSw); go_simp; (try (rw [if_pos (by omega)]; go_simp)); (try with_reducible rfl))); (simp only [Act.put, List.setIfInBounds_toArray, List.set_cons_zero, List.set_cons_succ]))
    iterate 1 (refine fm_out rfl rfl ?_; (simp only [Act.put, List.setIfInBounds_toArray, List.set_cons_zero, List.set_cons_succ]))
    iterate 1 (refine fm_out rfl rfl ?_; (simp only [Act.put, List.setIfInBounds_toArray, List.set_cons_zero, List.set_cons_succ]))
    iterate 1 (refine fm_out rfl rfl ?_; (simp only [Act.put, List.setIfInBounds_toArray, List.set_cons_zero, List.set_cons_succ]))
    iterate 1 (refine fm_out rfl rfl ?_; (simp only [Act.put, List.setIfInBounds_toArray, List.set_cons_zero, List.set_cons_succ]))
    iterate 1 (refine fm_out rfl rfl ?_; (simp only [Act.put, List.setIfInBounds_toArray, List.set_cons_zero, List.set_cons_succ]))
    iterate 1 (refine fm_take (v := ?_) rfl rfl ?_ ?_; rotate_left; (next => (intro w' hSw; (try dsimp only at hSw); go_simp; (try (rw [if_pos (by omega)]; go_simp)); (try with_reducible rfl))); (simp only [Act.put, List.setIfInBounds_toArray, List.set_cons_zero, List.set_cons_succ]))
    refine fm_nil ?_
    go_simp
    go_wp2
    refine NoPanic.normal ?_
    go_wp2_with fail
    go_ret
    exact ⟨by simp, hB1.out⟩
  · go_enter Try.func84, Try.ntmps84
    go_upto_region 1 with (fail)
    refine wp_region_many 9 40 [(0, 0), (1, 1), (0, 2), (0, 3), (0, 5), (1, 4), (1, 6), (0, 7), (0, 8)] (fun W => (∀ i, W.cell? ⟨kt, i, none⟩ = ([.pointer t.p, .int .i64 t.r, .int .i64 t.c, .int .i64 t.o, .int .i64 t.d, .int .i64 t.u] : List Value)[i]?) ∧ (∀ i, W.cell? ⟨km, i, none⟩ = ([.pointer m.p, .int .i64 m.r, .int .i64 m.c, .int .i64 m.o, .int .i64 m.d, .int .i64 m.u] : List Value)[i]?)) (by kernel_rfl) (by kernel_rfl) (HS.out _ HB1.out) ?_
    generalize w.drew = w1 at *
    iterate 1 (refine fm_take (v := ?_) rfl rfl ?_ ?_; rotate_left; (next => (intro w' hSw; (try dsimp only at hSw); go_simp; (try (rw [if_pos (by omega)]; go_simp)); (try with_reducible rfl))); (simp only [Act.put, List.setIfInBounds_toArray, List.set_cons_zero, List.set_cons_succ]))
    refine fm_one ?_
    refine opW_take rfl rfl ?_
    go_simp
    refine (HQ.out w1).mono ?_
    rintro e v1 ⟨rfl, hb⟩
    have hB1 := Lib.hid (below_step HB1.out HB1.out.size hb)
    clear hb
    refine ⟨HS.out _ hB1.out, ?_⟩
    iterate 1 (refine fm_take (v := ?_) rfl rfl ?_ ?_; rotate_left; (next => (intro w' hSw; (try dsimp only at hSw); go_simp; (try (rw [if_pos (by omega)]; go_simp)); (try with_reducible rfl))); (simp only [Act.put, List.setIfInBounds_toArray, List.set_cons_zero, List.set_cons_succ]))
    iterate 1 (refine fm_take (v := ?_) rfl rfl ?_ ?_; rotate_left; (next => (intro w' hSw; (try dsimp only at hSw); go_simp; (try (rw [if_pos (by omega)]; go_simp)); (try with_reducible rfl))); (simp only [Act.put, List.setIfInBounds_toArray, List.set_cons_zero, List.set_cons_succ]))
    iterate 1 (refine fm_take (v := ?_) rfl rfl ?_ ?_; rotate_left; (next => (intro w' hSw; (try dsimp only at hSw); go_simp; (try (rw [if_pos (by omega)]; go_simp)); (try with_reducible rfl))); (simp only [Act.put, List.setIfInBounds_toArray, List.set_cons_zero, List.set_cons_succ]))
    refine fm_one ?_
    refine opW_take rfl rfl ?_
    go_simp
    refine (Rows_any t.p t.r t.c t.o t.d t.u v1).mono ?_
    rintro e v2 ⟨rfl, hb⟩
    have hB2 := Lib.hid (below_step hB1.out hB1.out.size hb)
    clear hb
    refine ⟨HS.out _ hB2.out, ?_⟩
    refine fm_one ?_
    refine opW_take rfl rfl ?_
    go_simp
    refine (Rows_any m.p m.r m.c m.o m.d m.u v2).mono ?_
    rintro e v3 ⟨rfl, hb⟩
    have hB3 := Lib.hid (below_step hB2.out hB2.out.size hb)
    clear hb
    refine ⟨HS.out _ hB3.out, ?_⟩
    iterate 1 (refine fm_take (v := ?_) rfl rfl ?_ ?_; rotate_left; (next => (intro w' hSw; (try dsimp only at hSw); go_simp; (try (rw [if_pos (by omega)]; go_simp)); (try with_reducible rfl))); (simp only [Act.put, List.setIfInBounds_toArray, List.set_cons_zero, List.set_cons_succ]))
    iterate 1 (refine fm_take (v := ?_) rfl rfl ?_ ?_; rotate_left; (next => (intro w' hSw; (try dsimp only at hSw); go_simp; (try (rw [if_pos (by omega)]; go_simp)); (try with_reducible rfl))); (simp only [Act.put, List.setIfInBounds_toArray, List.set_cons_zero, List.set_cons_succ]))
    refine fm_nil ?_
    go_simp
    go_wp2
    refine NoPanic.normal ?_
    go_wp2_with fail
    go_ret
    exact ⟨by simp, hB3.out⟩
/-- A triangle's entry. -/
def triW (unit : Bool) (t : Vw) (ts : List Nat) (i k : Nat) : Nat := if unit && decide (i = k) then 4607182418800017408 else t.get ts i k
set_option maxHeartbeats 4000000 in
theorem Trmm2_any (w : World) (unit : Bool) (t : Vw) (st : Nat) (ts : List Nat) (i k bu bt : Nat) (hok : t.Ok w st ts) (hW : Words ts) (hu : Box w bu [.bool unit]) (ht : Box w bt [.pointer t.p, .int .i64 t.r, .int .i64 t.c, .int .i64 t.o, .int .i64 t.d, .int .i64 t.u]) :
    Calls Try.prog 86 #[.int .i64 i, .int .i64 k, .pointer (some ⟨bu, 0, none⟩), .pointer (some ⟨bt, 0, none⟩)] w fun e w' => (∃ s, e = .returned (.float .f64 (raw (triW unit t ts i k) s))) ∧ Below w.heap.size w w' := by
  obtain ⟨p1, p2, p3⟩ := hu.facts
  obtain ⟨q1, q2, q3⟩ := ht.facts
  have HA := Lib.hid (At_any w t st ts i k hok)
  have ee : ((i : Int) == (k : Int)) = decide (i = k) := by rw [Bool.eq_iff_iff]; simp; omega
  obtain ⟨s, hs⟩ := raw_self (get_word (v := t) hW i k)
  have HSs := Lib.hid hs
  unfold triW
  clear hok hW hu ht hs
  cases unit
  · go_enter Try.func86, Try.ntmps86
    go_wp2_with fail
    refine HA.out.mono ?_
    rintro e w1 ⟨rfl, hb1⟩
    dsimp only
    go_wp2_with fail
    go_ret
    exact ⟨⟨s, congrArg (fun v => Ending.returned (Value.float .f64 v)) HSs.out⟩, hb1⟩
  · cases hd : decide (i = k)
    · rw [hd] at ee
      clear hd
      go_enter Try.func86, Try.ntmps86
      go_wp2_with fail
      refine HA.out.mono ?_
      rintro e w1 ⟨rfl, hb1⟩
      dsimp only
      go_wp2_with fail
      go_ret
      exact ⟨⟨s, congrArg (fun v => Ending.returned (Value.float .f64 v)) HSs.out⟩, hb1⟩
    · rw [hd] at ee
      clear hd
      go_enter Try.func86, Try.ntmps86
      go_wp2_with fail
      go_ret
      exact ⟨⟨0, congrArg (fun v => Ending.returned (Value.float .f64 v)) (raw_of_not (v := 4607182418800017408) (by kernel_rfl) 0).symm⟩, Below.refl _ _⟩
set_option maxHeartbeats 4000000 in
theorem Trmm3_any (w : World) (unit : Bool) (t : Vw) (st : Nat) (ts : List Nat) (i j k bu bt be ba : Nat) (hok : t.Ok w st ts) (hW : Words ts) (hu : Box w bu [.bool unit]) (ht : Box w bt [.pointer t.p, .int .i64 t.r, .int .i64 t.c, .int .i64 t.o, .int .i64 t.d, .int .i64 t.u])
    (he : Box w be [.func (.func 86) #[] #[.pointer (some ⟨bu, 0, none⟩), .pointer (some ⟨bt, 0, none⟩)]]) (ha : Box w ba [.int .i64 i, .int .i64 j]) :
    Calls Try.prog 87 #[.int .i64 k, .pointer (some ⟨be, 0, none⟩), .pointer (some ⟨ba, 0, none⟩)] w fun e w' => (∃ s, e = .returned (.float .f64 (raw (triW unit t ts i k) s))) ∧ Below w.heap.size w w' := by
  have HA := Lib.hid (Trmm2_any w unit t st ts i k bu bt hok hW hu ht)
  obtain ⟨p1, p2, p3⟩ := he.facts
  obtain ⟨q1, q2, q3⟩ := ha.facts
  clear hok hW hu ht he ha
  go_enter Try.func87, Try.ntmps87
  go_wp2_with fail
  refine HA.out.mono ?_
  rintro e w2 ⟨⟨s, rfl⟩, hb2⟩
  dsimp only
  go_wp2_with fail
  go_ret
  exact ⟨⟨s, rfl⟩, hb2⟩
end Go.Proofs.Ytbcdpibcieadlaa
