/- Layer 8: Dot. No condition but on lengths. -/
import Derived.Test.YtbcdpibcieadlaaKc
import Derived.Test.YtbcdpibcieadlaaVm
namespace Go.Proofs.Ytbcdpibcieadlaa
open Go Go.RowKit
set_option maxRecDepth 100000

theorem getVec_lt {v : Vw} {ws : List Nat} (h : Words ws) (i : Int) : v.getVec ws i < 18446744073709551616 := by
  unfold Vw.getVec
  split
  · exact get_word h _ _
  · decide
/-- A view's own telling, as a function value. -/
theorem Fnk.get (w : World) (v : Vw) (sb : Nat) (ws : List Nat) (h : v.Ok w sb ws) (hW : Words ws) (lo hi : Nat) : Fnk w (.func (.func 59) #[v.val] #[]) lo hi (fun k => v.getVec ws k) := by
  refine ⟨_, _, _, rfl, enters_of Try.func59 (by kernel_rfl) rfl, fun k W _ _ hb => ?_⟩
  refine (Get_any W v sb ws k (h.below hb)).mono ?_
  rintro e w' ⟨rfl, hb'⟩
  obtain ⟨s, hs⟩ := raw_self (getVec_lt (v := v) hW k)
  exact ⟨⟨s, by rw [← hs]⟩, hb'⟩
def dotV (x : Vw) (wx : List Nat) (y : Vw) (wy : List Nat) : Nat := if openE [x, y] (fits2 x y) = 0 then sumG (fun k => x.getVec wx k) (fun k => y.getVec wy k) 0 (lenV x.p x.r x.c) else 0
theorem lenV_le {p : Option Addr} {r c : Nat} (h : r ≤ 512 ∧ c ≤ 512) : lenV p r c ≤ 262144 := by
  unfold lenV
  split
  · exact Nat.mul_le_mul h.1 h.2
  · exact Nat.zero_le _
set_option maxHeartbeats 8000000 in
theorem Dot_any (w : World) (x y : Vw) (sx sy : Nat) (wx wy : List Nat) (hx : x.Ok w sx wx) (hy : y.Ok w sy wy) (hwx : Words wx) (hwy : Words wy) :
    Calls Try.prog 18 #[x.val, y.val] w fun e w' => (∃ s, e = .returned (.tuple #[.float .f64 (raw (dotV x wx y wy) s), .int .i64 (openE [x, y] (fits2 x y))])) ∧ Below w.heap.size w w' := by
  have HL := Lib.hid (fun W => Len_any x.p x.r x.c x.o x.d x.u W hx.small.1 hx.small.2)
  have hll := lenV_le (p := x.p) hx.small
  have HO := Lib.hid (fun W (h : Below w.heap.size w W) bx by' b hbx hby hb => open_any W 62 #[.pointer (some ⟨bx, 0, none⟩), .pointer (some ⟨by', 0, none⟩)] b [x, y] (fits2 x y) hb (fun v hv => by
    simp only [List.mem_cons, List.not_mem_nil, or_false] at hv
    rcases hv with rfl | rfl
    · exact ⟨sx, wx, hx.below h⟩
    · exact ⟨sy, wy, hy.below h⟩) (by simp) (enters_of Try.func62 (by kernel_rfl) rfl) (fun _ W' h' => Dotf_any W' x y bx by' (Box.below hbx h') (Box.below hby h') hx.small hy.small))
  have HG := Lib.hid (fun W (h : Below w.heap.size w W) n (hn : n ≤ 262144) => sum_any W 0 n _ _ _ _ (Fnk.get W x sx wx (hx.below h) hwx 0 n) (Fnk.get W y sy wy (hy.below h) hwy 0 n) (by omega))
  unfold dotV
  generalize openE [x, y] (fits2 x y) = E at *
  generalize lenV x.p x.r x.c = n at *
  obtain ⟨D, hD⟩ : ∃ D, D = (if E = 0 then sumG (fun k => x.getVec wx k) (fun k => y.getVec wy k) 0 n else 0) := ⟨_, rfl⟩
  rw [← hD]
  obtain ⟨W0, hW0⟩ : ∃ W0, W0 = (w.alloc (.cells #[.pointer x.p, .int .i64 x.r, .int .i64 x.c, .int .i64 x.o, .int .i64 x.d, .int .i64 x.u] 29)).alloc (.cells #[.pointer y.p, .int .i64 y.r, .int .i64 y.c, .int .i64 y.o, .int .i64 y.d, .int .i64 y.u] 29) := ⟨_, rfl⟩
  have hB0 : Below w.heap.size w W0 := hW0 ▸ ((Below.refl _ _).alloc (Nat.le_refl _) _).alloc (by simp) _
  have x2 : Box W0 w.heap.size [.pointer x.p, .int .i64 x.r, .int .i64 x.c, .int .i64 x.o, .int .i64 x.d, .int .i64 x.u] := hW0 ▸ (Box.newA w [.pointer x.p, .int .i64 x.r, .int .i64 x.c, .int .i64 x.o, .int .i64 x.d, .int .i64 x.u] _ rfl).alloc _
  have x3 : Box W0 (w.heap.size + 1) [.pointer y.p, .int .i64 y.r, .int .i64 y.c, .int .i64 y.o, .int .i64 y.d, .int .i64 y.u] := hW0 ▸ Box.newA _ [.pointer y.p, .int .i64 y.r, .int .i64 y.c, .int .i64 y.o, .int .i64 y.d, .int .i64 y.u] _ (by simp)
  have HX := Lib.hid (show _ ∧ _ ∧ _ from ⟨hB0, x2, x3⟩)
  clear hx hy hwx hwy hB0 x2 x3
  show Calls Try.prog 18 #[(.agg #[.pointer x.p, .int .i64 x.r, .int .i64 x.c, .int .i64 x.o, .int .i64 x.d, .int .i64 x.u]), (.agg #[.pointer y.p, .int .i64 y.r, .int .i64 y.c, .int .i64 y.o, .int .i64 y.d, .int .i64 y.u])] w _
  go_enter Try.func18, Try.ntmps18
  go_upto_region 1 with (fail)
  rw [← hW0]
  clear hW0
  obtain ⟨hB0, x2, x3⟩ := HX.out
  have hbA : Below W0.heap.size W0 (W0.alloc (.cells #[.pointer x.p, .int .i64 x.r, .int .i64 x.c, .int .i64 x.o, .int .i64 x.d, .int .i64 x.u, .pointer y.p, .int .i64 y.r, .int .i64 y.c, .int .i64 y.o, .int .i64 y.d, .int .i64 y.u] 29)) := (Below.refl _ _).alloc (Nat.le_refl _) _
  have hz : Box (W0.alloc (.cells #[.pointer x.p, .int .i64 x.r, .int .i64 x.c, .int .i64 x.o, .int .i64 x.d, .int .i64 x.u, .pointer y.p, .int .i64 y.r, .int .i64 y.c, .int .i64 y.o, .int .i64 y.d, .int .i64 y.u] 29)) W0.heap.size ([x, y].flatMap Vw.cs) := Box.newA W0 ([x, y].flatMap Vw.cs) _ rfl
  have hB1 := below_step hB0 hB0.size hbA
  have HC := Lib.hid (HO.out _ hB1 _ _ _ (x2.below hbA) (x3.below hbA) hz)
  obtain ⟨p1, p2, p3⟩ := x2.facts
  obtain ⟨q1, q2, q3⟩ := x3.facts
  have HB1 := Lib.hid (show _ ∧ _ ∧ _ from ⟨hB1, x2.below hbA, x3.below hbA⟩)
  clear hB0 x2 x3 hbA hz hB1 HO HX
  go_wp2_with fail
  refine HC.out.mono ?_
  rintro e w1 ⟨rfl, hb1⟩
  obtain ⟨hB1, x2, x3⟩ := HB1.out
  have hB2 := below_step hB1 hB1.size hb1
  replace x2 := x2.below hb1
  replace x3 := x3.below hb1
  clear p1 p2 p3 q1 q2 q3
  have HB2 := Lib.hid (show _ ∧ _ ∧ _ from ⟨hB2, x2, x3⟩)
  clear hB1 hb1 hB2 x2 x3 HB1 HC
  dsimp only
  by_cases hE : E = 0
  · subst hE
    rw [if_pos rfl] at hD
    have HDD := Lib.hid hD
    clear hD
    go_upto_region 4 with (fail)
    obtain ⟨hB2, x2, x3⟩ := HB2.out
    have hdr : Below w1.heap.size w1 w1.drew := below_drewN 1 (Below.refl _ w1)
    have HB3 := Lib.hid (below_step hB2 hB2.size hdr)
    replace x2 := x2.below hdr
    replace x3 := x3.below hdr
    have HS := Lib.hid (show ∀ W, Below w1.drew.heap.size w1.drew W → (fun W => (∀ i, W.cell? ⟨w.heap.size, i, none⟩ = ([.pointer x.p, .int .i64 x.r, .int .i64 x.c, .int .i64 x.o, .int .i64 x.d, .int .i64 x.u] : List Value)[i]?) ∧ (∀ i, W.cell? ⟨w.heap.size + 1, i, none⟩ = ([.pointer y.p, .int .i64 y.r, .int .i64 y.c, .int .i64 y.o, .int .i64 y.d, .int .i64 y.u] : List Value)[i]?)) W from fun W h => ⟨(x2.below h).cell, (x3.below h).cell⟩)
    refine wp_region_items 6 [(true, 0), (true, 2), (true, 3), (true, 4), (true, 5), (false, 1)] (fun W => (∀ i, W.cell? ⟨w.heap.size, i, none⟩ = ([.pointer x.p, .int .i64 x.r, .int .i64 x.c, .int .i64 x.o, .int .i64 x.d, .int .i64 x.u] : List Value)[i]?) ∧ (∀ i, W.cell? ⟨w.heap.size + 1, i, none⟩ = ([.pointer y.p, .int .i64 y.r, .int .i64 y.c, .int .i64 y.o, .int .i64 y.d, .int .i64 y.u] : List Value)[i]?)) (by kernel_rfl) (by kernel_rfl) (HS.out _ (Below.refl _ _)) ?_
    clear hdr hB2 x2 x3 HB2
    generalize w1.drew = w2 at *
    iterate 5 (refine iW_take (v := ?_) rfl rfl ?_ ?_; rotate_left; (next => (intro w' hSw; (try dsimp only at hSw); go_simp; (try (rw [if_pos (by omega)]; go_simp)); (try with_reducible rfl))); (simp only [Act.put, List.setIfInBounds_toArray, List.set_cons_zero, List.set_cons_succ]))
    refine iW_mid rfl rfl ?_
    go_simp
    refine (HL.out w2).mono ?_
    rintro e w3 ⟨rfl, hb3⟩
    have HB4 := Lib.hid (below_step HB3.out HB3.out.size hb3)
    refine ⟨HS.out _ hb3, ?_⟩
    clear hb3
    refine iW_nil ?_
    have HS4 := Lib.hid (HG.out _ HB4.out n hll)
    rw [Nat.sub_zero, ← HDD.out] at HS4
    go_simp
    go_wp2_with fail
    refine HS4.out.mono ?_
    rintro e w5 ⟨⟨s, rfl⟩, hb5⟩
    have HB5 := Lib.hid (below_step HB4.out HB4.out.size hb5)
    clear hb5
    dsimp only
    go_wp2
    refine NoPanic.normal ?_
    go_wp2_with fail
    exact bodyPost_ret (results_two rfl (rv_tmp rfl) (rv_tmp rfl)) rfl ⟨⟨s, rfl⟩, HB5.out⟩
  · have t1 : (E != 0) = true := by simp [hE]
    rw [if_neg hE] at hD
    subst hD
    clear hE
    go_wp2_with fail
    exact bodyPost_ret (results_two rfl (rv_tmp rfl) (rv_tmp rfl)) rfl ⟨⟨0, by rw [raw_of_not (show isnan 0 = false by kernel_rfl)]; rfl⟩, HB2.out.1⟩
end Go.Proofs.Ytbcdpibcieadlaa
