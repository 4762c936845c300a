/- Layer 8: a vector times a float; added to another one. No condition but on lengths. -/
import Derived.Test.YtbcdpibcieadlaaZz21
namespace Go.Proofs.Ytbcdpibcieadlaa
open Go Go.RowKit
set_option maxRecDepth 1000000

set_option maxHeartbeats 4000000 in
theorem Axpyf_any (w : World) (x y : Vw) (bx by' : Nat) (hx : Box w bx x.cs) (hy : Box w by' y.cs) (sx : x.r ≤ 512 ∧ x.c ≤ 512) (sy : y.r ≤ 512 ∧ y.c ≤ 512) :
    Calls Try.prog 99 #[.pointer (some ⟨bx, 0, none⟩), .pointer (some ⟨by', 0, none⟩)] w fun e w' => e = .returned (.bool (fits2 x y)) ∧ Below w.heap.size w w' := by
  have HV := Lib.hid (fun W => Vector_any x.p x.r x.c x.o x.d x.u W)
  have HL := Lib.hid (fun W => Len_any x.p x.r x.c x.o x.d x.u W sx.1 sx.2)
  have HVs := Lib.hid (fun (n : Int) W b hb => vectors_any W n b [y] hb (fun v hv => by rw [List.mem_singleton] at hv; rw [hv]; exact sy) (by simp))
  unfold fits2
  have HB := Lib.hid (And.intro hx hy)
  generalize hv : vecV x.p x.r x.c = vx at *
  have hs : ∀ W, Below w.heap.size w W → (fun W => (∀ i, W.cell? ⟨bx, i, none⟩ = ([.pointer x.p, .int .i64 x.r, .int .i64 x.c, .int .i64 x.o, .int .i64 x.d, .int .i64 x.u] : List Value)[i]?) ∧ (∀ i, W.cell? ⟨by', i, none⟩ = ([.pointer y.p, .int .i64 y.r, .int .i64 y.c, .int .i64 y.o, .int .i64 y.d, .int .i64 y.u] : List Value)[i]?)) W := fun W h => ⟨(hx.below h).cell, (hy.below h).cell⟩
  have HS := Lib.hid hs
  clear hx hy sx sy hs hv
  have hdr : Below w.heap.size w w.drew := below_drewN 1 (Below.refl _ w)
  cases vx
  · go_enter Try.func99, Try.ntmps99
    go_upto_region 1 with (fail)
    refine wp_region_many 9 40 [(0, 0), (1, 1), (0, 2), (0, 3), (0, 4), (0, 5), (0, 6), (0, 7), (0, 8)] (fun W => (∀ i, W.cell? ⟨bx, i, none⟩ = ([.pointer x.p, .int .i64 x.r, .int .i64 x.c, .int .i64 x.o, .int .i64 x.d, .int .i64 x.u] : List Value)[i]?) ∧ (∀ i, W.cell? ⟨by', i, none⟩ = ([.pointer y.p, .int .i64 y.r, .int .i64 y.c, .int .i64 y.o, .int .i64 y.d, .int .i64 y.u] : List Value)[i]?)) (by kernel_rfl) (by kernel_rfl) (HS.out _ hdr) ?_
    have HB1 := Lib.hid hdr
    clear hdr
    generalize w.drew = w1 at *
    iterate 1 (refine fm_take (v := ?_) rfl rfl ?_ ?_; rotate_left; (next => (intro w' hSw; (try dsimp only at hSw); go_simp; (try (rw [if_pos (by omega)]; go_simp)); (try with_reducible rfl))); (simp only [Act.put, List.setIfInBounds_toArray, List.set_cons_zero, List.set_cons_succ]))
    refine fm_one (opW_take rfl rfl ?_)
    go_simp
    refine (HV.out w1).mono ?_
    rintro e w2 ⟨rfl, hb2⟩
    have HB2 := Lib.hid (below_step HB1.out HB1.out.size hb2)
    clear hb2
    refine ⟨HS.out _ HB2.out, ?_⟩
    iterate 1 (refine fm_take (v := ?_) rfl rfl ?_ ?_; rotate_left; (next => (intro w' hSw; (try dsimp only at hSw); go_simp; (try (rw [if_pos (by omega)]; go_simp)); (try with_reducible rfl))); (simp only [Act.put, List.setIfInBounds_toArray, List.set_cons_zero, List.set_cons_succ]))
    iterate 5 (refine fm_out rfl rfl ?_; (simp only [Act.put, List.setIfInBounds_toArray, List.set_cons_zero, List.set_cons_succ]))
    iterate 1 (refine fm_take (v := ?_) rfl rfl ?_ ?_; rotate_left; (next => (intro w' hSw; (try dsimp only at hSw); go_simp; (try (rw [if_pos (by omega)]; go_simp)); (try with_reducible rfl))); (simp only [Act.put, List.setIfInBounds_toArray, List.set_cons_zero, List.set_cons_succ]))
    refine fm_nil ?_
    go_simp
    go_wp2
    refine NoPanic.normal ?_
    go_wp2_with fail
    go_ret
    exact ⟨rfl, HB2.out⟩
  · go_enter Try.func99, Try.ntmps99
    go_upto_region 1 with (fail)
    refine wp_region_many 9 40 [(0, 0), (1, 1), (0, 2), (0, 3), (0, 5), (3, 6), (1, 4), (2, 6), (1, 7), (0, 8)] (fun W => (∀ i, W.cell? ⟨bx, i, none⟩ = ([.pointer x.p, .int .i64 x.r, .int .i64 x.c, .int .i64 x.o, .int .i64 x.d, .int .i64 x.u] : List Value)[i]?) ∧ (∀ i, W.cell? ⟨by', i, none⟩ = ([.pointer y.p, .int .i64 y.r, .int .i64 y.c, .int .i64 y.o, .int .i64 y.d, .int .i64 y.u] : List Value)[i]?)) (by kernel_rfl) (by kernel_rfl) (HS.out _ hdr) ?_
    have HB1 := Lib.hid hdr
    clear hdr
    generalize w.drew = w1 at *
    iterate 1 (refine fm_take (v := ?_) rfl rfl ?_ ?_; rotate_left; (next => (intro w' hSw; (try dsimp only at hSw); go_simp; (try (rw [if_pos (by omega)]; go_simp)); (try with_reducible rfl))); (simp only [Act.put, List.setIfInBounds_toArray, List.set_cons_zero, List.set_cons_succ]))
    refine fm_one (opW_take rfl rfl ?_)
    go_simp
    refine (HV.out w1).mono ?_
    rintro e w2 ⟨rfl, hb2⟩
    have HB2 := Lib.hid (below_step HB1.out HB1.out.size hb2)
    clear hb2
    refine ⟨HS.out _ HB2.out, ?_⟩
    iterate 3 (refine fm_take (v := ?_) rfl rfl ?_ ?_; rotate_left; (next => (intro w' hSw; (try dsimp only at hSw); go_simp; (try (rw [if_pos (by omega)]; go_simp)); (try with_reducible rfl))); (simp only [Act.put, List.setIfInBounds_toArray, List.set_cons_zero, List.set_cons_succ]))
    refine fm_from ?_
    refine fm_one1 ?_ ?_
    · refine opW_take rfl rfl ?_
      go_simp
      refine (HL.out w2).mono ?_
      rintro e w3 ⟨rfl, hb3⟩
      have HB3 := Lib.hid (below_step HB2.out HB2.out.size hb3)
      clear hb3
      refine ⟨HS.out _ HB3.out, ?_⟩
      refine fm_now ?_
      refine opW_take rfl rfl ?_
      go_simp
      have hbA : Below w3.heap.size w3 (w3.alloc (.cells #[.pointer y.p, .int .i64 y.r, .int .i64 y.c, .int .i64 y.o, .int .i64 y.d, .int .i64 y.u] 29)) := (Below.refl _ _).alloc (Nat.le_refl _) _
      have hz := Box.newA w3 [.pointer y.p, .int .i64 y.r, .int .i64 y.c, .int .i64 y.o, .int .i64 y.d, .int .i64 y.u] 29 rfl
      have HB4 := Lib.hid (And.intro (below_step HB3.out HB3.out.size hbA) hz)
      clear hbA hz
      refine ⟨HS.out _ HB4.out.1, ?_⟩
      refine fm_skip rfl ?_
      refine fm_one (opW_take rfl rfl ?_)
      go_simp
      refine (HVs.out _ _ _ HB4.out.2).mono ?_
      rintro e w5 ⟨rfl, hb5⟩
      have HB5 := Lib.hid (below_step HB4.out.1 HB4.out.1.size hb5)
      clear hb5
      refine ⟨HS.out _ HB5.out, ?_⟩
      iterate 1 (refine fm_take (v := ?_) rfl rfl ?_ ?_; rotate_left; (next => (intro w' hSw; (try dsimp only at hSw); go_simp; (try (rw [if_pos (by omega)]; go_simp)); (try with_reducible rfl))); (simp only [Act.put, List.setIfInBounds_toArray, List.set_cons_zero, List.set_cons_succ]))
      refine fm_nil ?_
      go_simp
      go_wp2
      refine NoPanic.normal ?_
      go_wp2_with fail
      go_ret
      exact ⟨by simp, HB5.out⟩
    · refine opW_take rfl rfl ?_
      go_simp
      have hbA : Below w2.heap.size w2 (w2.alloc (.cells #[.pointer y.p, .int .i64 y.r, .int .i64 y.c, .int .i64 y.o, .int .i64 y.d, .int .i64 y.u] 29)) := (Below.refl _ _).alloc (Nat.le_refl _) _
      have hz := Box.newA w2 [.pointer y.p, .int .i64 y.r, .int .i64 y.c, .int .i64 y.o, .int .i64 y.d, .int .i64 y.u] 29 rfl
      have HB3 := Lib.hid (And.intro (below_step HB2.out HB2.out.size hbA) hz)
      clear hbA hz
      refine ⟨HS.out _ HB3.out.1, ?_⟩
      refine fm_one (opW_take rfl rfl ?_)
      go_simp
      refine (HL.out _).mono ?_
      rintro e w4 ⟨rfl, hb4⟩
      have HB4 := Lib.hid (And.intro (below_step HB3.out.1 HB3.out.1.size hb4) (HB3.out.2.below hb4))
      clear hb4
      refine ⟨HS.out _ HB4.out.1, ?_⟩
      refine fm_skip rfl ?_
      refine fm_one (opW_take rfl rfl ?_)
      go_simp
      refine (HVs.out _ _ _ HB4.out.2).mono ?_
      rintro e w5 ⟨rfl, hb5⟩
      have HB5 := Lib.hid (below_step HB4.out.1 HB4.out.1.size hb5)
      clear hb5
      refine ⟨HS.out _ HB5.out, ?_⟩
      iterate 1 (refine fm_take (v := ?_) rfl rfl ?_ ?_; rotate_left; (next => (intro w' hSw; (try dsimp only at hSw); go_simp; (try (rw [if_pos (by omega)]; go_simp)); (try with_reducible rfl))); (simp only [Act.put, List.setIfInBounds_toArray, List.set_cons_zero, List.set_cons_succ]))
      refine fm_nil ?_
      go_simp
      go_wp2
      refine NoPanic.normal ?_
      go_wp2_with fail
      go_ret
      exact ⟨by simp, HB5.out⟩

/-- A vector times a float: the first n places. -/
def scalP (a : Nat) (x : Vw) (xs : List Nat) : Nat → List Nat
  | 0 => xs
  | n + 1 => x.putVec (scalP a x xs n) n (fmul a (x.getVec (scalP a x xs n) n))
def scalL (a : Nat) (x : Vw) (xs : List Nat) : List Nat := if openE [x] (vecV x.p x.r x.c) = 0 then scalP a x xs (lenV x.p x.r x.c) else xs
set_option maxHeartbeats 8000000 in
theorem Scal_any (w : World) (a : Nat) (x : Vw) (sx : Nat) (xs : List Nat) (hx : x.Ok w sx xs) (wx : Words xs) :
    Calls Try.prog 54 #[.float .f64 a, x.val] w fun e w' => e = .returned (.int .i64 (openE [x] (vecV x.p x.r x.c))) ∧ ∃ ws, x.Ok w' sx ws ∧ Rw ws (scalL a x xs) ∧ Words ws ∧ Bel w.heap.size sx w w' := by
  have HL := Lib.hid (fun W => Len_any x.p x.r x.c x.o x.d x.u W hx.small.1 hx.small.2)
  have hll := lenV_le (p := x.p) hx.small
  have HO := Lib.hid (fun W (h : Below w.heap.size w W) b hb => open_one W x sx xs b (hx.below h) hb)
  have HZ := Lib.hid (fun (h : openE [x] (vecV x.p x.r x.c) = 0) => openE_zero h)
  have HY := Lib.hid (show _ ∧ _ from ⟨hx, wx⟩)
  unfold scalL
  generalize openE [x] (vecV x.p x.r x.c) = E at *
  generalize lenV x.p x.r x.c = n at *
  obtain ⟨D, hD⟩ : ∃ D, D = (if E = 0 then scalP a x xs n else xs) := ⟨_, rfl⟩
  rw [← hD]
  obtain ⟨W0, hW0⟩ : ∃ W0, W0 = (w.alloc (.cells #[.pointer x.p, .int .i64 x.r, .int .i64 x.c, .int .i64 x.o, .int .i64 x.d, .int .i64 x.u] 29)) := ⟨_, rfl⟩
  have hB0 : Below w.heap.size w W0 := hW0 ▸ (Below.refl _ _).alloc (Nat.le_refl _) _
  have x2 : Box W0 w.heap.size [.pointer x.p, .int .i64 x.r, .int .i64 x.c, .int .i64 x.o, .int .i64 x.d, .int .i64 x.u] := hW0 ▸ Box.newA w [.pointer x.p, .int .i64 x.r, .int .i64 x.c, .int .i64 x.o, .int .i64 x.d, .int .i64 x.u] _ rfl
  have HX := Lib.hid (show _ ∧ _ from ⟨hB0, x2⟩)
  clear hx wx hB0 x2
  show Calls Try.prog 54 #[.float .f64 a, (.agg #[.pointer x.p, .int .i64 x.r, .int .i64 x.c, .int .i64 x.o, .int .i64 x.d, .int .i64 x.u])] w _
  go_enter Try.func54, Try.ntmps54
  go_upto_region 1 with (fail)
  rw [← hW0]
  clear hW0
  obtain ⟨hB0, x2⟩ := HX.out
  have hbA : Below W0.heap.size W0 (W0.alloc (.cells #[.pointer x.p, .int .i64 x.r, .int .i64 x.c, .int .i64 x.o, .int .i64 x.d, .int .i64 x.u] 29)) := (Below.refl _ _).alloc (Nat.le_refl _) _
  have hz : Box (W0.alloc (.cells #[.pointer x.p, .int .i64 x.r, .int .i64 x.c, .int .i64 x.o, .int .i64 x.d, .int .i64 x.u] 29)) W0.heap.size ([x].flatMap Vw.cs) := Box.newA W0 ([x].flatMap Vw.cs) _ rfl
  have hB1 := below_step hB0 hB0.size hbA
  have HC := Lib.hid (HO.out _ hB1 _ hz)
  obtain ⟨p1, p2, p3⟩ := x2.facts
  have HB1 := Lib.hid (show _ ∧ _ from ⟨hB1, x2.below hbA⟩)
  clear hB0 x2 hbA hz hB1 HO HX
  go_wp2_with fail
  refine HC.out.mono ?_
  rintro e w1 ⟨rfl, hb1⟩
  obtain ⟨hB1, x2⟩ := HB1.out
  have HB2 := Lib.hid (show _ ∧ _ from ⟨below_step hB1 hB1.size hb1, x2.below hb1⟩)
  clear p1 p2 p3 hB1 hb1 x2 HB1 HC
  dsimp only
  by_cases hE : E = 0
  · subst hE
    rw [if_pos rfl] at hD
    have HDD := Lib.hid hD
    clear hD
    obtain ⟨hsome, hvec⟩ := HZ.out rfl
    have HSm := Lib.hid (Vw.Ok.sto HY.out.1 (hsome x (by simp))).1
    clear hsome hvec HZ
    obtain ⟨p1, p2, p3⟩ := HB2.out.2.facts
    go_wp2_with fail
    refine (HL.out _).mono ?_
    rintro e w2 ⟨rfl, hb2⟩
    have HB3 := Lib.hid (show _ ∧ _ from ⟨below_step HB2.out.1 HB2.out.1.size hb2, HB2.out.2.below hb2⟩)
    clear p1 p2 p3 hb2 HL HB2
    dsimp only
    go_wp2_with fail
    go_loopw [17] (fun s17 wr => ∃ (k : Nat) (ws : List Nat), k ≤ n ∧ s17 = .int .i64 k ∧ x.Ok wr sx ws ∧ Rw ws (scalP a x xs k) ∧ Words ws ∧ Box wr w.heap.size [.pointer x.p, .int .i64 x.r, .int .i64 x.c, .int .i64 x.o, .int .i64 x.d, .int .i64 x.u] ∧ Bel w.heap.size sx w wr) (fun s17 _ => n - (intOf s17).toNat)
    case atStart => exact ⟨0, xs, Nat.zero_le _, rfl, HY.out.1.below HB3.out.1, Rw.self HY.out.2, HY.out.2, HB3.out.2, Bel.of HB3.out.1⟩
    case round =>
      obtain ⟨k, ws, hk, rfl, hok, hrw, hWw, hbx, hB⟩ := hrel
      by_cases hlt : k < n
      · obtain ⟨sg, hsg⟩ := hrw.getVec x k
        obtain ⟨X, hX⟩ : ∃ X, X = x.getVec (scalP a x xs k) k := ⟨_, rfl⟩
        rw [← hX] at hsg
        have hgt := Get_any wr.drew x sx ws k (hok.below (below_drewN 1 (Below.refl _ wr)))
        rw [hsg] at hgt
        have HG := Lib.hid hgt
        have HXX := Lib.hid hX
        have hdr : Below wr.heap.size wr wr.drew := below_drewN 1 (Below.refl _ wr)
        have HR := Lib.hid (show _ ∧ _ ∧ _ ∧ _ ∧ _ ∧ _ from ⟨hok.below hdr, hrw, hWw, hbx.below hdr, hB.trans ((Bel.of hdr).mono hB.size), hlt⟩)
        have HS := Lib.hid (show ∀ W, Below wr.drew.heap.size wr.drew W → (fun W => (∀ i, W.cell? ⟨w.heap.size, i, none⟩ = ([.pointer x.p, .int .i64 x.r, .int .i64 x.c, .int .i64 x.o, .int .i64 x.d, .int .i64 x.u] : List Value)[i]?)) W from fun W h => ((hbx.below hdr).below h).cell)
        clear hok hrw hWw hbx hB hsg hX hgt hdr hk
        go_upto_region 7 with (fail)
        refine wp_region_items 7 [(true, 0), (true, 1), (true, 2), (true, 3), (true, 4), (false, 5), (false, 6)] (fun W => (∀ i, W.cell? ⟨w.heap.size, i, none⟩ = ([.pointer x.p, .int .i64 x.r, .int .i64 x.c, .int .i64 x.o, .int .i64 x.d, .int .i64 x.u] : List Value)[i]?)) (by kernel_rfl) (by kernel_rfl) (HS.out _ (Below.refl _ _)) ?_
        generalize wr.drew = w3 at *
        iterate 5 (refine iW_take (v := ?_) rfl rfl ?_ ?_; rotate_left; (next => (intro w' hSw; (try dsimp only at hSw); go_simp; (try (rw [if_pos (by omega)]; go_simp)); (try with_reducible rfl))); (simp only [Act.put, List.setIfInBounds_toArray, List.set_cons_zero, List.set_cons_succ]))
        refine iW_mid rfl rfl ?_
        go_simp
        refine HG.out.mono ?_
        rintro e w4 ⟨rfl, hb4⟩
        refine ⟨HS.out _ hb4, ?_⟩
        refine iW_mid rfl rfl ?_
        refine wp_flt rfl rfl rfl rfl ?_
        intro s5 n5
        have hb5 : Below w4.heap.size w4 (w4.drewN n5) := below_drewN n5 (Below.refl _ _)
        have hb45 := below_step hb4 hb4.size hb5
        refine ⟨HS.out _ hb45, ?_⟩
        generalize w4.drewN n5 = w5 at *
        refine iW_nil ?_
        go_simp
        have HPut := Lib.hid (Put_any w5 x sx ws k (raw (fmul a X) s5) (HR.out.1.below hb45))
        have HQ := Lib.hid (show _ ∧ _ ∧ _ from ⟨HR.out.2.2.2.1.below hb45, HR.out.2.2.2.2.1.trans ((Bel.of hb45).mono HR.out.2.2.2.2.1.size), hb45⟩)
        clear hb4 hb5 hb45 HS HG
        go_wp2_with fail
        refine HPut.out.mono ?_
        rintro e w6 ⟨rfl, hok6, hb6⟩
        have hne : w.heap.size ≠ sx := by have := HSm.out; omega
        have HE := Lib.hid (show _ ∧ _ ∧ _ ∧ _ ∧ _ from ⟨hok6, HR.out.2.1.putVec x k (fmul a X) s5, words_putVec HR.out.2.2.1 x k (raw_lt (fmul_lt a X) s5), HQ.out.1.bel hne hb6, HQ.out.2.1.trans (hb6.mono HQ.out.2.1.size)⟩)
        clear hok6 hb6 HPut hne
        go_wp2
        refine NoPanic.normal ?_
        go_wp2_with fail
        go_roundw
        case rel => exact ⟨k + 1, _, HR.out.2.2.2.2.2, by go_num, HE.out.1, by rw [scalP, ← HXX.out]; exact HE.out.2.1, HE.out.2.2⟩
        case measure => have := HR.out.2.2.2.2.2; simp [intOf]; omega
      · obtain rfl : k = n := by omega
        rw [← HDD.out] at hrw
        have HB := Lib.hid (show _ ∧ _ ∧ _ ∧ _ from ⟨hok, hrw, hWw, hB⟩)
        clear hok hrw hWw hB hbx hk
        go_wp2_with fail
        go_ret
        exact ⟨rfl, ws, HB.out⟩
  · have t1 : (E != 0) = true := by simp [hE]
    rw [if_neg hE] at hD
    subst hD
    clear hE
    go_wp2_with fail
    go_ret
    exact ⟨rfl, _, HY.out.1.below HB2.out.1, Rw.self HY.out.2, HY.out.2, Bel.of HB2.out.1⟩
/-- A vector, times a float, added to another one: the first n places. -/
def axpyP (a : Nat) (x : Vw) (xs : List Nat) (y : Vw) (ys : List Nat) : Nat → List Nat
  | 0 => ys
  | n + 1 => y.putVec (axpyP a x xs y ys n) n (fadd (y.getVec (axpyP a x xs y ys n) n) (fmul a (x.getVec xs n)))
def axpyL (a : Nat) (x y : Vw) (xs ys : List Nat) : List Nat := if openE [x, y] (fits2 x y) = 0 then axpyP a x xs y ys (lenV x.p x.r x.c) else ys
set_option maxHeartbeats 16000000 in
theorem Axpy_any (w : World) (a : Nat) (x y : Vw) (sx sy : Nat) (xs ys : List Nat) (hx : x.Ok w sx xs) (hy : y.Ok w sy ys) (wx : Words xs) (wy : Words ys) :
    Calls Try.prog 52 #[.float .f64 a, x.val, y.val] w fun e w' => e = .returned (.int .i64 (openE [x, y] (fits2 x y))) ∧ ∃ ws, y.Ok w' sy ws ∧ Rw ws (axpyL a x y xs ys) ∧ Words ws ∧ Bel w.heap.size sy w w' := by
  have hll := lenV_le (p := x.p) hx.small
  have HO := Lib.hid (fun W (h : Below w.heap.size w W) bx bY b hbx hby hb => open_any W 99 #[.pointer (some ⟨bx, 0, none⟩), .pointer (some ⟨bY, 0, none⟩)] b [x, y] (fits2 x y) hb (fun v hv => by
    simp only [List.mem_cons, List.not_mem_nil, or_false] at hv
    rcases hv with rfl | rfl
    · exact ⟨sx, xs, hx.below h⟩
    · exact ⟨sy, ys, hy.below h⟩) (by simp) (enters_of Try.func99 (by kernel_rfl) rfl) (fun _ W' h' => Axpyf_any W' x y bx bY (Box.below hbx h') (Box.below hby h') hx.small hy.small))
  have HC := Lib.hid (fun W (h : Below w.heap.size w W) => Copy_any W x sx xs (hx.below h))
  have HZ := Lib.hid (fun (h : openE [x, y] (fits2 x y) = 0) => openE_zero h)
  have HY := Lib.hid (show _ ∧ _ ∧ _ ∧ _ from ⟨hx, hy, wx, wy⟩)
  unfold axpyL
  generalize openE [x, y] (fits2 x y) = E at *
  obtain ⟨n, hn⟩ : ∃ n, n = lenV x.p x.r x.c := ⟨_, rfl⟩
  rw [← hn]
  obtain ⟨D, hD⟩ : ∃ D, D = (if E = 0 then axpyP a x xs y ys n else ys) := ⟨_, rfl⟩
  rw [← hD]
  rw [← hn] at hll
  have HN := Lib.hid hn
  clear hn
  obtain ⟨W0, hW0⟩ : ∃ W0, W0 = (w.alloc (.cells #[.pointer x.p, .int .i64 x.r, .int .i64 x.c, .int .i64 x.o, .int .i64 x.d, .int .i64 x.u] 29)).alloc (.cells #[.pointer y.p, .int .i64 y.r, .int .i64 y.c, .int .i64 y.o, .int .i64 y.d, .int .i64 y.u] 29) := ⟨_, rfl⟩
  have hB0 : Below w.heap.size w W0 := hW0 ▸ ((Below.refl _ _).alloc (Nat.le_refl _) _).alloc (by simp) _
  have x0 : Box W0 w.heap.size [.pointer x.p, .int .i64 x.r, .int .i64 x.c, .int .i64 x.o, .int .i64 x.d, .int .i64 x.u] := hW0 ▸ (Box.newA w [.pointer x.p, .int .i64 x.r, .int .i64 x.c, .int .i64 x.o, .int .i64 x.d, .int .i64 x.u] _ rfl).alloc _
  have x1 : Box W0 (w.heap.size + 1) [.pointer y.p, .int .i64 y.r, .int .i64 y.c, .int .i64 y.o, .int .i64 y.d, .int .i64 y.u] := hW0 ▸ Box.newA _ [.pointer y.p, .int .i64 y.r, .int .i64 y.c, .int .i64 y.o, .int .i64 y.d, .int .i64 y.u] _ (by simp)
  have HX := Lib.hid (show _ ∧ _ ∧ _ from ⟨hB0, x0, x1⟩)
  clear hx hy wx wy hB0 x0 x1
  show Calls Try.prog 52 #[.float .f64 a, (.agg #[.pointer x.p, .int .i64 x.r, .int .i64 x.c, .int .i64 x.o, .int .i64 x.d, .int .i64 x.u]), (.agg #[.pointer y.p, .int .i64 y.r, .int .i64 y.c, .int .i64 y.o, .int .i64 y.d, .int .i64 y.u])] w _
  go_enter Try.func52, Try.ntmps52
  go_upto_region 1 with (fail)
  rw [← hW0]
  clear hW0
  obtain ⟨hB0, x0, x1⟩ := HX.out
  have hbA : Below W0.heap.size W0 (W0.alloc (.cells #[.pointer x.p, .int .i64 x.r, .int .i64 x.c, .int .i64 x.o, .int .i64 x.d, .int .i64 x.u, .pointer y.p, .int .i64 y.r, .int .i64 y.c, .int .i64 y.o, .int .i64 y.d, .int .i64 y.u] 29)) := (Below.refl _ _).alloc (Nat.le_refl _) _
  have hz : Box (W0.alloc (.cells #[.pointer x.p, .int .i64 x.r, .int .i64 x.c, .int .i64 x.o, .int .i64 x.d, .int .i64 x.u, .pointer y.p, .int .i64 y.r, .int .i64 y.c, .int .i64 y.o, .int .i64 y.d, .int .i64 y.u] 29)) W0.heap.size ([x, y].flatMap Vw.cs) := Box.newA W0 ([x, y].flatMap Vw.cs) _ rfl
  have hB1 := below_step hB0 hB0.size hbA
  have HCo := Lib.hid (HO.out _ hB1 _ _ _ (x0.below hbA) (x1.below hbA) hz)
  obtain ⟨p1, p2, p3⟩ := x0.facts
  obtain ⟨q1, q2, q3⟩ := x1.facts
  have HB1 := Lib.hid (show _ ∧ _ ∧ _ from ⟨hB1, x0.below hbA, x1.below hbA⟩)
  clear hB0 x0 x1 hbA hz hB1 HO HX
  go_wp2_with fail
  refine HCo.out.mono ?_
  rintro e w1 ⟨rfl, hb1⟩
  obtain ⟨hB1, x0, x1⟩ := HB1.out
  have HB2 := Lib.hid (show _ ∧ _ ∧ _ from ⟨below_step hB1 hB1.size hb1, x0.below hb1, x1.below hb1⟩)
  clear p1 p2 p3 q1 q2 q3 hB1 hb1 x0 x1 HB1 HCo
  dsimp only
  by_cases hE : E = 0
  · subst hE
    rw [if_pos rfl] at hD
    have HDD := Lib.hid hD
    clear hD
    obtain ⟨hsome, hfit⟩ := HZ.out rfl
    have HSome := Lib.hid (show x.p.isSome = true ∧ y.p.isSome = true from ⟨hsome x (by simp), hsome y (by simp)⟩)
    unfold fits2 at hfit
    simp only [Bool.and_eq_true] at hfit
    have HVx := Lib.hid hfit.1
    have HSm := Lib.hid (Vw.Ok.sto HY.out.2.1 HSome.out.2)
    clear hsome hfit HZ
    obtain ⟨p1, p2, p3⟩ := HB2.out.2.1.facts
    go_wp2_with fail
    refine (HC.out _ HB2.out.1).mono ?_
    rintro e w3 ⟨st1, sb1, rfl, hst1, k1, k2, hb3⟩
    have hs1 := hst1 (isNone_some HSome.out.1)
    have hl1 := sto_lts hs1
    have hlast := HB2.out.2.2.lt
    have hws := HB2.out.1.size
    have hB3 := below_step HB2.out.1 HB2.out.1.size hb3
    have x0 := HB2.out.2.1.below hb3
    have x1 := HB2.out.2.2.below hb3
    have a0 := Vw.Apart.of (m := w.heap.size) (cpy_ok HY.out.1 hst1) (.inr (CpyF.of xs st1 HSome.out.1 HY.out.1.small.1 HY.out.1.small.2).p) (by omega) (by omega)
    have HA := Lib.hid (CpyF.of xs st1 HSome.out.1 HY.out.1.small.1 HY.out.1.small.2)
    clear p1 p2 p3 hst1 hs1
    generalize cpyV x st1 = cA at *
    have hsy := HSm.out.1
    have HK := Lib.hid (show KerW (six w3 w.heap.size cA) [(w.heap.size, [.pointer cA.p, .int .i64 cA.r, .int .i64 cA.c, .int .i64 cA.o, .int .i64 cA.d, .int .i64 cA.u]), (w.heap.size + 1, [.pointer y.p, .int .i64 y.r, .int .i64 y.c, .int .i64 y.o, .int .i64 y.d, .int .i64 y.u])] [(cA, sb1, x.list xs)] sy ∧ Below w.heap.size w (six w3 w.heap.size cA) from
      ⟨⟨fun p hp => by
        simp only [List.mem_cons, List.not_mem_nil, or_false] at hp
        rcases hp with rfl | rfl
        · exact six_box x0 cA
        · exact six_other x1 (by omega) cA, fun p hp => by
        simp only [List.mem_cons, List.not_mem_nil, or_false] at hp
        rcases hp with rfl | rfl
        · show w.heap.size ≠ sy; omega
        · show w.heap.size + 1 ≠ sy; omega, fun q hq => by
        simp only [List.mem_cons, List.not_mem_nil, or_false] at hq
        subst hq
        exact Vw.Apart.of (a0.bel (six_bel _ _ _ _)).1 (.inr HA.out.p) (show sb1 ≠ sy by omega) (show st1 ≠ sy by omega)⟩, six_below hB3 (Nat.le_refl _) cA⟩)
    obtain ⟨p1, p2, p3⟩ := x0.facts
    dsimp only [Vw.val]
    clear k1 k2 hl1 hlast hws hB3 x0 x1 a0 hsy hb3 HB2 HC
    go_upto_region 5 with (fail)
    rw [show (((((w3.setCell ⟨w.heap.size, 0, none⟩ (.pointer cA.p)).setCell ⟨w.heap.size, 1, none⟩ (.int .i64 cA.r)).setCell ⟨w.heap.size, 2, none⟩ (.int .i64 cA.c)).setCell ⟨w.heap.size, 3, none⟩ (.int .i64 cA.o)).setCell ⟨w.heap.size, 4, none⟩ (.int .i64 cA.d)).setCell ⟨w.heap.size, 5, none⟩ (.int .i64 cA.u) = six w3 w.heap.size cA from rfl]
    clear p1 p2 p3
    generalize six w3 w.heap.size cA = w4 at *
    have HLen := Lib.hid (fun W => Len_any cA.p cA.r cA.c cA.o cA.d cA.u W HA.out.bnd.1 HA.out.bnd.2.1)
    have hln : lenV cA.p cA.r cA.c = n := by
      rw [HN.out, HA.out.r, HA.out.c]
      have h1 := HVx.out
      unfold lenV vecV at *
      rw [HA.out.p]
      rw [HSome.out.1] at h1 ⊢
      rfl
    rw [hln] at HLen
    clear hln
    obtain ⟨p1, p2, p3⟩ := (HK.out.1.get 0 rfl).facts
    go_wp2_with fail
    refine (HLen.out _).mono ?_
    rintro e w5 ⟨rfl, hb5⟩
    have HK5 := Lib.hid (show _ ∧ _ from ⟨HK.out.1.below hb5, below_step HK.out.2 HK.out.2.size hb5⟩)
    clear p1 p2 p3 hb5 HLen HK
    dsimp only
    go_wp2_with fail
    go_loopw [21] (fun s21 wr => ∃ (k : Nat) (ws : List Nat), k ≤ n ∧ s21 = .int .i64 k ∧ y.Ok wr sy ws ∧ Rw ws (axpyP a x xs y ys k) ∧ Words ws ∧ KerW wr [(w.heap.size, [.pointer cA.p, .int .i64 cA.r, .int .i64 cA.c, .int .i64 cA.o, .int .i64 cA.d, .int .i64 cA.u]), (w.heap.size + 1, [.pointer y.p, .int .i64 y.r, .int .i64 y.c, .int .i64 y.o, .int .i64 y.d, .int .i64 y.u])] [(cA, sb1, x.list xs)] sy ∧ Bel w.heap.size sy w wr) (fun s21 _ => n - (intOf s21).toNat)
    case atStart => exact ⟨0, ys, Nat.zero_le _, rfl, HY.out.2.1.below HK5.out.2, Rw.self HY.out.2.2.2, HY.out.2.2.2, HK5.out.1, Bel.of HK5.out.2⟩
    case round =>
      obtain ⟨k, ws, hk, rfl, hok, hrw, hWw, hK, hB⟩ := hrel
      by_cases hlt : k < n
      · obtain ⟨sg, hsg⟩ := hrw.getVec y k
        obtain ⟨Y, hY⟩ : ∃ Y, Y = y.getVec (axpyP a x xs y ys k) k := ⟨_, rfl⟩
        rw [← hY] at hsg
        have hdr : Below wr.heap.size wr wr.drew := below_drewN 1 (Below.refl _ wr)
        have HGy := Lib.hid (show ∀ W, Below wr.drew.heap.size wr.drew W → Calls Try.prog 59 #[(.agg #[.pointer y.p, .int .i64 y.r, .int .i64 y.c, .int .i64 y.o, .int .i64 y.d, .int .i64 y.u]), .int .i64 (k : Int)] W fun e w' => e = .returned (.float .f64 (raw Y sg)) ∧ Below W.heap.size W w' from fun W h => by
          have hg := Get_any W y sy ws k ((hok.below hdr).below h)
          rw [hsg] at hg
          exact hg)
        have HGx := Lib.hid (show ∀ W, Below wr.drew.heap.size wr.drew W → Calls Try.prog 59 #[(.agg #[.pointer cA.p, .int .i64 cA.r, .int .i64 cA.c, .int .i64 cA.o, .int .i64 cA.d, .int .i64 cA.u]), .int .i64 (k : Int)] W fun e w' => e = .returned (.float .f64 (x.getVec xs k)) ∧ Below W.heap.size W w' from fun W h => by
          have hg := Get_any W cA sb1 (x.list xs) k (((hK.below hdr).below h).vw 0 rfl).1
          rw [HA.out.vec HVx.out k (by rw [← HN.out]; exact hlt)] at hg
          exact hg)
        have HYY := Lib.hid hY
        have HR := Lib.hid (show _ ∧ _ ∧ _ ∧ _ ∧ _ ∧ _ from ⟨hok.below hdr, hrw, hWw, hK.below hdr, hB.trans ((Bel.of hdr).mono hB.size), hlt⟩)
        have HS := Lib.hid (show ∀ W, Below wr.drew.heap.size wr.drew W → (fun W => (∀ i, W.cell? ⟨w.heap.size, i, none⟩ = ([.pointer cA.p, .int .i64 cA.r, .int .i64 cA.c, .int .i64 cA.o, .int .i64 cA.d, .int .i64 cA.u] : List Value)[i]?) ∧ (∀ i, W.cell? ⟨w.heap.size + 1, i, none⟩ = ([.pointer y.p, .int .i64 y.r, .int .i64 y.c, .int .i64 y.o, .int .i64 y.d, .int .i64 y.u] : List Value)[i]?)) W from fun W h => ⟨(((hK.below hdr).below h).get 0 rfl).cell, (((hK.below hdr).below h).get 1 rfl).cell⟩)
        clear hok hrw hWw hK hB hsg hY hdr hk
        obtain ⟨X, hX⟩ : ∃ X, X = x.getVec xs k := ⟨_, rfl⟩
        rw [← hX] at HGx
        have HXX := Lib.hid hX
        clear hX
        go_upto_region 8 with (fail)
        refine wp_region_items 11 [(true, 0), (true, 1), (true, 2), (true, 3), (true, 5), (true, 6), (true, 7), (false, 4), (false, 8), (false, 9), (false, 10)] (fun W => (∀ i, W.cell? ⟨w.heap.size, i, none⟩ = ([.pointer cA.p, .int .i64 cA.r, .int .i64 cA.c, .int .i64 cA.o, .int .i64 cA.d, .int .i64 cA.u] : List Value)[i]?) ∧ (∀ i, W.cell? ⟨w.heap.size + 1, i, none⟩ = ([.pointer y.p, .int .i64 y.r, .int .i64 y.c, .int .i64 y.o, .int .i64 y.d, .int .i64 y.u] : List Value)[i]?)) (by kernel_rfl) (by kernel_rfl) (HS.out _ (Below.refl _ _)) ?_
        generalize wr.drew = v3 at *
        iterate 7 (refine iW_take (v := ?_) rfl rfl ?_ ?_; rotate_left; (next => (intro w' hSw; (try dsimp only at hSw); go_simp; (try (rw [if_pos (by omega)]; go_simp)); (try with_reducible rfl))); (simp only [Act.put, List.setIfInBounds_toArray, List.set_cons_zero, List.set_cons_succ]))
        refine iW_mid rfl rfl ?_
        go_simp
        refine (HGy.out v3 (Below.refl _ _)).mono ?_
        rintro e v4 ⟨rfl, hb4⟩
        refine ⟨HS.out _ hb4, ?_⟩
        refine iW_mid rfl rfl ?_
        go_simp
        refine (HGx.out v4 hb4).mono ?_
        rintro e v5 ⟨rfl, hb5⟩
        have hb45 := below_step hb4 hb4.size hb5
        refine ⟨HS.out _ hb45, ?_⟩
        refine iW_mid rfl rfl ?_
        refine wp_flt rfl rfl rfl rfl ?_
        intro s6 n6
        have hb6 := below_step hb45 hb45.size (below_drewN n6 (Below.refl _ v5))
        refine ⟨HS.out _ hb6, ?_⟩
        generalize v5.drewN n6 = v6 at *
        refine iW_mid rfl rfl ?_
        refine wp_flt rfl rfl rfl rfl ?_
        intro s7 n7
        have hb7 := below_step hb6 hb6.size (below_drewN n7 (Below.refl _ v6))
        refine ⟨HS.out _ hb7, ?_⟩
        generalize v6.drewN n7 = v7 at *
        refine iW_nil ?_
        go_simp
        have HPut := Lib.hid (Put_any v7 y sy ws k (raw (fadd Y (fmul a X)) s7) (HR.out.1.below hb7))
        have HQ := Lib.hid (show _ ∧ _ from ⟨HR.out.2.2.2.1.below hb7, HR.out.2.2.2.2.1.trans ((Bel.of hb7).mono HR.out.2.2.2.2.1.size)⟩)
        clear hb4 hb5 hb45 hb6 hb7 HS HGx HGy
        go_wp2_with fail
        refine HPut.out.mono ?_
        rintro e v8 ⟨rfl, hok8, hb8⟩
        have HE := Lib.hid (show _ ∧ _ ∧ _ ∧ _ ∧ _ from ⟨hok8, HR.out.2.1.putVec y k (fadd Y (fmul a X)) s7, words_putVec HR.out.2.2.1 y k (raw_lt (fadd_lt Y (fmul a X)) s7), HQ.out.1.bel hb8, HQ.out.2.trans (hb8.mono HQ.out.2.size)⟩)
        clear hok8 hb8 HPut
        go_wp2
        refine NoPanic.normal ?_
        go_wp2_with fail
        go_roundw
        case rel => exact ⟨k + 1, _, HR.out.2.2.2.2.2, by go_num, HE.out.1, by rw [axpyP, ← HYY.out, ← HXX.out]; exact HE.out.2.1, HE.out.2.2⟩
        case measure => have := HR.out.2.2.2.2.2; simp [intOf]; omega
      · obtain rfl : k = n := by omega
        rw [← HDD.out] at hrw
        have HB := Lib.hid (show _ ∧ _ ∧ _ ∧ _ from ⟨hok, hrw, hWw, hB⟩)
        clear hok hrw hWw hB hK hk
        go_wp2_with fail
        go_ret
        exact ⟨rfl, ws, HB.out⟩
  · have t1 : (E != 0) = true := by simp [hE]
    rw [if_neg hE] at hD
    subst hD
    clear hE
    go_wp2_with fail
    go_ret
    exact ⟨rfl, _, HY.out.2.1.below HB2.out.1, Rw.self HY.out.2.2.2, HY.out.2.2.2, Bel.of HB2.out.1⟩
end Go.Proofs.Ytbcdpibcieadlaa
