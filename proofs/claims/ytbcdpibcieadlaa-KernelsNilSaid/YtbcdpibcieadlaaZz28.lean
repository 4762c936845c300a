/- Layer 8: a symmetric matrix, told by its lower places, times a vector. No condition but on lengths. -/
import Derived.Test.YtbcdpibcieadlaaLsZ
import Derived.Test.YtbcdpibcieadlaaZz21
namespace Go.Proofs.Ytbcdpibcieadlaa
open Go Go.RowKit
set_option maxRecDepth 1000000

/-- An entry of a symmetric matrix, of which the lower places alone are read. -/
def lowG (m : Vw) (ms : List Nat) (i k : Nat) : Nat := m.get ms (max i k : Nat) (min i k : Nat)
set_option maxHeartbeats 4000000 in
theorem Lower1_any (w : World) (m : Vw) (sb : Nat) (ms : List Nat) (i k bm : Nat) (hok : m.Ok w sb ms) (hW : Words ms) (hm : Box w bm [.pointer m.p, .int .i64 m.r, .int .i64 m.c, .int .i64 m.o, .int .i64 m.d, .int .i64 m.u]) :
    Calls Try.prog 112 #[.int .i64 i, .int .i64 k, .pointer (some ⟨bm, 0, none⟩)] w fun e w' => (∃ s, e = .returned (.float .f64 (raw (lowG m ms i k) s))) ∧ Below w.heap.size w w' := by
  unfold lowG
  obtain ⟨p1, p2, p3⟩ := hm.facts
  have HA := Lib.hid (fun (a b : Nat) => At_any w m sb ms (a : Int) (b : Int) hok)
  have HW := Lib.hid hW
  clear hok hW
  rcases Nat.lt_trichotomy i k with hik | hik | hik
  · have e1 : max i k = k := by omega
    have e2 : min i k = i := by omega
    rw [e1, e2]
    have hmx : max (i : Int) (k : Int) = k := by omega
    have hmn : min (i : Int) (k : Int) = i := by omega
    clear e1 e2
    go_enter Try.func112, Try.ntmps112
    go_wp2_with fail
    refine (HA.out _ _).mono ?_
    rintro e w' ⟨rfl, hb⟩
    obtain ⟨s, hs⟩ := raw_self (get_word (v := m) HW.out k i)
    have HB := Lib.hid (And.intro hs hb)
    clear hs hb
    dsimp only
    go_wp2_with fail
    go_ret
    exact ⟨⟨s, by rw [← HB.out.1]; rfl⟩, HB.out.2⟩
  · subst hik
    have e1 : max i i = i := by omega
    have e2 : min i i = i := by omega
    rw [e1, e2]
    clear e1 e2
    go_enter Try.func112, Try.ntmps112
    go_wp2_with fail
    refine (HA.out _ _).mono ?_
    rintro e w' ⟨rfl, hb⟩
    obtain ⟨s, hs⟩ := raw_self (get_word (v := m) HW.out i i)
    have HB := Lib.hid (And.intro hs hb)
    clear hs hb
    dsimp only
    go_wp2_with fail
    go_ret
    exact ⟨⟨s, by rw [← HB.out.1]; rfl⟩, HB.out.2⟩
  · have e1 : max i k = i := by omega
    have e2 : min i k = k := by omega
    rw [e1, e2]
    have hmx : max (i : Int) (k : Int) = i := by omega
    have hmn : min (i : Int) (k : Int) = k := by omega
    clear e1 e2
    go_enter Try.func112, Try.ntmps112
    go_wp2_with fail
    refine (HA.out _ _).mono ?_
    rintro e w' ⟨rfl, hb⟩
    obtain ⟨s, hs⟩ := raw_self (get_word (v := m) HW.out i k)
    have HB := Lib.hid (And.intro hs hb)
    clear hs hb
    dsimp only
    go_wp2_with fail
    go_ret
    exact ⟨⟨s, by rw [← HB.out.1]; rfl⟩, HB.out.2⟩
set_option maxHeartbeats 1000000 in
theorem lower_any (m : Vw) (w : World) : Calls Try.prog 90 #[(.agg #[.pointer m.p, .int .i64 m.r, .int .i64 m.c, .int .i64 m.o, .int .i64 m.d, .int .i64 m.u])] w fun e w' => e = .returned (.func (.func 112) #[] #[.pointer (some ⟨w.heap.size, 0, none⟩)]) ∧ w' = w.alloc (.cells #[.pointer m.p, .int .i64 m.r, .int .i64 m.c, .int .i64 m.o, .int .i64 m.d, .int .i64 m.u] 29) := by
  go_enter Try.func90, Try.ntmps90
  go_wp2
  go_ret
  exact ⟨rfl, rfl⟩
def symvL (a b : Nat) (m x y : Vw) (ms xs ys : List Nat) : List Nat := if openE [m, x, y] (fits_Symv m x y) = 0 then timesL a b (fun i k => lowG m ms i k) (fun k => x.getVec xs k) (fun k => y.getVec ys k) y m.c ys m.r else ys
set_option maxHeartbeats 16000000 in
theorem Symv_any (w : World) (a b : Nat) (m x y : Vw) (sm sx sy : Nat) (ms xs ys : List Nat) (hm : m.Ok w sm ms) (hx : x.Ok w sx xs) (hy : y.Ok w sy ys) (hwm : Words ms) (hwx : Words xs) (hwy : Words ys) :
    Calls Try.prog 38 #[.float .f64 a, m.val, x.val, .float .f64 b, y.val] w fun e w' => e = .returned (.int .i64 (openE [m, x, y] (fits_Symv m x y))) ∧ ∃ ws, y.Ok w' sy ws ∧ Rw ws (symvL a b m x y ms xs ys) ∧ Words ws ∧ Bel w.heap.size sy w w' := by
  have HO := Lib.hid (fun W (h : Below w.heap.size w W) bm bx bY b hbm hbx hby hb => open_any W 89 #[.pointer (some ⟨bm, 0, none⟩), .pointer (some ⟨bx, 0, none⟩), .pointer (some ⟨bY, 0, none⟩)] b [m, x, y] (fits_Symv m x y) hb (fun v hv => by
    simp only [List.mem_cons, List.not_mem_nil, or_false] at hv
    rcases hv with rfl | rfl | rfl
    · exact ⟨sm, ms, hm.below h⟩
    · exact ⟨sx, xs, hx.below h⟩
    · exact ⟨sy, ys, hy.below h⟩) (by simp) (enters_of Try.func89 (by kernel_rfl) rfl) (fun _ W' h' => Symvf_any W' m x y bm bx bY (Box.below hbm h') (Box.below hbx h') (Box.below hby h') hx.small hy.small))
  unfold symvL
  obtain ⟨W0, hW0⟩ : ∃ W0, W0 = ((w.alloc (.cells #[.pointer m.p, .int .i64 m.r, .int .i64 m.c, .int .i64 m.o, .int .i64 m.d, .int .i64 m.u] 29)).alloc (.cells #[.pointer x.p, .int .i64 x.r, .int .i64 x.c, .int .i64 x.o, .int .i64 x.d, .int .i64 x.u] 29)).alloc (.cells #[.pointer y.p, .int .i64 y.r, .int .i64 y.c, .int .i64 y.o, .int .i64 y.d, .int .i64 y.u] 29) := ⟨_, rfl⟩
  have hB0 : Below w.heap.size w W0 := hW0 ▸ (((Below.refl _ _).alloc (Nat.le_refl _) _).alloc (by simp) _).alloc (by simp; omega) _
  have x0 : Box W0 w.heap.size [.pointer m.p, .int .i64 m.r, .int .i64 m.c, .int .i64 m.o, .int .i64 m.d, .int .i64 m.u] := hW0 ▸ ((Box.newA w [.pointer m.p, .int .i64 m.r, .int .i64 m.c, .int .i64 m.o, .int .i64 m.d, .int .i64 m.u] _ rfl).alloc _).alloc _
  have x1 : Box W0 (w.heap.size + 1) [.pointer x.p, .int .i64 x.r, .int .i64 x.c, .int .i64 x.o, .int .i64 x.d, .int .i64 x.u] := hW0 ▸ (Box.newA _ [.pointer x.p, .int .i64 x.r, .int .i64 x.c, .int .i64 x.o, .int .i64 x.d, .int .i64 x.u] _ (by simp)).alloc _
  have x3 : Box W0 (w.heap.size + 1 + 1) [.pointer y.p, .int .i64 y.r, .int .i64 y.c, .int .i64 y.o, .int .i64 y.d, .int .i64 y.u] := hW0 ▸ Box.newA _ [.pointer y.p, .int .i64 y.r, .int .i64 y.c, .int .i64 y.o, .int .i64 y.d, .int .i64 y.u] _ (by simp)
  have HX := Lib.hid (show _ ∧ _ ∧ _ ∧ _ from ⟨hB0, x0, x1, x3⟩)
  have HC := Lib.hid (fun W (h : Below w.heap.size w W) => Copy_any W m sm ms (hm.below h))
  have HY := Lib.hid (show _ ∧ _ ∧ _ ∧ _ ∧ _ ∧ _ from ⟨hm, hx, hy, hwm, hwx, hwy⟩)
  have HZ := Lib.hid (fun (h : openE [m, x, y] (fits_Symv m x y) = 0) => openE_zero h)
  clear hB0 x0 x1 x3 hm hx hy hwm hwx hwy
  show Calls Try.prog 38 #[.float .f64 a, (.agg #[.pointer m.p, .int .i64 m.r, .int .i64 m.c, .int .i64 m.o, .int .i64 m.d, .int .i64 m.u]), (.agg #[.pointer x.p, .int .i64 x.r, .int .i64 x.c, .int .i64 x.o, .int .i64 x.d, .int .i64 x.u]), .float .f64 b, (.agg #[.pointer y.p, .int .i64 y.r, .int .i64 y.c, .int .i64 y.o, .int .i64 y.d, .int .i64 y.u])] w _
  generalize openE [m, x, y] (fits_Symv m x y) = E at *
  obtain ⟨D, hD⟩ : ∃ D, D = (if E = 0 then timesL a b (fun i k => lowG m ms i k) (fun k => x.getVec xs k) (fun k => y.getVec ys k) y m.c ys m.r else ys) := ⟨_, rfl⟩
  rw [← hD]
  go_enter Try.func38, Try.ntmps38
  go_upto_region 1 with (fail)
  rw [← hW0]
  clear hW0
  obtain ⟨hB0, x0, x1, x3⟩ := HX.out
  have hbA : Below W0.heap.size W0 (W0.alloc (.cells #[.pointer m.p, .int .i64 m.r, .int .i64 m.c, .int .i64 m.o, .int .i64 m.d, .int .i64 m.u, .pointer x.p, .int .i64 x.r, .int .i64 x.c, .int .i64 x.o, .int .i64 x.d, .int .i64 x.u, .pointer y.p, .int .i64 y.r, .int .i64 y.c, .int .i64 y.o, .int .i64 y.d, .int .i64 y.u] 29)) := (Below.refl _ _).alloc (Nat.le_refl _) _
  have hz : Box (W0.alloc (.cells #[.pointer m.p, .int .i64 m.r, .int .i64 m.c, .int .i64 m.o, .int .i64 m.d, .int .i64 m.u, .pointer x.p, .int .i64 x.r, .int .i64 x.c, .int .i64 x.o, .int .i64 x.d, .int .i64 x.u, .pointer y.p, .int .i64 y.r, .int .i64 y.c, .int .i64 y.o, .int .i64 y.d, .int .i64 y.u] 29)) W0.heap.size ([m, x, y].flatMap Vw.cs) := Box.newA W0 ([m, x, y].flatMap Vw.cs) _ rfl
  have hB1 := below_step hB0 hB0.size hbA
  have HCo := Lib.hid (HO.out _ hB1 _ _ _ _ (x0.below hbA) (x1.below hbA) (x3.below hbA) hz)
  obtain ⟨p1, p2, p3⟩ := x0.facts
  obtain ⟨q1, q2, q3⟩ := x1.facts
  obtain ⟨r1, r2, r3⟩ := x3.facts
  have HB1 := Lib.hid (show _ ∧ _ ∧ _ ∧ _ from ⟨hB1, x0.below hbA, x1.below hbA, x3.below hbA⟩)
  clear hB0 x0 x1 x3 hbA hz hB1 HO HX
  go_wp2_with fail
  refine HCo.out.mono ?_
  rintro e w1 ⟨rfl, hb1⟩
  obtain ⟨hB1, x0, x1, x3⟩ := HB1.out
  have HB2 := Lib.hid (show _ ∧ _ ∧ _ ∧ _ from ⟨below_step hB1 hB1.size hb1, x0.below hb1, x1.below hb1, x3.below hb1⟩)
  clear p1 p2 p3 q1 q2 q3 r1 r2 r3 hB1 hb1 x0 x1 x3 HB1 HCo
  dsimp only
  by_cases hE : E = 0
  · subst hE
    rw [if_pos rfl] at hD
    have HDD := Lib.hid hD
    clear hD
    obtain ⟨hsome, hfit⟩ := HZ.out rfl
    have HSome := Lib.hid (show m.p.isSome = true ∧ y.p.isSome = true from ⟨hsome m (by simp), hsome y (by simp)⟩)
    unfold fits_Symv at hfit
    simp only [Bool.and_eq_true] at hfit
    have HFit := Lib.hid (And.intro (vecN_spec hfit.2.1) (show vecV y.p y.r y.c = true ∧ m.r = lenV y.p y.r y.c from by have h := vecN_spec hfit.2.2; have e := of_decide_eq_true hfit.1; exact ⟨h.1, by rw [e]; exact h.2⟩))
    have HSq := Lib.hid (of_decide_eq_true hfit.1)
    clear hsome hfit HZ
    go_upto_region 4 with (fail)
    obtain ⟨hB2, x0, x1, x3⟩ := HB2.out
    have hdr : Below w1.heap.size w1 w1.drew := below_drewN 1 (Below.refl _ w1)
    have HB3 := Lib.hid (below_step hB2 hB2.size hdr)
    replace x0 := x0.below hdr
    replace x1 := x1.below hdr
    replace x3 := x3.below hdr
    have HS := Lib.hid (show ∀ W, Below w1.drew.heap.size w1.drew W → (fun W => (∀ i, W.cell? ⟨w.heap.size, i, none⟩ = ([.pointer m.p, .int .i64 m.r, .int .i64 m.c, .int .i64 m.o, .int .i64 m.d, .int .i64 m.u] : List Value)[i]?) ∧ (∀ i, W.cell? ⟨w.heap.size + 1, i, none⟩ = ([.pointer x.p, .int .i64 x.r, .int .i64 x.c, .int .i64 x.o, .int .i64 x.d, .int .i64 x.u] : List Value)[i]?) ∧ (∀ i, W.cell? ⟨w.heap.size + 1 + 1, i, none⟩ = ([.pointer y.p, .int .i64 y.r, .int .i64 y.c, .int .i64 y.o, .int .i64 y.d, .int .i64 y.u] : List Value)[i]?)) W from fun W h => ⟨(x0.below h).cell, (x1.below h).cell, (x3.below h).cell⟩)
    refine wp_region_items 11 [(true, 0), (true, 1), (true, 3), (true, 5), (true, 8), (true, 9), (true, 10), (false, 2), (false, 4), (false, 6), (false, 7)] (fun W => (∀ i, W.cell? ⟨w.heap.size, i, none⟩ = ([.pointer m.p, .int .i64 m.r, .int .i64 m.c, .int .i64 m.o, .int .i64 m.d, .int .i64 m.u] : List Value)[i]?) ∧ (∀ i, W.cell? ⟨w.heap.size + 1, i, none⟩ = ([.pointer x.p, .int .i64 x.r, .int .i64 x.c, .int .i64 x.o, .int .i64 x.d, .int .i64 x.u] : List Value)[i]?) ∧ (∀ i, W.cell? ⟨w.heap.size + 1 + 1, i, none⟩ = ([.pointer y.p, .int .i64 y.r, .int .i64 y.c, .int .i64 y.o, .int .i64 y.d, .int .i64 y.u] : List Value)[i]?)) (by kernel_rfl) (by kernel_rfl) (HS.out _ (Below.refl _ _)) ?_
    clear hdr hB2 x0 x1 x3 HB2
    generalize w1.drew = w2 at *
    iterate 7 (refine iW_take (v := ?_) rfl rfl ?_ ?_; rotate_left; (next => (intro w' hSw; (try dsimp only at hSw); go_simp; (try (rw [if_pos (by omega)]; go_simp)); (try with_reducible rfl))); (simp only [Act.put, List.setIfInBounds_toArray, List.set_cons_zero, List.set_cons_succ]))
    refine iW_mid rfl rfl ?_
    go_simp
    refine (Rows_any m.p m.r m.c m.o m.d m.u w2).mono ?_
    rintro e w3 ⟨rfl, hb3⟩
    have HB4 := Lib.hid (below_step HB3.out HB3.out.size hb3)
    refine ⟨HS.out _ hb3, ?_⟩
    refine iW_mid rfl rfl ?_
    go_simp
    refine (Cols_any m.p m.r m.c m.o m.d m.u w3).mono ?_
    rintro e w4 ⟨rfl, hb4⟩
    have HB5 := Lib.hid (below_step HB4.out HB4.out.size hb4)
    have hb34 := below_step hb3 hb3.size hb4
    refine ⟨HS.out _ hb34, ?_⟩
    refine iW_mid rfl rfl ?_
    go_simp
    refine (HC.out w4 HB5.out).mono ?_
    rintro e w5 ⟨st1, sb1, rfl, hst1, k1, k2, hb5⟩
    have HB6 := Lib.hid (below_step HB5.out HB5.out.size hb5)
    have hs5 := HB5.out.size
    refine ⟨HS.out _ (below_step hb34 hb34.size hb5), ?_⟩
    have hso := Vw.Ok.sto HY.out.2.2.1 HSome.out.2
    have am := Vw.Apart.of (m := sy) (cpy_ok HY.out.1 hst1) (cpy_p m st1) (by have := hso.1; omega) (by have := hso.1; omega)
    have hgm := fun i k hi hk => cpy_get m ms st1 i k HSome.out.1 hi hk
    generalize cpyV m st1 = cm at *
    refine iW_mid rfl rfl ?_
    go_simp
    refine (lower_any cm w5).mono ?_
    rintro e w5b ⟨rfl, hw5b⟩
    have hb5b : Below w5.heap.size w5 w5b := hw5b ▸ (Below.refl _ _).alloc (Nat.le_refl _) _
    have hxb : Box w5b w5.heap.size [.pointer cm.p, .int .i64 cm.r, .int .i64 cm.c, .int .i64 cm.o, .int .i64 cm.d, .int .i64 cm.u] := hw5b ▸ Box.newA w5 [.pointer cm.p, .int .i64 cm.r, .int .i64 cm.c, .int .i64 cm.o, .int .i64 cm.d, .int .i64 cm.u] _ rfl
    have am2 := am.below hb5b
    have hne : w5.heap.size ≠ sy := by have := hso.1; have := HB6.out.size; omega
    have HB6b := Lib.hid (below_step HB6.out HB6.out.size hb5b)
    refine ⟨HS.out _ (below_step (below_step hb34 hb34.size hb5) (below_step hb34 hb34.size hb5).size hb5b), ?_⟩
    clear hw5b
    have hFn : Fn2 w5b sy (.func (.func 112) #[] #[.pointer (some ⟨w5.heap.size, 0, none⟩)]) m.r m.c (fun i k => lowG m ms i k) := by
      refine ⟨_, _, _, rfl, enters_of Try.func112 (by kernel_rfl) rfl, fun i k W hi hk hb => ?_⟩
      have h1 := Lower1_any W cm sb1 (m.list ms) i k w5.heap.size (am2.bel hb).1 (list_words8 HY.out.2.2.2.1) (hxb.bel hne hb)
      have hsq := HSq.out
      have h2 : lowG cm (m.list ms) i k = lowG m ms i k := hgm (max i k) (min i k) (by omega) (by omega)
      rw [h2] at h1
      exact h1
    have hT := times_any w5b a b m.r m.c _ _ x y sx sy xs ys (HY.out.2.1.below HB6b.out) (HY.out.2.2.1.below HB6b.out) HY.out.2.2.2.2.1 HY.out.2.2.2.2.2 hFn HFit.out.1.1 HFit.out.2.1 HFit.out.1.2 HFit.out.2.2 (Nat.lt_of_lt_of_le hso.1 HB6b.out.size) (fun st h => Nat.lt_of_lt_of_le (hso.2 st h) HB6b.out.size)
    rw [← HDD.out] at hT
    have HT := Lib.hid hT
    clear hb3 hb4 hb34 hb5 hs5 hso am am2 hxb hne hb5b hgm hFn hT hst1 k1 k2 HS HC
    dsimp only [Vw.val]
    refine iW_nil ?_
    go_simp
    go_wp2_with fail
    refine HT.out.mono ?_
    rintro e w6 ⟨rfl, ws, hok, hrw, hW, hbl⟩
    have HE := Lib.hid (show _ ∧ _ ∧ _ ∧ _ from ⟨hok, hrw, hW, (Bel.of HB6b.out).trans (hbl.mono HB6b.out.size)⟩)
    clear hok hrw hW hbl HT
    dsimp only
    go_wp2
    refine NoPanic.normal ?_
    go_wp2_with fail
    go_ret
    exact ⟨rfl, ws, HE.out⟩
  · have t1 : (E != 0) = true := by simp [hE]
    rw [if_neg hE] at hD
    subst hD
    clear hE
    go_wp2_with fail
    go_ret
    exact ⟨rfl, _, HY.out.2.2.1.below HB2.out.1, Rw.self HY.out.2.2.2.2.2, HY.out.2.2.2.2.2, Bel.of HB2.out.1⟩
end Go.Proofs.Ytbcdpibcieadlaa

/- Layer 8: the range over the lower places of so many rows. No condition. -/
namespace Go.Proofs.Ytbcdpibcieadlaa
open Go Go.RowKit Go.Shelf
attribute [local go_sem] Oper.semAt_some
set_option maxRecDepth 100000

set_option maxHeartbeats 1000000 in
theorem half_any (n : Nat) (w : World) : Calls Try.prog 93 #[.int .i64 n] w fun e w' => e = .returned (.func (.func 113) #[] #[.pointer (some ⟨w.heap.size, 0, none⟩)]) ∧ w' = w.alloc (.cells #[.int .i64 n] 3) := by
  go_enter Try.func93, Try.ntmps93
  go_wp2
  go_ret
  exact ⟨rfl, rfl⟩
set_option maxHeartbeats 4000000 in
theorem half_givesJ (n : Nat) (hn : 1 ≤ n) (N bn l : Nat) (hN : N ≤ 512) (J : Nat → Nat → World → Prop) (W : World) (hb : Box W bn [.int .i64 N]) (hnext : ∀ i A, J i (i + 1) A → J (i + 1) 0 A)
    (hY : ∀ (i j : Nat) (A : World), i < N → j ≤ i → J i j A → YieldAt Fence.wide (n - 1) Try.prog l #[.int .i64 (i : Int), .int .i64 (j : Int)] A fun e A' => e = .returned (.bool true) ∧ J i (j + 1) A')
    (h0 : J 0 0 W) : CallsIn Fence.wide n Try.prog 113 (#[.func (.yield l) #[] #[]] ++ #[.pointer (some ⟨bn, 0, none⟩)]) W fun e W' => (∃ u, e = .returned u) ∧ J N 0 W' := by
  obtain ⟨b1, b2, b3⟩ := hb.facts
  refine callsIn_of_wp Try.func113 rfl trivial ?_ rfl
  simp only [Try.ntmps113, List.size_toArray, List.length_cons, List.length_nil, Nat.reduceAdd, Nat.reduceSub, Array.replicate_succ, Array.replicate_zero, List.push_toArray, List.append_toArray, List.nil_append, List.cons_append]
  gi_wp2
  clear b1 b2 b3
  gi_loopw [6] (fun s6 wr => ∃ i : Nat, i ≤ N ∧ s6 = .int .i64 i ∧ J i 0 wr) (fun s6 _ => N - (intOf s6).toNat)
  case atStart => exact ⟨0, Nat.zero_le _, rfl, h0⟩
  case round =>
    obtain ⟨i, hi, rfl, hJs⟩ := hrel
    by_cases hlt : i < N
    · gi_wp2
      gi_loopw [11] (fun s11 wr => ∃ j : Nat, j ≤ i + 1 ∧ s11 = .int .i64 j ∧ J i j wr) (fun s11 _ => i + 1 - (intOf s11).toNat)
      case atStart => exact ⟨0, Nat.zero_le _, rfl, hJs⟩
      case round =>
        clear hJs
        obtain ⟨j, hj, rfl, hJs⟩ := hrel
        by_cases hlt2 : j < i + 1
        · obtain ⟨fn, tmps, assign, body, hy, hR⟩ := hY i j wr hlt (by omega) hJs
          gi_wp2
          refine hR.mono ?_
          rintro e W3 ⟨rfl, hJ3⟩
          gi_wp2
          go_roundw
          case rel => exact ⟨j + 1, by omega, by go_num, hJ3⟩
          case measure => simp [intOf]; omega
        · obtain rfl : j = i + 1 := by omega
          gi_wp2
          go_roundw
          case rel => exact ⟨i + 1, by omega, by go_num, hnext _ _ hJs⟩
          case measure => simp [intOf]; omega
    · obtain rfl : i = N := by omega
      gi_wp2
      go_end0
      exact ⟨⟨_, rfl⟩, hJs⟩
/-- How a round ends. -/
def roundH (b : Nat) (I : World → Prop) (W : World) : Exit → Act → World → Prop
  | .normal, _, W' => KeepsFrom b W W' ∧ I W'
  | _, _, _ => False
theorem half_loopJ {g : Operand} {ps : Array Tmp} {assign body : Code} {Q : Exit → Act → World → Prop} {T : Array Value} {ds : List Deferred} {w : World} (n : Nat) (hn : 3 ≤ n) {N bn : Nat} (hN : N ≤ 512) (hb : Box w bn [.int .i64 N])
    (hg : (Act.mk T ds).eval g = .func (.func 113) #[] #[.pointer (some ⟨bn, 0, none⟩)]) (hps : ps.size = 2)
    (I : Nat → Nat → World → Prop) (hI : ∀ i j A, I i j A → w.heap.size ≤ A.heap.size) (hIs : ∀ i j A B, I i j A → StillC w.heap.size A B → I i j B) (hnext : ∀ i A, I i (i + 1) A → I (i + 1) 0 A) (h0 : I 0 0 w) (upd : Array Value → Nat → Nat → Array Value)
    (hassign : ∀ (l i j : Nat) (W : World) (K : Act → World → Prop), K ⟨upd T i j, []⟩ W →
      assign.wpIn (Fence.wide.inRound l) (n - 1 - 1) Try.prog (Exit.then K (fun _ _ _ => False)) { tmps := (ps.zip #[.int .i64 (i : Int), .int .i64 (j : Int)]).foldl (fun t (p, v) => t.setIfInBounds p v) T, defers := [] } W)
    (hbody : ∀ (l i j : Nat) (W : World), i < N → j ≤ i → I i j W → body.wpIn (Fence.wide.inRound l) (n - 1 - 1) Try.prog (roundH w.heap.size (I i (j + 1)) W) ⟨upd T i j, []⟩ W)
    (hdone : ∀ (D : Nat) (W : World), w.heap.size ≤ D → I N 0 W → W.heap[D]? = some (.deferred (some [])) → Q .normal ⟨T, { target := .collected D, args := #[] } :: ds⟩ W) :
    (Code.rangeFunc g ps assign body).wpIn Fence.wide n Try.prog Q ⟨T, ds⟩ w := by
  refine wpIn_rangeFunc fun fn hfn => ?_
  rw [show Fence.wide.round = none from rfl]
  obtain ⟨mk, hmk⟩ : ∃ mk : LoopState → Option Code → Loop, mk = fun s c => { state := s, pending := c, fn, tmps := T, params := ps, assign, body, defers := w.heap.size } := ⟨_, rfl⟩
  obtain ⟨V, hV⟩ : ∃ V, V = (w.alloc (.deferred (some []))).alloc (.loop (mk .ready none)) := ⟨_, rfl⟩
  have eg := enters_of (P := Try.prog) Try.func113 (by kernel_rfl) rfl
  have hloop : V.heap[w.heap.size + 1]? = some (.loop (mk .ready none)) := by
    have h := World.alloc_heap_new (w.alloc (.deferred (some []))) (.loop (mk .ready none))
    rw [World.size_alloc] at h
    rw [hV]; exact h
  have hdef : V.heap[w.heap.size]? = some (.deferred (some [])) := by
    rw [hV]
    exact (Below.heap_alloc _ _ _ (by simp)).trans (World.alloc_heap_new w _)
  have hBV : Below w.heap.size w V := hV ▸ ((Below.refl _ _).alloc (Nat.le_refl _) _).alloc (by simp) _
  have hIV : I 0 0 V := hIs _ _ _ _ h0 (still_of_below (Nat.le_refl _) hBV)
  refine ⟨w.heap.size + 1, [{ target := .collected w.heap.size, args := #[] }], V, { target := .fn (.func 113) #[.pointer (some ⟨bn, 0, none⟩)], args := #[.func (.yield (w.heap.size + 1)) #[] #[]] }, V, 113,
    #[.func (.yield (w.heap.size + 1)) #[] #[]] ++ #[.pointer (some ⟨bn, 0, none⟩)], V, ?_, ?_, ?_, ?_, fun _ => by omega, ?_⟩
  · rw [hV, hmk]; exact run_enterLoop_outer _ _ _ _ _
  · simp only [resolve, hg]
    simp [go_sem]
  · intro f hf
    simp [Target.leads] at hf
    subst hf
    trivial
  · simp [invoke, go_sem, eg _ _]
  · refine (half_givesJ (n - 1) (by omega) N bn (w.heap.size + 1) hN (fun i j A => I i j A ∧ A.heap[w.heap.size + 1]? = some (.loop (mk .ready none)) ∧ A.heap[w.heap.size]? = some (.deferred (some []))) V (hb.below hBV) (fun i A h => ⟨hnext _ _ h.1, h.2⟩) ?_ ⟨hIV, hloop, hdef⟩).mono ?_
    · rintro i j A hi hj ⟨hIA, hlA, hdA⟩
      have hlt := (Array.getElem?_eq_some_iff.1 hlA).1
      have hy := run_yield (P := Try.prog) (args := #[.int .i64 (i : Int), .int .i64 (j : Int)]) hlA (by rw [hmk]; exact hps.symm)
      rw [hmk] at hy
      refine ⟨fn, _, assign, body, hy, roundIn_of_wpIn hfn (hassign _ i j A _ ?_)⟩
      clear hy
      have hwA := hI _ _ _ hIA
      refine ⟨_, run_beginRound hlA (by rw [hmk]), ?_⟩
      obtain ⟨busy, hbusy⟩ : ∃ b : Loop, b = { mk .ready none with state := .busy } := ⟨_, rfl⟩
      have hs1 : StillC w.heap.size A (A.putObj (w.heap.size + 1) (.loop busy)) := StillC.put (by omega) hlA rfl
      have hlC : (A.putObj (w.heap.size + 1) (.loop busy)).heap[w.heap.size + 1]? = some (.loop busy) := World.putObj_heap_same hlt
      have hdC : (A.putObj (w.heap.size + 1) (.loop busy)).heap[w.heap.size]? = some (.deferred (some [])) := (World.putObj_heap_other (by omega)).trans hdA
      rw [← hbusy]
      refine wpIn_mono (hbody _ i j _ hi hj (hIs _ _ _ _ hIA hs1)) ?_
      intro e a3 W3 hp
      cases e with
      | normal =>
        obtain ⟨hk3, hi3⟩ := hp
        have hl3 := hk3.same _ _ (by omega) hlC rfl
        have hd3 := hk3.same _ _ (Nat.le_refl _) hdC rfl
        have hlt3 := (Array.getElem?_eq_some_iff.1 hl3).1
        have he := run_endRound (P := Try.prog) none hl3
        rw [hbusy, hmk] at he
        refine ⟨_, _, he, rfl, ?_⟩
        have hfin : (W3.putObj (w.heap.size + 1) (.loop (mk .ready none))).heap[w.heap.size + 1]? = some (.loop (mk .ready none)) := World.putObj_heap_same hlt3
        have hfd : (W3.putObj (w.heap.size + 1) (.loop (mk .ready none))).heap[w.heap.size]? = some (.deferred (some [])) := (World.putObj_heap_other (by omega)).trans hd3
        have hit : I i (j + 1) (W3.putObj (w.heap.size + 1) (.loop (mk .ready none))) := hIs _ _ _ _ hi3 (StillC.put (by omega) hl3 rfl)
        rw [hmk] at hfin hfd hit ⊢
        exact ⟨hit, hfin, hfd⟩
      | ret => exact hp.elim
      | exit id => exact hp.elim
      | goto t => exact hp.elim
      | panic ch => exact hp.elim
      | outgrown => exact hp.elim
    · rintro e W2 ⟨⟨u, rfl⟩, hi, hl, hk⟩
      have he := run_endLoop (P := Try.prog) hl (by rw [hmk]; simp)
      rw [hmk] at he
      exact ⟨none, _, he, hdone _ _ (Nat.le_refl _) (hIs _ _ _ _ hi (StillC.put (by omega) hl rfl)) ((World.putObj_heap_other (by omega)).trans hk)⟩
end Go.Proofs.Ytbcdpibcieadlaa

/- Layer 8: lower places set, row by row. No condition. -/
namespace Go.Proofs.Ytbcdpibcieadlaa
open Go Go.RowKit
set_option maxRecDepth 1000000

def rowP (F : Nat → Nat → List Nat → List Nat) (i : Nat) : Nat → List Nat → List Nat
  | 0, s => s
  | j + 1, s => F i j (rowP F i j s)
def halfP (F : Nat → Nat → List Nat → List Nat) : Nat → List Nat → List Nat
  | 0, s => s
  | i + 1, s => rowP F i (i + 1) (halfP F i s)
/-- What is known of a region's calls, two of one function among them. -/
def SkF (C : Value) (A1 : Array Value) (R1 : Value) (A2 : Array Value) (R2 : Value) (D : Nat) (f : FuncId) (args : Array Value) (v : Value) : Prop :=
  (f = 70 → v = C) ∧ (f = 47 → (args = A1 → v = R1) ∧ (args = A2 → v = R2)) ∧ (f = 66 → ∃ s, v = .float .f64 (raw D s))
def SbF (X : Value) (B : Nat) (f : FuncId) (_ : Array Value) (v : Value) : Prop :=
  (f = 74 → v = X) ∧ (f = 81 → ∃ s, v = .float .f64 (raw B s))
theorem rowP_spec {v : Vw} {r c : Nat} (h : OfI v r c) (er : v.r = r) (ec : v.c = c) (V : Nat × Nat → List Nat → Nat) (ws : List Nat) (D : Nat → Nat → Nat)
    (hV : ∀ i j us, i < r → j < c → us.length = r * c → v.get us i j = v.get ws i j → V (i, j) us = D i j) (i : Nat) (hi : i < r) (us : List Nat) (hl : us.length = r * c) (hu : ∀ j, j < c → v.get us i j = v.get ws i j) :
    ∀ n, n ≤ c → (rowP (fun i j s => v.put s i j (V (i, j) s)) i n us).length = r * c ∧ ∀ a b, a < r → b < c → v.get (rowP (fun i j s => v.put s i j (V (i, j) s)) i n us) a b = if a = i ∧ b < n then D a b else v.get us a b
  | 0, _ => ⟨hl, fun a b _ _ => by rw [if_neg (by omega)]; rfl⟩
  | n + 1, hn => by
    obtain ⟨h1, h2⟩ := rowP_spec h er ec V ws D hV i hi us hl hu n (by omega)
    show (v.put (rowP (fun i j s => v.put s i j (V (i, j) s)) i n us) (i : Int) (n : Int) _).length = _ ∧ ∀ a b, a < r → b < c → v.get (v.put (rowP (fun i j s => v.put s i j (V (i, j) s)) i n us) (i : Int) (n : Int) _) a b = _
    have e2 := hV i n (rowP (fun i j s => v.put s i j (V (i, j) s)) i n us) hi (by omega) h1 (by rw [h2 i n hi (by omega), if_neg (by omega)]; exact hu n (by omega))
    rw [e2]
    refine ⟨by rw [put_len8]; exact h1, fun a b ha hb => ?_⟩
    rw [h.get_put er ec _ h1 hi (by omega) ha hb, h2 a b ha hb]
    by_cases e : i = a ∧ n = b
    · obtain ⟨rfl, rfl⟩ := e
      rw [if_pos ⟨rfl, rfl⟩, if_pos (by omega)]
    · rw [if_neg e]
      by_cases e4 : a = i ∧ b < n
      · rw [if_pos e4, if_pos (by omega)]
      · rw [if_neg e4, if_neg (by omega)]
theorem halfP_spec {v : Vw} {r : Nat} (h : OfI v r r) (er : v.r = r) (ec : v.c = r) (V : Nat × Nat → List Nat → Nat) (ws : List Nat) (hl : ws.length = r * r) (D : Nat → Nat → Nat)
    (hV : ∀ i j us, i < r → j < r → us.length = r * r → v.get us i j = v.get ws i j → V (i, j) us = D i j) :
    ∀ n, n ≤ r → (halfP (fun i j s => v.put s i j (V (i, j) s)) n ws).length = r * r ∧ ∀ a b, a < r → b < r → v.get (halfP (fun i j s => v.put s i j (V (i, j) s)) n ws) a b = if a < n ∧ b ≤ a then D a b else v.get ws a b
  | 0, _ => ⟨hl, fun a b _ _ => by rw [if_neg (by omega)]; rfl⟩
  | n + 1, hn => by
    obtain ⟨h1, h2⟩ := halfP_spec h er ec V ws hl D hV n (by omega)
    obtain ⟨h3, h4⟩ := rowP_spec h er ec V ws D hV n (by omega) _ h1 (fun j hj => by rw [h2 n j (by omega) hj, if_neg (by omega)]) (n + 1) (by omega)
    refine ⟨h3, fun a b ha hb => ?_⟩
    show v.get (rowP _ n (n + 1) (halfP _ n ws)) a b = _
    rw [h4 a b ha hb]
    by_cases e : a = n ∧ b < n + 1
    · rw [if_pos e, if_pos (by omega)]
    · rw [if_neg e, h2 a b ha hb]
      by_cases e4 : a < n ∧ b ≤ a
      · rw [if_pos e4, if_pos (by omega)]
      · rw [if_neg e4, if_neg (by omega)]
end Go.Proofs.Ytbcdpibcieadlaa
