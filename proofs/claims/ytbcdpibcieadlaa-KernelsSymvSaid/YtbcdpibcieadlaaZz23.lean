/- Layer 8: a symmetric matrix, told by its lower places, times a vector. No condition but on lengths. -/
import Derived.Test.YtbcdpibcieadlaaLsZ
import Derived.Test.YtbcdpibcieadlaaLuZ
namespace Go.Proofs.Ytbcdpibcieadlaa
open Go Go.RowKit
set_option maxRecDepth 1000000

/-- An entry of a symmetric matrix, of which the lower places alone are read. -/
def lowG (m : Vw) (ms : List Nat) (i k : Nat) : Nat := m.get ms (max i k : Nat) (min i k : Nat)
set_option maxHeartbeats 4000000 in
theorem Lower1_any (w : World) (m : Vw) (sb : Nat) (ms : List Nat) (i k bm : Nat) (hok : m.Ok w sb ms) (hW : Words ms) (hm : Box w bm [.pointer m.p, .int .i64 m.r, .int .i64 m.c, .int .i64 m.o, .int .i64 m.d, .int .i64 m.u]) :
    Calls Try.prog 112 #[.int .i64 i, .int .i64 k, .pointer (some ⟨bm, 0, none⟩)] w fun e w' => (∃ s, e = .returned (.float .f64 (raw (lowG m ms i k) s))) ∧ Below w.heap.size w w' := by
  unfold lowG
  obtain ⟨p1, p2, p3⟩ := hm.facts
  have HA := Lib.hid (fun (a b : Nat) => At_any w m sb ms (a : Int) (b : Int) hok)
  have HW := Lib.hid hW
  clear hok hW
  rcases Nat.lt_trichotomy i k with hik | hik | hik
  · have e1 : max i k = k := by omega
    have e2 : min i k = i := by omega
    rw [e1, e2]
    have hmx : max (i : Int) (k : Int) = k := by omega
    have hmn : min (i : Int) (k : Int) = i := by omega
    clear e1 e2
    go_enter Try.func112, Try.ntmps112
    go_wp2_with fail
    refine (HA.out _ _).mono ?_
    rintro e w' ⟨rfl, hb⟩
    obtain ⟨s, hs⟩ := raw_self (get_word (v := m) HW.out k i)
    have HB := Lib.hid (And.intro hs hb)
    clear hs hb
    dsimp only
    go_wp2_with fail
    go_ret
    exact ⟨⟨s, by rw [← HB.out.1]; rfl⟩, HB.out.2⟩
  · subst hik
    have e1 : max i i = i := by omega
    have e2 : min i i = i := by omega
    rw [e1, e2]
    clear e1 e2
    go_enter Try.func112, Try.ntmps112
    go_wp2_with fail
    refine (HA.out _ _).mono ?_
    rintro e w' ⟨rfl, hb⟩
    obtain ⟨s, hs⟩ := raw_self (get_word (v := m) HW.out i i)
    have HB := Lib.hid (And.intro hs hb)
    clear hs hb
    dsimp only
    go_wp2_with fail
    go_ret
    exact ⟨⟨s, by rw [← HB.out.1]; rfl⟩, HB.out.2⟩
  · have e1 : max i k = i := by omega
    have e2 : min i k = k := by omega
    rw [e1, e2]
    have hmx : max (i : Int) (k : Int) = i := by omega
    have hmn : min (i : Int) (k : Int) = k := by omega
    clear e1 e2
    go_enter Try.func112, Try.ntmps112
    go_wp2_with fail
    refine (HA.out _ _).mono ?_
    rintro e w' ⟨rfl, hb⟩
    obtain ⟨s, hs⟩ := raw_self (get_word (v := m) HW.out i k)
    have HB := Lib.hid (And.intro hs hb)
    clear hs hb
    dsimp only
    go_wp2_with fail
    go_ret
    exact ⟨⟨s, by rw [← HB.out.1]; rfl⟩, HB.out.2⟩
set_option maxHeartbeats 1000000 in
theorem lower_any (m : Vw) (w : World) : Calls Try.prog 90 #[(.agg #[.pointer m.p, .int .i64 m.r, .int .i64 m.c, .int .i64 m.o, .int .i64 m.d, .int .i64 m.u])] w fun e w' => e = .returned (.func (.func 112) #[] #[.pointer (some ⟨w.heap.size, 0, none⟩)]) ∧ w' = w.alloc (.cells #[.pointer m.p, .int .i64 m.r, .int .i64 m.c, .int .i64 m.o, .int .i64 m.d, .int .i64 m.u] 29) := by
  go_enter Try.func90, Try.ntmps90
  go_wp2
  go_ret
  exact ⟨rfl, rfl⟩
def symvL (a b : Nat) (m x y : Vw) (ms xs ys : List Nat) : List Nat := if openE [m, x, y] (fits_Symv m x y) = 0 then timesL a b (fun i k => lowG m ms i k) (fun k => x.getVec xs k) (fun k => y.getVec ys k) y m.c ys m.r else ys
set_option maxHeartbeats 16000000 in
theorem Symv_any (w : World) (a b : Nat) (m x y : Vw) (sm sx sy : Nat) (ms xs ys : List Nat) (hm : m.Ok w sm ms) (hx : x.Ok w sx xs) (hy : y.Ok w sy ys) (hwm : Words ms) (hwx : Words xs) (hwy : Words ys) :
    Calls Try.prog 38 #[.float .f64 a, m.val, x.val, .float .f64 b, y.val] w fun e w' => e = .returned (.int .i64 (openE [m, x, y] (fits_Symv m x y))) ∧ ∃ ws, y.Ok w' sy ws ∧ Rw ws (symvL a b m x y ms xs ys) ∧ Words ws ∧ Bel w.heap.size sy w w' := by
  have HO := Lib.hid (fun W (h : Below w.heap.size w W) bm bx bY b hbm hbx hby hb => open_any W 89 #[.pointer (some ⟨bm, 0, none⟩), .pointer (some ⟨bx, 0, none⟩), .pointer (some ⟨bY, 0, none⟩)] b [m, x, y] (fits_Symv m x y) hb (fun v hv => by
    simp only [List.mem_cons, List.not_mem_nil, or_false] at hv
    rcases hv with rfl | rfl | rfl
    · exact ⟨sm, ms, hm.below h⟩
    · exact ⟨sx, xs, hx.below h⟩
    · exact ⟨sy, ys, hy.below h⟩) (by simp) (enters_of Try.func89 (by kernel_rfl) rfl) (fun _ W' h' => Symvf_any W' m x y bm bx bY (Box.below hbm h') (Box.below hbx h') (Box.below hby h') hx.small hy.small))
  unfold symvL
  obtain ⟨W0, hW0⟩ : ∃ W0, W0 = ((w.alloc (.cells #[.pointer m.p, .int .i64 m.r, .int .i64 m.c, .int .i64 m.o, .int .i64 m.d, .int .i64 m.u] 29)).alloc (.cells #[.pointer x.p, .int .i64 x.r, .int .i64 x.c, .int .i64 x.o, .int .i64 x.d, .int .i64 x.u] 29)).alloc (.cells #[.pointer y.p, .int .i64 y.r, .int .i64 y.c, .int .i64 y.o, .int .i64 y.d, .int .i64 y.u] 29) := ⟨_, rfl⟩
  have hB0 : Below w.heap.size w W0 := hW0 ▸ (((Below.refl _ _).alloc (Nat.le_refl _) _).alloc (by simp) _).alloc (by simp; omega) _
  have x0 : Box W0 w.heap.size [.pointer m.p, .int .i64 m.r, .int .i64 m.c, .int .i64 m.o, .int .i64 m.d, .int .i64 m.u] := hW0 ▸ ((Box.newA w [.pointer m.p, .int .i64 m.r, .int .i64 m.c, .int .i64 m.o, .int .i64 m.d, .int .i64 m.u] _ rfl).alloc _).alloc _
  have x1 : Box W0 (w.heap.size + 1) [.pointer x.p, .int .i64 x.r, .int .i64 x.c, .int .i64 x.o, .int .i64 x.d, .int .i64 x.u] := hW0 ▸ (Box.newA _ [.pointer x.p, .int .i64 x.r, .int .i64 x.c, .int .i64 x.o, .int .i64 x.d, .int .i64 x.u] _ (by simp)).alloc _
  have x3 : Box W0 (w.heap.size + 1 + 1) [.pointer y.p, .int .i64 y.r, .int .i64 y.c, .int .i64 y.o, .int .i64 y.d, .int .i64 y.u] := hW0 ▸ Box.newA _ [.pointer y.p, .int .i64 y.r, .int .i64 y.c, .int .i64 y.o, .int .i64 y.d, .int .i64 y.u] _ (by simp)
  have HX := Lib.hid (show _ ∧ _ ∧ _ ∧ _ from ⟨hB0, x0, x1, x3⟩)
  have HC := Lib.hid (fun W (h : Below w.heap.size w W) => Copy_any W m sm ms (hm.below h))
  have HY := Lib.hid (show _ ∧ _ ∧ _ ∧ _ ∧ _ ∧ _ from ⟨hm, hx, hy, hwm, hwx, hwy⟩)
  have HZ := Lib.hid (fun (h : openE [m, x, y] (fits_Symv m x y) = 0) => openE_zero h)
  clear hB0 x0 x1 x3 hm hx hy hwm hwx hwy
  show Calls Try.prog 38 #[.float .f64 a, (.agg #[.pointer m.p, .int .i64 m.r, .int .i64 m.c, .int .i64 m.o, .int .i64 m.d, .int .i64 m.u]), (.agg #[.pointer x.p, .int .i64 x.r, .int .i64 x.c, .int .i64 x.o, .int .i64 x.d, .int .i64 x.u]), .float .f64 b, (.agg #[.pointer y.p, .int .i64 y.r, .int .i64 y.c, .int .i64 y.o, .int .i64 y.d, .int .i64 y.u])] w _
  generalize openE [m, x, y] (fits_Symv m x y) = E at *
  obtain ⟨D, hD⟩ : ∃ D, D = (if E = 0 then timesL a b (fun i k => lowG m ms i k) (fun k => x.getVec xs k) (fun k => y.getVec ys k) y m.c ys m.r else ys) := ⟨_, rfl⟩
  rw [← hD]
  go_enter Try.func38, Try.ntmps38
  go_upto_region 1 with (fail)
  rw [← hW0]
  clear hW0
  obtain ⟨hB0, x0, x1, x3⟩ := HX.out
  have hbA : Below W0.heap.size W0 (W0.alloc (.cells #[.pointer m.p, .int .i64 m.r, .int .i64 m.c, .int .i64 m.o, .int .i64 m.d, .int .i64 m.u, .pointer x.p, .int .i64 x.r, .int .i64 x.c, .int .i64 x.o, .int .i64 x.d, .int .i64 x.u, .pointer y.p, .int .i64 y.r, .int .i64 y.c, .int .i64 y.o, .int .i64 y.d, .int .i64 y.u] 29)) := (Below.refl _ _).alloc (Nat.le_refl _) _
  have hz : Box (W0.alloc (.cells #[.pointer m.p, .int .i64 m.r, .int .i64 m.c, .int .i64 m.o, .int .i64 m.d, .int .i64 m.u, .pointer x.p, .int .i64 x.r, .int .i64 x.c, .int .i64 x.o, .int .i64 x.d, .int .i64 x.u, .pointer y.p, .int .i64 y.r, .int .i64 y.c, .int .i64 y.o, .int .i64 y.d, .int .i64 y.u] 29)) W0.heap.size ([m, x, y].flatMap Vw.cs) := Box.newA W0 ([m, x, y].flatMap Vw.cs) _ rfl
  have hB1 := below_step hB0 hB0.size hbA
  have HCo := Lib.hid (HO.out _ hB1 _ _ _ _ (x0.below hbA) (x1.below hbA) (x3.below hbA) hz)
  obtain ⟨p1, p2, p3⟩ := x0.facts
  obtain ⟨q1, q2, q3⟩ := x1.facts
  obtain ⟨r1, r2, r3⟩ := x3.facts
  have HB1 := Lib.hid (show _ ∧ _ ∧ _ ∧ _ from ⟨hB1, x0.below hbA, x1.below hbA, x3.below hbA⟩)
  clear hB0 x0 x1 x3 hbA hz hB1 HO HX
  go_wp2_with fail
  refine HCo.out.mono ?_
  rintro e w1 ⟨rfl, hb1⟩
  obtain ⟨hB1, x0, x1, x3⟩ := HB1.out
  have HB2 := Lib.hid (show _ ∧ _ ∧ _ ∧ _ from ⟨below_step hB1 hB1.size hb1, x0.below hb1, x1.below hb1, x3.below hb1⟩)
  clear p1 p2 p3 q1 q2 q3 r1 r2 r3 hB1 hb1 x0 x1 x3 HB1 HCo
  dsimp only
  by_cases hE : E = 0
  · subst hE
    rw [if_pos rfl] at hD
    have HDD := Lib.hid hD
    clear hD
    obtain ⟨hsome, hfit⟩ := HZ.out rfl
    have HSome := Lib.hid (show m.p.isSome = true ∧ y.p.isSome = true from ⟨hsome m (by simp), hsome y (by simp)⟩)
    unfold fits_Symv at hfit
    simp only [Bool.and_eq_true] at hfit
    have HFit := Lib.hid (And.intro (vecN_spec hfit.2.1) (show vecV y.p y.r y.c = true ∧ m.r = lenV y.p y.r y.c from by have h := vecN_spec hfit.2.2; have e := of_decide_eq_true hfit.1; exact ⟨h.1, by rw [e]; exact h.2⟩))
    have HSq := Lib.hid (of_decide_eq_true hfit.1)
    clear hsome hfit HZ
    go_upto_region 4 with (fail)
    obtain ⟨hB2, x0, x1, x3⟩ := HB2.out
    have hdr : Below w1.heap.size w1 w1.drew := below_drewN 1 (Below.refl _ w1)
    have HB3 := Lib.hid (below_step hB2 hB2.size hdr)
    replace x0 := x0.below hdr
    replace x1 := x1.below hdr
    replace x3 := x3.below hdr
    have HS := Lib.hid (show ∀ W, Below w1.drew.heap.size w1.drew W → (fun W => (∀ i, W.cell? ⟨w.heap.size, i, none⟩ = ([.pointer m.p, .int .i64 m.r, .int .i64 m.c, .int .i64 m.o, .int .i64 m.d, .int .i64 m.u] : List Value)[i]?) ∧ (∀ i, W.cell? ⟨w.heap.size + 1, i, none⟩ = ([.pointer x.p, .int .i64 x.r, .int .i64 x.c, .int .i64 x.o, .int .i64 x.d, .int .i64 x.u] : List Value)[i]?) ∧ (∀ i, W.cell? ⟨w.heap.size + 1 + 1, i, none⟩ = ([.pointer y.p, .int .i64 y.r, .int .i64 y.c, .int .i64 y.o, .int .i64 y.d, .int .i64 y.u] : List Value)[i]?)) W from fun W h => ⟨(x0.below h).cell, (x1.below h).cell, (x3.below h).cell⟩)
    refine wp_region_items 11 [(true, 0), (true, 1), (true, 3), (true, 5), (true, 8), (true, 9), (true, 10), (false, 2), (false, 4), (false, 6), (false, 7)] (fun W => (∀ i, W.cell? ⟨w.heap.size, i, none⟩ = ([.pointer m.p, .int .i64 m.r, .int .i64 m.c, .int .i64 m.o, .int .i64 m.d, .int .i64 m.u] : List Value)[i]?) ∧ (∀ i, W.cell? ⟨w.heap.size + 1, i, none⟩ = ([.pointer x.p, .int .i64 x.r, .int .i64 x.c, .int .i64 x.o, .int .i64 x.d, .int .i64 x.u] : List Value)[i]?) ∧ (∀ i, W.cell? ⟨w.heap.size + 1 + 1, i, none⟩ = ([.pointer y.p, .int .i64 y.r, .int .i64 y.c, .int .i64 y.o, .int .i64 y.d, .int .i64 y.u] : List Value)[i]?)) (by kernel_rfl) (by kernel_rfl) (HS.out _ (Below.refl _ _)) ?_
    clear hdr hB2 x0 x1 x3 HB2
    generalize w1.drew = w2 at *
    iterate 7 (refine iW_take (v := ?_) rfl rfl ?_ ?_; rotate_left; (next => (intro w' hSw; (try dsimp only at hSw); go_simp; (try (rw [if_pos (by omega)]; go_simp)); (try with_reducible rfl))); (simp only [Act.put, List.setIfInBounds_toArray, List.set_cons_zero, List.set_cons_succ]))
    refine iW_mid rfl rfl ?_
    go_simp
    refine (Rows_any m.p m.r m.c m.o m.d m.u w2).mono ?_
    rintro e w3 ⟨rfl, hb3⟩
    have HB4 := Lib.hid (below_step HB3.out HB3.out.size hb3)
    refine ⟨HS.out _ hb3, ?_⟩
    refine iW_mid rfl rfl ?_
    go_simp
    refine (Cols_any m.p m.r m.c m.o m.d m.u w3).mono ?_
    rintro e w4 ⟨rfl, hb4⟩
    have HB5 := Lib.hid (below_step HB4.out HB4.out.size hb4)
    have hb34 := below_step hb3 hb3.size hb4
    refine ⟨HS.out _ hb34, ?_⟩
    refine iW_mid rfl rfl ?_
    go_simp
    refine (HC.out w4 HB5.out).mono ?_
    rintro e w5 ⟨st1, sb1, rfl, hst1, k1, k2, hb5⟩
    have HB6 := Lib.hid (below_step HB5.out HB5.out.size hb5)
    have hs5 := HB5.out.size
    refine ⟨HS.out _ (below_step hb34 hb34.size hb5), ?_⟩
    have hso := Vw.Ok.sto HY.out.2.2.1 HSome.out.2
    have am := Vw.Apart.of (m := sy) (cpy_ok HY.out.1 hst1) (cpy_p m st1) (by have := hso.1; omega) (by have := hso.1; omega)
    have hgm := fun i k hi hk => cpy_get m ms st1 i k HSome.out.1 hi hk
    generalize cpyV m st1 = cm at *
    refine iW_mid rfl rfl ?_
    go_simp
    refine (lower_any cm w5).mono ?_
    rintro e w5b ⟨rfl, hw5b⟩
    have hb5b : Below w5.heap.size w5 w5b := hw5b ▸ (Below.refl _ _).alloc (Nat.le_refl _) _
    have hxb : Box w5b w5.heap.size [.pointer cm.p, .int .i64 cm.r, .int .i64 cm.c, .int .i64 cm.o, .int .i64 cm.d, .int .i64 cm.u] := hw5b ▸ Box.newA w5 [.pointer cm.p, .int .i64 cm.r, .int .i64 cm.c, .int .i64 cm.o, .int .i64 cm.d, .int .i64 cm.u] _ rfl
    have am2 := am.below hb5b
    have hne : w5.heap.size ≠ sy := by have := hso.1; have := HB6.out.size; omega
    have HB6b := Lib.hid (below_step HB6.out HB6.out.size hb5b)
    refine ⟨HS.out _ (below_step (below_step hb34 hb34.size hb5) (below_step hb34 hb34.size hb5).size hb5b), ?_⟩
    clear hw5b
    have hFn : Fn2 w5b sy (.func (.func 112) #[] #[.pointer (some ⟨w5.heap.size, 0, none⟩)]) m.r m.c (fun i k => lowG m ms i k) := by
      refine ⟨_, _, _, rfl, enters_of Try.func112 (by kernel_rfl) rfl, fun i k W hi hk hb => ?_⟩
      have h1 := Lower1_any W cm sb1 (m.list ms) i k w5.heap.size (am2.bel hb).1 (list_words8 HY.out.2.2.2.1) (hxb.bel hne hb)
      have hsq := HSq.out
      have h2 : lowG cm (m.list ms) i k = lowG m ms i k := hgm (max i k) (min i k) (by omega) (by omega)
      rw [h2] at h1
      exact h1
    have hT := times_any w5b a b m.r m.c _ _ x y sx sy xs ys (HY.out.2.1.below HB6b.out) (HY.out.2.2.1.below HB6b.out) HY.out.2.2.2.2.1 HY.out.2.2.2.2.2 hFn HFit.out.1.1 HFit.out.2.1 HFit.out.1.2 HFit.out.2.2 (Nat.lt_of_lt_of_le hso.1 HB6b.out.size) (fun st h => Nat.lt_of_lt_of_le (hso.2 st h) HB6b.out.size)
    rw [← HDD.out] at hT
    have HT := Lib.hid hT
    clear hb3 hb4 hb34 hb5 hs5 hso am am2 hxb hne hb5b hgm hFn hT hst1 k1 k2 HS HC
    dsimp only [Vw.val]
    refine iW_nil ?_
    go_simp
    go_wp2_with fail
    refine HT.out.mono ?_
    rintro e w6 ⟨rfl, ws, hok, hrw, hW, hbl⟩
    have HE := Lib.hid (show _ ∧ _ ∧ _ ∧ _ from ⟨hok, hrw, hW, (Bel.of HB6b.out).trans (hbl.mono HB6b.out.size)⟩)
    clear hok hrw hW hbl HT
    dsimp only
    go_wp2
    refine NoPanic.normal ?_
    go_wp2_with fail
    go_ret
    exact ⟨rfl, ws, HE.out⟩
  · have t1 : (E != 0) = true := by simp [hE]
    rw [if_neg hE] at hD
    subst hD
    clear hE
    go_wp2_with fail
    go_ret
    exact ⟨rfl, _, HY.out.2.2.1.below HB2.out.1, Rw.self HY.out.2.2.2.2.2, HY.out.2.2.2.2.2, Bel.of HB2.out.1⟩
end Go.Proofs.Ytbcdpibcieadlaa

/- Layer 8: a symmetric matrix times a vector, plainly. No condition but on lengths. -/
namespace Go.Proofs.Ytbcdpibcieadlaa
open Go Go.RowKit
set_option maxRecDepth 1000000

theorem RLower2_any (w : World) (r c : Nat) (a : Option Addr) (zs : List Nat) (cap : Nat) (hZ : Fls w a zs) (hl : zs.length ≤ 262144) (hn : zs.length = r * c) (hu : r ≤ 512) (e : r = c) :
    Calls Try.prog 39 #[.agg #[.int .i64 r, .int .i64 c, .slice a zs.length cap]] w fun e w' => (∃ a' c' l, e = .returned (.agg #[.int .i64 r, .int .i64 c, .slice a' l.length c']) ∧ Fls w' a' l ∧ l.length = zs.length ∧ LowP zs c c 0 l ∧ l.length ≤ c' ∧ c' ≤ maxLen) ∧ Below w.heap.size w w' := by
  subst e
  exact RLower_any w r a zs cap hZ hl hn hu
def fitSy (rm cm rx cx ry cy nx ny : Nat) : Bool := decide (rm = cm) && (vec8 rx cx && (vec8 ry cy && (decide (cm = nx) && decide (rm = ny))))
section
variable {m x y : Vw} {sm sx sy rm cm rx cx ry cy : Nat} {zm zx zy ms xs ys us : List Nat} {a b : Nat}
theorem symv_code (Pm : OfP m sm rm cm zm ms) (Px : OfP x sx rx cx zx xs) (Py : OfP y sy ry cy zy ys) (hnx : zx.length = rx * cx) (hny : zy.length = ry * cy) :
    openE [m, x, y] (fits_Symv m x y) = if fitSy rm cm rx cx ry cy zx.length zy.length then 0 else 8 := by
  have e : fits_Symv m x y = fitSy rm cm rx cx ry cy zx.length zy.length := by
    unfold fits_Symv fitSy
    rw [Px.vecN hnx, Py.vecN hny, Pm.ec, Pm.er]
    cases vec8 rx cx <;> cases vec8 ry cy <;> simp
    by_cases h : rm = cm
    · subst h; simp
    · simp [h]
  unfold openE
  rw [e]
  simp [Pm.ep, Px.ep, Py.ep]
theorem symv_bad (Pm : OfP m sm rm cm zm ms) (Px : OfP x sx rx cx zx xs) (Py : OfP y sy ry cy zy ys) (hnx : zx.length = rx * cx) (hny : zy.length = ry * cy)
    (hf : fitSy rm cm rx cx ry cy zx.length zy.length = false) (hR : Rw us (symvL a b m x y ms xs ys)) : Rw (y.list us) zy := by
  unfold symvL at hR
  rw [symv_code Pm Px Py hnx hny, hf] at hR
  exact Py.same hny hR
theorem symv_good (Pm : OfP m sm rm cm zm ms) (Px : OfP x sx rx cx zx xs) (Py : OfP y sy ry cy zy ys) (Iy : OfI y ry cy) (hly : ys.length = ry * cy) (hnx : zx.length = rx * cx) (hny : zy.length = ry * cy) (LZ : List Nat) (hL : LowP zm cm cm 0 LZ)
    (hf : fitSy rm cm rx cx ry cy zx.length zy.length = true) (hR : Rw us (symvL a b m x y ms xs ys)) : Rw (y.list us) (gemvR a LZ cm zx b zy rm) := by
  unfold symvL at hR
  rw [symv_code Pm Px Py hnx hny, hf] at hR
  simp only [if_true] at hR
  unfold fitSy at hf
  simp only [Bool.and_eq_true, decide_eq_true_eq] at hf
  obtain ⟨e0, vx, vy, hc, hr⟩ := hf
  have hvy : vecV y.p y.r y.c = true := by rw [Py.vec]; exact vy
  refine vec_rw Py.er Py.ec hvy vy us _ (by rw [gemvR_len, hr, hny]) fun k hk => ?_
  obtain ⟨s, hs⟩ := hR.getVec y k
  obtain ⟨_, h2⟩ := timesL_spec Iy Py.er Py.ec hvy vy a b (fun i k => lowG m ms i k) (fun k => x.getVec xs k) (fun k => y.getVec ys k) m.c ys hly m.r (Nat.le_of_eq (by rw [Pm.er, hr, hny]))
  rw [h2 k hk, if_pos (by rw [Pm.er, hr, hny]; exact hk)] at hs
  refine ⟨s, ?_⟩
  rw [hs]
  congr 1
  have hkr : k < rm := by rw [hr, hny]; exact hk
  have e1 : atL (gemvR a LZ cm zx b zy rm) k = bothW b (atL zy k) a (sumG (atL (rowL LZ cm k)) (atL zx) 0 cm) := by
    unfold atL gemvR
    rw [List.getD_eq_getElem?_getD, List.getElem?_map, List.getElem?_range hkr]
    rfl
  rw [e1, Py.at vy k hk, Pm.ec]
  congr 1
  refine sumG_congr _ fun j hj => ⟨?_, ?_⟩
  · rw [Nat.zero_add, rowL_at LZ cm k j hj, hL.done k j (by omega) hj]
    exact Pm.get (max k j) (min k j) (by omega) (by omega)
  · rw [Nat.zero_add]
    exact Px.at vx j (by rw [← hnx, ← hc]; exact hj)
end
end Go.Proofs.Ytbcdpibcieadlaa

/- 'plumblinelaw08.KernelsSymv', all matrices small enough (printed by gen_lw.py). No condition but on lengths. -/
namespace Go.Proofs.Ytbcdpibcieadlaa
open Go Go.RowKit
set_option maxRecDepth 1000000

set_option maxHeartbeats 16000000 in
theorem symv8_small (w : World) (a b : Nat) (rm cm rx cx ry cy : Nat) (am ax ay : Option Addr) (zm zx zy : List Nat) (pm px py : Nat) (t : Bool)
    (hm : MatP w rm cm am zm pm) (hx : MatP w rx cx ax zx px) (hy : MatP w ry cy ay zy py)
    (Bm : ∀ W, Calls Try.prog 15 #[.agg #[.int .i64 rm, .int .i64 cm, .slice am zm.length pm]] W fun e w' => e = .returned (.bool false) ∧ Below W.heap.size W w') (Bx : ∀ W, Calls Try.prog 15 #[.agg #[.int .i64 rx, .int .i64 cx, .slice ax zx.length px]] W fun e w' => e = .returned (.bool false) ∧ Below W.heap.size W w') (By : ∀ W, Calls Try.prog 15 #[.agg #[.int .i64 ry, .int .i64 cy, .slice ay zy.length py]] W fun e w' => e = .returned (.bool false) ∧ Below W.heap.size W w') :
    Calls Try.prog 8 #[.float .f64 a, .agg #[.int .i64 rm, .int .i64 cm, .slice am zm.length pm], .agg #[.int .i64 rx, .int .i64 cx, .slice ax zx.length px], .float .f64 b, .agg #[.int .i64 ry, .int .i64 cy, .slice ay zy.length py], .bool t] w fun e w' => e = .returned (.bool true) ∧ Below w.heap.size w w' := by
  have Hm := Lib.hid hm
  have HBm := Lib.hid Bm
  have Hx := Lib.hid hx
  have HBx := Lib.hid Bx
  have Hy := Lib.hid hy
  have HBy := Lib.hid By
  have HQm := Lib.hid (fun W => RSquare_any rm cm am zm.length pm W)
  have HVx := Lib.hid (fun W => vecM_nat rx cx ▸ RVector_any rx cx ax zx.length px W)
  have HVy := Lib.hid (fun W => vecM_nat ry cy ▸ RVector_any ry cy ay zy.length py W)
  have t4 : ((cm : Int) != (zx.length : Int)) = !decide (cm = zx.length) := by rw [Bool.eq_iff_iff]; simp; omega
  have t5 : ((rm : Int) != (zy.length : Int)) = !decide (rm = zy.length) := by rw [Bool.eq_iff_iff]; simp; omega
  clear hm Bm hx Bx hy By
  obtain ⟨W0, hW0⟩ : ∃ W0, W0 = (((w.alloc (.cells #[.int .i64 rm, .int .i64 cm, .slice am zm.length pm] 24)).alloc (.cells #[.int .i64 rx, .int .i64 cx, .slice ax zx.length px] 24)).alloc (.cells #[.int .i64 ry, .int .i64 cy, .slice ay zy.length py] 24)) := ⟨_, rfl⟩
  have hB0 : Below w.heap.size w W0 := hW0 ▸ (((Below.refl _ _).alloc (Nat.le_refl _) _).alloc (by simp) _).alloc (by simp; omega) _
  have x0 : Box W0 (w.heap.size) [.int .i64 rm, .int .i64 cm, .slice am zm.length pm] := hW0 ▸ (((Box.newA w [.int .i64 rm, .int .i64 cm, .slice am zm.length pm] _ rfl).alloc _).alloc _)
  have x1 : Box W0 (w.heap.size + 1) [.int .i64 rx, .int .i64 cx, .slice ax zx.length px] := hW0 ▸ ((Box.newA _ [.int .i64 rx, .int .i64 cx, .slice ax zx.length px] _ (by simp)).alloc _)
  have x2 : Box W0 (w.heap.size + 1 + 1) [.int .i64 ry, .int .i64 cy, .slice ay zy.length py] := hW0 ▸ (Box.newA _ [.int .i64 ry, .int .i64 cy, .slice ay zy.length py] _ (by simp))
  have S0 := Lib.hid (show BoxS w W0 [(w.heap.size, [.int .i64 rm, .int .i64 cm, .slice am zm.length pm]), (w.heap.size + 1, [.int .i64 rx, .int .i64 cx, .slice ax zx.length px]), (w.heap.size + 1 + 1, [.int .i64 ry, .int .i64 cy, .slice ay zy.length py])] from ⟨fun p hp => by
    simp only [List.mem_cons, List.not_mem_nil, or_false] at hp
    rcases hp with rfl | rfl | rfl
    · exact x0
    · exact x1
    · exact x2
    , hB0⟩)
  clear hB0 x0 x1 x2
  go_enter Try.func8, Try.ntmps8
  go_upto_region 1 with (fail)
  rw [← hW0]
  clear hW0
  obtain ⟨f01, f02, f03⟩ := (S0.out.get 0 rfl).facts
  obtain ⟨f11, f12, f13⟩ := (S0.out.get 1 rfl).facts
  obtain ⟨f21, f22, f23⟩ := (S0.out.get 2 rfl).facts
  go_wp2_with fail
  refine (HBm.out _).mono ?_
  rintro e w1 ⟨rfl, hb⟩
  have S1 := Lib.hid (S0.out.step hb)
  clear f01 f02 f03 f11 f12 f13 f21 f22 f23 hb
  dsimp only
  obtain ⟨f01, f02, f03⟩ := (S1.out.get 0 rfl).facts
  obtain ⟨f11, f12, f13⟩ := (S1.out.get 1 rfl).facts
  obtain ⟨f21, f22, f23⟩ := (S1.out.get 2 rfl).facts
  go_wp2_with fail
  refine (HBx.out _).mono ?_
  rintro e w2 ⟨rfl, hb⟩
  have S2 := Lib.hid (S1.out.step hb)
  clear f01 f02 f03 f11 f12 f13 f21 f22 f23 hb
  dsimp only
  obtain ⟨f01, f02, f03⟩ := (S2.out.get 0 rfl).facts
  obtain ⟨f11, f12, f13⟩ := (S2.out.get 1 rfl).facts
  obtain ⟨f21, f22, f23⟩ := (S2.out.get 2 rfl).facts
  go_wp2_with fail
  refine (HBy.out _).mono ?_
  rintro e w3 ⟨rfl, hb⟩
  have S3 := Lib.hid (S2.out.step hb)
  clear f01 f02 f03 f11 f12 f13 f21 f22 f23 hb
  dsimp only
  obtain ⟨f01, f02, f03⟩ := (S3.out.get 0 rfl).facts
  obtain ⟨f11, f12, f13⟩ := (S3.out.get 1 rfl).facts
  obtain ⟨f21, f22, f23⟩ := (S3.out.get 2 rfl).facts
  go_wp2_with fail
  refine (Hy.out.of false _ S3.out.below).mono ?_
  rintro e w4 ⟨⟨v, st, sb, ws, rfl, k1, k2, hS, hP, hI, hlw⟩, hb⟩
  have S4 := Lib.hid (S3.out.step hb)
  have L0 := Lib.hid (BoxS.view S4.out (hP.ok _ _ hS) hS hP.words S3.out k2)
  have Po := Lib.hid hP
  have Io := Lib.hid (And.intro hI hlw)
  clear f01 f02 f03 f11 f12 f13 f21 f22 f23 hb k1 k2 hS hP hI hlw
  unfold Vw.val
  obtain ⟨f01, f02, f03⟩ := (S4.out.get 0 rfl).facts
  obtain ⟨f11, f12, f13⟩ := (S4.out.get 1 rfl).facts
  obtain ⟨f21, f22, f23⟩ := (S4.out.get 2 rfl).facts
  go_upto_region 4 with (fail)
  clear f01 f02 f03 f11 f12 f13 f21 f22 f23
  obtain ⟨P, hPP⟩ : ∃ P, P = w4.heap.size := ⟨_, rfl⟩
  simp only [← hPP] at L0 ⊢
  generalize w4.alloc (.cells #[.pointer v.p, .int .i64 v.r, .int .i64 v.c, .int .i64 v.o, .int .i64 v.d, .int .i64 v.u] 29) = V0 at *
  clear hPP
  have hdr : Below V0.heap.size V0 V0.drew := below_drewN 1 (Below.refl _ V0)
  have S5 := Lib.hid (L0.out.step hdr)
  have HS := Lib.hid (show ∀ W, Below V0.drew.heap.size V0.drew W → (fun W => (∀ i, W.cell? ⟨w.heap.size, i, none⟩ = ([.int .i64 rm, .int .i64 cm, .slice am zm.length pm] : List Value)[i]?) ∧ (∀ i, W.cell? ⟨w.heap.size + 1, i, none⟩ = ([.int .i64 rx, .int .i64 cx, .slice ax zx.length px] : List Value)[i]?) ∧ (∀ i, W.cell? ⟨w.heap.size + 1 + 1, i, none⟩ = ([.int .i64 ry, .int .i64 cy, .slice ay zy.length py] : List Value)[i]?) ∧ (∀ i, W.cell? ⟨P, i, none⟩ = ([.pointer v.p, .int .i64 v.r, .int .i64 v.c, .int .i64 v.o, .int .i64 v.d, .int .i64 v.u] : List Value)[i]?)) W from fun W h => ⟨((S5.out.step h).get 0 rfl).cell, ((S5.out.step h).get 1 rfl).cell, ((S5.out.step h).get 2 rfl).cell, ((S5.out.step h).get 3 rfl).cell⟩)
  refine wp_region_items 9 [(true, 0), (true, 1), (true, 2), (true, 4), (true, 5), (true, 7), (true, 8), (false, 3), (false, 6)] (fun W => (∀ i, W.cell? ⟨w.heap.size, i, none⟩ = ([.int .i64 rm, .int .i64 cm, .slice am zm.length pm] : List Value)[i]?) ∧ (∀ i, W.cell? ⟨w.heap.size + 1, i, none⟩ = ([.int .i64 rx, .int .i64 cx, .slice ax zx.length px] : List Value)[i]?) ∧ (∀ i, W.cell? ⟨w.heap.size + 1 + 1, i, none⟩ = ([.int .i64 ry, .int .i64 cy, .slice ay zy.length py] : List Value)[i]?) ∧ (∀ i, W.cell? ⟨P, i, none⟩ = ([.pointer v.p, .int .i64 v.r, .int .i64 v.c, .int .i64 v.o, .int .i64 v.d, .int .i64 v.u] : List Value)[i]?)) (by kernel_rfl) (by kernel_rfl) (HS.out _ (Below.refl _ _)) ?_
  generalize V0.drew = w5 at *
  clear hdr
  iterate 7 (refine iW_take (v := ?_) rfl rfl ?_ ?_; rotate_left; (next => (intro w' hSw; (try dsimp only at hSw); go_simp; (try (rw [if_pos (by omega)]; go_simp)); (try with_reducible rfl))); (simp only [Act.put, List.setIfInBounds_toArray, List.set_cons_zero, List.set_cons_succ]))
  refine iW_mid rfl rfl ?_
  go_simp
  refine (Hm.out.of t w5 S5.out.below).mono ?_
  rintro e w6 ⟨⟨vm, stm, sbm, wsm, rfl, k1, k2, hS, hP, hI, hlw⟩, hb⟩
  have S6 := Lib.hid (S5.out.step hb)
  refine ⟨HS.out _ hb, ?_⟩
  have HSw6 := Lib.hid (fun W (h : Below w6.heap.size w6 W) => HS.out W (below_step hb hb.size h))
  have Km := Lib.hid (hP.ok _ _ hS)
  have Pm := Lib.hid hP
  clear hb k1 k2 hS hP hI hlw
  refine iW_mid rfl rfl ?_
  go_simp
  refine (Hx.out.of t w6 S6.out.below).mono ?_
  rintro e w7 ⟨⟨vx, stx, sbx, wsx, rfl, k1, k2, hS, hP, hI, hlw⟩, hb⟩
  have S7 := Lib.hid (S6.out.step hb)
  refine ⟨HSw6.out _ hb, ?_⟩
  have HSw7 := Lib.hid (fun W (h : Below w7.heap.size w7 W) => HSw6.out W (below_step hb hb.size h))
  have Kx := Lib.hid (hP.ok _ _ hS)
  have Px := Lib.hid hP
  have Km_1 := Lib.hid (Km.out.below hb)
  clear hb k1 k2 hS hP hI hlw
  have HK := Symv_any w7 a b vm vx v sbm sbx sb wsm wsx ws Km_1.out Kx.out S7.out.ok Pm.out.words Px.out.words Po.out.words
  rw [symv_code Pm.out Px.out Po.out Hx.out.hn Hy.out.hn] at HK
  have HBad := Lib.hid (fun us hf hR => symv_bad (a := a) (b := b) Pm.out Px.out Po.out Hx.out.hn Hy.out.hn (us := us) hf hR)
  have HGood := Lib.hid (fun us LZ hL hf hR => symv_good (a := a) (b := b) Pm.out Px.out Po.out Io.out.1 Io.out.2 Hx.out.hn Hy.out.hn LZ hL (us := us) hf hR)
  unfold fitSy at HK HBad HGood
  have HKK := Lib.hid HK
  clear HK
  obtain ⟨q1, e1⟩ : ∃ q, q = decide (rm = cm) := ⟨_, rfl⟩
  simp only [← e1] at HKK HBad HGood HQm
  have EE1 := Lib.hid e1
  clear e1
  obtain ⟨q2, e2⟩ : ∃ q, q = vec8 rx cx := ⟨_, rfl⟩
  simp only [← e2] at HKK HBad HGood HVx
  have EE2 := Lib.hid e2
  clear e2
  obtain ⟨q3, e3⟩ : ∃ q, q = vec8 ry cy := ⟨_, rfl⟩
  simp only [← e3] at HKK HBad HGood HVy
  have EE3 := Lib.hid e3
  clear e3
  obtain ⟨q4, e4⟩ : ∃ q, q = decide (cm = zx.length) := ⟨_, rfl⟩
  simp only [← e4] at HKK HBad HGood t4
  have EE4 := Lib.hid e4
  clear e4
  obtain ⟨q5, e5⟩ : ∃ q, q = decide (rm = zy.length) := ⟨_, rfl⟩
  simp only [← e5] at HKK HBad HGood t5
  have EE5 := Lib.hid e5
  clear e5
  obtain ⟨E, hE⟩ : ∃ E : Int, E = (if (q1 && (q2 && (q3 && (q4 && q5)))) = true then (0 : Int) else 8) := ⟨_, rfl⟩
  simp only [← hE] at HKK
  have HE := Lib.hid hE
  clear hE
  refine iW_nil ?_
  go_simp
  go_wp2_with fail
  refine HKK.out.mono ?_
  rintro e w8 ⟨rfl, us, hok, hR, hW, hb⟩
  have HU := Lib.hid (And.intro hR hW)
  have L1 := Lib.hid (S7.out.kern hb hok hW)
  clear hok hR hW hb
  dsimp only
  go_wp2_with fail
  refine NoPanic.normal ?_
  obtain ⟨f01, f02, f03⟩ := (L1.out.get 0 rfl).facts
  obtain ⟨f11, f12, f13⟩ := (L1.out.get 1 rfl).facts
  obtain ⟨f21, f22, f23⟩ := (L1.out.get 2 rfl).facts
  obtain ⟨f31, f32, f33⟩ := (L1.out.get 3 rfl).facts
  go_wp2_with fail
  refine (HQm.out _).mono ?_
  rintro e w9 ⟨rfl, hb⟩
  have S9 := Lib.hid (L1.out.step hb)
  clear f01 f02 f03 f11 f12 f13 f21 f22 f23 f31 f32 f33 hb
  dsimp only
  obtain ⟨f01, f02, f03⟩ := (S9.out.get 0 rfl).facts
  obtain ⟨f11, f12, f13⟩ := (S9.out.get 1 rfl).facts
  obtain ⟨f21, f22, f23⟩ := (S9.out.get 2 rfl).facts
  obtain ⟨f31, f32, f33⟩ := (S9.out.get 3 rfl).facts
  cases q1
  · skip
    have hE := HE.out
    have hR := HBad.out us (by simp) HU.out.1
    simp only [Bool.false_and, Bool.and_false, Bool.true_and, Bool.and_true, Bool.and_self, Bool.false_eq_true, if_false, if_true] at hE
    subst hE
    have HSh := Lib.hid (fun W (h : v.Ok W sb us) hB => shows_any W v sb us ry cy ay zy py h HU.out.2 Po.out.er Po.out.ec (Hy.out.fls W hB) Hy.out.words (by have := Hy.out.hl; omega) hR)
    clear hR
    go_wp2_with (go_at_call 22; refine (num8_any _ _).mono ?_; rintro e w' ⟨rfl, rfl⟩)
    refine (HSh.out _ S9.out.ok S9.out.below).mono ?_
    rintro e w10 ⟨rfl, hb⟩
    have S10 := Lib.hid (S9.out.step hb)
    clear f01 f02 f03 f11 f12 f13 f21 f22 f23 f31 f32 f33 hb HSh
    dsimp only
    go_wp2_with fail
    refine (known08_any _).mono ?_
    rintro e w11 ⟨rfl, hb⟩
    have S11 := Lib.hid (S10.out.step hb)
    clear hb
    dsimp only
    go_wp2_with fail
    go_ret
    exact ⟨rfl, S11.out.below⟩
  · skip
    go_wp2_with fail
    refine (HVx.out _).mono ?_
    rintro e w10 ⟨rfl, hb⟩
    have S10 := Lib.hid (S9.out.step hb)
    clear f01 f02 f03 f11 f12 f13 f21 f22 f23 f31 f32 f33 hb
    dsimp only
    obtain ⟨f01, f02, f03⟩ := (S10.out.get 0 rfl).facts
    obtain ⟨f11, f12, f13⟩ := (S10.out.get 1 rfl).facts
    obtain ⟨f21, f22, f23⟩ := (S10.out.get 2 rfl).facts
    obtain ⟨f31, f32, f33⟩ := (S10.out.get 3 rfl).facts
    cases q2
    · skip
      have hE := HE.out
      have hR := HBad.out us (by simp) HU.out.1
      simp only [Bool.false_and, Bool.and_false, Bool.true_and, Bool.and_true, Bool.and_self, Bool.false_eq_true, if_false, if_true] at hE
      subst hE
      have HSh := Lib.hid (fun W (h : v.Ok W sb us) hB => shows_any W v sb us ry cy ay zy py h HU.out.2 Po.out.er Po.out.ec (Hy.out.fls W hB) Hy.out.words (by have := Hy.out.hl; omega) hR)
      clear hR
      go_wp2_with (go_at_call 22; refine (num8_any _ _).mono ?_; rintro e w' ⟨rfl, rfl⟩)
      refine (HSh.out _ S10.out.ok S10.out.below).mono ?_
      rintro e w11 ⟨rfl, hb⟩
      have S11 := Lib.hid (S10.out.step hb)
      clear f01 f02 f03 f11 f12 f13 f21 f22 f23 f31 f32 f33 hb HSh
      dsimp only
      go_wp2_with fail
      refine (known08_any _).mono ?_
      rintro e w12 ⟨rfl, hb⟩
      have S12 := Lib.hid (S11.out.step hb)
      clear hb
      dsimp only
      go_wp2_with fail
      go_ret
      exact ⟨rfl, S12.out.below⟩
    · skip
      go_wp2_with fail
      refine (HVy.out _).mono ?_
      rintro e w11 ⟨rfl, hb⟩
      have S11 := Lib.hid (S10.out.step hb)
      clear f01 f02 f03 f11 f12 f13 f21 f22 f23 f31 f32 f33 hb
      dsimp only
      obtain ⟨f01, f02, f03⟩ := (S11.out.get 0 rfl).facts
      obtain ⟨f11, f12, f13⟩ := (S11.out.get 1 rfl).facts
      obtain ⟨f21, f22, f23⟩ := (S11.out.get 2 rfl).facts
      obtain ⟨f31, f32, f33⟩ := (S11.out.get 3 rfl).facts
      cases q3
      · skip
        have hE := HE.out
        have hR := HBad.out us (by simp) HU.out.1
        simp only [Bool.false_and, Bool.and_false, Bool.true_and, Bool.and_true, Bool.and_self, Bool.false_eq_true, if_false, if_true] at hE
        subst hE
        have HSh := Lib.hid (fun W (h : v.Ok W sb us) hB => shows_any W v sb us ry cy ay zy py h HU.out.2 Po.out.er Po.out.ec (Hy.out.fls W hB) Hy.out.words (by have := Hy.out.hl; omega) hR)
        clear hR
        go_wp2_with (go_at_call 22; refine (num8_any _ _).mono ?_; rintro e w' ⟨rfl, rfl⟩)
        refine (HSh.out _ S11.out.ok S11.out.below).mono ?_
        rintro e w12 ⟨rfl, hb⟩
        have S12 := Lib.hid (S11.out.step hb)
        clear f01 f02 f03 f11 f12 f13 f21 f22 f23 f31 f32 f33 hb HSh
        dsimp only
        go_wp2_with fail
        refine (known08_any _).mono ?_
        rintro e w13 ⟨rfl, hb⟩
        have S13 := Lib.hid (S12.out.step hb)
        clear hb
        dsimp only
        go_wp2_with fail
        go_ret
        exact ⟨rfl, S13.out.below⟩
      · skip
        cases q4
        · skip
          have hE := HE.out
          have hR := HBad.out us (by simp) HU.out.1
          simp only [Bool.false_and, Bool.and_false, Bool.true_and, Bool.and_true, Bool.and_self, Bool.false_eq_true, if_false, if_true] at hE
          subst hE
          have HSh := Lib.hid (fun W (h : v.Ok W sb us) hB => shows_any W v sb us ry cy ay zy py h HU.out.2 Po.out.er Po.out.ec (Hy.out.fls W hB) Hy.out.words (by have := Hy.out.hl; omega) hR)
          clear hR
          go_wp2_with (go_at_call 22; refine (num8_any _ _).mono ?_; rintro e w' ⟨rfl, rfl⟩)
          refine (HSh.out _ S11.out.ok S11.out.below).mono ?_
          rintro e w12 ⟨rfl, hb⟩
          have S12 := Lib.hid (S11.out.step hb)
          clear f01 f02 f03 f11 f12 f13 f21 f22 f23 f31 f32 f33 hb HSh
          dsimp only
          go_wp2_with fail
          refine (known08_any _).mono ?_
          rintro e w13 ⟨rfl, hb⟩
          have S13 := Lib.hid (S12.out.step hb)
          clear hb
          dsimp only
          go_wp2_with fail
          go_ret
          exact ⟨rfl, S13.out.below⟩
        · skip
          cases q5
          · skip
            have hE := HE.out
            have hR := HBad.out us (by simp) HU.out.1
            simp only [Bool.false_and, Bool.and_false, Bool.true_and, Bool.and_true, Bool.and_self, Bool.false_eq_true, if_false, if_true] at hE
            subst hE
            have HSh := Lib.hid (fun W (h : v.Ok W sb us) hB => shows_any W v sb us ry cy ay zy py h HU.out.2 Po.out.er Po.out.ec (Hy.out.fls W hB) Hy.out.words (by have := Hy.out.hl; omega) hR)
            clear hR
            go_wp2_with (go_at_call 22; refine (num8_any _ _).mono ?_; rintro e w' ⟨rfl, rfl⟩)
            refine (HSh.out _ S11.out.ok S11.out.below).mono ?_
            rintro e w12 ⟨rfl, hb⟩
            have S12 := Lib.hid (S11.out.step hb)
            clear f01 f02 f03 f11 f12 f13 f21 f22 f23 f31 f32 f33 hb HSh
            dsimp only
            go_wp2_with fail
            refine (known08_any _).mono ?_
            rintro e w13 ⟨rfl, hb⟩
            have S13 := Lib.hid (S12.out.step hb)
            clear hb
            dsimp only
            go_wp2_with fail
            go_ret
            exact ⟨rfl, S13.out.below⟩
          · skip
            have hE := HE.out
            have hR := fun LZ hL => HGood.out us LZ hL rfl HU.out.1
            simp only [Bool.false_and, Bool.and_false, Bool.true_and, Bool.and_true, Bool.and_self, Bool.false_eq_true, if_false, if_true] at hE
            subst hE
            have e1 := of_decide_eq_true EE1.out.symm
            have e2 := EE2.out
            have e3 := EE3.out
            have e4 := of_decide_eq_true EE4.out.symm
            have e5 := of_decide_eq_true EE5.out.symm
            have HEE := Lib.hid (show _ ∧ _ ∧ _ ∧ _ ∧ _ from ⟨e1, e2, e3, e4, e5⟩)
            clear e1 e2 e3 e4 e5
            have HRR := Lib.hid hR
            clear hR
            go_upto_region 7 with (fail)
            clear f01 f02 f03 f11 f12 f13 f21 f22 f23 f31 f32 f33
            have hdr : Below w11.heap.size w11 w11.drew := below_drewN 1 (Below.refl _ w11)
            have S12 := Lib.hid (S11.out.step hdr)
            have HS := Lib.hid (show ∀ W, Below w11.drew.heap.size w11.drew W → (fun W => (∀ i, W.cell? ⟨w.heap.size, i, none⟩ = ([.int .i64 rm, .int .i64 cm, .slice am zm.length pm] : List Value)[i]?) ∧ (∀ i, W.cell? ⟨w.heap.size + 1, i, none⟩ = ([.int .i64 rx, .int .i64 cx, .slice ax zx.length px] : List Value)[i]?) ∧ (∀ i, W.cell? ⟨w.heap.size + 1 + 1, i, none⟩ = ([.int .i64 ry, .int .i64 cy, .slice ay zy.length py] : List Value)[i]?) ∧ (∀ i, W.cell? ⟨P, i, none⟩ = ([.pointer v.p, .int .i64 v.r, .int .i64 v.c, .int .i64 v.o, .int .i64 v.d, .int .i64 v.u] : List Value)[i]?)) W from fun W h => ⟨((S12.out.step h).get 0 rfl).cell, ((S12.out.step h).get 1 rfl).cell, ((S12.out.step h).get 2 rfl).cell, ((S12.out.step h).get 3 rfl).cell⟩)
            refine wp_region_items 16 [(true, 0), (false, 1), (true, 2), (true, 3), (true, 4), (true, 5), (true, 6), (true, 7), (true, 9), (true, 10), (true, 11), (true, 12), (true, 13), (false, 8), (false, 14), (false, 15)] (fun W => (∀ i, W.cell? ⟨w.heap.size, i, none⟩ = ([.int .i64 rm, .int .i64 cm, .slice am zm.length pm] : List Value)[i]?) ∧ (∀ i, W.cell? ⟨w.heap.size + 1, i, none⟩ = ([.int .i64 rx, .int .i64 cx, .slice ax zx.length px] : List Value)[i]?) ∧ (∀ i, W.cell? ⟨w.heap.size + 1 + 1, i, none⟩ = ([.int .i64 ry, .int .i64 cy, .slice ay zy.length py] : List Value)[i]?) ∧ (∀ i, W.cell? ⟨P, i, none⟩ = ([.pointer v.p, .int .i64 v.r, .int .i64 v.c, .int .i64 v.o, .int .i64 v.d, .int .i64 v.u] : List Value)[i]?)) (by kernel_rfl) (by kernel_rfl) (HS.out _ (Below.refl _ _)) ?_
            generalize w11.drew = w12 at *
            clear hdr
            iterate 1 (refine iW_take (v := ?_) rfl rfl ?_ ?_; rotate_left; (next => (intro w' hSw; (try dsimp only at hSw); go_simp; (try (rw [if_pos (by omega)]; go_simp)); (try with_reducible rfl))); (simp only [Act.put, List.setIfInBounds_toArray, List.set_cons_zero, List.set_cons_succ]))
            refine iW_mid rfl rfl ?_
            go_simp
            refine (num8_any _ _).mono ?_
            rintro e w' ⟨rfl, rfl⟩
            refine ⟨HS.out _ (Below.refl _ _), ?_⟩
            iterate 11 (refine iW_take (v := ?_) rfl rfl ?_ ?_; rotate_left; (next => (intro w' hSw; (try dsimp only at hSw); go_simp; (try (rw [if_pos (by omega)]; go_simp)); (try with_reducible rfl))); (simp only [Act.put, List.setIfInBounds_toArray, List.set_cons_zero, List.set_cons_succ]))
            refine iW_mid rfl rfl ?_
            go_simp
            refine (RLower2_any w12 rm cm am zm pm (Hm.out.fls w12 S12.out.below) (by have := Hm.out.hl; omega) Hm.out.hn Hm.out.hr HEE.out.1).mono ?_
            rintro e w13 ⟨⟨la, lc, LZ, rfl, hF, hLl, hL, hc1, hc2⟩, hb⟩
            have S13 := Lib.hid (S12.out.step hb)
            refine ⟨HS.out _ hb, ?_⟩
            have HSw13 := Lib.hid (fun W (h : Below w13.heap.size w13 W) => HS.out W (below_step hb hb.size h))
            have HFL := Lib.hid (show _ ∧ _ ∧ _ ∧ _ ∧ _ from ⟨hF, hLl, hL, hc1, hc2⟩)
            clear hb hF hLl hL hc1 hc2
            refine iW_mid rfl rfl ?_
            go_simp
            refine (RGemv_any w13 a b rm cm la ax ay LZ zx zy lc px py HFL.out.1 (Hx.out.fls w13 S13.out.below) (Hy.out.fls w13 S13.out.below) (by have := Hm.out.hl; have := HFL.out.2.1; omega) (HFL.out.2.1.trans Hm.out.hn) HEE.out.2.2.2.1.symm HEE.out.2.2.2.2.symm HFL.out.2.2.2.1 HFL.out.2.2.2.2 Hm.out.hr Hm.out.hc).mono ?_
            rintro e w14 ⟨⟨dv, rfl, hO⟩, hb⟩
            have S14 := Lib.hid (S13.out.step hb)
            refine ⟨HSw13.out _ hb, ?_⟩
            have HSw14 := Lib.hid (fun W (h : Below w14.heap.size w14 W) => HSw13.out W (below_step hb hb.size h))
            obtain ⟨da, dc, rfl, hF⟩ := hO.fls
            have HF := Lib.hid hF
            clear hb hF hO
            refine iW_mid rfl rfl ?_
            go_simp
            refine (like_any w14 ry cy ay da zy.length py (gemvR a LZ cm zx b zy rm).length dc).mono ?_
            rintro e w15 ⟨rfl, hb⟩
            have S15 := Lib.hid (S14.out.step hb)
            refine ⟨HSw14.out _ hb, ?_⟩
            have HSw15 := Lib.hid (fun W (h : Below w15.heap.size w15 W) => HSw14.out W (below_step hb hb.size h))
            have HF2 := Lib.hid (HF.out.below hb)
            clear hb
            have HSh := Lib.hid (shows_any w15 v sb us ry cy da (gemvR a LZ cm zx b zy rm) dc S15.out.ok HU.out.2 Po.out.er Po.out.ec HF2.out (gemvR_words _ _ _ _ _ _ _) (by rw [gemvR_len _ _ _ _ _ _ _]; have := Hm.out.hr; omega) (HRR.out LZ HFL.out.2.2.1))
            refine iW_nil ?_
            go_simp
            go_wp2_with fail
            refine HSh.out.mono ?_
            rintro e w16 ⟨rfl, hb⟩
            have S16 := Lib.hid (S15.out.step hb)
            clear hb HSh
            dsimp only
            go_wp2_with fail
            refine (known08_any _).mono ?_
            rintro e w17 ⟨rfl, hb⟩
            have S17 := Lib.hid (S16.out.step hb)
            clear hb
            dsimp only
            go_wp2_with fail
            refine NoPanic.normal ?_
            go_wp2_with fail
            go_ret
            exact ⟨rfl, S17.out.below⟩
end Go.Proofs.Ytbcdpibcieadlaa
