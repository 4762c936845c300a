/- Layer 8: Gemv. No condition but on lengths. -/
import Derived.Test.YtbcdpibcieadlaaKhZ
import Derived.Test.YtbcdpibcieadlaaZz2
namespace Go.Proofs.Ytbcdpibcieadlaa
open Go Go.RowKit
set_option maxRecDepth 1000000

theorem cpy_get (x : Vw) (ws : List Nat) (st i k : Nat) (hp : x.p.isSome = true) (hi : i < x.r) (hk : k < x.c) : (cpyV x st).get (x.list ws) i k = x.get ws i k := by
  have hn : x.p.isNone = false := by cases h : x.p <;> simp_all
  have e : cpyV x st = newV st x.r x.c := by unfold cpyV; rw [hn]; rfl
  have hlt : i * x.c + k < x.r * x.c := Nat.lt_of_lt_of_le (by omega : i * x.c + k < i * x.c + x.c) (by rw [← Nat.succ_mul]; exact Nat.mul_le_mul_right _ hi)
  have h3 := list_getD8 x ws hlt
  have hc0 : 0 < x.c := by omega
  rw [show (i * x.c + k) / x.c = i by rw [Nat.mul_comm, Nat.mul_add_div hc0, Nat.div_eq_of_lt hk]; rfl, show (i * x.c + k) % x.c = k by rw [Nat.mul_comm, Nat.mul_add_mod, Nat.mod_eq_of_lt hk]] at h3
  rw [e, ← h3]
  unfold Vw.get newV
  rw [if_pos (by unfold inV; simp; omega)]
  simp
theorem openE_zero {vs : List Vw} {b : Bool} (h : openE vs b = 0) : (∀ v ∈ vs, v.p.isSome = true) ∧ b = true := by
  unfold openE at h
  cases h1 : (vs.all fun v => v.p.isSome)
  · rw [h1] at h; simp at h
  · rw [h1] at h
    cases b
    · simp at h
    · exact ⟨fun v hv => List.all_eq_true.1 h1 v hv, rfl⟩
theorem Vw.Ok.sto {v : Vw} {w : World} {sb : Nat} {ws : List Nat} (h : v.Ok w sb ws) (hp : v.p.isSome = true) : sb < w.heap.size ∧ ∀ st, v.p = some ⟨st, 0, Option.none⟩ → st < w.heap.size := by
  rcases h with h | ⟨⟨st, e, b1, b2, _⟩, _⟩
  · subst h; cases hp
  · refine ⟨b2.lt, fun st' e' => ?_⟩
    rw [e] at e'
    simp only [Option.some.injEq, Addr.mk.injEq, and_true] at e'
    subst e'
    exact b1.lt
theorem vecN_spec {x : Vw} {n : Nat} (h : vecN x n = true) : vecV x.p x.r x.c = true ∧ n = lenV x.p x.r x.c := by
  unfold vecN at h
  simp only [Bool.and_eq_true, decide_eq_true_eq] at h
  exact ⟨h.1, by omega⟩
def gemvL (a b : Nat) (m x y : Vw) (ms xs ys : List Nat) : List Nat := if openE [m, x, y] (fits_Gemv m x y) = 0 then timesL a b (fun i k => m.get ms i k) (fun k => x.getVec xs k) (fun k => y.getVec ys k) y m.c ys m.r else ys
set_option maxHeartbeats 16000000 in
theorem Gemv_any (w : World) (a b : Nat) (m x y : Vw) (sm sx sy : Nat) (ms xs ys : List Nat) (hm : m.Ok w sm ms) (hx : x.Ok w sx xs) (hy : y.Ok w sy ys) (hwm : Words ms) (hwx : Words xs) (hwy : Words ys) :
    Calls Try.prog 27 #[.float .f64 a, m.val, x.val, .float .f64 b, y.val] w fun e w' => e = .returned (.int .i64 (openE [m, x, y] (fits_Gemv m x y))) ∧ ∃ ws, y.Ok w' sy ws ∧ Rw ws (gemvL a b m x y ms xs ys) ∧ Words ws ∧ Bel w.heap.size sy w w' := by
  have HO := Lib.hid (fun W (h : Below w.heap.size w W) bm bx bY b hbm hbx hby hb => open_any W 69 #[.pointer (some ⟨bm, 0, none⟩), .pointer (some ⟨bx, 0, none⟩), .pointer (some ⟨bY, 0, none⟩)] b [m, x, y] (fits_Gemv m x y) hb (fun v hv => by
    simp only [List.mem_cons, List.not_mem_nil, or_false] at hv
    rcases hv with rfl | rfl | rfl
    · exact ⟨sm, ms, hm.below h⟩
    · exact ⟨sx, xs, hx.below h⟩
    · exact ⟨sy, ys, hy.below h⟩) (by simp) (enters_of Try.func69 (by kernel_rfl) rfl) (fun _ W' h' => Gemvf_any W' m x y bm bx bY (Box.below hbm h') (Box.below hbx h') (Box.below hby h') hm.small hx.small hy.small))
  unfold gemvL
  obtain ⟨W0, hW0⟩ : ∃ W0, W0 = ((w.alloc (.cells #[.pointer m.p, .int .i64 m.r, .int .i64 m.c, .int .i64 m.o, .int .i64 m.d, .int .i64 m.u] 29)).alloc (.cells #[.pointer x.p, .int .i64 x.r, .int .i64 x.c, .int .i64 x.o, .int .i64 x.d, .int .i64 x.u] 29)).alloc (.cells #[.pointer y.p, .int .i64 y.r, .int .i64 y.c, .int .i64 y.o, .int .i64 y.d, .int .i64 y.u] 29) := ⟨_, rfl⟩
  have hB0 : Below w.heap.size w W0 := hW0 ▸ (((Below.refl _ _).alloc (Nat.le_refl _) _).alloc (by simp) _).alloc (by simp; omega) _
  have x0 : Box W0 w.heap.size [.pointer m.p, .int .i64 m.r, .int .i64 m.c, .int .i64 m.o, .int .i64 m.d, .int .i64 m.u] := hW0 ▸ ((Box.newA w [.pointer m.p, .int .i64 m.r, .int .i64 m.c, .int .i64 m.o, .int .i64 m.d, .int .i64 m.u] _ rfl).alloc _).alloc _
  have x1 : Box W0 (w.heap.size + 1) [.pointer x.p, .int .i64 x.r, .int .i64 x.c, .int .i64 x.o, .int .i64 x.d, .int .i64 x.u] := hW0 ▸ (Box.newA _ [.pointer x.p, .int .i64 x.r, .int .i64 x.c, .int .i64 x.o, .int .i64 x.d, .int .i64 x.u] _ (by simp)).alloc _
  have x3 : Box W0 (w.heap.size + 1 + 1) [.pointer y.p, .int .i64 y.r, .int .i64 y.c, .int .i64 y.o, .int .i64 y.d, .int .i64 y.u] := hW0 ▸ Box.newA _ [.pointer y.p, .int .i64 y.r, .int .i64 y.c, .int .i64 y.o, .int .i64 y.d, .int .i64 y.u] _ (by simp)
  have HX := Lib.hid (show _ ∧ _ ∧ _ ∧ _ from ⟨hB0, x0, x1, x3⟩)
  have HC := Lib.hid (fun W (h : Below w.heap.size w W) => Copy_any W m sm ms (hm.below h))
  have HY := Lib.hid (show _ ∧ _ ∧ _ ∧ _ ∧ _ ∧ _ from ⟨hm, hx, hy, hwm, hwx, hwy⟩)
  have HZ := Lib.hid (fun (h : openE [m, x, y] (fits_Gemv m x y) = 0) => openE_zero h)
  clear hB0 x0 x1 x3 hm hx hy hwm hwx hwy
  show Calls Try.prog 27 #[.float .f64 a, (.agg #[.pointer m.p, .int .i64 m.r, .int .i64 m.c, .int .i64 m.o, .int .i64 m.d, .int .i64 m.u]), (.agg #[.pointer x.p, .int .i64 x.r, .int .i64 x.c, .int .i64 x.o, .int .i64 x.d, .int .i64 x.u]), .float .f64 b, (.agg #[.pointer y.p, .int .i64 y.r, .int .i64 y.c, .int .i64 y.o, .int .i64 y.d, .int .i64 y.u])] w _
  generalize openE [m, x, y] (fits_Gemv m x y) = E at *
  obtain ⟨D, hD⟩ : ∃ D, D = (if E = 0 then timesL a b (fun i k => m.get ms i k) (fun k => x.getVec xs k) (fun k => y.getVec ys k) y m.c ys m.r else ys) := ⟨_, rfl⟩
  rw [← hD]
  go_enter Try.func27, Try.ntmps27
  go_upto_region 1 with (fail)
  rw [← hW0]
  clear hW0
  obtain ⟨hB0, x0, x1, x3⟩ := HX.out
  have hbA : Below W0.heap.size W0 (W0.alloc (.cells #[.pointer m.p, .int .i64 m.r, .int .i64 m.c, .int .i64 m.o, .int .i64 m.d, .int .i64 m.u, .pointer x.p, .int .i64 x.r, .int .i64 x.c, .int .i64 x.o, .int .i64 x.d, .int .i64 x.u, .pointer y.p, .int .i64 y.r, .int .i64 y.c, .int .i64 y.o, .int .i64 y.d, .int .i64 y.u] 29)) := (Below.refl _ _).alloc (Nat.le_refl _) _
  have hz : Box (W0.alloc (.cells #[.pointer m.p, .int .i64 m.r, .int .i64 m.c, .int .i64 m.o, .int .i64 m.d, .int .i64 m.u, .pointer x.p, .int .i64 x.r, .int .i64 x.c, .int .i64 x.o, .int .i64 x.d, .int .i64 x.u, .pointer y.p, .int .i64 y.r, .int .i64 y.c, .int .i64 y.o, .int .i64 y.d, .int .i64 y.u] 29)) W0.heap.size ([m, x, y].flatMap Vw.cs) := Box.newA W0 ([m, x, y].flatMap Vw.cs) _ rfl
  have hB1 := below_step hB0 hB0.size hbA
  have HCo := Lib.hid (HO.out _ hB1 _ _ _ _ (x0.below hbA) (x1.below hbA) (x3.below hbA) hz)
  obtain ⟨p1, p2, p3⟩ := x0.facts
  obtain ⟨q1, q2, q3⟩ := x1.facts
  obtain ⟨r1, r2, r3⟩ := x3.facts
  have HB1 := Lib.hid (show _ ∧ _ ∧ _ ∧ _ from ⟨hB1, x0.below hbA, x1.below hbA, x3.below hbA⟩)
  clear hB0 x0 x1 x3 hbA hz hB1 HO HX
  go_wp2_with fail
  refine HCo.out.mono ?_
  rintro e w1 ⟨rfl, hb1⟩
  obtain ⟨hB1, x0, x1, x3⟩ := HB1.out
  have HB2 := Lib.hid (show _ ∧ _ ∧ _ ∧ _ from ⟨below_step hB1 hB1.size hb1, x0.below hb1, x1.below hb1, x3.below hb1⟩)
  clear p1 p2 p3 q1 q2 q3 r1 r2 r3 hB1 hb1 x0 x1 x3 HB1 HCo
  dsimp only
  by_cases hE : E = 0
  · subst hE
    rw [if_pos rfl] at hD
    have HDD := Lib.hid hD
    clear hD
    obtain ⟨hsome, hfit⟩ := HZ.out rfl
    have HSome := Lib.hid (show m.p.isSome = true ∧ y.p.isSome = true from ⟨hsome m (by simp), hsome y (by simp)⟩)
    unfold fits_Gemv at hfit
    simp only [Bool.and_eq_true] at hfit
    have HFit := Lib.hid (And.intro (vecN_spec hfit.1) (vecN_spec hfit.2))
    clear hsome hfit HZ
    go_upto_region 4 with (fail)
    obtain ⟨hB2, x0, x1, x3⟩ := HB2.out
    have hdr : Below w1.heap.size w1 w1.drew := below_drewN 1 (Below.refl _ w1)
    have HB3 := Lib.hid (below_step hB2 hB2.size hdr)
    replace x0 := x0.below hdr
    replace x1 := x1.below hdr
    replace x3 := x3.below hdr
    have HS := Lib.hid (show ∀ W, Below w1.drew.heap.size w1.drew W → (fun W => (∀ i, W.cell? ⟨w.heap.size, i, none⟩ = ([.pointer m.p, .int .i64 m.r, .int .i64 m.c, .int .i64 m.o, .int .i64 m.d, .int .i64 m.u] : List Value)[i]?) ∧ (∀ i, W.cell? ⟨w.heap.size + 1, i, none⟩ = ([.pointer x.p, .int .i64 x.r, .int .i64 x.c, .int .i64 x.o, .int .i64 x.d, .int .i64 x.u] : List Value)[i]?) ∧ (∀ i, W.cell? ⟨w.heap.size + 1 + 1, i, none⟩ = ([.pointer y.p, .int .i64 y.r, .int .i64 y.c, .int .i64 y.o, .int .i64 y.d, .int .i64 y.u] : List Value)[i]?)) W from fun W h => ⟨(x0.below h).cell, (x1.below h).cell, (x3.below h).cell⟩)
    refine wp_region_items 11 [(true, 0), (true, 1), (true, 3), (true, 5), (true, 8), (true, 9), (true, 10), (false, 2), (false, 4), (false, 6), (true, 7)] (fun W => (∀ i, W.cell? ⟨w.heap.size, i, none⟩ = ([.pointer m.p, .int .i64 m.r, .int .i64 m.c, .int .i64 m.o, .int .i64 m.d, .int .i64 m.u] : List Value)[i]?) ∧ (∀ i, W.cell? ⟨w.heap.size + 1, i, none⟩ = ([.pointer x.p, .int .i64 x.r, .int .i64 x.c, .int .i64 x.o, .int .i64 x.d, .int .i64 x.u] : List Value)[i]?) ∧ (∀ i, W.cell? ⟨w.heap.size + 1 + 1, i, none⟩ = ([.pointer y.p, .int .i64 y.r, .int .i64 y.c, .int .i64 y.o, .int .i64 y.d, .int .i64 y.u] : List Value)[i]?)) (by kernel_rfl) (by kernel_rfl) (HS.out _ (Below.refl _ _)) ?_
    clear hdr hB2 x0 x1 x3 HB2
    generalize w1.drew = w2 at *
    iterate 7 (refine iW_take (v := ?_) rfl rfl ?_ ?_; rotate_left; (next => (intro w' hSw; (try dsimp only at hSw); go_simp; (try (rw [if_pos (by omega)]; go_simp)); (try with_reducible rfl))); (simp only [Act.put, List.setIfInBounds_toArray, List.set_cons_zero, List.set_cons_succ]))
    refine iW_mid rfl rfl ?_
    go_simp
    refine (Rows_any m.p m.r m.c m.o m.d m.u w2).mono ?_
    rintro e w3 ⟨rfl, hb3⟩
    have HB4 := Lib.hid (below_step HB3.out HB3.out.size hb3)
    refine ⟨HS.out _ hb3, ?_⟩
    refine iW_mid rfl rfl ?_
    go_simp
    refine (Cols_any m.p m.r m.c m.o m.d m.u w3).mono ?_
    rintro e w4 ⟨rfl, hb4⟩
    have HB5 := Lib.hid (below_step HB4.out HB4.out.size hb4)
    have hb34 := below_step hb3 hb3.size hb4
    refine ⟨HS.out _ hb34, ?_⟩
    refine iW_mid rfl rfl ?_
    go_simp
    refine (HC.out w4 HB5.out).mono ?_
    rintro e w5 ⟨st1, sb1, rfl, hst1, k1, k2, hb5⟩
    have HB6 := Lib.hid (below_step HB5.out HB5.out.size hb5)
    have hs5 := HB5.out.size
    refine ⟨HS.out _ (below_step hb34 hb34.size hb5), ?_⟩
    have hso := Vw.Ok.sto HY.out.2.2.1 HSome.out.2
    have am := Vw.Apart.of (m := sy) (cpy_ok HY.out.1 hst1) (cpy_p m st1) (by have := hso.1; omega) (by have := hso.1; omega)
    have hgm := fun i k hi hk => cpy_get m ms st1 i k HSome.out.1 hi hk
    generalize cpyV m st1 = cm at *
    have hFn : Fn2 w5 sy (.func (.func 74) #[cm.val] #[]) m.r m.c (fun i k => m.get ms i k) := by
      refine ⟨_, _, _, rfl, enters_of Try.func74 (by kernel_rfl) rfl, fun i k W hi hk hb => ?_⟩
      refine (At_any W cm sb1 (m.list ms) i k (am.bel hb).1).mono ?_
      rintro e w' ⟨rfl, hb'⟩
      rw [hgm i k hi hk]
      obtain ⟨s, hs⟩ := raw_self (get_word (v := m) HY.out.2.2.2.1 i k)
      exact ⟨⟨s, by rw [← hs]⟩, hb'⟩
    have hT := times_any w5 a b m.r m.c _ _ x y sx sy xs ys (HY.out.2.1.below HB6.out) (HY.out.2.2.1.below HB6.out) HY.out.2.2.2.2.1 HY.out.2.2.2.2.2 hFn HFit.out.1.1 HFit.out.2.1 HFit.out.1.2 HFit.out.2.2 (Nat.lt_of_lt_of_le hso.1 HB6.out.size) (fun st h => Nat.lt_of_lt_of_le (hso.2 st h) HB6.out.size)
    rw [← HDD.out] at hT
    have HT := Lib.hid hT
    clear hb3 hb4 hb34 hb5 hs5 hso am hgm hFn hT hst1 k1 k2 HS HC
    dsimp only [Vw.val]
    iterate 1 (refine iW_take (v := ?_) rfl rfl ?_ ?_; rotate_left; (next => (intro w' hSw; (try dsimp only at hSw); go_simp; (try (rw [if_pos (by omega)]; go_simp)); (try with_reducible rfl))); (simp only [Act.put, List.setIfInBounds_toArray, List.set_cons_zero, List.set_cons_succ]))
    refine iW_nil ?_
    go_simp
    go_wp2_with fail
    refine HT.out.mono ?_
    rintro e w6 ⟨rfl, ws, hok, hrw, hW, hbl⟩
    have HE := Lib.hid (show _ ∧ _ ∧ _ ∧ _ from ⟨hok, hrw, hW, (Bel.of HB6.out).trans (hbl.mono HB6.out.size)⟩)
    clear hok hrw hW hbl HT
    dsimp only
    go_wp2
    refine NoPanic.normal ?_
    go_wp2_with fail
    go_ret
    exact ⟨rfl, ws, HE.out⟩
  · have t1 : (E != 0) = true := by simp [hE]
    rw [if_neg hE] at hD
    subst hD
    clear hE
    go_wp2_with fail
    go_ret
    exact ⟨rfl, _, HY.out.2.2.1.below HB2.out.1, Rw.self HY.out.2.2.2.2.2, HY.out.2.2.2.2.2, Bel.of HB2.out.1⟩
end Go.Proofs.Ytbcdpibcieadlaa

/- Layer 8: square; the closures of Trmm (printed by gen_kj.py). No condition but on lengths. -/
namespace Go.Proofs.Ytbcdpibcieadlaa
open Go Go.RowKit
set_option maxRecDepth 100000

set_option maxHeartbeats 4000000 in
theorem square_any (m : Vw) (w : World) : Calls Try.prog 85 #[(.agg #[.pointer m.p, .int .i64 m.r, .int .i64 m.c, .int .i64 m.o, .int .i64 m.d, .int .i64 m.u])] w fun e w' => e = .returned (.bool (decide (m.r = m.c))) ∧ Below w.heap.size w w' := by
  have hB0 : Below w.heap.size w (w.alloc (.cells #[.pointer m.p, .int .i64 m.r, .int .i64 m.c, .int .i64 m.o, .int .i64 m.d, .int .i64 m.u] 29)) := (Below.refl _ _).alloc (Nat.le_refl _) _
  have hm := Box.newA w [.pointer m.p, .int .i64 m.r, .int .i64 m.c, .int .i64 m.o, .int .i64 m.d, .int .i64 m.u] 29 rfl
  have ee : ((m.r : Int) == (m.c : Int)) = decide (m.r = m.c) := by rw [Bool.eq_iff_iff]; simp; omega
  generalize decide (m.r = m.c) = q at *
  go_enter Try.func85, Try.ntmps85
  go_upto_region 1 with (fail)
  generalize w.alloc (.cells #[.pointer m.p, .int .i64 m.r, .int .i64 m.c, .int .i64 m.o, .int .i64 m.d, .int .i64 m.u] 29) = w0 at *
  generalize hkm : w.heap.size = km at *
  have hdr : Below w0.heap.size w0 w0.drew := below_drewN 1 (Below.refl _ w0)
  have hl := hm.lt
  have HB1 := Lib.hid (hB0.trans (hdr.mono (Nat.le_of_lt hl)))
  have hm1 := hm.below hdr
  have HS := Lib.hid (show ∀ W, Below w0.drew.heap.size w0.drew W → (fun W => (∀ i, W.cell? ⟨km, i, none⟩ = ([.pointer m.p, .int .i64 m.r, .int .i64 m.c, .int .i64 m.o, .int .i64 m.d, .int .i64 m.u] : List Value)[i]?)) W from fun W h => (hm1.below h).cell)
  refine wp_region_many 5 40 [(0, 0), (0, 2), (1, 1), (1, 3), (0, 4)] (fun W => (∀ i, W.cell? ⟨km, i, none⟩ = ([.pointer m.p, .int .i64 m.r, .int .i64 m.c, .int .i64 m.o, .int .i64 m.d, .int .i64 m.u] : List Value)[i]?)) (by kernel_rfl) (by kernel_rfl) (HS.out _ (Below.refl _ _)) ?_
  clear hdr hl hm hm1 hB0
  generalize w0.drew = w1 at *
  iterate 2 (refine fm_take (v := ?_) rfl rfl ?_ ?_; rotate_left; (next => (intro w' hSw; (try dsimp only at hSw); go_simp; (try (rw [if_pos (by omega)]; go_simp)); (try with_reducible rfl))); (simp only [Act.put, List.setIfInBounds_toArray, List.set_cons_zero, List.set_cons_succ]))
  refine fm_one (opW_take rfl rfl ?_)
  go_simp
  refine (Rows_any m.p m.r m.c m.o m.d m.u w1).mono ?_
  rintro e w2 ⟨rfl, hb2⟩
  refine ⟨HS.out _ hb2, ?_⟩
  refine fm_one (opW_take rfl rfl ?_)
  go_simp
  refine (Cols_any m.p m.r m.c m.o m.d m.u w2).mono ?_
  rintro e w3 ⟨rfl, hb3⟩
  have hb23 := below_step hb2 hb2.size hb3
  refine ⟨HS.out _ hb23, ?_⟩
  have HB3 := Lib.hid (HB1.out.trans (hb23.mono (by have := HB1.out.size; omega)))
  clear hb2 hb3 hb23
  iterate 1 (refine fm_take (v := ?_) rfl rfl ?_ ?_; rotate_left; (next => (intro w' hSw; (try dsimp only at hSw); go_simp; (try (rw [if_pos (by omega)]; go_simp)); (try with_reducible rfl))); (simp only [Act.put, List.setIfInBounds_toArray, List.set_cons_zero, List.set_cons_succ]))
  refine fm_nil ?_
  go_simp
  go_wp2
  refine NoPanic.normal ?_
  go_wp2_with fail
  go_ret
  exact ⟨rfl, hkm ▸ HB3.out⟩
def fits_Trmm (t m : Vw) : Bool := decide (t.r = t.c) && decide (t.r = m.r)
set_option maxHeartbeats 4000000 in
theorem Trmmf_any (w : World) (t m : Vw) (kt km : Nat) (ht : Box w kt t.cs) (hm : Box w km m.cs) :
    Calls Try.prog 84 #[.pointer (some ⟨kt, 0, none⟩), .pointer (some ⟨km, 0, none⟩)] w fun e w' => e = .returned (.bool (fits_Trmm t m)) ∧ Below w.heap.size w w' := by
  have HQ := Lib.hid (fun W => square_any t W)
  have ee : ((t.r : Int) == (m.r : Int)) = decide (t.r = m.r) := by rw [Bool.eq_iff_iff]; simp; omega
  unfold fits_Trmm
  have HS := Lib.hid (show ∀ W, Below w.heap.size w W → (fun W => (∀ i, W.cell? ⟨kt, i, none⟩ = ([.pointer t.p, .int .i64 t.r, .int .i64 t.c, .int .i64 t.o, .int .i64 t.d, .int .i64 t.u] : List Value)[i]?) ∧ (∀ i, W.cell? ⟨km, i, none⟩ = ([.pointer m.p, .int .i64 m.r, .int .i64 m.c, .int .i64 m.o, .int .i64 m.d, .int .i64 m.u] : List Value)[i]?)) W from fun W h => ⟨(ht.below h).cell, (hm.below h).cell⟩)
  have HB1 := Lib.hid (show Below w.heap.size w w.drew from below_drewN 1 (Below.refl w.heap.size w))
  clear ht hm
  generalize decide (t.r = t.c) = q1 at *
  generalize decide (t.r = m.r) = q2 at *
  cases q1
  · go_enter Try.func84, Try.ntmps84
    go_upto_region 1 with (fail)
    refine wp_region_many 9 40 [(0, 0), (1, 1), (0, 2), (0, 3), (0, 4), (0, 5), (0, 6), (0, 7), (0, 8)] (fun W => (∀ i, W.cell? ⟨kt, i, none⟩ = ([.pointer t.p, .int .i64 t.r, .int .i64 t.c, .int .i64 t.o, .int .i64 t.d, .int .i64 t.u] : List Value)[i]?) ∧ (∀ i, W.cell? ⟨km, i, none⟩ = ([.pointer m.p, .int .i64 m.r, .int .i64 m.c, .int .i64 m.o, .int .i64 m.d, .int .i64 m.u] : List Value)[i]?)) (by kernel_rfl) (by kernel_rfl) (HS.out _ HB1.out) ?_
    generalize w.drew = w1 at *
    iterate 1 (refine fm_take (v := ?_) rfl rfl ?_ ?_; rotate_left; (next => (intro w' hSw; (try dsimp only at hSw); go_simp; (try (rw [if_pos (by omega)]; go_simp)); (try with_reducible rfl))); (simp only [Act.put, List.setIfInBounds_toArray, List.set_cons_zero, List.set_cons_succ]))
    refine fm_one ?_
    refine opW_take rfl rfl ?_
    go_simp
    refine (HQ.out w1).mono ?_
    rintro e v1 ⟨rfl, hb⟩
    have hB1 := Lib.hid (below_step HB1.out HB1.out.size hb)
    clear hb
    refine ⟨HS.out _ hB1.out, ?_⟩
    iterate 1 (refine fm_take (v := ?_) rfl rfl ?_ ?_; rotate_left; (next => (intro w' hSw; (try dsimp only at hSw); go_simp; (try (rw [if_pos (by omega)]; go_simp)); (try with_reducible rfl))); (simp only [Act.put, List.setIfInBounds_toArray, List.set_cons_zero, List.set_cons_succ]))
    iterate 1 (refine fm_out rfl rfl ?_; (simp only [Act.put, List.setIfInBounds_toArray, List.set_cons_zero, List.set_cons_succ]))
    iterate 1 (refine fm_out rfl rfl ?_; (simp only [Act.put, List.setIfInBounds_toArray, List.set_cons_zero, List.set_cons_succ]))
    iterate 1 (refine fm_out rfl rfl ?_; (simp only [Act.put, List.setIfInBounds_toArray, List.set_cons_zero, List.set_cons_succ]))
    iterate 1 (refine fm_out rfl rfl ?_; (simp only [Act.put, List.setIfInBounds_toArray, List.set_cons_zero, List.set_cons_succ]))
    iterate 1 (refine fm_out rfl rfl ?_; (simp only [Act.put, List.setIfInBounds_toArray, List.set_cons_zero, List.set_cons_succ]))
    iterate 1 (refine fm_take (v := ?_) rfl rfl ?_ ?_; rotate_left; (next => (intro w' hSw; (try dsimp only at hSw); go_simp; (try (rw [if_pos (by omega)]; go_simp)); (try with_reducible rfl))); (simp only [Act.put, List.setIfInBounds_toArray, List.set_cons_zero, List.set_cons_succ]))
    refine fm_nil ?_
    go_simp
    go_wp2
    refine NoPanic.normal ?_
    go_wp2_with fail
    go_ret
    exact ⟨by simp, hB1.out⟩
  · go_enter Try.func84, Try.ntmps84
    go_upto_region 1 with (fail)
    refine wp_region_many 9 40 [(0, 0), (1, 1), (0, 2), (0, 3), (0, 5), (1, 4), (1, 6), (0, 7), (0, 8)] (fun W => (∀ i, W.cell? ⟨kt, i, none⟩ = ([.pointer t.p, .int .i64 t.r, .int .i64 t.c, .int .i64 t.o, .int .i64 t.d, .int .i64 t.u] : List Value)[i]?) ∧ (∀ i, W.cell? ⟨km, i, none⟩ = ([.pointer m.p, .int .i64 m.r, .int .i64 m.c, .int .i64 m.o, .int .i64 m.d, .int .i64 m.u] : List Value)[i]?)) (by kernel_rfl) (by kernel_rfl) (HS.out _ HB1.out) ?_
    generalize w.drew = w1 at *
    iterate 1 (refine fm_take (v := ?_) rfl rfl ?_ ?_; rotate_left; (next => (intro w' hSw; (try dsimp only at hSw); go_simp; (try (rw [if_pos (by omega)]; go_simp)); (try with_reducible rfl))); (simp only [Act.put, List.setIfInBounds_toArray, List.set_cons_zero, List.set_cons_succ]))
    refine fm_one ?_
    refine opW_take rfl rfl ?_
    go_simp
    refine (HQ.out w1).mono ?_
    rintro e v1 ⟨rfl, hb⟩
    have hB1 := Lib.hid (below_step HB1.out HB1.out.size hb)
    clear hb
    refine ⟨HS.out _ hB1.out, ?_⟩
    iterate 1 (refine fm_take (v := ?_) rfl rfl ?_ ?_; rotate_left; (next => (intro w' hSw; (try dsimp only at hSw); go_simp; (try (rw [if_pos (by omega)]; go_simp)); (try with_reducible rfl))); (simp only [Act.put, List.setIfInBounds_toArray, List.set_cons_zero, List.set_cons_succ]))
    iterate 1 (refine fm_take (v := ?_) rfl rfl ?_ ?_; rotate_left; (next => (intro w' hSw; (try dsimp only at hSw); go_simp; (try (rw [if_pos (by omega)]; go_simp)); (try with_reducible rfl))); (simp only [Act.put, List.setIfInBounds_toArray, List.set_cons_zero, List.set_cons_succ]))
    iterate 1 (refine fm_take (v := ?_) rfl rfl ?_ ?_; rotate_left; (next => (intro w' hSw; (try dsimp only at hSw); go_simp; (try (rw [if_pos (by omega)]; go_simp)); (try with_reducible rfl))); (simp only [Act.put, List.setIfInBounds_toArray, List.set_cons_zero, List.set_cons_succ]))
    refine fm_one ?_
    refine opW_take rfl rfl ?_
    go_simp
    refine (Rows_any t.p t.r t.c t.o t.d t.u v1).mono ?_
    rintro e v2 ⟨rfl, hb⟩
    have hB2 := Lib.hid (below_step hB1.out hB1.out.size hb)
    clear hb
    refine ⟨HS.out _ hB2.out, ?_⟩
    refine fm_one ?_
    refine opW_take rfl rfl ?_
    go_simp
    refine (Rows_any m.p m.r m.c m.o m.d m.u v2).mono ?_
    rintro e v3 ⟨rfl, hb⟩
    have hB3 := Lib.hid (below_step hB2.out hB2.out.size hb)
    clear hb
    refine ⟨HS.out _ hB3.out, ?_⟩
    iterate 1 (refine fm_take (v := ?_) rfl rfl ?_ ?_; rotate_left; (next => (intro w' hSw; (try dsimp only at hSw); go_simp; (try (rw [if_pos (by omega)]; go_simp)); (try with_reducible rfl))); (simp only [Act.put, List.setIfInBounds_toArray, List.set_cons_zero, List.set_cons_succ]))
    iterate 1 (refine fm_take (v := ?_) rfl rfl ?_ ?_; rotate_left; (next => (intro w' hSw; (try dsimp only at hSw); go_simp; (try (rw [if_pos (by omega)]; go_simp)); (try with_reducible rfl))); (simp only [Act.put, List.setIfInBounds_toArray, List.set_cons_zero, List.set_cons_succ]))
    refine fm_nil ?_
    go_simp
    go_wp2
    refine NoPanic.normal ?_
    go_wp2_with fail
    go_ret
    exact ⟨by simp, hB3.out⟩
/-- A triangle's entry. -/
def triW (unit : Bool) (t : Vw) (ts : List Nat) (i k : Nat) : Nat := if unit && decide (i = k) then 4607182418800017408 else t.get ts i k
set_option maxHeartbeats 4000000 in
theorem Trmm2_any (w : World) (unit : Bool) (t : Vw) (st : Nat) (ts : List Nat) (i k bu bt : Nat) (hok : t.Ok w st ts) (hW : Words ts) (hu : Box w bu [.bool unit]) (ht : Box w bt [.pointer t.p, .int .i64 t.r, .int .i64 t.c, .int .i64 t.o, .int .i64 t.d, .int .i64 t.u]) :
    Calls Try.prog 86 #[.int .i64 i, .int .i64 k, .pointer (some ⟨bu, 0, none⟩), .pointer (some ⟨bt, 0, none⟩)] w fun e w' => (∃ s, e = .returned (.float .f64 (raw (triW unit t ts i k) s))) ∧ Below w.heap.size w w' := by
  obtain ⟨p1, p2, p3⟩ := hu.facts
  obtain ⟨q1, q2, q3⟩ := ht.facts
  have HA := Lib.hid (At_any w t st ts i k hok)
  have ee : ((i : Int) == (k : Int)) = decide (i = k) := by rw [Bool.eq_iff_iff]; simp; omega
  obtain ⟨s, hs⟩ := raw_self (get_word (v := t) hW i k)
  have HSs := Lib.hid hs
  unfold triW
  clear hok hW hu ht hs
  cases unit
  · go_enter Try.func86, Try.ntmps86
    go_wp2_with fail
    refine HA.out.mono ?_
    rintro e w1 ⟨rfl, hb1⟩
    dsimp only
    go_wp2_with fail
    go_ret
    exact ⟨⟨s, congrArg (fun v => Ending.returned (Value.float .f64 v)) HSs.out⟩, hb1⟩
  · cases hd : decide (i = k)
    · rw [hd] at ee
      clear hd
      go_enter Try.func86, Try.ntmps86
      go_wp2_with fail
      refine HA.out.mono ?_
      rintro e w1 ⟨rfl, hb1⟩
      dsimp only
      go_wp2_with fail
      go_ret
      exact ⟨⟨s, congrArg (fun v => Ending.returned (Value.float .f64 v)) HSs.out⟩, hb1⟩
    · rw [hd] at ee
      clear hd
      go_enter Try.func86, Try.ntmps86
      go_wp2_with fail
      go_ret
      exact ⟨⟨0, congrArg (fun v => Ending.returned (Value.float .f64 v)) (raw_of_not (v := 4607182418800017408) (by kernel_rfl) 0).symm⟩, Below.refl _ _⟩
set_option maxHeartbeats 4000000 in
theorem Trmm3_any (w : World) (unit : Bool) (t : Vw) (st : Nat) (ts : List Nat) (i j k bu bt be ba : Nat) (hok : t.Ok w st ts) (hW : Words ts) (hu : Box w bu [.bool unit]) (ht : Box w bt [.pointer t.p, .int .i64 t.r, .int .i64 t.c, .int .i64 t.o, .int .i64 t.d, .int .i64 t.u])
    (he : Box w be [.func (.func 86) #[] #[.pointer (some ⟨bu, 0, none⟩), .pointer (some ⟨bt, 0, none⟩)]]) (ha : Box w ba [.int .i64 i, .int .i64 j]) :
    Calls Try.prog 87 #[.int .i64 k, .pointer (some ⟨be, 0, none⟩), .pointer (some ⟨ba, 0, none⟩)] w fun e w' => (∃ s, e = .returned (.float .f64 (raw (triW unit t ts i k) s))) ∧ Below w.heap.size w w' := by
  have HA := Lib.hid (Trmm2_any w unit t st ts i k bu bt hok hW hu ht)
  obtain ⟨p1, p2, p3⟩ := he.facts
  obtain ⟨q1, q2, q3⟩ := ha.facts
  clear hok hW hu ht he ha
  go_enter Try.func87, Try.ntmps87
  go_wp2_with fail
  refine HA.out.mono ?_
  rintro e w2 ⟨⟨s, rfl⟩, hb2⟩
  dsimp only
  go_wp2_with fail
  go_ret
  exact ⟨⟨s, rfl⟩, hb2⟩
end Go.Proofs.Ytbcdpibcieadlaa

/- Drawn regions, walked in the text's order: a call is known as one ahead of the walk's own steps. No condition. -/
namespace Go.Proofs.Ytbcdpibcieadlaa
open Go Go.RowKit
section
variable {P : Program} {ops : Array Oper} {C : World → Prop} {F : FuncId → Array Value → Value → Prop} {R : Act → Prop} {K : Act → Prop} {o : Oper} {a : Act}
def isCallOp (o : Oper) : Bool := match o.op with | .call _ => true | _ => false
theorem nq_inC (_ : isCallOp o = true) (h : ∀ w, C w → nqUpon P C F (fun v => K (a.put o.dst v)) ((execOp a.eval o).run P w)) : nq P C F o a K := nq_in h
end
end Go.Proofs.Ytbcdpibcieadlaa
