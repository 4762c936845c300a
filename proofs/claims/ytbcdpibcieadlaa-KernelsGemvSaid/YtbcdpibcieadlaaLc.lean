/- Layer 8: what a view shows of a matrix, and what is set in it. No condition but on lengths. -/
import Derived.Test.YtbcdpibcieadlaaLb
namespace Go.Proofs.Ytbcdpibcieadlaa
open Go Go.RowKit
set_option maxRecDepth 1000000

/-! ### What a view shows -/
theorem sameN_of {xs ys : List Nat} : ∀ n, (∀ k, k < n → sameF (xs.getD k 0) (ys.getD k 0) = true) → sameN xs ys n = true
  | 0, _ => rfl
  | n + 1, h => by rw [sameN, sameN_of n (fun k hk => h k (by omega)), h n (by omega)]; rfl
theorem sameF_raw (v s t : Nat) : sameF (raw v s) (raw v t) = true := (nm_same _ _).1 (by rw [nm_raw, nm_raw])
set_option maxHeartbeats 2000000 in
theorem shows_any (w : World) (v : Vw) (sb : Nat) (ws : List Nat) (r c : Nat) (a : Option Addr) (zs : List Nat) (cap : Nat) (hv : v.Ok w sb ws) (hw : Words ws) (er : v.r = r) (ec : v.c = c) (hZ : Fls w a zs) (hW : Words zs) (hl : zs.length ≤ 262144) (hR : Rw (v.list ws) zs) :
    Calls Try.prog 28 #[v.val, .agg #[.int .i64 r, .int .i64 c, .slice a zs.length cap]] w fun e w' => e = .returned (.bool true) ∧ Below w.heap.size w w' := by
  obtain ⟨ys, hyl, hys, hC⟩ := hZ.words
  have hyW : Words ys := fun y hy => by
    obtain ⟨i, hi, rfl⟩ := List.getElem_of_mem hy
    obtain ⟨s, hs⟩ := hys i (zs[i]'(by omega)) (List.getElem?_eq_getElem (by omega))
    rw [List.getElem?_eq_getElem hi] at hs
    simp only [Option.some.injEq] at hs
    rw [hs]
    exact raw_lt (hW _ (List.getElem_mem _)) s
  have hsame : sameM r c (v.list ws) r c ys = true := by
    unfold sameM sameFs
    rw [hR.1, hyl]
    simp only [decide_true, Bool.true_and]
    refine sameN_of _ fun k hk => ?_
    obtain ⟨s, hs⟩ := hR.2 k hk
    obtain ⟨t, ht⟩ := hys k (zs.getD k 0) (by rw [List.getD_eq_getElem?_getD, List.getElem?_eq_getElem hk]; rfl)
    rw [hs, List.getD_eq_getElem?_getD (l := ys), ht]
    exact sameF_raw _ _ _
  have hLl : (v.list ws).length ≤ maxLen := by rw [hR.1]; unfold maxLen; omega
  have hYl : ys.length ≤ maxLen := by rw [hyl]; unfold maxLen; omega
  have HM := Lib.hid (show ∀ W, Below w.heap.size w W → Calls Try.prog 48 #[(.agg #[.pointer v.p, .int .i64 v.r, .int .i64 v.c, .int .i64 v.o, .int .i64 v.d, .int .i64 v.u])] W _ from fun W h => Matrix_cel W v sb ws (hv.below h))
  have HSM := Lib.hid (fun W (h : Below w.heap.size w W) a' cap' (hc : Cel W a' (v.list ws)) => SameMatrix_any W r c r c a' a (v.list ws) ys cap' cap hc (hC.below h) (list_words8 hw) hyW hLl hYl)
  rw [hsame] at HSM
  rw [hyl] at HSM
  rw [er, ec] at HM
  have HB := Lib.hid (show Below w.heap.size w ((w.alloc (.cells #[.pointer v.p, .int .i64 v.r, .int .i64 v.c, .int .i64 v.o, .int .i64 v.d, .int .i64 v.u] 29)).alloc (.cells #[.int .i64 r, .int .i64 c, .slice a zs.length cap] 24)) from ((Below.refl _ _).alloc (Nat.le_refl _) _).alloc (by simp) _)
  have x0 : Box ((w.alloc (.cells #[.pointer v.p, .int .i64 v.r, .int .i64 v.c, .int .i64 v.o, .int .i64 v.d, .int .i64 v.u] 29)).alloc (.cells #[.int .i64 r, .int .i64 c, .slice a zs.length cap] 24)) w.heap.size [.pointer v.p, .int .i64 v.r, .int .i64 v.c, .int .i64 v.o, .int .i64 v.d, .int .i64 v.u] := (Box.newA w [.pointer v.p, .int .i64 v.r, .int .i64 v.c, .int .i64 v.o, .int .i64 v.d, .int .i64 v.u] _ rfl).alloc _
  have x1 : Box ((w.alloc (.cells #[.pointer v.p, .int .i64 v.r, .int .i64 v.c, .int .i64 v.o, .int .i64 v.d, .int .i64 v.u] 29)).alloc (.cells #[.int .i64 r, .int .i64 c, .slice a zs.length cap] 24)) (w.heap.size + 1) [.int .i64 r, .int .i64 c, .slice a zs.length cap] := Box.newA _ _ _ (by simp)
  show Calls Try.prog 28 #[(.agg #[.pointer v.p, .int .i64 v.r, .int .i64 v.c, .int .i64 v.o, .int .i64 v.d, .int .i64 v.u]), .agg #[.int .i64 r, .int .i64 c, .slice a zs.length cap]] w _
  rw [er, ec] at HB x0 x1 ⊢
  clear hv hw hZ hW hl hR hyl hys hC hyW hsame hLl hYl er ec
  generalize v.list ws = L at *
  generalize zs.length = n at *
  obtain ⟨W0, hW0⟩ : ∃ W0, W0 = (w.alloc (.cells #[.pointer v.p, .int .i64 r, .int .i64 c, .int .i64 v.o, .int .i64 v.d, .int .i64 v.u] 29)).alloc (.cells #[.int .i64 r, .int .i64 c, .slice a n cap] 24) := ⟨_, rfl⟩
  rw [← hW0] at HB x0 x1
  have HX := Lib.hid (show _ ∧ _ from ⟨x0, x1⟩)
  clear x0 x1
  go_enter Try.func28, Try.ntmps28
  go_upto_region 1 with (fail)
  rw [← hW0]
  clear hW0
  have hdr : Below W0.heap.size W0 W0.drew := below_drewN 1 (Below.refl _ W0)
  have HS := Lib.hid (show ∀ W, Below W0.drew.heap.size W0.drew W → (fun W => (∀ i, W.cell? ⟨w.heap.size, i, none⟩ = ([.pointer v.p, .int .i64 r, .int .i64 c, .int .i64 v.o, .int .i64 v.d, .int .i64 v.u] : List Value)[i]?) ∧ (∀ i, W.cell? ⟨w.heap.size + 1, i, none⟩ = ([.int .i64 r, .int .i64 c, .slice a n cap] : List Value)[i]?)) W from fun W h => ⟨((HX.out.1.below hdr).below h).cell, ((HX.out.2.below hdr).below h).cell⟩)
  refine wp_region_items 3 [(true, 0), (true, 2), (false, 1)] (fun W => (∀ i, W.cell? ⟨w.heap.size, i, none⟩ = ([.pointer v.p, .int .i64 r, .int .i64 c, .int .i64 v.o, .int .i64 v.d, .int .i64 v.u] : List Value)[i]?) ∧ (∀ i, W.cell? ⟨w.heap.size + 1, i, none⟩ = ([.int .i64 r, .int .i64 c, .slice a n cap] : List Value)[i]?)) (by kernel_rfl) (by kernel_rfl) (HS.out _ (Below.refl _ _)) ?_
  have HB1 := Lib.hid (below_step HB.out HB.out.size hdr)
  generalize W0.drew = w1 at *
  clear hdr HX
  iterate 2 (refine iW_take (v := ?_) rfl rfl ?_ ?_; rotate_left; (next => (intro w' hSw; (try dsimp only at hSw); go_simp; (try (rw [if_pos (by omega)]; go_simp)); (try with_reducible rfl))); (simp only [Act.put, List.setIfInBounds_toArray, List.set_cons_zero, List.set_cons_succ]))
  refine iW_mid rfl rfl ?_
  go_simp
  refine (HM.out w1 HB1.out).mono ?_
  rintro e w2 ⟨a', cap', rfl, hc, hb⟩
  have HB2 := Lib.hid (below_step HB1.out HB1.out.size hb)
  have HC2 := Lib.hid (HSM.out w2 HB2.out a' cap' hc)
  refine ⟨HS.out _ hb, ?_⟩
  clear hb hc HM HSM HS
  refine iW_nil ?_
  go_simp
  go_wp2_with fail
  refine HC2.out.mono ?_
  rintro e w3 ⟨rfl, hb⟩
  have HB3 := Lib.hid (below_step HB2.out HB2.out.size hb)
  clear hb HC2
  dsimp only
  go_wp2_with fail
  refine NoPanic.normal ?_
  go_wp2_with fail
  go_ret
  exact ⟨rfl, HB3.out⟩
theorem Box.put3 {w : World} {n : Nat} {a0 a1 a2 : Value} (h : Box w n [a0, a1, a2]) (v0 v1 v2 : Value) :
    Box (((w.setCell ⟨n, 0, none⟩ v0).setCell ⟨n, 1, none⟩ v1).setCell ⟨n, 2, none⟩ v2) n [v0, v1, v2] := ((h.set 0 v0).set 1 v1).set 2 v2
theorem below_put3 {B n : Nat} {a w : World} (h : Below B a w) (hn : B ≤ n) (v0 v1 v2 : Value) :
    Below B a (((w.setCell ⟨n, 0, none⟩ v0).setCell ⟨n, 1, none⟩ v1).setCell ⟨n, 2, none⟩ v2) := ((h.setCell hn _).setCell hn _).setCell hn _
theorem Box.other3 {w : World} {n m : Nat} {cs : List Value} (h : Box w n cs) (hne : n ≠ m) (v0 v1 v2 : Value) :
    Box (((w.setCell ⟨m, 0, none⟩ v0).setCell ⟨m, 1, none⟩ v1).setCell ⟨m, 2, none⟩ v2) n cs := ((h.set_other hne 0 _).set_other hne 1 _).set_other hne 2 _
set_option maxHeartbeats 1000000 in
theorem like_any (w : World) (r c : Nat) (a a' : Option Addr) (n cap n' cap' : Nat) :
    Calls Try.prog 29 #[.agg #[.int .i64 r, .int .i64 c, .slice a n cap], .slice a' n' cap'] w fun e w' => e = .returned (.agg #[.int .i64 r, .int .i64 c, .slice a' n' cap']) ∧ Below w.heap.size w w' := by
  have hB0 : Below w.heap.size w ((w.alloc (.cells #[.int .i64 r, .int .i64 c, .slice a n cap] 24)).alloc (.cells #[.int .i64 0, .int .i64 0, .slice none 0 0] 24)) := ((Below.refl _ _).alloc (Nat.le_refl _) _).alloc (by simp) _
  have x0 : Box ((w.alloc (.cells #[.int .i64 r, .int .i64 c, .slice a n cap] 24)).alloc (.cells #[.int .i64 0, .int .i64 0, .slice none 0 0] 24)) w.heap.size [.int .i64 r, .int .i64 c, .slice a n cap] := (Box.newA w [_, _, _] _ rfl).alloc _
  have x1 : Box ((w.alloc (.cells #[.int .i64 r, .int .i64 c, .slice a n cap] 24)).alloc (.cells #[.int .i64 0, .int .i64 0, .slice none 0 0] 24)) (w.heap.size + 1) [.int .i64 0, .int .i64 0, .slice none 0 0] := Box.newA _ _ _ (by simp)
  obtain ⟨p1, p2, p3⟩ := x0.facts
  obtain ⟨q1, q2, q3⟩ := x1.facts
  clear x0 x1 hB0
  go_enter Try.func29, Try.ntmps29
  go_wp2_with fail
  refine bodyPost_ret (results_one rfl (rv_cell (g := w.heap.size + 1) rfl (Box.newA _ [_, _, _] _ (by simp)) rfl Try.underlying24 (by kernel_rfl))) rfl ⟨rfl, ?_⟩
  exact ((Below.refl _ _).alloc (Nat.le_refl _) _).alloc (by simp) _

/-! ### What is set -/
/-- The form of a matrix's view. -/
structure OfI (v : Vw) (r c : Nat) : Prop where
  o0 : v.o = 0
  form : (v.d = c ∧ v.u = 1) ∨ (v.d = 1 ∧ v.u = r)
theorem ofV_i (t : Bool) (st r c : Nat) : OfI (ofV t st r c) r c := by
  unfold ofV
  cases t
  · exact ⟨rfl, .inl ⟨rfl, rfl⟩⟩
  · exact ⟨rfl, .inr ⟨rfl, rfl⟩⟩
theorem of9_any (t : Bool) (r c : Nat) (a : Option Addr) (zs : List Nat) (cap : Nat) (w : World) (hr : r ≤ 512) (hc : c ≤ 512) (hn : zs.length = r * c) (hZ : Cel w a zs) (hW : Words zs) :
    Calls Try.prog 17 #[.agg #[.int .i64 r, .int .i64 c, .slice a zs.length cap], .bool t] w fun e w' => (∃ v st sb ws, e = .returned v.val ∧ w.heap.size ≤ st ∧ w.heap.size ≤ sb ∧ Sto w' (some ⟨st, 0, none⟩) sb ws ∧ OfP v st r c zs ws ∧ OfI v r c ∧ ws.length = r * c) ∧ Below w.heap.size w w' := by
  refine (of_any t r c a zs cap w hr hc hn hZ).mono ?_
  rintro e w' ⟨st, sb, rfl, k1, k2, hS, hb⟩
  exact ⟨⟨ofV t st r c, st, sb, ofL t r c zs, rfl, k1, k2, hS, ⟨ofV_p _ _ _ _, ofV_r _ _ _ _, ofV_c _ _ _ _, ofL_words t r c hW, fun i j hi hj => ofV_at t st r c zs hi hj, fun W sb h => ofV_ok h hr hc hn⟩, ofV_i _ _ _ _, ofL_length t r c zs hn⟩, hb⟩
theorem place8 {i j r c : Nat} (hi : i < r) (hj : j < c) : i * c + j < r * c := Nat.lt_of_lt_of_le (by omega : i * c + j < i * c + c) (by rw [← Nat.succ_mul]; exact Nat.mul_le_mul_right _ hi)
theorem place8_inj {i j i' j' c : Nat} (hj : j < c) (hj' : j' < c) (h : i * c + j = i' * c + j') : i = i' ∧ j = j' := by
  have h1 : (i * c + j) / c = i := by rw [Nat.mul_comm, Nat.mul_add_div (by omega), Nat.div_eq_of_lt hj]; omega
  have h2 : (i' * c + j') / c = i' := by rw [Nat.mul_comm, Nat.mul_add_div (by omega), Nat.div_eq_of_lt hj']; omega
  have e : i = i' := by rw [← h1, ← h2, h]
  subst e
  exact ⟨rfl, by omega⟩
section
variable {v : Vw} {r c : Nat}
theorem OfI.lt (h : OfI v r c) {i j : Nat} (hi : i < r) (hj : j < c) : v.o + i * v.d + j * v.u < r * c := by
  rw [h.o0]
  rcases h.form with ⟨e1, e2⟩ | ⟨e1, e2⟩
  · rw [e1, e2]; have := place8 hi hj; omega
  · rw [e1, e2]; have := place8 hj hi; rw [Nat.mul_comm r c]; omega
theorem OfI.inj (h : OfI v r c) {i j i' j' : Nat} (hi : i < r) (hj : j < c) (hi' : i' < r) (hj' : j' < c) (e : v.o + i * v.d + j * v.u = v.o + i' * v.d + j' * v.u) : i = i' ∧ j = j' := by
  rcases h.form with ⟨e1, e2⟩ | ⟨e1, e2⟩
  · rw [e1, e2] at e; exact place8_inj hj hj' (by omega)
  · rw [e1, e2] at e; exact (place8_inj hi hi' (show j * r + i = j' * r + i' by omega)).symm
theorem get_pl (v : Vw) (ws : List Nat) (er : v.r = r) (ec : v.c = c) {i j : Nat} (hi : i < r) (hj : j < c) : v.get ws i j = ws.getD (v.o + i * v.d + j * v.u) 0 := by
  unfold Vw.get
  rw [if_pos (by unfold inV; simp; omega)]
  simp
theorem put_pl (v : Vw) (ws : List Nat) (er : v.r = r) (ec : v.c = c) {i j : Nat} (hi : i < r) (hj : j < c) (x : Nat) : v.put ws i j x = ws.set (v.o + i * v.d + j * v.u) x := by
  unfold Vw.put
  rw [if_pos (by unfold inV; simp; omega)]
  simp
theorem getD_set8 (ws : List Nat) (k k' x : Nat) (hk : k < ws.length) : (ws.set k x).getD k' 0 = if k = k' then x else ws.getD k' 0 := by
  by_cases h : k = k'
  · subst h
    rw [if_pos rfl, List.getD_eq_getElem?_getD, List.getElem?_set_self hk]
    rfl
  · rw [if_neg h, List.getD_eq_getElem?_getD, List.getElem?_set_ne h, ← List.getD_eq_getElem?_getD]
theorem OfI.get_put (h : OfI v r c) (er : v.r = r) (ec : v.c = c) (ws : List Nat) (hl : ws.length = r * c) {i j i' j' : Nat} (hi : i < r) (hj : j < c) (hi' : i' < r) (hj' : j' < c) (x : Nat) :
    v.get (v.put ws i j x) i' j' = if i = i' ∧ j = j' then x else v.get ws i' j' := by
  rw [put_pl v ws er ec hi hj, get_pl v _ er ec hi' hj', get_pl v ws er ec hi' hj', getD_set8 _ _ _ _ (by rw [hl]; exact h.lt hi hj)]
  by_cases e : i = i' ∧ j = j'
  · rw [if_pos e, if_pos (by rw [e.1, e.2])]
  · rw [if_neg e, if_neg (fun h2 => e (h.inj hi hj hi' hj' h2))]
end
theorem put_len8 (v : Vw) (ws : List Nat) (i j : Int) (x : Nat) : (v.put ws i j x).length = ws.length := Vw.put_length v ws i j x
/-- What a view shows, told place by place. -/
theorem list_rw (v : Vw) (ws : List Nat) (r c : Nat) (er : v.r = r) (ec : v.c = c) (zs : List Nat) (hn : zs.length = r * c) (h : ∀ i j, i < r → j < c → ∃ s, v.get ws i j = raw (zs.getD (i * c + j) 0) s) : Rw (v.list ws) zs := by
  refine ⟨by rw [list_len8, er, ec, hn], fun k hk => ?_⟩
  have hk2 : k < v.r * v.c := by rw [er, ec, ← hn]; exact hk
  rw [list_getD8 v ws hk2, ec]
  have hc : 0 < c := Nat.pos_of_ne_zero fun e => by rw [e, Nat.mul_zero] at hn; omega
  have h1 : k / c < r := by rw [Nat.div_lt_iff_lt_mul hc, ← hn]; exact hk
  have h2 := h (k / c) (k % c) h1 (Nat.mod_lt _ hc)
  rw [Nat.mul_comm, Nat.div_add_mod] at h2
  exact h2
theorem Rw.get {ws ts : List Nat} (h : Rw ws ts) (v : Vw) (i j : Int) : ∃ s, v.get ws i j = raw (v.get ts i j) s := by
  unfold Vw.get
  split
  · by_cases hk : v.o + i.toNat * v.d + j.toNat * v.u < ts.length
    · exact h.2 _ hk
    · refine ⟨0, ?_⟩
      rw [List.getD_eq_getElem?_getD, List.getElem?_eq_none (by rw [h.1]; omega), List.getD_eq_getElem?_getD, List.getElem?_eq_none (by omega)]
      exact (raw_of_not (by kernel_rfl) 0).symm
  · exact ⟨0, (raw_of_not (by kernel_rfl) 0).symm⟩
/-- Nothing was set. -/
theorem OfP.same {v : Vw} {st r c : Nat} {zs ws us : List Nat} (h : OfP v st r c zs ws) (hn : zs.length = r * c) (hR : Rw us ws) : Rw (v.list us) zs :=
  list_rw v us r c h.er h.ec zs hn fun i j hi hj => by
    obtain ⟨s, hs⟩ := hR.get v i j
    exact ⟨s, by rw [hs, h.get i j hi hj]⟩
end Go.Proofs.Ytbcdpibcieadlaa
