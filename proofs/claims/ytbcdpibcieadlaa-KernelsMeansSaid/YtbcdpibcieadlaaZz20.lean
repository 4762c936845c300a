/- Layer 8: what a view shows of a matrix, and what is set in it. No condition but on lengths. -/
import Derived.Test.YtbcdpibcieadlaaZz19
namespace Go.Proofs.Ytbcdpibcieadlaa
open Go Go.RowKit
set_option maxRecDepth 1000000

/-! ### What a view shows -/
theorem sameN_of {xs ys : List Nat} : ∀ n, (∀ k, k < n → sameF (xs.getD k 0) (ys.getD k 0) = true) → sameN xs ys n = true
  | 0, _ => rfl
  | n + 1, h => by rw [sameN, sameN_of n (fun k hk => h k (by omega)), h n (by omega)]; rfl
theorem sameF_raw (v s t : Nat) : sameF (raw v s) (raw v t) = true := (nm_same _ _).1 (by rw [nm_raw, nm_raw])
set_option maxHeartbeats 2000000 in
theorem shows_any (w : World) (v : Vw) (sb : Nat) (ws : List Nat) (r c : Nat) (a : Option Addr) (zs : List Nat) (cap : Nat) (hv : v.Ok w sb ws) (hw : Words ws) (er : v.r = r) (ec : v.c = c) (hZ : Fls w a zs) (hW : Words zs) (hl : zs.length ≤ 262144) (hR : Rw (v.list ws) zs) :
    Calls Try.prog 28 #[v.val, .agg #[.int .i64 r, .int .i64 c, .slice a zs.length cap]] w fun e w' => e = .returned (.bool true) ∧ Below w.heap.size w w' := by
  obtain ⟨ys, hyl, hys, hC⟩ := hZ.words
  have hyW : Words ys := fun y hy => by
    obtain ⟨i, hi, rfl⟩ := List.getElem_of_mem hy
    obtain ⟨s, hs⟩ := hys i (zs[i]'(by omega)) (List.getElem?_eq_getElem (by omega))
    rw [List.getElem?_eq_getElem hi] at hs
    simp only [Option.some.injEq] at hs
    rw [hs]
    exact raw_lt (hW _ (List.getElem_mem _)) s
  have hsame : sameM r c (v.list ws) r c ys = true := by
    unfold sameM sameFs
    rw [hR.1, hyl]
    simp only [decide_true, Bool.true_and]
    refine sameN_of _ fun k hk => ?_
    obtain ⟨s, hs⟩ := hR.2 k hk
    obtain ⟨t, ht⟩ := hys k (zs.getD k 0) (by rw [List.getD_eq_getElem?_getD, List.getElem?_eq_getElem hk]; rfl)
    rw [hs, List.getD_eq_getElem?_getD (l := ys), ht]
    exact sameF_raw _ _ _
  have hLl : (v.list ws).length ≤ maxLen := by rw [hR.1]; unfold maxLen; omega
  have hYl : ys.length ≤ maxLen := by rw [hyl]; unfold maxLen; omega
  have HM := Lib.hid (show ∀ W, Below w.heap.size w W → Calls Try.prog 48 #[(.agg #[.pointer v.p, .int .i64 v.r, .int .i64 v.c, .int .i64 v.o, .int .i64 v.d, .int .i64 v.u])] W _ from fun W h => Matrix_cel W v sb ws (hv.below h))
  have HSM := Lib.hid (fun W (h : Below w.heap.size w W) a' cap' (hc : Cel W a' (v.list ws)) => SameMatrix_any W r c r c a' a (v.list ws) ys cap' cap hc (hC.below h) (list_words8 hw) hyW hLl hYl)
  rw [hsame] at HSM
  rw [hyl] at HSM
  rw [er, ec] at HM
  have HB := Lib.hid (show Below w.heap.size w ((w.alloc (.cells #[.pointer v.p, .int .i64 v.r, .int .i64 v.c, .int .i64 v.o, .int .i64 v.d, .int .i64 v.u] 29)).alloc (.cells #[.int .i64 r, .int .i64 c, .slice a zs.length cap] 24)) from ((Below.refl _ _).alloc (Nat.le_refl _) _).alloc (by simp) _)
  have x0 : Box ((w.alloc (.cells #[.pointer v.p, .int .i64 v.r, .int .i64 v.c, .int .i64 v.o, .int .i64 v.d, .int .i64 v.u] 29)).alloc (.cells #[.int .i64 r, .int .i64 c, .slice a zs.length cap] 24)) w.heap.size [.pointer v.p, .int .i64 v.r, .int .i64 v.c, .int .i64 v.o, .int .i64 v.d, .int .i64 v.u] := (Box.newA w [.pointer v.p, .int .i64 v.r, .int .i64 v.c, .int .i64 v.o, .int .i64 v.d, .int .i64 v.u] _ rfl).alloc _
  have x1 : Box ((w.alloc (.cells #[.pointer v.p, .int .i64 v.r, .int .i64 v.c, .int .i64 v.o, .int .i64 v.d, .int .i64 v.u] 29)).alloc (.cells #[.int .i64 r, .int .i64 c, .slice a zs.length cap] 24)) (w.heap.size + 1) [.int .i64 r, .int .i64 c, .slice a zs.length cap] := Box.newA _ _ _ (by simp)
  show Calls Try.prog 28 #[(.agg #[.pointer v.p, .int .i64 v.r, .int .i64 v.c, .int .i64 v.o, .int .i64 v.d, .int .i64 v.u]), .agg #[.int .i64 r, .int .i64 c, .slice a zs.length cap]] w _
  rw [er, ec] at HB x0 x1 ⊢
  clear hv hw hZ hW hl hR hyl hys hC hyW hsame hLl hYl er ec
  generalize v.list ws = L at *
  generalize zs.length = n at *
  obtain ⟨W0, hW0⟩ : ∃ W0, W0 = (w.alloc (.cells #[.pointer v.p, .int .i64 r, .int .i64 c, .int .i64 v.o, .int .i64 v.d, .int .i64 v.u] 29)).alloc (.cells #[.int .i64 r, .int .i64 c, .slice a n cap] 24) := ⟨_, rfl⟩
  rw [← hW0] at HB x0 x1
  have HX := Lib.hid (show _ ∧ _ from ⟨x0, x1⟩)
  clear x0 x1
  go_enter Try.func28, Try.ntmps28
  go_upto_region 1 with (fail)
  rw [← hW0]
  clear hW0
  have hdr : Below W0.heap.size W0 W0.drew := below_drewN 1 (Below.refl _ W0)
  have HS := Lib.hid (show ∀ W, Below W0.drew.heap.size W0.drew W → (fun W => (∀ i, W.cell? ⟨w.heap.size, i, none⟩ = ([.pointer v.p, .int .i64 r, .int .i64 c, .int .i64 v.o, .int .i64 v.d, .int .i64 v.u] : List Value)[i]?) ∧ (∀ i, W.cell? ⟨w.heap.size + 1, i, none⟩ = ([.int .i64 r, .int .i64 c, .slice a n cap] : List Value)[i]?)) W from fun W h => ⟨((HX.out.1.below hdr).below h).cell, ((HX.out.2.below hdr).below h).cell⟩)
  refine wp_region_items 3 [(true, 0), (true, 2), (false, 1)] (fun W => (∀ i, W.cell? ⟨w.heap.size, i, none⟩ = ([.pointer v.p, .int .i64 r, .int .i64 c, .int .i64 v.o, .int .i64 v.d, .int .i64 v.u] : List Value)[i]?) ∧ (∀ i, W.cell? ⟨w.heap.size + 1, i, none⟩ = ([.int .i64 r, .int .i64 c, .slice a n cap] : List Value)[i]?)) (by kernel_rfl) (by kernel_rfl) (HS.out _ (Below.refl _ _)) ?_
  have HB1 := Lib.hid (below_step HB.out HB.out.size hdr)
  generalize W0.drew = w1 at *
  clear hdr HX
  iterate 2 (refine iW_take (v := ?_) rfl rfl ?_ ?_; rotate_left; (next => (intro w' hSw; (try dsimp only at hSw); go_simp; (try (rw [if_pos (by omega)]; go_simp)); (try with_reducible rfl))); (simp only [Act.put, List.setIfInBounds_toArray, List.set_cons_zero, List.set_cons_succ]))
  refine iW_mid rfl rfl ?_
  go_simp
  refine (HM.out w1 HB1.out).mono ?_
  rintro e w2 ⟨a', cap', rfl, hc, hb⟩
  have HB2 := Lib.hid (below_step HB1.out HB1.out.size hb)
  have HC2 := Lib.hid (HSM.out w2 HB2.out a' cap' hc)
  refine ⟨HS.out _ hb, ?_⟩
  clear hb hc HM HSM HS
  refine iW_nil ?_
  go_simp
  go_wp2_with fail
  refine HC2.out.mono ?_
  rintro e w3 ⟨rfl, hb⟩
  have HB3 := Lib.hid (below_step HB2.out HB2.out.size hb)
  clear hb HC2
  dsimp only
  go_wp2_with fail
  refine NoPanic.normal ?_
  go_wp2_with fail
  go_ret
  exact ⟨rfl, HB3.out⟩
theorem Box.put3 {w : World} {n : Nat} {a0 a1 a2 : Value} (h : Box w n [a0, a1, a2]) (v0 v1 v2 : Value) :
    Box (((w.setCell ⟨n, 0, none⟩ v0).setCell ⟨n, 1, none⟩ v1).setCell ⟨n, 2, none⟩ v2) n [v0, v1, v2] := ((h.set 0 v0).set 1 v1).set 2 v2
theorem below_put3 {B n : Nat} {a w : World} (h : Below B a w) (hn : B ≤ n) (v0 v1 v2 : Value) :
    Below B a (((w.setCell ⟨n, 0, none⟩ v0).setCell ⟨n, 1, none⟩ v1).setCell ⟨n, 2, none⟩ v2) := ((h.setCell hn _).setCell hn _).setCell hn _
theorem Box.other3 {w : World} {n m : Nat} {cs : List Value} (h : Box w n cs) (hne : n ≠ m) (v0 v1 v2 : Value) :
    Box (((w.setCell ⟨m, 0, none⟩ v0).setCell ⟨m, 1, none⟩ v1).setCell ⟨m, 2, none⟩ v2) n cs := ((h.set_other hne 0 _).set_other hne 1 _).set_other hne 2 _
set_option maxHeartbeats 1000000 in
theorem like_any (w : World) (r c : Nat) (a a' : Option Addr) (n cap n' cap' : Nat) :
    Calls Try.prog 29 #[.agg #[.int .i64 r, .int .i64 c, .slice a n cap], .slice a' n' cap'] w fun e w' => e = .returned (.agg #[.int .i64 r, .int .i64 c, .slice a' n' cap']) ∧ Below w.heap.size w w' := by
  have hB0 : Below w.heap.size w ((w.alloc (.cells #[.int .i64 r, .int .i64 c, .slice a n cap] 24)).alloc (.cells #[.int .i64 0, .int .i64 0, .slice none 0 0] 24)) := ((Below.refl _ _).alloc (Nat.le_refl _) _).alloc (by simp) _
  have x0 : Box ((w.alloc (.cells #[.int .i64 r, .int .i64 c, .slice a n cap] 24)).alloc (.cells #[.int .i64 0, .int .i64 0, .slice none 0 0] 24)) w.heap.size [.int .i64 r, .int .i64 c, .slice a n cap] := (Box.newA w [_, _, _] _ rfl).alloc _
  have x1 : Box ((w.alloc (.cells #[.int .i64 r, .int .i64 c, .slice a n cap] 24)).alloc (.cells #[.int .i64 0, .int .i64 0, .slice none 0 0] 24)) (w.heap.size + 1) [.int .i64 0, .int .i64 0, .slice none 0 0] := Box.newA _ _ _ (by simp)
  obtain ⟨p1, p2, p3⟩ := x0.facts
  obtain ⟨q1, q2, q3⟩ := x1.facts
  clear x0 x1 hB0
  go_enter Try.func29, Try.ntmps29
  go_wp2_with fail
  refine bodyPost_ret (results_one rfl (rv_cell (g := w.heap.size + 1) rfl (Box.newA _ [_, _, _] _ (by simp)) rfl Try.underlying24 (by kernel_rfl))) rfl ⟨rfl, ?_⟩
  exact ((Below.refl _ _).alloc (Nat.le_refl _) _).alloc (by simp) _

/-! ### What is set -/
/-- The form of a matrix's view. -/
structure OfI (v : Vw) (r c : Nat) : Prop where
  o0 : v.o = 0
  form : (v.d = c ∧ v.u = 1) ∨ (v.d = 1 ∧ v.u = r)
theorem ofV_i (t : Bool) (st r c : Nat) : OfI (ofV t st r c) r c := by
  unfold ofV
  cases t
  · exact ⟨rfl, .inl ⟨rfl, rfl⟩⟩
  · exact ⟨rfl, .inr ⟨rfl, rfl⟩⟩
theorem of9_any (t : Bool) (r c : Nat) (a : Option Addr) (zs : List Nat) (cap : Nat) (w : World) (hr : r ≤ 512) (hc : c ≤ 512) (hn : zs.length = r * c) (hZ : Cel w a zs) (hW : Words zs) :
    Calls Try.prog 17 #[.agg #[.int .i64 r, .int .i64 c, .slice a zs.length cap], .bool t] w fun e w' => (∃ v st sb ws, e = .returned v.val ∧ w.heap.size ≤ st ∧ w.heap.size ≤ sb ∧ Sto w' (some ⟨st, 0, none⟩) sb ws ∧ OfP v st r c zs ws ∧ OfI v r c ∧ ws.length = r * c) ∧ Below w.heap.size w w' := by
  refine (of_any t r c a zs cap w hr hc hn hZ).mono ?_
  rintro e w' ⟨st, sb, rfl, k1, k2, hS, hb⟩
  exact ⟨⟨ofV t st r c, st, sb, ofL t r c zs, rfl, k1, k2, hS, ⟨ofV_p _ _ _ _, ofV_r _ _ _ _, ofV_c _ _ _ _, ofL_words t r c hW, fun i j hi hj => ofV_at t st r c zs hi hj, fun W sb h => ofV_ok h hr hc hn⟩, ofV_i _ _ _ _, ofL_length t r c zs hn⟩, hb⟩
theorem place8 {i j r c : Nat} (hi : i < r) (hj : j < c) : i * c + j < r * c := Nat.lt_of_lt_of_le (by omega : i * c + j < i * c + c) (by rw [← Nat.succ_mul]; exact Nat.mul_le_mul_right _ hi)
theorem place8_inj {i j i' j' c : Nat} (hj : j < c) (hj' : j' < c) (h : i * c + j = i' * c + j') : i = i' ∧ j = j' := by
  have h1 : (i * c + j) / c = i := by rw [Nat.mul_comm, Nat.mul_add_div (by omega), Nat.div_eq_of_lt hj]; omega
  have h2 : (i' * c + j') / c = i' := by rw [Nat.mul_comm, Nat.mul_add_div (by omega), Nat.div_eq_of_lt hj']; omega
  have e : i = i' := by rw [← h1, ← h2, h]
  subst e
  exact ⟨rfl, by omega⟩
section
variable {v : Vw} {r c : Nat}
theorem OfI.lt (h : OfI v r c) {i j : Nat} (hi : i < r) (hj : j < c) : v.o + i * v.d + j * v.u < r * c := by
  rw [h.o0]
  rcases h.form with ⟨e1, e2⟩ | ⟨e1, e2⟩
  · rw [e1, e2]; have := place8 hi hj; omega
  · rw [e1, e2]; have := place8 hj hi; rw [Nat.mul_comm r c]; omega
theorem OfI.inj (h : OfI v r c) {i j i' j' : Nat} (hi : i < r) (hj : j < c) (hi' : i' < r) (hj' : j' < c) (e : v.o + i * v.d + j * v.u = v.o + i' * v.d + j' * v.u) : i = i' ∧ j = j' := by
  rcases h.form with ⟨e1, e2⟩ | ⟨e1, e2⟩
  · rw [e1, e2] at e; exact place8_inj hj hj' (by omega)
  · rw [e1, e2] at e; exact (place8_inj hi hi' (show j * r + i = j' * r + i' by omega)).symm
theorem get_pl (v : Vw) (ws : List Nat) (er : v.r = r) (ec : v.c = c) {i j : Nat} (hi : i < r) (hj : j < c) : v.get ws i j = ws.getD (v.o + i * v.d + j * v.u) 0 := by
  unfold Vw.get
  rw [if_pos (by unfold inV; simp; omega)]
  simp
theorem put_pl (v : Vw) (ws : List Nat) (er : v.r = r) (ec : v.c = c) {i j : Nat} (hi : i < r) (hj : j < c) (x : Nat) : v.put ws i j x = ws.set (v.o + i * v.d + j * v.u) x := by
  unfold Vw.put
  rw [if_pos (by unfold inV; simp; omega)]
  simp
theorem getD_set8 (ws : List Nat) (k k' x : Nat) (hk : k < ws.length) : (ws.set k x).getD k' 0 = if k = k' then x else ws.getD k' 0 := by
  by_cases h : k = k'
  · subst h
    rw [if_pos rfl, List.getD_eq_getElem?_getD, List.getElem?_set_self hk]
    rfl
  · rw [if_neg h, List.getD_eq_getElem?_getD, List.getElem?_set_ne h, ← List.getD_eq_getElem?_getD]
theorem OfI.get_put (h : OfI v r c) (er : v.r = r) (ec : v.c = c) (ws : List Nat) (hl : ws.length = r * c) {i j i' j' : Nat} (hi : i < r) (hj : j < c) (hi' : i' < r) (hj' : j' < c) (x : Nat) :
    v.get (v.put ws i j x) i' j' = if i = i' ∧ j = j' then x else v.get ws i' j' := by
  rw [put_pl v ws er ec hi hj, get_pl v _ er ec hi' hj', get_pl v ws er ec hi' hj', getD_set8 _ _ _ _ (by rw [hl]; exact h.lt hi hj)]
  by_cases e : i = i' ∧ j = j'
  · rw [if_pos e, if_pos (by rw [e.1, e.2])]
  · rw [if_neg e, if_neg (fun h2 => e (h.inj hi hj hi' hj' h2))]
end
theorem put_len8 (v : Vw) (ws : List Nat) (i j : Int) (x : Nat) : (v.put ws i j x).length = ws.length := Vw.put_length v ws i j x
/-- What a view shows, told place by place. -/
theorem list_rw (v : Vw) (ws : List Nat) (r c : Nat) (er : v.r = r) (ec : v.c = c) (zs : List Nat) (hn : zs.length = r * c) (h : ∀ i j, i < r → j < c → ∃ s, v.get ws i j = raw (zs.getD (i * c + j) 0) s) : Rw (v.list ws) zs := by
  refine ⟨by rw [list_len8, er, ec, hn], fun k hk => ?_⟩
  have hk2 : k < v.r * v.c := by rw [er, ec, ← hn]; exact hk
  rw [list_getD8 v ws hk2, ec]
  have hc : 0 < c := Nat.pos_of_ne_zero fun e => by rw [e, Nat.mul_zero] at hn; omega
  have h1 : k / c < r := by rw [Nat.div_lt_iff_lt_mul hc, ← hn]; exact hk
  have h2 := h (k / c) (k % c) h1 (Nat.mod_lt _ hc)
  rw [Nat.mul_comm, Nat.div_add_mod] at h2
  exact h2
theorem Rw.get {ws ts : List Nat} (h : Rw ws ts) (v : Vw) (i j : Int) : ∃ s, v.get ws i j = raw (v.get ts i j) s := by
  unfold Vw.get
  split
  · by_cases hk : v.o + i.toNat * v.d + j.toNat * v.u < ts.length
    · exact h.2 _ hk
    · refine ⟨0, ?_⟩
      rw [List.getD_eq_getElem?_getD, List.getElem?_eq_none (by rw [h.1]; omega), List.getD_eq_getElem?_getD, List.getElem?_eq_none (by omega)]
      exact (raw_of_not (by kernel_rfl) 0).symm
  · exact ⟨0, (raw_of_not (by kernel_rfl) 0).symm⟩
/-- Nothing was set. -/
theorem OfP.same {v : Vw} {st r c : Nat} {zs ws us : List Nat} (h : OfP v st r c zs ws) (hn : zs.length = r * c) (hR : Rw us ws) : Rw (v.list us) zs :=
  list_rw v us r c h.er h.ec zs hn fun i j hi hj => by
    obtain ⟨s, hs⟩ := hR.get v i j
    exact ⟨s, by rw [hs, h.get i j hi hj]⟩
end Go.Proofs.Ytbcdpibcieadlaa

/- Layer 8: what the laws hold on to; what a vector shows; a matrix times a vector, plainly. No condition but on lengths. -/
namespace Go.Proofs.Ytbcdpibcieadlaa
open Go Go.RowKit
set_option maxRecDepth 1000000

/-! ### What a law holds on to -/
structure BoxS (w W : World) (bs : List (Nat × List Value)) : Prop where
  bx : ∀ p ∈ bs, Box W p.1 p.2
  below : Below w.heap.size w W
structure LawS (w W : World) (bs : List (Nat × List Value)) (v : Vw) (sb : Nat) (ws : List Nat) : Prop where
  bx : ∀ p ∈ bs, Box W p.1 p.2
  ne : ∀ p ∈ bs, p.1 ≠ sb
  ok : v.Ok W sb ws
  words : Words ws
  lo : w.heap.size ≤ sb
  below : Below w.heap.size w W
section
variable {w W W' : World} {bs : List (Nat × List Value)} {v : Vw} {sb : Nat} {ws us : List Nat}
theorem BoxS.step (h : BoxS w W bs) (hb : Below W.heap.size W W') : BoxS w W' bs := ⟨fun p hp => (h.bx p hp).below hb, below_step h.below h.below.size hb⟩
theorem BoxS.get (h : BoxS w W bs) (k : Nat) {n : Nat} {cs : List Value} (hk : bs[k]? = some (n, cs)) : Box W n cs := h.bx (n, cs) (List.mem_of_getElem? hk)
theorem LawS.step (h : LawS w W bs v sb ws) (hb : Below W.heap.size W W') : LawS w W' bs v sb ws := ⟨fun p hp => (h.bx p hp).below hb, h.ne, h.ok.below hb, h.words, h.lo, below_step h.below h.below.size hb⟩
theorem LawS.kern (h : LawS w W bs v sb ws) (hb : Bel W.heap.size sb W W') (ho : v.Ok W' sb us) (hW : Words us) : LawS w W' bs v sb us :=
  ⟨fun p hp => (h.bx p hp).bel (h.ne p hp) hb, h.ne, ho, hW, h.lo, h.below.trans ((hb.mono h.below.size).below h.lo)⟩
theorem LawS.get (h : LawS w W bs v sb ws) (k : Nat) {n : Nat} {cs : List Value} (hk : bs[k]? = some (n, cs)) : Box W n cs := h.bx (n, cs) (List.mem_of_getElem? hk)
/-- A view of a store of its own, in a variable. -/
theorem BoxS.view (h : BoxS w W bs) {st : Nat} (hok : v.Ok W sb ws) (hS : Sto W (some ⟨st, 0, none⟩) sb ws) (hW : Words ws) {W0 : World} (h0 : BoxS w W0 bs) (hlo : W0.heap.size ≤ sb) :
    LawS w (W.alloc (.cells #[.pointer v.p, .int .i64 v.r, .int .i64 v.c, .int .i64 v.o, .int .i64 v.d, .int .i64 v.u] 29)) (bs ++ [(W.heap.size, [.pointer v.p, .int .i64 v.r, .int .i64 v.c, .int .i64 v.o, .int .i64 v.d, .int .i64 v.u])]) v sb ws := by
  have hb : Below W.heap.size W (W.alloc (.cells #[.pointer v.p, .int .i64 v.r, .int .i64 v.c, .int .i64 v.o, .int .i64 v.d, .int .i64 v.u] 29)) := (Below.refl _ _).alloc (Nat.le_refl _) _
  have hlt := (sto_lts hS).2
  refine ⟨fun p hp => ?_, fun p hp => ?_, hok.below hb, hW, Nat.le_trans h0.below.size hlo, below_step h.below h.below.size hb⟩
  · rcases List.mem_append.1 hp with hp | hp
    · exact (h.bx p hp).below hb
    · simp only [List.mem_cons, List.not_mem_nil, or_false] at hp
      subst hp
      exact Box.newA _ _ _ rfl
  · rcases List.mem_append.1 hp with hp | hp
    · have := (h0.bx p hp).lt; omega
    · simp only [List.mem_cons, List.not_mem_nil, or_false] at hp
      subst hp
      show W.heap.size ≠ sb
      omega
end

/-- A matrix that came in and is small. -/
structure MatP (w : World) (r c : Nat) (a : Option Addr) (z : List Nat) (p : Nat) : Prop where
  cel : Cel w a z
  words : Words z
  hr : r ≤ 512
  hc : c ≤ 512
  hn : z.length = r * c
  hl : z.length ≤ 150
  hp : z.length ≤ p
  hm : p ≤ maxLen
theorem MatP.of {w : World} {r c : Nat} {a : Option Addr} {z : List Nat} {p : Nat} (h : MatP w r c a z p) (t : Bool) (W : World) (hb : Below w.heap.size w W) :
    Calls Try.prog 17 #[.agg #[.int .i64 r, .int .i64 c, .slice a z.length p], .bool t] W fun e w' => (∃ v st sb ws, e = .returned v.val ∧ W.heap.size ≤ st ∧ W.heap.size ≤ sb ∧ Sto w' (some ⟨st, 0, none⟩) sb ws ∧ OfP v st r c z ws ∧ OfI v r c ∧ ws.length = r * c) ∧ Below W.heap.size W w' :=
  of9_any t r c a z p W h.hr h.hc h.hn (h.cel.below hb) h.words
theorem MatP.fls {w : World} {r c : Nat} {a : Option Addr} {z : List Nat} {p : Nat} (h : MatP w r c a z p) (W : World) (hb : Below w.heap.size w W) : Fls W a z := (h.cel.below hb).fls h.words

/-! ### A vector -/
def alN (r k : Nat) : Nat × Nat := if r = 1 then (0, k) else (k, 0)
theorem alN_spec {r c k : Nat} (hv : vec8 r c = true) (hk : k < r * c) : (alN r k).1 < r ∧ (alN r k).2 < c ∧ (alN r k).1 * c + (alN r k).2 = k := by
  unfold alN
  unfold vec8 at hv
  simp only [Bool.or_eq_true, Bool.and_eq_true, decide_eq_true_eq] at hv
  by_cases h1 : r = 1
  · subst h1
    rw [if_pos rfl]
    dsimp only
    omega
  · rw [if_neg h1]
    rcases hv with (h2 | h2) | h2
    · exact absurd h2 h1
    · subst h2
      dsimp only
      omega
    · rw [h2.1] at hk; omega
section
variable {v : Vw} {st r c : Nat} {zs ws us : List Nat}
theorem getVec_al (er : v.r = r) (hv : vecV v.p v.r v.c = true) (us : List Nat) (k : Nat) : v.getVec us k = v.get us ((alN r k).1 : Nat) ((alN r k).2 : Nat) := by
  unfold Vw.getVec
  rw [hv, if_pos rfl]
  unfold Vw.al alN
  rw [er]
  by_cases h1 : r = 1
  · simp [h1]
  · simp [h1]
theorem putVec_al (er : v.r = r) (hv : vecV v.p v.r v.c = true) (us : List Nat) (k x : Nat) : v.putVec us k x = v.put us ((alN r k).1 : Nat) ((alN r k).2 : Nat) x := by
  unfold Vw.putVec
  rw [hv]
  simp only [Bool.not_true, Bool.and_false, Bool.false_eq_true, if_false]
  unfold Vw.al alN
  rw [er]
  by_cases h1 : r = 1
  · simp [h1]
  · simp [h1]
theorem putVec_len8 (v : Vw) (us : List Nat) (k : Int) (x : Nat) : (v.putVec us k x).length = us.length := by
  unfold Vw.putVec
  split
  · rfl
  · exact Vw.put_length v us _ _ x
theorem vec_put (h : OfI v r c) (er : v.r = r) (ec : v.c = c) (hp : vecV v.p v.r v.c = true) (hv : vec8 r c = true) (us : List Nat) (hl : us.length = r * c) {k k' : Nat} (hk : k < r * c) (hk' : k' < r * c) (x : Nat) :
    v.getVec (v.putVec us k x) k' = if k = k' then x else v.getVec us k' := by
  obtain ⟨a1, a2, a3⟩ := alN_spec hv hk
  obtain ⟨b1, b2, b3⟩ := alN_spec hv hk'
  rw [putVec_al er hp, getVec_al er hp, getVec_al er hp, h.get_put er ec us hl a1 a2 b1 b2]
  by_cases e : k = k'
  · subst e
    rw [if_pos ⟨rfl, rfl⟩, if_pos rfl]
  · rw [if_neg e, if_neg (fun h2 => e (by rw [← a3, ← b3, h2.1, h2.2]))]
/-- What a vector shows. -/
theorem vec_rw (er : v.r = r) (ec : v.c = c) (hp : vecV v.p v.r v.c = true) (hv : vec8 r c = true) (us zs : List Nat) (hn : zs.length = r * c) (h : ∀ k, k < r * c → ∃ s, v.getVec us k = raw (atL zs k) s) : Rw (v.list us) zs :=
  list_rw v us r c er ec zs hn fun i j hi hj => by
    have hk := place8 hi hj
    obtain ⟨a1, a2, a3⟩ := alN_spec hv hk
    obtain ⟨e1, e2⟩ := place8_inj a2 hj a3
    obtain ⟨s, hs⟩ := h _ hk
    rw [getVec_al er hp, e1, e2] at hs
    exact ⟨s, hs⟩
theorem Rw.getVec {ws ts : List Nat} (h : Rw ws ts) (v : Vw) (i : Int) : ∃ s, v.getVec ws i = raw (v.getVec ts i) s := by
  unfold Vw.getVec
  split
  · exact h.get v _ _
  · exact ⟨0, (raw_of_not (by kernel_rfl) 0).symm⟩
theorem timesL_spec (h : OfI v r c) (er : v.r = r) (ec : v.c = c) (hp : vecV v.p v.r v.c = true) (hv : vec8 r c = true) (a b : Nat) (g : Nat → Nat → Nat) (X Y : Nat → Nat) (cols : Nat) (ys : List Nat) (hl : ys.length = r * c) :
    ∀ n, n ≤ r * c → (timesL a b g X Y v cols ys n).length = r * c ∧ ∀ k, k < r * c → v.getVec (timesL a b g X Y v cols ys n) k = if k < n then bothW b (Y k) a (sumG (g k) X 0 cols) else v.getVec ys k
  | 0, _ => ⟨by rw [timesL]; exact hl, fun k _ => by rw [timesL, if_neg (Nat.not_lt_zero _)]⟩
  | n + 1, hn => by
    obtain ⟨h1, h2⟩ := timesL_spec h er ec hp hv a b g X Y cols ys hl n (by omega)
    refine ⟨by rw [timesL, putVec_len8]; exact h1, fun k hk => ?_⟩
    rw [timesL, vec_put h er ec hp hv _ h1 (by omega) hk, h2 k hk]
    by_cases e : n = k
    · subst e
      rw [if_pos rfl, if_pos (by omega)]
    · rw [if_neg e]
      by_cases e2 : k < n
      · rw [if_pos e2, if_pos (by omega)]
      · rw [if_neg e2, if_neg (by omega)]
end

/-! ### A matrix times a vector -/
def fitGv (cm rm rx cx ry cy nx ny : Nat) : Bool := vec8 rx cx && (vec8 ry cy && (decide (cm = nx) && decide (rm = ny)))
theorem OfP.vecN {v : Vw} {st r c : Nat} {zs ws : List Nat} (h : OfP v st r c zs ws) (hn : zs.length = r * c) (n : Nat) : vecN v n = (vec8 r c && decide (n = zs.length)) := by
  unfold Go.Proofs.Ytbcdpibcieadlaa.vecN
  rw [h.vec, h.len, hn]
  cases vec8 r c
  · rfl
  · simp only [Bool.true_and, if_true]
    rw [Bool.eq_iff_iff]; simp; omega
theorem gemv_code {m x y : Vw} {sm sx sy rm cm rx cx ry cy : Nat} {zm zx zy ms xs ys : List Nat} (Pm : OfP m sm rm cm zm ms) (Px : OfP x sx rx cx zx xs) (Py : OfP y sy ry cy zy ys) (hnx : zx.length = rx * cx) (hny : zy.length = ry * cy) :
    openE [m, x, y] (fits_Gemv m x y) = if fitGv cm rm rx cx ry cy zx.length zy.length then 0 else 8 := by
  have e : fits_Gemv m x y = fitGv cm rm rx cx ry cy zx.length zy.length := by
    unfold fits_Gemv fitGv
    rw [Px.vecN hnx, Py.vecN hny, Pm.ec, Pm.er]
    cases vec8 rx cx <;> cases vec8 ry cy <;> simp
  unfold openE
  rw [e]
  simp [Pm.ep, Px.ep, Py.ep]
theorem gemv_bad {m x y : Vw} {sm sx sy rm cm rx cx ry cy : Nat} {zm zx zy ms xs ys us : List Nat} {a b : Nat} (Pm : OfP m sm rm cm zm ms) (Px : OfP x sx rx cx zx xs) (Py : OfP y sy ry cy zy ys) (hnx : zx.length = rx * cx) (hny : zy.length = ry * cy)
    (hf : fitGv cm rm rx cx ry cy zx.length zy.length = false) (hR : Rw us (gemvL a b m x y ms xs ys)) : Rw (y.list us) zy := by
  unfold gemvL at hR
  rw [gemv_code Pm Px Py hnx hny, hf] at hR
  exact Py.same hny hR
theorem gemv_good {m x y : Vw} {sm sx sy rm cm rx cx ry cy : Nat} {zm zx zy ms xs ys us : List Nat} {a b : Nat} (Pm : OfP m sm rm cm zm ms) (Px : OfP x sx rx cx zx xs) (Py : OfP y sy ry cy zy ys) (Iy : OfI y ry cy) (hly : ys.length = ry * cy) (hnx : zx.length = rx * cx) (hny : zy.length = ry * cy)
    (hf : fitGv cm rm rx cx ry cy zx.length zy.length = true) (hR : Rw us (gemvL a b m x y ms xs ys)) : Rw (y.list us) (gemvR a zm cm zx b zy rm) := by
  unfold gemvL at hR
  rw [gemv_code Pm Px Py hnx hny, hf] at hR
  simp only [if_true] at hR
  unfold fitGv at hf
  simp only [Bool.and_eq_true, decide_eq_true_eq] at hf
  obtain ⟨vx, vy, hc, hr⟩ := hf
  have hvy : vecV y.p y.r y.c = true := by rw [Py.vec]; exact vy
  refine vec_rw Py.er Py.ec hvy vy us _ (by rw [gemvR_len, hr, hny]) fun k hk => ?_
  obtain ⟨s, hs⟩ := hR.getVec y k
  obtain ⟨_, h2⟩ := timesL_spec Iy Py.er Py.ec hvy vy a b (fun i k => m.get ms i k) (fun k => x.getVec xs k) (fun k => y.getVec ys k) m.c ys hly m.r (Nat.le_of_eq (by rw [Pm.er, hr, hny]))
  rw [h2 k hk, if_pos (by rw [Pm.er, hr, hny]; exact hk)] at hs
  refine ⟨s, ?_⟩
  rw [hs]
  congr 1
  have hkr : k < rm := by rw [hr, hny]; exact hk
  have e1 : atL (gemvR a zm cm zx b zy rm) k = bothW b (atL zy k) a (sumG (atL (rowL zm cm k)) (atL zx) 0 cm) := by
    unfold atL gemvR
    rw [List.getD_eq_getElem?_getD, List.getElem?_map, List.getElem?_range hkr]
    rfl
  rw [e1, Py.at vy k hk, Pm.ec]
  congr 1
  refine sumG_congr _ fun j hj => ⟨?_, ?_⟩
  · rw [Nat.zero_add, rowL_at zm cm k j hj]
    exact Pm.get k j hkr hj
  · rw [Nat.zero_add]
    exact Px.at vx j (by rw [← hnx, ← hc]; exact hj)
theorem gemvR_words (a : Nat) (zs : List Nat) (c : Nat) (xs : List Nat) (b : Nat) (ys : List Nat) (r : Nat) : Words (gemvR a zs c xs b ys r) := fun v hv => by
  unfold gemvR at hv
  obtain ⟨i, _, rfl⟩ := List.mem_map.1 hv
  exact bothW_lt _ _ _ _
end Go.Proofs.Ytbcdpibcieadlaa

/- Layer 8, the document: a copy; places filled row by row. No condition but on lengths. -/
namespace Go.Proofs.Ytbcdpibcieadlaa
open Go Go.RowKit
set_option maxRecDepth 1000000

/-- A slice whose floats lie in a block of its own, from B on. -/
structure Mem (W : World) (B : Nat) (a : Option Addr) (b : Nat) (l : List Nat) : Prop where
  fs : FS W a b l
  lo : B ≤ b
  lt : l ≠ [] → b < W.heap.size
theorem Mem.below {W W' : World} {B b : Nat} {a : Option Addr} {l : List Nat} (h : Mem W B a b l) (hb : Below W.heap.size W W') : Mem W' B a b l := ⟨h.fs.below hb, h.lo, fun hz => Nat.lt_of_lt_of_le (h.lt hz) hb.size⟩
theorem run_append_mem (w : World) (ty : TypeId) (a : Option Addr) (zs : List Nat) (cap : Nat) (hZ : Fls w a zs) (hl : zs.length ≤ 262144) :
    ∃ a' b cap' w', (Builtin.append_ #[22, 22] ty #[.slice none 0 0, .slice a zs.length cap]).run Try.prog w = .ok (.slice a' zs.length cap') w' ∧ Mem w' w.heap.size a' b zs ∧ Below w.heap.size w w' := by
  cases a with
  | some ad =>
    obtain ⟨v', w', hr, hO, hb⟩ := run_append_ownF w ty w.heap.size (.slice none 0 0) [] (OwnF.nil _ _) ad zs cap hZ (by simpa using hl) (Nat.le_refl _)
    rw [List.nil_append] at hO
    obtain ⟨a', b, cap', rfl, _, _, h1, h2, h3⟩ := hO.fs
    exact ⟨a', b, cap', w', hr, ⟨h2, h1, h3⟩, hb⟩
  | none =>
    have hz : zs = [] := by
      cases zs with
      | nil => rfl
      | cons x xs => obtain ⟨b, off, e, _⟩ := hZ (by simp); cases e
    subst hz
    obtain ⟨i0, hi, hz0, hz1, hz2⟩ := info_parts info_f64
    refine ⟨none, w.heap.size, 0, w, ?_, ⟨.inl rfl, Nat.le_refl _, fun h => absurd rfl h⟩, Below.refl _ _⟩
    simp [Builtin.append_, run_underlying Try.underlying22, sizeOf, typeInfo, hi, Builtin.lenOf, Builtin.firstCells]
theorem wp_append_mem {w : World} {o : Oper} {a : Act} {K : Act → World → Prop} {Q : Exit → Act → World → Prop} (s x : Operand)
    (ho : o.op = .call { callee := .builtin .append, args := #[s, x], argTypes := #[22, 22] })
    (ad : Option Addr) (zs : List Nat) (cap : Nat) (hs : a.eval s = .slice none 0 0) (hx : a.eval x = .slice ad zs.length cap) (hZ : Fls w ad zs) (hl : zs.length ≤ 262144)
    (h : ∀ a' b cap' w', Mem w' w.heap.size a' b zs → Below w.heap.size w w' → K (a.put o.dst (.slice a' zs.length cap')) w') : o.wp Try.prog a w K Q := by
  obtain ⟨a', b, cap', w', hr, h2, h3⟩ := run_append_mem w o.type ad zs cap hZ hl
  unfold Oper.wp execOp
  simp only [ho, resolve, invoke, builtin, Sem.run_bind, Sem.run_pure, Result.andThen_ok, List.map_toArray, List.map_cons, List.map_nil, hs, hx, hr]
  exact h a' b cap' w' h2 h3
set_option maxHeartbeats 4000000 in
theorem RCopy_any (w : World) (r c : Nat) (a : Option Addr) (zs : List Nat) (cap : Nat) (hZ : Fls w a zs) (hl : zs.length ≤ 262144) :
    Calls Try.prog 50 #[.agg #[.int .i64 r, .int .i64 c, .slice a zs.length cap]] w fun e w' => (∃ a' b cap', e = .returned (.agg #[.int .i64 r, .int .i64 c, .slice a' zs.length cap']) ∧ Mem w' w.heap.size a' b zs) ∧ Below w.heap.size w w' := by
  obtain ⟨W0, hW0⟩ : ∃ W0, W0 = (w.alloc (.cells #[.int .i64 r, .int .i64 c, .slice a zs.length cap] 24)).alloc (.cells #[.int .i64 0, .int .i64 0, .slice none 0 0] 24) := ⟨_, rfl⟩
  have hB0 : Below w.heap.size w W0 := hW0 ▸ ((Below.refl _ _).alloc (Nat.le_refl _) _).alloc (by simp) _
  have x0 : Box W0 w.heap.size [.int .i64 r, .int .i64 c, .slice a zs.length cap] := hW0 ▸ (Box.newA w [_, _, _] _ rfl).alloc _
  have x1 : Box W0 (w.heap.size + 1) [.int .i64 0, .int .i64 0, .slice none 0 0] := hW0 ▸ Box.newA _ _ _ (by simp)
  have HX := Lib.hid (show _ ∧ _ ∧ _ from ⟨hB0, x0, x1⟩)
  have HZ := Lib.hid (fun W (h : Below w.heap.size w W) => hZ.below h)
  clear hB0 x0 x1 hZ
  go_enter Try.func50, Try.ntmps50
  go_upto_region 1 with (fail)
  rw [← hW0]
  clear hW0
  have hdr : Below W0.heap.size W0 W0.drew := below_drewN 1 (Below.refl _ W0)
  have HB := Lib.hid (show _ ∧ _ ∧ _ from ⟨below_step HX.out.1 HX.out.1.size hdr, HX.out.2.1.below hdr, HX.out.2.2.below hdr⟩)
  have HS := Lib.hid (show ∀ W, Below W0.drew.heap.size W0.drew W → (fun W => ∀ i, W.cell? ⟨w.heap.size, i, none⟩ = ([.int .i64 r, .int .i64 c, .slice a zs.length cap] : List Value)[i]?) W from fun W h => (HB.out.2.1.below h).cell)
  refine wp_region_items 7 [(true, 0), (true, 1), (true, 2), (true, 3), (true, 4), (true, 5), (false, 6)] (fun W => ∀ i, W.cell? ⟨w.heap.size, i, none⟩ = ([.int .i64 r, .int .i64 c, .slice a zs.length cap] : List Value)[i]?) (by kernel_rfl) (by kernel_rfl) (HS.out _ (Below.refl _ _)) ?_
  generalize W0.drew = W1 at *
  clear hdr HX
  iterate 6 (refine iW_take (v := ?_) rfl rfl ?_ ?_; rotate_left; (next => (intro w' hSw; (try dsimp only at hSw); go_simp; (try (rw [if_pos (by omega)]; go_simp)); (try with_reducible rfl))); (simp only [Act.put, List.setIfInBounds_toArray, List.set_cons_zero, List.set_cons_succ]))
  refine iW_mid rfl rfl ?_
  refine wp_append_mem _ _ rfl a zs cap rfl rfl (HZ.out W1 HB.out.1) hl ?_
  intro a' b cap' w2 hM hb
  have hlt := HB.out.2.2.lt
  have hle := HB.out.1.size
  have HE := Lib.hid (show _ ∧ _ ∧ _ ∧ _ from ⟨hM, below_step HB.out.1 HB.out.1.size hb, HB.out.2.2.below hb, hlt⟩)
  refine ⟨HS.out _ hb, ?_⟩
  obtain ⟨q1, q2, q3⟩ := HE.out.2.2.1.facts
  clear hM hb HS HZ hlt hle
  refine iW_nil ?_
  go_simp
  go_wp2_with fail
  refine NoPanic.normal ?_
  go_wp2_with fail
  obtain ⟨hM, hB, x1, hlt⟩ := HE.out
  refine bodyPost_ret (results_one rfl (rv_cell (g := w.heap.size + 1) rfl (x1.put3 _ _ _) rfl Try.underlying24 (by kernel_rfl))) rfl ⟨⟨a', b, cap', rfl, ?_⟩, ?_⟩
  · have hx : ∀ u0 u1 u2, Mem (((w2.setCell ⟨w.heap.size + 1, 0, none⟩ u0).setCell ⟨w.heap.size + 1, 1, none⟩ u1).setCell ⟨w.heap.size + 1, 2, none⟩ u2) w.heap.size a' b zs := fun u0 u1 u2 => by
      have h1 := hM.lo
      have h2 := HB.out.1.size
      refine ⟨?_, by omega, fun hz => by simpa using hM.lt hz⟩
      rcases hM.fs with h | ⟨e, hF⟩
      · exact .inl h
      · exact .inr ⟨e, ((hF.other (by omega) _ _).other (by omega) _ _).other (by omega) _ _⟩
    exact hx _ _ _
  · exact below_put3 hB (by omega) _ _ _
/-- The first n places filled, row by row. -/
def fillL (V : Nat → Nat → Nat) (c : Nat) (zs : List Nat) : Nat → List Nat
  | 0 => zs
  | n + 1 => (fillL V c zs n).set n (V (n / c) (n % c))
theorem fillL_len (V : Nat → Nat → Nat) (c : Nat) (zs : List Nat) : ∀ n, (fillL V c zs n).length = zs.length
  | 0 => rfl
  | n + 1 => by rw [fillL, List.length_set]; exact fillL_len V c zs n
theorem fillL_get (V : Nat → Nat → Nat) (c : Nat) (zs : List Nat) : ∀ n k, k < zs.length → (fillL V c zs n).getD k 0 = if k < n then V (k / c) (k % c) else zs.getD k 0
  | 0, k, _ => by rw [fillL, if_neg (Nat.not_lt_zero _)]
  | n + 1, k, hk => by
    rw [fillL]
    by_cases hn : n < zs.length
    · rw [getD_set8 _ _ _ _ (by rw [fillL_len]; exact hn), fillL_get V c zs n k hk]
      by_cases e : n = k
      · subst e; rw [if_pos rfl, if_pos (by omega)]
      · rw [if_neg e]
        by_cases e2 : k < n
        · rw [if_pos e2, if_pos (by omega)]
        · rw [if_neg e2, if_neg (by omega)]
    · rw [List.set_eq_of_length_le (by rw [fillL_len]; omega), fillL_get V c zs n k hk, if_pos (by omega), if_pos (by omega)]
theorem fillL_at (V : Nat → Nat → Nat) (c : Nat) (zs : List Nat) {i j : Nat} (hj : j < c) : fillL V c zs (i * c + j + 1) = (fillL V c zs (i * c + j)).set (i * c + j) (V i j) := by
  rw [fillL]
  have h1 : (i * c + j) / c = i := by rw [Nat.mul_comm, Nat.mul_add_div (by omega), Nat.div_eq_of_lt hj, Nat.add_zero]
  have h2 : (i * c + j) % c = j := by rw [Nat.mul_comm, Nat.mul_add_mod, Nat.mod_eq_of_lt hj]
  rw [h1, h2]
theorem fillL_words {V : Nat → Nat → Nat} {c : Nat} {zs : List Nat} (hz : Words zs) (hV : ∀ i j, V i j < 18446744073709551616) : ∀ n, Words (fillL V c zs n)
  | 0 => hz
  | n + 1 => by rw [fillL]; exact words_set (fillL_words hz hV n) (hV _ _)
end Go.Proofs.Ytbcdpibcieadlaa

/- Layer 8, the document: what its loops that fill a matrix hold on to. No condition but on lengths. -/
namespace Go.Proofs.Ytbcdpibcieadlaa
open Go Go.RowKit
set_option maxRecDepth 1000000

structure DocW (w W : World) (bs : List (Nat × List Value)) (a : Option Addr) (b : Nat) (l : List Nat) : Prop where
  bx : ∀ p ∈ bs, Box W p.1 p.2
  ne : l ≠ [] → ∀ p ∈ bs, p.1 ≠ b
  fs : FS W a b l
  lo : w.heap.size ≤ b
  below : Below w.heap.size w W
section
variable {w W W' : World} {bs : List (Nat × List Value)} {a : Option Addr} {b : Nat} {l : List Nat}
theorem DocW.step (h : DocW w W bs a b l) (hb : Below W.heap.size W W') : DocW w W' bs a b l := ⟨fun p hp => (h.bx p hp).below hb, h.ne, h.fs.below hb, h.lo, below_step h.below h.below.size hb⟩
theorem DocW.get (h : DocW w W bs a b l) (k : Nat) {n : Nat} {cs : List Value} (hk : bs[k]? = some (n, cs)) : Box W n cs := h.bx (n, cs) (List.mem_of_getElem? hk)
theorem DocW.flb (h : DocW w W bs a b l) {k : Nat} (hk : k < l.length) : a = some ⟨b, 0, none⟩ ∧ Flb W b l := h.fs.flb (by omega)
theorem DocW.set (h : DocW w W bs a b l) {k : Nat} (hk : k < l.length) (v s : Nat) : DocW w (W.setCell ⟨b, k, none⟩ (.float .f64 (raw v s))) bs a b (l.set k v) := by
  have hz : l ≠ [] := fun e => by rw [e] at hk; exact absurd hk (Nat.not_lt_zero _)
  obtain ⟨rfl, hF⟩ := h.flb hk
  exact ⟨fun p hp => (h.bx p hp).set_other (h.ne hz p hp) k _, fun _ => h.ne hz, .inr ⟨rfl, hF.set k v s⟩, h.lo, h.below.setCell h.lo _⟩
/-- A copy, in a variable. -/
theorem BoxS.copy {cs : List Value} (h : BoxS w W bs) {W0 : World} (h0 : BoxS w W0 bs) (hM : Mem W W0.heap.size a b l) :
    DocW w (W.alloc (.cells cs.toArray 24)) (bs ++ [(W.heap.size, cs)]) a b l := by
  have hb : Below W.heap.size W (W.alloc (.cells cs.toArray 24)) := (Below.refl _ _).alloc (Nat.le_refl _) _
  refine ⟨fun p hp => ?_, fun hz p hp => ?_, hM.fs.below hb, Nat.le_trans h0.below.size hM.lo, below_step h.below h.below.size hb⟩
  · rcases List.mem_append.1 hp with hp | hp
    · exact (h.bx p hp).below hb
    · simp only [List.mem_cons, List.not_mem_nil, or_false] at hp
      subst hp
      exact Box.newA _ _ _ rfl
  · rcases List.mem_append.1 hp with hp | hp
    · have := (h0.bx p hp).lt
      have := hM.lo
      omega
    · simp only [List.mem_cons, List.not_mem_nil, or_false] at hp
      subst hp
      have := hM.lt hz
      show W.heap.size ≠ b
      omega
end
/-- An entry of a triangle's product, as the document says. -/
def trmmX (unit : Bool) (zt : List Nat) (ct i k : Nat) : Nat := if decide (k = i) && unit then 4607182418800017408 else zt.getD (i * ct + k) 0
def trmmD (upper unit : Bool) (zt : List Nat) (ct : Nat) (zm : List Nat) (cm rm i j : Nat) : Nat :=
  sumG (fun k => trmmX unit zt ct i k) (fun k => zm.getD (k * cm + j) 0) (if upper then i else 0) (if upper then rm - i else i + 1)
theorem trmmD_lt (upper unit : Bool) (zt : List Nat) (ct : Nat) (zm : List Nat) (cm rm i j : Nat) : trmmD upper unit zt ct zm cm rm i j < 18446744073709551616 := sumG_lt _ _ _ _
end Go.Proofs.Ytbcdpibcieadlaa
