/- Views: a copy; what is taken of another view; ones on a diagonal. -/
import Derived.Test.YtbcdpibcieadlaaZz5
import Derived.Test.YtbcdpibcieadlaaZz2
import Derived.RangeFuncNested
import Derived.RangeFuncCalls
import Derived.OrdersIn
import Derived.TacticsIn
import Derived.StillTail
namespace Go.Proofs.Ytbcdpibcieadlaa
open Go Go.RowKit Go.Shelf
attribute [local go_sem] Oper.semAt_some
set_option maxRecDepth 100000

theorem newV_ok {w : World} {st sb r c : Nat} {zs : List Nat} (h : Sto w (some ⟨st, 0, none⟩) sb zs) (hr : r ≤ 512) (hc : c ≤ 512) (hn : zs.length = r * c) : (newV st r c).Ok w sb zs := by
  refine .inr ⟨h, fun i j hi hj => ?_, hr, hc⟩
  show 0 + i * c + j * 1 < zs.length
  have h1 : (i + 1) * c ≤ r * c := Nat.mul_le_mul_right _ hi
  rw [Nat.succ_mul] at h1
  have hj' : j < c := hj
  rw [hn]
  omega
theorem newV_bnd {st r c : Nat} (hr : r ≤ 512) (hc : c ≤ 512) : (newV st r c).Bnd 0 := ⟨hr, hc, by show c + 1 ≤ 2 ^ 10; omega, by show 0 ≤ _; exact Nat.zero_le _⟩
theorem plcs_get {c n k : Nat} (hk : k < n) : (plcs c n)[k]? = some (k / c, k % c) := by
  unfold plcs
  simp [hk]
theorem list_length (v : Vw) (ws : List Nat) : (v.list ws).length = v.r * v.c := by unfold Vw.list plcs; simp
/-- The floats of a view, in a view of their own. -/
theorem newV_get (st : Nat) (v : Vw) (ws : List Nat) {i j : Nat} (hi : i < v.r) (hj : j < v.c) : (newV st v.r v.c).get (v.list ws) i j = v.get ws i j := by
  have h1 : inV v.r v.c i j = true := by unfold inV; simp; omega
  have h2 : (i + 1) * v.c ≤ v.r * v.c := Nat.mul_le_mul_right _ hi
  rw [Nat.succ_mul] at h2
  have hk : i * v.c + j < v.r * v.c := by omega
  unfold Vw.get newV
  dsimp only
  rw [h1, if_pos rfl]
  simp only [Int.toNat_natCast, Nat.zero_add, Nat.mul_one]
  have h3 : (v.list ws)[i * v.c + j]? = some (v.get ws i j) := by
    unfold Vw.list
    rw [List.getElem?_map, plcs_get hk]
    have e1 : (i * v.c + j) / v.c = i := by rw [Nat.mul_comm, Nat.mul_add_div (by omega), Nat.div_eq_of_lt hj, Nat.add_zero]
    have e2 : (i * v.c + j) % v.c = j := by rw [Nat.mul_comm, Nat.mul_add_mod, Nat.mod_eq_of_lt hj]
    rw [e1, e2]
    rfl
  rw [List.getD_eq_getElem?_getD, h3]
  unfold Vw.get
  rw [h1, if_pos rfl]
  simp

theorem cel_of_row {W : World} {base n : Nat} {v : Value} {zs : List Nat} (h : W.ownsRow base 31 1 v n (zs.map (Value.float .f64))) : ∃ a cap, v = .slice a zs.length cap ∧ Cel W a zs := by
  have hl : zs.length = n := by have := h.1; simpa using this
  rcases h.2 with ⟨rfl, h0⟩ | ⟨g, cap, cur, rfl, hb, hg, hn, hm, hs, ht⟩
  · refine ⟨none, 0, by rw [hl, h0], fun hz => ?_⟩
    subst h0
    exact absurd (List.eq_nil_of_length_eq_zero hl) hz
  · refine ⟨_, cap, by rw [hl], fun _ => ⟨g, 0, rfl, (Array.getElem?_eq_some_iff.1 hg).1, fun i x hi => ?_⟩⟩
    unfold World.cell?
    rw [hg]
    simp only [Option.isSome_none, Bool.false_eq_true, if_false, Nat.zero_add]
    have h1 : (cur.toList.take (n * 1))[i]? = some (.float .f64 x) := by rw [ht]; simp [hi]
    have hil : i < n := by
      rw [← hl]
      exact (List.getElem?_eq_some_iff.1 hi).1
    rw [List.getElem?_take] at h1
    rw [if_pos (by omega)] at h1
    simpa using h1

theorem Sto.other6 {w : World} {st sb m : Nat} {ws : List Nat} (h : Sto w (some ⟨st, 0, none⟩) sb ws) (h1 : st ≠ m) (h2 : sb ≠ m) (v0 v1 v2 v3 v4 v5 : Value) :
    Sto ((((((w.setCell ⟨m, 0, none⟩ v0).setCell ⟨m, 1, none⟩ v1).setCell ⟨m, 2, none⟩ v2).setCell ⟨m, 3, none⟩ v3).setCell ⟨m, 4, none⟩ v4).setCell ⟨m, 5, none⟩ v5) (some ⟨st, 0, none⟩) sb ws := by
  obtain ⟨st', e, k1, k2, k3⟩ := h
  obtain rfl : st = st' := by simpa using e
  exact ⟨st, rfl, k1.other6 h1 _ _ _ _ _ _, k2.other6 h2 _ _ _ _ _ _, k3⟩
theorem Sto.alloc {w : World} {p : Option Addr} {sb : Nat} {ws : List Nat} (h : Sto w p sb ws) (o : Obj) : Sto (w.alloc o) p sb ws := h.below ((Below.refl _ _).alloc (Nat.le_refl _) _)
/-- What a copy is. -/
def cpyV (v : Vw) (st : Nat) : Vw := if v.p.isNone then Vw.none else newV st v.r v.c
set_option maxHeartbeats 4000000 in
theorem Copy_any (w : World) (v : Vw) (sb : Nat) (ws : List Nat) (h : v.Ok w sb ws) :
    Calls Try.prog 73 #[v.val] w fun e w' => ∃ st sb', e = .returned (cpyV v st).val ∧ (v.p.isNone = false → Sto w' (some ⟨st, 0, none⟩) sb' (v.list ws)) ∧ w.heap.size ≤ st ∧ w.heap.size ≤ sb' ∧ Below w.heap.size w w' := by
  have hsm := h.small
  have ev : v.val = (.agg #[.pointer v.p, .int .i64 v.r, .int .i64 v.c, .int .i64 v.o, .int .i64 v.d, .int .i64 v.u]) := rfl
  have fin : Vw.none.val = (.agg #[.pointer none, .int .i64 0, .int .i64 0, .int .i64 0, .int .i64 0, .int .i64 0]) := rfl
  have hB0 : Below w.heap.size w ((w.alloc (.cells #[.pointer v.p, .int .i64 v.r, .int .i64 v.c, .int .i64 v.o, .int .i64 v.d, .int .i64 v.u] 29)).alloc (.cells #[.pointer none, .int .i64 0, .int .i64 0, .int .i64 0, .int .i64 0, .int .i64 0] 29)) := ((Below.refl _ _).alloc (Nat.le_refl _) _).alloc (by simp) _
  have hx2 : Box ((w.alloc (.cells #[.pointer v.p, .int .i64 v.r, .int .i64 v.c, .int .i64 v.o, .int .i64 v.d, .int .i64 v.u] 29)).alloc (.cells #[.pointer none, .int .i64 0, .int .i64 0, .int .i64 0, .int .i64 0, .int .i64 0] 29)) (w.heap.size + 1) [.pointer none, .int .i64 0, .int .i64 0, .int .i64 0, .int .i64 0, .int .i64 0] := Box.newA _ _ _ (by simp)
  cases hp : v.p.isNone
  case true =>
    have e0 : ∀ st, cpyV v st = Vw.none := fun st => by unfold cpyV; rw [hp]; rfl
    have E0 := Lib.hid e0
    rw [ev]
    clear e0 ev h
    go_enter Try.func73, Try.ntmps73
    go_wp2
    refine bodyPost_ret (results_one rfl (rv_cell (g := w.heap.size + 1) rfl (Box.newA _ [.pointer none, .int .i64 0, .int .i64 0, .int .i64 0, .int .i64 0, .int .i64 0] _ (by simp)) rfl Try.underlying29 (by kernel_rfl))) rfl ⟨w.heap.size, w.heap.size, by rw [E0.out]; rfl, (fun h => by simp at h), Nat.le_refl _, Nat.le_refl _, ?_⟩
    exact ((Below.refl _ _).alloc (Nat.le_refl _) _).alloc (by simp) _
  case false =>
    have e0 : ∀ st, cpyV v st = newV st v.r v.c := fun st => by unfold cpyV; rw [hp]; rfl
    have E0 := Lib.hid e0
    have HM := Lib.hid (fun (W : World) (hB : Below w.heap.size w W) => Matrix_any W v sb ws (h.below hB))
    have HL := Lib.hid (list_length v ws)
    rw [ev] at HM ⊢
    clear e0 ev h fin
    go_enter Try.func73, Try.ntmps73
    go_wp2_with fail
    refine (HM.out _ hB0).mono ?_
    rintro e w1 ⟨sv, rfl, hrow, hb1⟩
    obtain ⟨a, cap, rfl, hcel⟩ := cel_of_row hrow
    have y2 := hx2.below hb1
    have hB1 := below_step hB0 hB0.size hb1
    have s1 := hB1.size
    obtain ⟨a4, a5, a6⟩ := y2.facts
    clear hrow
    go_wp2_with fail
    refine (Of_yes v.r v.c a (v.list ws) cap _ hsm.1 hsm.2 HL.out hcel).mono ?_
    rintro e w2 ⟨st, sb', rfl, hst, hsb, hsto, hb2⟩
    have y3 := y2.below hb2
    have hB2 := below_step hB1 hB1.size hb2
    have s2 := hB2.size
    clear a4 a5 a6
    obtain ⟨a4, a5, a6⟩ := y3.facts
    unfold newV Vw.val
    dsimp only
    go_wp2
    have l2 := y2.lt
    refine bodyPost_ret (results_one rfl (rv_cell (g := w.heap.size + 1) rfl ((y3.put6 _ _ _ _ _ _).alloc _) rfl Try.underlying29 (by kernel_rfl))) rfl ⟨st, sb', by rw [E0.out]; rfl, fun _ => ?_, by omega, by omega, ?_⟩
    · exact (hsto.other6 (by omega) (by omega) _ _ _ _ _ _).alloc _
    · exact (below_put6 hB2 (by simp) _ _ _ _ _ _).alloc (by simp; omega) _

/-! ### Take -/
def takeE (v o : Vw) : Int := if v.p.isNone || o.p.isNone then 1 else if v.r ≠ o.r ∨ v.c ≠ o.c then 8 else 0
/-- The store behind it, floats of another view set one after another. -/
def Vw.takeL (v o : Vw) (wo ws : List Nat) (l : List (Nat × Nat)) : List Nat := l.foldl (fun s y => v.put s y.1 y.2 (o.get wo y.1 y.2)) ws
theorem Vw.takeL_length (v o : Vw) (wo : List Nat) : ∀ (l : List (Nat × Nat)) (ws : List Nat), (v.takeL o wo ws l).length = ws.length
  | [], _ => rfl
  | y :: l, ws => by
    show (v.takeL o wo (v.put ws y.1 y.2 (o.get wo y.1 y.2)) l).length = _
    rw [Vw.takeL_length v o wo l, Vw.put_length]
def Vw.take (v o : Vw) (wo ws : List Nat) : List Nat := if takeE v o = 0 then v.takeL o wo ws (plcs v.c (v.r * v.c)) else ws

set_option maxHeartbeats 4000000 in
theorem Take_any (w : World) (v o : Vw) (sb so : Nat) (ws wo : List Nat) (h : v.Ok w sb ws) (ho : o.Ok w so wo) :
    Calls Try.prog 98 #[v.val, o.val] w fun e w' => e = .returned (.int .i64 (takeE v o)) ∧ v.Ok w' sb (v.take o wo ws) ∧ Bel w.heap.size sb w w' := by
  have hsm := h.small
  have hsmo := ho.small
  have ev1 : v.val = (.agg #[.pointer v.p, .int .i64 v.r, .int .i64 v.c, .int .i64 v.o, .int .i64 v.d, .int .i64 v.u]) := rfl
  have ev2 : o.val = (.agg #[.pointer o.p, .int .i64 o.r, .int .i64 o.c, .int .i64 o.o, .int .i64 o.d, .int .i64 o.u]) := rfl
  have e1 : v.take o wo ws = if takeE v o = 0 then v.takeL o wo ws (plcs v.c (v.r * v.c)) else ws := rfl
  rw [e1]
  clear e1
  have hB0 : Below w.heap.size w ((w.alloc (.cells #[.pointer v.p, .int .i64 v.r, .int .i64 v.c, .int .i64 v.o, .int .i64 v.d, .int .i64 v.u] 29)).alloc (.cells #[.pointer o.p, .int .i64 o.r, .int .i64 o.c, .int .i64 o.o, .int .i64 o.d, .int .i64 o.u] 29)) := ((Below.refl _ _).alloc (Nat.le_refl _) _).alloc (by simp) _
  cases hp : v.p.isNone
  case true =>
    have e0 : takeE v o = 1 := by unfold takeE; rw [hp]; rfl
    rw [e0, if_neg (by decide), ev1, ev2]
    have HO := Lib.hid (h.below hB0)
    clear h ho ev1 ev2 e0
    go_enter Try.func98, Try.ntmps98
    go_wp2
    go_ret
    exact ⟨rfl, HO.out, Bel.of hB0⟩
  case false =>
  cases hp2 : o.p.isNone
  case true =>
    have e0 : takeE v o = 1 := by unfold takeE; rw [hp, hp2]; rfl
    rw [e0, if_neg (by decide), ev1, ev2]
    have HO := Lib.hid (h.below hB0)
    clear h ho ev1 ev2 e0
    go_enter Try.func98, Try.ntmps98
    go_wp2
    go_ret
    exact ⟨rfl, HO.out, Bel.of hB0⟩
  case false =>
  have t1 : ((v.r : Int) != (o.r : Int)) = decide (v.r ≠ o.r) := by rw [Bool.eq_iff_iff]; simp; omega
  have t2 : ((v.c : Int) != (o.c : Int)) = decide (v.c ≠ o.c) := by rw [Bool.eq_iff_iff]; simp; omega
  by_cases hrc : v.r ≠ o.r ∨ v.c ≠ o.c
  · have e0 : takeE v o = 8 := by unfold takeE; rw [hp, hp2, if_neg (by decide), if_pos hrc]
    rw [e0, if_neg (by decide), ev1, ev2]
    have HO := Lib.hid (h.below hB0)
    clear h ho ev1 ev2 e0
    by_cases h2 : v.r = o.r
    · have h3 : v.c ≠ o.c := by omega
      rw [decide_eq_false (by simpa using h2)] at t1
      rw [decide_eq_true h3] at t2
      clear hrc h2 h3
      go_enter Try.func98, Try.ntmps98
      go_wp2
      go_ret
      exact ⟨rfl, HO.out, Bel.of hB0⟩
    · rw [decide_eq_true h2] at t1
      clear hrc h2 t2
      go_enter Try.func98, Try.ntmps98
      go_wp2
      go_ret
      exact ⟨rfl, HO.out, Bel.of hB0⟩
  · have hr : v.r = o.r := by omega
    have hc : v.c = o.c := by omega
    have e0 : takeE v o = 0 := by unfold takeE; rw [hp, hp2, if_neg (by decide), if_neg hrc]
    rw [e0, if_pos rfl]
    rw [decide_eq_false (by simpa using hr)] at t1
    rw [decide_eq_false (by simpa using hc)] at t2
    have HC := Lib.hid (fun (W : World) (hB : Below w.heap.size w W) => Copy_any W o so wo (ho.below hB))
    have HRC := Lib.hid (And.intro hr hc)
    have e2 : ∀ st, cpyV o st = newV st o.r o.c := fun st => by unfold cpyV; rw [hp2]; rfl
    have E2 := Lib.hid e2
    have hpn : v.p ≠ none := by intro e; rw [e] at hp; cases hp
    obtain ⟨stv, hq, b1, b2, hne⟩ := ok_sto h hpn
    have hql := b1.lt
    have hsl := b2.lt
    clear hq hpn e0 hrc hr hc e2 b1 b2
    rw [ev1]
    rw [ev2] at HC ⊢
    have hx1 : Box ((w.alloc (.cells #[.pointer v.p, .int .i64 v.r, .int .i64 v.c, .int .i64 v.o, .int .i64 v.d, .int .i64 v.u] 29)).alloc (.cells #[.pointer o.p, .int .i64 o.r, .int .i64 o.c, .int .i64 o.o, .int .i64 o.d, .int .i64 o.u] 29)) w.heap.size [.pointer v.p, .int .i64 v.r, .int .i64 v.c, .int .i64 v.o, .int .i64 v.d, .int .i64 v.u] := (Box.newA _ _ _ rfl).alloc _
    refine (callsIn_wide (n := 9)).1 ?_
    refine callsIn_of_wp_marks Try.func98 rfl trivial ?_ rfl
    simp only [Try.ntmps98, List.size_toArray, List.length_cons, List.length_nil, Nat.reduceAdd, Nat.reduceSub, Array.replicate_succ, Array.replicate_zero, List.push_toArray, List.append_toArray, List.nil_append, List.cons_append]
    gi_wp2_with fail
    refine ⟨trivial, (callsIn_wide.2 (HC.out _ hB0)).mono ?_⟩
    rintro e w1 ⟨st, sc, rfl, hsto, hst, hsc, hb1⟩
    rw [E2.out]
    unfold newV Vw.val
    dsimp only
    have y1 := hx1.below hb1
    have hB1 := below_step hB0 hB0.size hb1
    obtain ⟨a1, a2, a3⟩ := y1.facts
    replace hsto := hsto hp2
    gi_wp2_with (refine ⟨trivial, ?_⟩; gi_at_call 79; refine (callsIn_wide.2 (All_any _ _ _ _ _ _ _)).mono ?_; rintro e w2 ⟨rfl, rfl⟩)
    have hB2 : Below w.heap.size w (w1.alloc (.cells #[.pointer (some ⟨st, 0, none⟩), .int .i64 o.r, .int .i64 o.c, .int .i64 0, .int .i64 o.c, .int .i64 1] 29)) := hB1.alloc hB1.size _
    have x1 : Box (w1.alloc (.cells #[.pointer (some ⟨st, 0, none⟩), .int .i64 o.r, .int .i64 o.c, .int .i64 0, .int .i64 o.c, .int .i64 1] 29)) w.heap.size [.pointer v.p, .int .i64 v.r, .int .i64 v.c, .int .i64 v.o, .int .i64 v.d, .int .i64 v.u] := y1.alloc _
    have x3 : Box (w1.alloc (.cells #[.pointer (some ⟨st, 0, none⟩), .int .i64 o.r, .int .i64 o.c, .int .i64 0, .int .i64 o.c, .int .i64 1] 29)) w1.heap.size [.pointer (some ⟨st, 0, none⟩), .int .i64 o.r, .int .i64 o.c, .int .i64 (0 : Nat), .int .i64 o.c, .int .i64 (1 : Nat)] := Box.newA _ _ _ rfl
    have hok2 : (newV st o.r o.c).Ok (w1.alloc (.cells #[.pointer (some ⟨st, 0, none⟩), .int .i64 o.r, .int .i64 o.c, .int .i64 0, .int .i64 o.c, .int .i64 1] 29)) sc (o.list wo) := newV_ok (hsto.alloc _) hsmo.1 hsmo.2 (list_length o wo)
    have s1 := hB1.size
    have hsz : (w1.alloc (.cells #[.pointer (some ⟨st, 0, none⟩), .int .i64 o.r, .int .i64 o.c, .int .i64 0, .int .i64 o.c, .int .i64 1] 29)).heap.size = w1.heap.size + 1 := by simp
    simp only [World.size_alloc] at hst hsc
    generalize (w1.alloc (.cells #[.pointer (some ⟨st, 0, none⟩), .int .i64 o.r, .int .i64 o.c, .int .i64 0, .int .i64 o.c, .int .i64 1] 29)) = W2 at *
    have hp1 := hx1.lt
    have hb1s := hb1.size
    simp only [World.size_alloc] at hb1s
    refine view_loop (v := newV st o.r o.c) 9 (by decide) (AllRd.R (newV st o.r o.c) sc w1.heap.size (o.list wo)) hsmo.1 hsmo.2 ⟨x3, hok2⟩ (fun _ _ h hs => h.still hs) rfl rfl
      (fun pre W => v.Ok W sb (v.takeL o wo ws (pre.map velP)) ∧ Box W w.heap.size [.pointer v.p, .int .i64 v.r, .int .i64 v.c, .int .i64 v.o, .int .i64 v.d, .int .i64 v.u] ∧ Bel w.heap.size sb w W ∧ W2.heap.size ≤ W.heap.size)
      (fun _ _ _ => False)
      (fun _ _ h => h.2.2.2) (fun _ _ _ h hs => ⟨h.1.still hs, h.2.1.still hs, h.2.2.1.trans (Bel.of (hs.1.mono (by omega))), Nat.le_trans h.2.2.2 hs.1.size⟩)
      (fun _ _ _ h => h.elim) (fun _ _ _ _ h hs => h)
      ⟨h.below hB2, x1, Bel.of hB2, Nat.le_refl _⟩
      (fun T x Bx => (((T.setIfInBounds 32 (.agg #[.int .i64 (x.1.1 : Int), .int .i64 (x.1.2.1 : Int)])).setIfInBounds 33 (.float .f64 x.1.2.2)).setIfInBounds 5 (.pointer (some ⟨Bx, 0, none⟩))).setIfInBounds 6 (.float .f64 x.1.2.2)) ?assign ?body ?done ?stop
    case assign =>
      intro l x W K hK
      unfold velV
      gi_wp2
      exact hK
    case body =>
      rintro l pre y Bx W ⟨hok, hb1, hB, hs4⟩ hbx hBx hlt
      obtain ⟨q1, q2, q3⟩ := hb1.facts
      obtain ⟨q7, q8, q9⟩ := hbx.facts
      have hyv : y.1.2.2 = o.get wo y.1.1 y.1.2.1 := by
        rw [← newV_get st o wo y.2.1 y.2.2.1]
        exact y.2.2.2
      have HY := Lib.hid hyv
      clear hyv
      gi_wp2_with fail
      refine ⟨trivial, (CallsIn.inRound l (callsIn_wide.2 (Set_any W v sb _ y.1.1 y.1.2.1 y.1.2.2 hok))).mono ?_⟩
      rintro e w3 ⟨rfl, hok3, hbb⟩
      have hbox := ok_box hok (by intro e; rw [e] at hp; cases hp)
      gi_wp2
      refine ⟨keeps_bel hbb hbox _, fun hR => ⟨hR.1.bel (by omega) hbb, ?_⟩, ?_, hb1.bel (by omega) hbb, bel_step hB hB.size hbb, Nat.le_trans hs4 hbb.size⟩
      · rcases hR.2 with h | ⟨⟨st', e, k1, k2, k3⟩, k4⟩
        · exact .inl h
        · have e' : st = st' := by have : some (⟨st, 0, none⟩ : Addr) = some ⟨st', 0, none⟩ := e; simpa using this
          subst e'
          exact .inr ⟨⟨st, rfl, k1.bel (by omega) hbb, k2.bel (by omega) hbb, k3⟩, k4⟩
      · have e1 : v.takeL o wo ws ((pre ++ [y]).map velP) = v.put (v.takeL o wo ws (pre.map velP)) y.1.1 y.1.2.1 (o.get wo y.1.1 y.1.2.1) := by
          unfold Vw.takeL
          rw [List.map_append, List.foldl_append]
          rfl
        rw [e1, ← HY.out]; exact hok3
    case done =>
      rintro D ys W hD hys ⟨hok, hb1, hB, hs4⟩ hK
      have e3 : ys.map velP = plcs v.c (v.r * v.c) := by rw [HRC.out.1, HRC.out.2]; exact hys
      rw [e3] at hok
      gi_wp2
      have hst : StillC W2.heap.size _ _ := StillC.put (o' := .deferred none) hD hK rfl
      refine ⟨by simp, .inl ⟨_, _, rfl, run_takeDeferred hK, ?_⟩⟩
      exact ⟨_, results_tmp rfl _ _ _, rfl, hok.still hst, hB.trans (Bel.of (hst.1.mono (by omega)))⟩
    case stop =>
      rintro D c pre W _ _ h _
      exact h.elim

/-! ### What is cut is a view too -/
theorem none_ok (w : World) (sb : Nat) (ws : List Nat) : Vw.none.Ok w sb ws := .inl rfl
theorem none_bnd (n : Nat) : Vw.none.Bnd n := ⟨by decide, by decide, Nat.zero_le _, Nat.zero_le _⟩
theorem bnd_mono {v : Vw} {n m : Nat} (h : v.Bnd n) (hn : n ≤ m) : v.Bnd m := ⟨h.1, h.2.1, Nat.le_trans h.2.2.1 (Nat.pow_le_pow_right (by decide) (by omega)), Nat.le_trans h.2.2.2 (Nat.pow_le_pow_right (by decide) (by omega))⟩
theorem T_ok {v : Vw} {w : World} {sb : Nat} {ws : List Nat} (h : v.Ok w sb ws) : v.T.Ok w sb ws := by
  rcases h with rfl | ⟨h, h1, h2, h3⟩
  · exact .inl rfl
  · refine .inr ⟨h, fun i j hi hj => ?_, h3, h2⟩
    have := h1 j i hj hi
    show v.o + i * v.u + j * v.d < ws.length
    omega
theorem T_bnd {v : Vw} {n : Nat} (h : v.Bnd n) : v.T.Bnd n := ⟨h.2.1, h.1, by have := h.2.2.1; show v.u + v.d ≤ _; omega, h.2.2.2⟩
theorem part_ok {v : Vw} {w : World} {sb : Nat} {ws : List Nat} (h : v.Ok w sb ws) (i j a b : Int) : (v.part i j a b).Ok w sb ws := by
  unfold Vw.part
  cases hp : v.p.isSome && fitsV i a v.r && fitsV j b v.c
  · exact .inl rfl
  · simp only [Bool.and_eq_true] at hp
    obtain ⟨i, a, rfl, rfl, h1⟩ := fits_nat hp.1.2
    obtain ⟨j, b, rfl, rfl, h2⟩ := fits_nat hp.2
    rcases h with rfl | ⟨h, h3, h4, h5⟩
    · cases hp.1.1
    · refine .inr ⟨h, fun x y hx hy => ?_, ?_, ?_⟩
      · simp only [if_true, Int.toNat_natCast] at hx hy ⊢
        have := h3 (i + x) (j + y) (by omega) (by omega)
        rw [Nat.add_mul, Nat.add_mul] at this
        omega
      · simp only [if_true, Int.toNat_natCast]; omega
      · simp only [if_true, Int.toNat_natCast]; omega
theorem part_bnd {v : Vw} {n : Nat} (h : v.Bnd n) (i j a b : Int) : (v.part i j a b).Bnd (n + 1) := by
  unfold Vw.part
  cases hp : v.p.isSome && fitsV i a v.r && fitsV j b v.c
  · exact none_bnd _
  · simp only [Bool.and_eq_true] at hp
    obtain ⟨i, a, rfl, rfl, h1⟩ := fits_nat hp.1.2
    obtain ⟨j, b, rfl, rfl, h2⟩ := fits_nat hp.2
    obtain ⟨k1, k2, k3, k4⟩ := h
    simp only [if_true, Int.toNat_natCast]
    exact ⟨by show a ≤ 512; omega, by show b ≤ 512; omega, Nat.le_trans k3 (Nat.pow_le_pow_right (by decide) (by omega)), place_bnd (by omega) (by omega) k3 k4⟩
theorem diag_ok {v : Vw} {w : World} {sb : Nat} {ws : List Nat} (h : v.Ok w sb ws) : v.diag.Ok w sb ws := by
  rcases h with rfl | ⟨h, h3, h4, h5⟩
  · exact .inl rfl
  · unfold Vw.diag
    have hp : v.p.isSome = true := by obtain ⟨st, e, _⟩ := h; rw [e]; rfl
    rw [if_pos hp]
    refine .inr ⟨h, fun x y hx hy => ?_, ?_, (by show 1 ≤ 512; omega)⟩
    · have hx' : x < min v.r v.c := hx
      have hy' : y < 1 := hy
      have := h3 x x (by omega) (by omega)
      show v.o + x * (v.d + v.u) + y * v.u < ws.length
      obtain rfl : y = 0 := by omega
      rw [Nat.mul_add]
      omega
    · show min v.r v.c ≤ 512; omega
theorem diag_bnd {v : Vw} {n : Nat} (h : v.Bnd n) : v.diag.Bnd (n + 1) := by
  unfold Vw.diag
  obtain ⟨k1, k2, k3, k4⟩ := h
  cases hp : v.p.isSome
  · exact none_bnd _
  · refine ⟨by show min v.r v.c ≤ 512; omega, by show 1 ≤ 512; omega, ?_, ?_⟩
    · show v.d + v.u + v.u ≤ 2 ^ (10 + (n + 1))
      rw [show 10 + (n + 1) = (10 + n) + 1 by omega, Nat.pow_succ]
      omega
    · exact Nat.le_trans k4 (Nat.pow_le_pow_right (by decide) (by omega))
theorem row_ok {v : Vw} {w : World} {sb : Nat} {ws : List Nat} (h : v.Ok w sb ws) (i : Int) : (v.row i).Ok w sb ws := part_ok h _ _ _ _
theorem col_ok {v : Vw} {w : World} {sb : Nat} {ws : List Nat} (h : v.Ok w sb ws) (i : Int) : (v.col i).Ok w sb ws := part_ok h _ _ _ _

/-! ### Eye -/
def eyeL (st n : Nat) : List Nat := (newV st n n).diag.fill 4607182418800017408 (List.replicate (n * n) 0) (plcs (newV st n n).diag.c ((newV st n n).diag.r * (newV st n n).diag.c))
end Go.Proofs.Ytbcdpibcieadlaa

/- Regions that draw their order, within a round of a range over a function. No condition. -/
namespace Go.Proofs.Ytbcdpibcieadlaa
open Go Go.RowKit
section
variable {P : Program} {md : Region.Mode} {ops : Array Oper} {C : World → Prop} {F : FuncId → Array Value → Value → Prop} {l0 nf : Nat}

def noDefer (l : List Oper) : Bool := l.all fun o => match o.op with | .defer _ => false | _ => true
theorem noDefer_at {l : List Oper} (h : noDefer l = true) {i : Nat} {o : Oper} (ho : l.toArray[i]? = some o) : ∀ c, o.op ≠ .defer c := by
  intro c hc
  unfold noDefer at h
  rw [List.all_eq_true] at h
  have := h o (by have h2 : l[i]? = some o := by simpa using ho
                  exact List.mem_of_getElem? h2)
  rw [hc] at this
  cases this
theorem wide_fn (l0 : Nat) (f : FuncId) : (Fence.wide.inRound l0).fn f := trivial
theorem wide_depth (l0 : Nat) : (Fence.wide.inRound l0).depth.isSome = true → 1 ≤ nf := fun h => by cases h

theorem wpOpIn_of_nqOp {i : Nat} {a : Act} {K : Act → Prop} {K' : Act → World → Prop} {Q' : Exit → Act → World → Prop} {w : World} (hd : ∀ (i : Nat) (o : Oper) c, ops[i]? = some o → o.op ≠ .defer c) (hw : C w) (h : ∀ a w', C w' → K a → K' a w') (hh : nqOp P ops C F i K a) : wpOpIn (Fence.wide.inRound l0) nf P ops Q' i K' a w := by
  unfold nqOp at hh
  unfold wpOpIn
  split
  · rename_i ho; simp only [ho] at hh; exact h _ _ hw hh
  · rename_i o ho
    simp only [ho] at hh
    split
    · rename_i hwt; simp only [hwt, if_true] at hh
      unfold nq at hh
      have hh := hh w hw
      refine ⟨fun f _ => wide_fn l0 f, ?_⟩
      have hs : o.semAt (Fence.wide.inRound l0).round a.eval = execOp a.eval o := Oper.semAt_some _ _ _ (fun c => hd i o c ho)
      rw [hs]
      generalize (execOp a.eval o).run P w = r at *
      cases r with
      | ok n w' =>
        cases n <;> simp only [nqUpon] at hh <;> simp only [Oper.uponIn]
        case value u => exact h _ _ hh.1 hh.2
        case skip => exact h _ _ hh.1 hh.2
        case enter f args =>
          refine ⟨wide_depth l0, CallsIn.inRound l0 (callsIn_wide.2 ((hh.2.1 _ hh.1).mono fun e w'' ⟨v, he, hv, hc⟩ => ?_))⟩
          subst he; exact h _ _ hc (hh.2.2 v hv)
      | halt x w' => simp only [nqUpon] at hh
    · rename_i hwt; simp only [hwt] at hh; exact ⟨fun f _ => wide_fn l0 f, h _ _ hw hh⟩

theorem wpAnyIn_of_nqAny {n g : Nat} {L : Array Bool → Act → Prop} {Q' : Exit → Act → World → Prop} (hd : ∀ (i : Nat) (o : Oper) c, ops[i]? = some o → o.op ≠ .defer c) (hL : ∀ listed a w, C w → L listed a → wpAnyIn (Fence.wide.inRound l0) nf P md ops Q' g listed a w) :
    ∀ (f : Nat) (listed : Array Bool) (a : Act) (w : World), C w → nqAny P md ops C F n L f listed a → wpAnyIn (Fence.wide.inRound l0) nf P md ops Q' (f + g) listed a w
  | 0, listed, a, w, hw, h => by rw [Nat.zero_add]; exact hL _ _ _ hw h
  | f + 1, listed, a, w, hw, h => by
    rw [show f + 1 + g = (f + g) + 1 by omega]
    exact ⟨fun h0 => absurd h0 h.1, fun i hi => wpOpIn_of_nqOp hd hw (fun a' w' hw' h' => wpAnyIn_of_nqAny hd hL f _ a' w' hw' h') (h.2 i hi).2⟩

theorem wpAnyIn_of_seq {FF : Fence} {Q' : Exit → Act → World → Prop} : ∀ (l : List Oper) (k : Nat) (listed : Array Bool) (a : Act) (w : World), (∀ j, l[j]? = ops[k + j]?) →
    Region.seqB md ops l.length k listed = true → wpListIn FF nf P ops Q' l a w → wpAnyIn FF nf P md ops Q' l.length listed a w
  | [], _, _, _, _, _, hB, h => ⟨by simpa [Region.seqB] using hB, h⟩
  | o :: l, k, listed, a, w, hl, hB, h => by
    have h0 : ops[k]? = some o := by simpa using (hl 0).symm
    simp only [List.length_cons, Region.seqB, Bool.and_eq_true, decide_eq_true_eq] at hB
    refine ⟨fun h1 => (by rw [hB.1] at h1; cases h1), fun i hi => ?_⟩
    rw [hB.1] at hi
    have hik : i = k := by simpa using hi
    subst hik
    have hw : wpOpIn FF nf P ops Q' i (wpListIn FF nf P ops Q' l) a w := by unfold wpOpIn; simp only [h0]; exact h
    exact wpOpIn_mono (fun a' w' h' => wpAnyIn_of_seq l (i + 1) _ a' w' (fun j => by have := hl (j + 1); simpa [Nat.add_assoc, Nat.add_comm 1 j] using this) hB.2 h') hw

theorem wpIn_region_nq {id : Nat} {Q : Exit → Act → World → Prop} {a : Act} {w : World} {l : List Oper} (n : Nat) (F : FuncId → Array Value → Value → Prop) (C : World → Prop)
    (hm : P.follows .mixedOrders = true) (hB : (nqB l n && noDefer l) = true) (hC : C { w with drawn := w.drawn + 1 })
    (h : nqW P l.toArray C F (fun a' => ∀ w', C w' → wpListIn (Fence.wide.inRound l0) nf P l.toArray Q (l.drop n) a' w') (l.take n) a) : (Code.region id l.toArray true).wpIn (Fence.wide.inRound l0) nf P Q a w := by
  rw [Bool.and_eq_true] at hB
  have hd : ∀ (i : Nat) (o : Oper) c, l.toArray[i]? = some o → o.op ≠ .defer c := fun i o c ho => noDefer_at hB.2 ho c
  have hB := hB.1
  simp only [nqB, Bool.and_eq_true, Bool.or_eq_true, decide_eq_true_eq] at hB
  obtain ⟨⟨⟨hsel, hsc⟩, hn⟩, hlex⟩ := hB
  have htl : (l.take n).length = n := by simp; omega
  have hdl : (l.drop n).length = l.toArray.size - n := by simp
  have inv0 : HeadInv .any l.toArray n (Array.replicate l.toArray.size false) :=
    ⟨by simp, fun j oj _ hl => (by rw [getD_replicate_false] at hl; cases hl), fun t _ ht => getD_in (by simpa using ht) (getD_replicate_false _ _)⟩
  have hs : Region.sinkB .any l.toArray n = true ∨ l.toArray.size ≤ n := hsc.elim (fun h => .inr h) (fun h => .inl h.1)
  have hc : Region.chainB .any l.toArray n = true ∨ l.toArray.size ≤ n := hsc.elim (fun h => .inr h) (fun h => .inl h.2)
  have H := nqAny_lex (md := .any) (g := l.toArray.size - n) ⟨_, hC⟩ hsel hs hc (l.take n) 0 _ a (fun j hj => by
    have hj' : j < n := by rw [htl] at hj; exact hj
    simp [hj']) (by simpa using htl) inv0 (by rw [htl]; exact hlex) h
  refine wpIn_region_any hm ?_
  have := wpAnyIn_of_nqAny (l0 := l0) (nf := nf) (Q' := Q) (g := l.toArray.size - n) hd (fun listed a' w' hw' hL => by
    have := wpAnyIn_of_seq (FF := Fence.wide.inRound l0) (nf := nf) (md := .any) (Q' := Q) (l.drop n) n listed a' w' (fun j => by simp [List.getElem?_drop]) (by rw [hdl]; exact hL.1) (hL.2 w' hw')
    rwa [hdl] at this) _ _ _ _ hC H
  rw [htl, show n + (l.toArray.size - n) = l.toArray.size by simp; omega] at this
  exact this

/-- The region that draws, in the class of the worlds that have all that was there. -/
theorem wpIn_region_nqb {id : Nat} {Q : Exit → Act → World → Prop} {a : Act} {w : World} {l : List Oper} (n : Nat) (F : FuncId → Array Value → Value → Prop)
    (hm : P.follows .mixedOrders = true) (hB : (nqB l n && noDefer l) = true)
    (h : ∀ (C : World → Prop) (R : Act → Prop), (∀ w', Cls C w' → ∀ b o, b < w.heap.size → w'.cell? ⟨b, o, none⟩ = w.cell? ⟨b, o, none⟩) → (∀ w', Cls C w' → Below w.heap.size w w') →
      (∀ w' w'', Cls C w' → Below w'.heap.size w' w'' → Cls C w'') → (∀ w' n, Cls C w' → Cls C (w'.drewN n)) →
      (∀ a', (∀ w', Below w.heap.size w w' → wpListIn (Fence.wide.inRound l0) nf P l.toArray Q (l.drop n) a' w') → R a') → nqW P l.toArray (Cls C) F R (l.take n) a) : (Code.region id l.toArray true).wpIn (Fence.wide.inRound l0) nf P Q a w :=
  wpIn_region_nq n F (Below w.heap.size w) hm hB (below_drewN 1 (Below.refl _ _))
    (h (Below w.heap.size w) (fun a' => ∀ w', Below w.heap.size w w' → wpListIn (Fence.wide.inRound l0) nf P l.toArray Q (l.drop n) a' w') (fun _ hw' => (below_cells hw').1) (fun _ h => h)
      (fun _ _ h1 h2 => h1.trans (h2.mono h1.size)) (fun _ n h => below_drewN n h) (fun _ h => h))
end
end Go.Proofs.Ytbcdpibcieadlaa
