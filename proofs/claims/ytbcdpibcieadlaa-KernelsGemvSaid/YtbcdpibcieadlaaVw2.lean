/- Views: what is cut of a view; a vector's places; a view made. -/
import Derived.Test.YtbcdpibcieadlaaVw
namespace Go.Proofs.Ytbcdpibcieadlaa
open Go Go.RowKit
set_option maxRecDepth 100000

/-- A view. -/
structure Vw where
  p : Option Addr
  r : Nat
  c : Nat
  o : Nat
  d : Nat
  u : Nat
def Vw.val (v : Vw) : Value := (.agg #[.pointer v.p, .int .i64 v.r, .int .i64 v.c, .int .i64 v.o, .int .i64 v.d, .int .i64 v.u])
def Vw.none : Vw := ⟨Option.none, 0, 0, 0, 0, 0⟩
/-- All its places are the store's. -/
def Vw.In (v : Vw) (n : Nat) : Prop := ∀ i j, i < v.r → j < v.c → v.o + i * v.d + j * v.u < n
/-- A view of the store ws in block sb, or none. -/
def Vw.Ok (v : Vw) (w : World) (sb : Nat) (ws : List Nat) : Prop := v = Vw.none ∨ (Sto w v.p sb ws ∧ v.In ws.length ∧ v.r ≤ 512 ∧ v.c ≤ 512)
theorem Vw.Ok.below {v : Vw} {w w' : World} {sb : Nat} {ws : List Nat} (h : v.Ok w sb ws) (hb : Below w.heap.size w w') : v.Ok w' sb ws := by
  rcases h with h | ⟨h, k⟩
  · exact .inl h
  · exact .inr ⟨h.below hb, k⟩
theorem Vw.Ok.small {v : Vw} {w : World} {sb : Nat} {ws : List Nat} (h : v.Ok w sb ws) : v.r ≤ 512 ∧ v.c ≤ 512 := by
  rcases h with h | h
  · subst h; exact ⟨by decide, by decide⟩
  · exact h.2.2
/-- What it tells at a place. -/
def Vw.get (v : Vw) (ws : List Nat) (i j : Int) : Nat := if inV v.r v.c i j then ws.getD (v.o + i.toNat * v.d + j.toNat * v.u) 0 else 0
/-- The store behind it, a place set. -/
def Vw.put (v : Vw) (ws : List Nat) (i j : Int) (x : Nat) : List Nat := if inV v.r v.c i j then ws.set (v.o + i.toNat * v.d + j.toNat * v.u) x else ws
theorem Vw.put_length (v : Vw) (ws : List Nat) (i j : Int) (x : Nat) : (v.put ws i j x).length = ws.length := by unfold Vw.put; split <;> simp
theorem inV_nat {r c : Nat} {i j : Int} (h : inV r c i j = true) : ∃ a b : Nat, i = a ∧ j = b ∧ a < r ∧ b < c := by
  unfold inV at h
  simp only [decide_eq_true_eq] at h
  exact ⟨i.toNat, j.toNat, by omega, by omega, by omega, by omega⟩

theorem At_any (w : World) (v : Vw) (sb : Nat) (ws : List Nat) (i j : Int) (h : v.Ok w sb ws) :
    Calls Try.prog 74 #[v.val, .int .i64 i, .int .i64 j] w fun e w' => e = .returned (.float .f64 (v.get ws i j)) ∧ Below w.heap.size w w' := by
  unfold Vw.get
  cases hi : inV v.r v.c i j
  · exact At_out w v.p v.r v.c v.o v.d v.u i j hi
  · rcases h with rfl | ⟨h, h2, _, _⟩
    · obtain ⟨a, b, _, _, h1, _⟩ := inV_nat hi
      exact absurd h1 (Nat.not_lt_zero _)
    · obtain ⟨a, b, rfl, rfl, h3, h4⟩ := inV_nat hi
      exact At_in w v.p v.r v.c v.o v.d v.u sb ws a b h h3 h4 (h2 a b h3 h4)

/-- The code of setting. -/
def Vw.putE (v : Vw) (i j : Int) : Int := if v.p.isSome then (if inV v.r v.c i j then 0 else 2) else 1
theorem Set_any (w : World) (v : Vw) (sb : Nat) (ws : List Nat) (i j : Int) (x : Nat) (h : v.Ok w sb ws) :
    Calls Try.prog 80 #[v.val, .int .i64 i, .int .i64 j, .float .f64 x] w fun e w' => e = .returned (.int .i64 (v.putE i j)) ∧ v.Ok w' sb (v.put ws i j x) ∧ Bel w.heap.size sb w w' := by
  have h0 := h
  rcases h with rfl | ⟨h, h2, h3, h4⟩
  · refine (Set_nil w 0 0 0 0 0 i j x).mono ?_
    rintro e w' ⟨rfl, hb⟩
    exact ⟨rfl, .inl rfl, Bel.of hb⟩
  · have hh := h
    obtain ⟨st, hp, _⟩ := hh
    unfold Vw.put Vw.putE
    cases hi : inV v.r v.c i j
    · have hc := Set_out w st v.r v.c v.o v.d v.u i j x hi
      rw [← hp] at hc
      refine hc.mono ?_
      rintro e w' ⟨rfl, hb⟩
      exact ⟨by rw [hp]; rfl, h0.below hb, Bel.of hb⟩
    · obtain ⟨a, b, rfl, rfl, h5, h6⟩ := inV_nat hi
      refine (Set_in w v.p v.r v.c v.o v.d v.u sb ws a b x h h5 h6 (h2 a b h5 h6)).mono ?_
      rintro e w' ⟨rfl, hs, hb⟩
      refine ⟨by rw [hp]; rfl, .inr ⟨hs, ?_, h3, h4⟩, hb⟩
      simp only [if_true, List.length_set]; exact h2

theorem Box.newA (w : World) (cs : List Value) (T : TypeId) {n : Nat} (h : w.heap.size = n) : Box (w.alloc (.cells cs.toArray T)) n cs := by subst h; exact Box.new w cs T
theorem Box.put6 {w : World} {n : Nat} {a0 a1 a2 a3 a4 a5 : Value} (h : Box w n [a0, a1, a2, a3, a4, a5]) (v0 v1 v2 v3 v4 v5 : Value) :
    Box ((((((w.setCell ⟨n, 0, none⟩ v0).setCell ⟨n, 1, none⟩ v1).setCell ⟨n, 2, none⟩ v2).setCell ⟨n, 3, none⟩ v3).setCell ⟨n, 4, none⟩ v4).setCell ⟨n, 5, none⟩ v5) n [v0, v1, v2, v3, v4, v5] :=
  (((((h.set 0 v0).set 1 v1).set 2 v2).set 3 v3).set 4 v4).set 5 v5
theorem below_set {B n : Nat} {a w : World} (h : Below B a w) (hn : B ≤ n) (o : Nat) (u : Value) : Below B a (w.setCell ⟨n, o, none⟩ u) := h.setCell hn u
theorem below_put6 {B n : Nat} {a w : World} (h : Below B a w) (hn : B ≤ n) (v0 v1 v2 v3 v4 v5 : Value) :
    Below B a ((((((w.setCell ⟨n, 0, none⟩ v0).setCell ⟨n, 1, none⟩ v1).setCell ⟨n, 2, none⟩ v2).setCell ⟨n, 3, none⟩ v3).setCell ⟨n, 4, none⟩ v4).setCell ⟨n, 5, none⟩ v5) :=
  below_set (below_set (below_set (below_set (below_set (below_set h hn _ _) hn _ _) hn _ _) hn _ _) hn _ _) hn _ _

def Vw.T (v : Vw) : Vw := ⟨v.p, v.c, v.r, v.o, v.u, v.d⟩
set_option maxHeartbeats 1000000 in
theorem T_any (v : Vw) (w : World) :
    Calls Try.prog 46 #[v.val] w fun e w' => e = .returned v.T.val ∧ Below w.heap.size w w' := by
  obtain ⟨p, r, c, o, d, u⟩ := v
  unfold Vw.val Vw.T
  dsimp only
  go_enter Try.func46, Try.ntmps46
  go_wp2
  refine bodyPost_ret (results_one rfl (rv_cell (g := w.heap.size + 1) rfl (Box.newA _ [.pointer p, .int .i64 c, .int .i64 r, .int .i64 o, .int .i64 u, .int .i64 d] _ (by simp)) rfl Try.underlying29 (by kernel_rfl))) rfl ⟨rfl, ?_⟩
  exact ((Below.refl _ _).alloc (Nat.le_refl _) _).alloc (by simp) _

/-- Does a part fit? -/
def fitsV (i n : Int) (m : Nat) : Bool := decide (0 ≤ i ∧ 0 ≤ n ∧ i ≤ m ∧ n ≤ m - i)
set_option maxHeartbeats 1000000 in
theorem Fits_any (i n : Int) (m : Nat) (hm : m ≤ 512) (w : World) :
    Calls Try.prog 114 #[.int .i64 i, .int .i64 n, .int .i64 m] w fun e w' => e = .returned (.bool (fitsV i n m)) ∧ w = w' := by
  by_cases h1 : 0 ≤ i
  all_goals by_cases h2 : 0 ≤ n
  all_goals by_cases h3 : i ≤ m
  all_goals
    go_enter Try.func114, Try.ntmps114
    go_wp2
    go_ret
    exact ⟨(by first | (simp [fitsV]; omega) | simp [fitsV, *]), rfl⟩
theorem Fits_run (i n m : Int) (w : World) : (callFunc 114 #[.int .i64 i, .int .i64 n, .int .i64 m]).run Try.prog w = .ok (.enter 114 #[.int .i64 i, .int .i64 n, .int .i64 m]) w := by kernel_rfl

/-- A part. -/
def Vw.part (v : Vw) (i j a b : Int) : Vw := if v.p.isSome && fitsV i a v.r && fitsV j b v.c then ⟨v.p, a.toNat, b.toNat, v.o + i.toNat * v.d + j.toNat * v.u, v.d, v.u⟩ else Vw.none
/-- Its numbers are not too great. -/
def Vw.Bnd (v : Vw) (n : Nat) : Prop := v.r ≤ 512 ∧ v.c ≤ 512 ∧ v.d + v.u ≤ 2 ^ (10 + n) ∧ v.o ≤ 2 ^ (20 + n)
theorem place_bnd {o d u i j n : Nat} (hi : i ≤ 512) (hj : j ≤ 512) (hd : d + u ≤ 2 ^ (10 + n)) (ho : o ≤ 2 ^ (20 + n)) : o + i * d + j * u ≤ 2 ^ (20 + (n + 1)) := by
  have h1 : i * d ≤ 512 * d := Nat.mul_le_mul_right _ hi
  have h2 : j * u ≤ 512 * u := Nat.mul_le_mul_right _ hj
  have h3 : 512 * (d + u) ≤ 512 * 2 ^ (10 + n) := Nat.mul_le_mul_left _ hd
  have h4 : 512 * 2 ^ (10 + n) ≤ 2 ^ (20 + n) := by
    rw [show 20 + n = 10 + (10 + n) by omega, Nat.pow_add 2 10 (10 + n)]
    exact Nat.mul_le_mul_right _ (by decide)
  rw [show 20 + (n + 1) = (20 + n) + 1 by omega, Nat.pow_succ]
  omega
theorem pow_small {n : Nat} (h : n ≤ 40) : 2 ^ (20 + (n + 1)) ≤ 9223372036854775807 :=
  Nat.le_trans (Nat.pow_le_pow_right (by decide) (show 20 + (n + 1) ≤ 61 by omega)) (by decide)
theorem fits_nat {i n : Int} {m : Nat} (h : fitsV i n m = true) : ∃ a b : Nat, i = a ∧ n = b ∧ a + b ≤ m := by
  unfold fitsV at h
  simp only [decide_eq_true_eq] at h
  exact ⟨i.toNat, n.toNat, by omega, by omega, by omega⟩

set_option maxHeartbeats 2000000 in
theorem Part_any (v : Vw) (i j a b : Int) (w : World) (n : Nat) (hv : v.Bnd n) (hn : n ≤ 40) :
    Calls Try.prog 95 #[v.val, .int .i64 i, .int .i64 j, .int .i64 a, .int .i64 b] w fun e w' => e = .returned (v.part i j a b).val ∧ Below w.heap.size w w' := by
  obtain ⟨p, r, c, o, d, u⟩ := v
  obtain ⟨hr, hc, hd, ho⟩ := hv
  dsimp only at hr hc hd ho
  have hbig := pow_small hn
  have hx1 : Box ((w.alloc (.cells #[.pointer p, .int .i64 r, .int .i64 c, .int .i64 o, .int .i64 d, .int .i64 u] 29)).alloc (.cells #[.pointer none, .int .i64 0, .int .i64 0, .int .i64 0, .int .i64 0, .int .i64 0] 29)) w.heap.size [.pointer p, .int .i64 r, .int .i64 c, .int .i64 o, .int .i64 d, .int .i64 u] := (Box.new w _ _).alloc _
  have hx2 : Box ((w.alloc (.cells #[.pointer p, .int .i64 r, .int .i64 c, .int .i64 o, .int .i64 d, .int .i64 u] 29)).alloc (.cells #[.pointer none, .int .i64 0, .int .i64 0, .int .i64 0, .int .i64 0, .int .i64 0] 29)) (w.heap.size + 1) [.pointer none, .int .i64 0, .int .i64 0, .int .i64 0, .int .i64 0, .int .i64 0] := Box.newA _ _ _ (by simp)
  have hB0 : Below w.heap.size w ((w.alloc (.cells #[.pointer p, .int .i64 r, .int .i64 c, .int .i64 o, .int .i64 d, .int .i64 u] 29)).alloc (.cells #[.pointer none, .int .i64 0, .int .i64 0, .int .i64 0, .int .i64 0, .int .i64 0] 29)) := ((Below.refl _ _).alloc (Nat.le_refl _) _).alloc (by simp) _
  have hne : w.heap.size ≠ w.heap.size + 1 := by omega
  have fin : Vw.none.val = (.agg #[.pointer none, .int .i64 0, .int .i64 0, .int .i64 0, .int .i64 0, .int .i64 0]) := rfl
  cases p
  case none =>
    have e0 : (Vw.mk Option.none r c o d u).part i j a b = Vw.none := rfl
    rw [e0, fin]
    unfold Vw.val
    dsimp only
    clear hbig hd ho e0 fin
    go_enter Try.func95, Try.ntmps95
    go_wp2
    refine bodyPost_ret (results_one rfl (rv_cell (g := w.heap.size + 1) rfl (Box.newA _ [.pointer none, .int .i64 0, .int .i64 0, .int .i64 0, .int .i64 0, .int .i64 0] _ (by simp)) rfl Try.underlying29 (by kernel_rfl))) rfl ⟨rfl, ?_⟩
    exact ((Below.refl _ _).alloc (Nat.le_refl _) _).alloc (by simp) _
  case some q =>
    cases t1 : fitsV i a r
    case false =>
      have e0 : (Vw.mk (some q) r c o d u).part i j a b = Vw.none := by unfold Vw.part; dsimp only; rw [t1]; rfl
      rw [e0, fin]
      unfold Vw.val
      dsimp only
      clear hbig hd ho e0 fin
      go_enter Try.func95, Try.ntmps95
      go_wp2_with fail
      refine (Fits_any _ _ r hr _).mono ?_
      rintro e w1 ⟨rfl, rfl⟩
      rw [t1]
      go_wp2_with fail
      refine bodyPost_ret (results_one rfl (rv_cell (g := w.heap.size + 1) rfl (Box.newA _ [.pointer none, .int .i64 0, .int .i64 0, .int .i64 0, .int .i64 0, .int .i64 0] _ (by simp)) rfl Try.underlying29 (by kernel_rfl))) rfl ⟨rfl, ?_⟩
      exact ((Below.refl _ _).alloc (Nat.le_refl _) _).alloc (by simp) _
    case true =>
      cases t2 : fitsV j b c
      case false =>
        have e0 : (Vw.mk (some q) r c o d u).part i j a b = Vw.none := by unfold Vw.part; dsimp only; rw [t1, t2]; rfl
        rw [e0, fin]
        unfold Vw.val
        dsimp only
        clear hbig hd ho e0 fin
        go_enter Try.func95, Try.ntmps95
        go_wp2_with fail
        refine (Fits_any _ _ r hr _).mono ?_
        rintro e w1 ⟨rfl, rfl⟩
        rw [t1]
        go_wp2_with fail
        refine (Fits_any _ _ c hc _).mono ?_
        rintro e w1 ⟨rfl, rfl⟩
        rw [t2]
        go_wp2_with fail
        refine bodyPost_ret (results_one rfl (rv_cell (g := w.heap.size + 1) rfl (Box.newA _ [.pointer none, .int .i64 0, .int .i64 0, .int .i64 0, .int .i64 0, .int .i64 0] _ (by simp)) rfl Try.underlying29 (by kernel_rfl))) rfl ⟨rfl, ?_⟩
        exact ((Below.refl _ _).alloc (Nat.le_refl _) _).alloc (by simp) _
      case true =>
        have e0 : (Vw.mk (some q) r c o d u).part i j a b = ⟨some q, a.toNat, b.toNat, o + i.toNat * d + j.toNat * u, d, u⟩ := by unfold Vw.part; dsimp only; rw [t1, t2]; rfl
        rw [e0]
        unfold Vw.val
        dsimp only
        have f1 := fits_nat t1
        have f2 := fits_nat t2
        obtain ⟨i, a, rfl, rfl, hi⟩ := f1
        obtain ⟨j, b, rfl, rfl, hj⟩ := f2
        simp only [Int.toNat_natCast]
        have hpl := place_bnd (i := i) (j := j) (by omega) (by omega) hd ho
        have HP0 := fun W => place_any (some q) r c o d u i j W (by omega)
        clear hbig hd ho e0 fin hpl hi hj
        generalize o + i * d + j * u = k at HP0 ⊢
        have HP := Lib.hid HP0
        clear HP0
        go_enter Try.func95, Try.ntmps95
        go_wp2_with fail
        refine (Fits_any _ _ r hr _).mono ?_
        rintro e w1 ⟨rfl, rfl⟩
        rw [t1]
        go_wp2_with fail
        refine (Fits_any _ _ c hc _).mono ?_
        rintro e w1 ⟨rfl, rfl⟩
        rw [t2]
        go_wp2_with fail
        refine (HP.out _).mono ?_
        rintro e w1 ⟨rfl, hb1⟩
        have y1 := hx1.below hb1
        have y2 := hx2.below hb1
        have hB1 := below_step hB0 hB0.size hb1
        obtain ⟨a1, a2, a3⟩ := y1.facts
        obtain ⟨a4, a5, a6⟩ := y2.facts
        go_wp2
        refine bodyPost_ret (results_one rfl (rv_cell (g := w.heap.size + 1) rfl ((((y2.set_other hne.symm 3 _).set_other hne.symm 1 _).set_other hne.symm 2 _).put6 _ _ _ _ _ _) rfl Try.underlying29 (by kernel_rfl))) rfl ⟨rfl, ?_⟩
        exact below_put6 (below_set (below_set (below_set hB1 (Nat.le_refl _) _ _) (Nat.le_refl _) _ _) (Nat.le_refl _) _ _) (by simp) _ _ _ _ _ _

def Vw.row (v : Vw) (i : Int) : Vw := v.part i 0 1 v.c
def Vw.col (v : Vw) (j : Int) : Vw := v.part 0 j v.r 1
set_option maxHeartbeats 2000000 in
theorem Row_any (v : Vw) (i : Int) (w : World) (n : Nat) (hv : v.Bnd n) (hn : n ≤ 40) :
    Calls Try.prog 47 #[v.val, .int .i64 i] w fun e w' => e = .returned (v.row i).val ∧ Below w.heap.size w w' := by
  have HP := Lib.hid (fun W => Part_any v i 0 1 v.c W n hv hn)
  have er : v.row i = v.part i 0 1 v.c := rfl
  rw [er]
  clear er
  obtain ⟨p, r, c, o, d, u⟩ := v
  have hx2 : Box ((w.alloc (.cells #[.pointer p, .int .i64 r, .int .i64 c, .int .i64 o, .int .i64 d, .int .i64 u] 29)).alloc (.cells #[.pointer none, .int .i64 0, .int .i64 0, .int .i64 0, .int .i64 0, .int .i64 0] 29)) (w.heap.size + 1) [.pointer none, .int .i64 0, .int .i64 0, .int .i64 0, .int .i64 0, .int .i64 0] := Box.newA _ _ _ (by simp)
  have hB0 : Below w.heap.size w ((w.alloc (.cells #[.pointer p, .int .i64 r, .int .i64 c, .int .i64 o, .int .i64 d, .int .i64 u] 29)).alloc (.cells #[.pointer none, .int .i64 0, .int .i64 0, .int .i64 0, .int .i64 0, .int .i64 0] 29)) := ((Below.refl _ _).alloc (Nat.le_refl _) _).alloc (by simp) _
  generalize (Vw.mk p r c o d u).part i 0 1 (Vw.mk p r c o d u).c = v' at HP ⊢
  obtain ⟨p', r', c', o', d', u'⟩ := v'
  unfold Vw.val at HP ⊢
  dsimp only at HP ⊢
  go_enter Try.func47, Try.ntmps47
  go_wp2_with fail
  refine (HP.out _).mono ?_
  rintro e w1 ⟨rfl, hb1⟩
  have y2 := hx2.below hb1
  have hB1 := below_step hB0 hB0.size hb1
  obtain ⟨a4, a5, a6⟩ := y2.facts
  go_wp2
  refine bodyPost_ret (results_one rfl (rv_cell (g := w.heap.size + 1) rfl (y2.put6 _ _ _ _ _ _) rfl Try.underlying29 (by kernel_rfl))) rfl ⟨rfl, ?_⟩
  exact below_put6 hB1 (by simp) _ _ _ _ _ _
set_option maxHeartbeats 2000000 in
theorem Col_any (v : Vw) (j : Int) (w : World) (n : Nat) (hv : v.Bnd n) (hn : n ≤ 40) :
    Calls Try.prog 49 #[v.val, .int .i64 j] w fun e w' => e = .returned (v.col j).val ∧ Below w.heap.size w w' := by
  have HP := Lib.hid (fun W => Part_any v 0 j v.r 1 W n hv hn)
  have er : v.col j = v.part 0 j v.r 1 := rfl
  rw [er]
  clear er
  obtain ⟨p, r, c, o, d, u⟩ := v
  have hx2 : Box ((w.alloc (.cells #[.pointer p, .int .i64 r, .int .i64 c, .int .i64 o, .int .i64 d, .int .i64 u] 29)).alloc (.cells #[.pointer none, .int .i64 0, .int .i64 0, .int .i64 0, .int .i64 0, .int .i64 0] 29)) (w.heap.size + 1) [.pointer none, .int .i64 0, .int .i64 0, .int .i64 0, .int .i64 0, .int .i64 0] := Box.newA _ _ _ (by simp)
  have hB0 : Below w.heap.size w ((w.alloc (.cells #[.pointer p, .int .i64 r, .int .i64 c, .int .i64 o, .int .i64 d, .int .i64 u] 29)).alloc (.cells #[.pointer none, .int .i64 0, .int .i64 0, .int .i64 0, .int .i64 0, .int .i64 0] 29)) := ((Below.refl _ _).alloc (Nat.le_refl _) _).alloc (by simp) _
  generalize (Vw.mk p r c o d u).part 0 j (Vw.mk p r c o d u).r 1 = v' at HP ⊢
  obtain ⟨p', r', c', o', d', u'⟩ := v'
  unfold Vw.val at HP ⊢
  dsimp only at HP ⊢
  go_enter Try.func49, Try.ntmps49
  go_wp2_with fail
  refine (HP.out _).mono ?_
  rintro e w1 ⟨rfl, hb1⟩
  have y2 := hx2.below hb1
  have hB1 := below_step hB0 hB0.size hb1
  obtain ⟨a4, a5, a6⟩ := y2.facts
  go_wp2
  refine bodyPost_ret (results_one rfl (rv_cell (g := w.heap.size + 1) rfl (y2.put6 _ _ _ _ _ _) rfl Try.underlying29 (by kernel_rfl))) rfl ⟨rfl, ?_⟩
  exact below_put6 hB1 (by simp) _ _ _ _ _ _

def Vw.diag (v : Vw) : Vw := if v.p.isSome then ⟨v.p, min v.r v.c, 1, v.o, v.d + v.u, v.u⟩ else Vw.none
end Go.Proofs.Ytbcdpibcieadlaa
