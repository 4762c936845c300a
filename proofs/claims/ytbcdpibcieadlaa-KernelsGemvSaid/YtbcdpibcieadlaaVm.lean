/- What views turned, and parts, show: plain facts, and what the calls of the statement give. -/
import Derived.Test.YtbcdpibcieadlaaVkL
namespace Go.Proofs.Ytbcdpibcieadlaa
open Go Go.RowKit
set_option maxRecDepth 100000

theorem sameF_refl (x : Nat) : sameF x x = true := by simp [sameF]
theorem sameL_refl (v : Vw) (ws : List Nat) (l : List (Nat × Nat)) : sameL v v ws ws l = true := by
  unfold sameL
  rw [List.all_eq_true]
  intro x _
  exact sameF_refl _
theorem sameV_refl (v : Vw) (ws : List Nat) : sameV v v ws ws = true := by
  unfold sameV
  rw [sameL_refl]
  simp
theorem T_T (v : Vw) : v.T.T = v := rfl
/-- A row is the turned one's column, turned. -/
theorem row_col (v : Vw) (i : Int) : (v.T.col i).T = v.row i := by
  unfold Vw.col Vw.row Vw.part Vw.T
  dsimp only
  rw [show (v.p.isSome && fitsV i 1 v.r && fitsV 0 v.c v.c) = (v.p.isSome && fitsV 0 v.c v.c && fitsV i 1 v.r) by cases v.p.isSome <;> cases fitsV i 1 v.r <;> cases fitsV 0 v.c v.c <;> rfl]
  cases h : (v.p.isSome && fitsV 0 v.c v.c && fitsV i 1 v.r)
  · rfl
  · simp
theorem T_get (v : Vw) (ws : List Nat) (i j : Int) : v.T.get ws j i = v.get ws i j := by
  unfold Vw.get Vw.T
  dsimp only
  have h : inV v.c v.r j i = inV v.r v.c i j := by
    unfold inV
    rw [Bool.eq_iff_iff]
    simp only [decide_eq_true_eq]
    omega
  rw [h]
  split
  · congr 1
    omega
  · rfl
/-- A part's place is the whole's, moved. -/
theorem part_get (v : Vw) (ws : List Nat) {A B C D i j : Int} (hr : ((v.part A B C D).r : Int) = C) (hc : ((v.part A B C D).c : Int) = D) (hi : 0 ≤ i) (hi2 : i < C) (hj : 0 ≤ j) (hj2 : j < D) :
    (v.part A B C D).get ws i j = v.get ws (A + i) (B + j) ∧ 0 ≤ A ∧ A + i < v.r ∧ 0 ≤ B ∧ B + j < v.c := by
  unfold Vw.part at *
  cases hp : v.p.isSome && fitsV A C v.r && fitsV B D v.c
  · rw [hp] at hr
    have : ((Vw.none.r : Nat) : Int) = C := hr
    have h0 : ((Vw.none.r : Nat) : Int) = 0 := rfl
    omega
  · simp only [Bool.and_eq_true] at hp
    obtain ⟨A, C, rfl, rfl, h1⟩ := fits_nat hp.1.2
    obtain ⟨B, D, rfl, rfl, h2⟩ := fits_nat hp.2
    obtain ⟨i, rfl⟩ := Int.eq_ofNat_of_zero_le hi
    obtain ⟨j, rfl⟩ := Int.eq_ofNat_of_zero_le hj
    simp only [if_true, Int.toNat_natCast]
    unfold Vw.get
    dsimp only
    have e1 : inV C D (i : Int) (j : Int) = true := by unfold inV; simp; omega
    have e2 : inV v.r v.c ((A : Int) + (i : Int)) ((B : Int) + (j : Int)) = true := by unfold inV; simp; omega
    rw [e1, e2, if_pos rfl, if_pos rfl]
    refine ⟨?_, by omega, by omega, by omega, by omega⟩
    have e3 : ((A : Int) + (i : Int)).toNat = A + i := by omega
    have e4 : ((B : Int) + (j : Int)).toNat = B + j := by omega
    rw [e3, e4, Int.toNat_natCast, Int.toNat_natCast, Nat.add_mul, Nat.add_mul]
    congr 1
    omega
theorem get_word {v : Vw} {ws : List Nat} (h : Words ws) (i j : Int) : v.get ws i j < 18446744073709551616 := by
  unfold Vw.get
  split
  · exact h.at _
  · decide

/-! ### What the statement's walk holds on to -/
structure KM (w : World) (v : Vw) (b sb : Nat) (ws : List Nat) (bl : List (Nat × List Value)) (W : World) : Prop where
  box : Box W b [.pointer v.p, .int .i64 v.r, .int .i64 v.c, .int .i64 v.o, .int .i64 v.d, .int .i64 v.u]
  ok : v.Ok W sb ws
  below : Below w.heap.size w W
  more : ∀ q ∈ bl, Box W q.1 q.2
theorem KM.step {w : World} {v : Vw} {b sb : Nat} {ws : List Nat} {bl : List (Nat × List Value)} {W W' : World} (h : KM w v b sb ws bl W) (hb : Below W.heap.size W W') : KM w v b sb ws bl W' := ⟨h.box.below hb, h.ok.below hb, below_step h.below h.below.size hb, fun q hq => (h.more q hq).below hb⟩
theorem KM.drew {w : World} {v : Vw} {b sb : Nat} {ws : List Nat} {bl : List (Nat × List Value)} {W : World} (h : KM w v b sb ws bl W) : KM w v b sb ws bl W.drew := h.step (below_drewN 1 (Below.refl _ _))
theorem KM.S {w : World} {v : Vw} {b sb : Nat} {ws : List Nat} {bl : List (Nat × List Value)} {W : World} (h : KM w v b sb ws bl W) : KM w v b sb ws bl W ∧ (∀ i, W.cell? ⟨b, i, none⟩ = ([.pointer v.p, .int .i64 v.r, .int .i64 v.c, .int .i64 v.o, .int .i64 v.d, .int .i64 v.u])[i]?) := ⟨h, h.box.cell⟩
theorem KM.L {w : World} {v : Vw} {b sb : Nat} {ws : List Nat} {bl : List (Nat × List Value)} {W : World} {X : Prop} (h : KM w v b sb ws bl W ∧ X) : KM w v b sb ws bl W := h.1
theorem KM.S3 {w : World} {v : Vw} {b sb b1 b2 : Nat} {ws : List Nat} {l1 l2 : List Value} {W : World} (h : KM w v b sb ws [(b1, l1), (b2, l2)] W) : KM w v b sb ws [(b1, l1), (b2, l2)] W ∧ (∀ i, W.cell? ⟨b, i, none⟩ = ([.pointer v.p, .int .i64 v.r, .int .i64 v.c, .int .i64 v.o, .int .i64 v.d, .int .i64 v.u])[i]?) ∧ (∀ i, W.cell? ⟨b1, i, none⟩ = l1[i]?) ∧ (∀ i, W.cell? ⟨b2, i, none⟩ = l2[i]?) :=
  ⟨h, h.box.cell, (h.more (b1, l1) (by simp)).cell, (h.more (b2, l2) (by simp)).cell⟩
section
variable {w W : World} {v : Vw} {b sb : Nat} {ws : List Nat} {bl : List (Nat × List Value)}
theorem mT (h : KM w v b sb ws bl W) (u : Vw) : Calls Try.prog 46 #[(.agg #[.pointer u.p, .int .i64 u.r, .int .i64 u.c, .int .i64 u.o, .int .i64 u.d, .int .i64 u.u])] W fun e w' => e = .returned (.agg #[.pointer u.T.p, .int .i64 u.T.r, .int .i64 u.T.c, .int .i64 u.T.o, .int .i64 u.T.d, .int .i64 u.T.u]) ∧ KM w v b sb ws bl w' :=
  (T_any u W).mono fun _ _ ⟨he, hb⟩ => ⟨he.trans rfl, h.step hb⟩
theorem mRow (h : KM w v b sb ws bl W) (hv : v.Bnd 0) (i : Int) : Calls Try.prog 47 #[(.agg #[.pointer v.p, .int .i64 v.r, .int .i64 v.c, .int .i64 v.o, .int .i64 v.d, .int .i64 v.u]), .int .i64 i] W fun e w' => e = .returned (.agg #[.pointer (v.row i).p, .int .i64 (v.row i).r, .int .i64 (v.row i).c, .int .i64 (v.row i).o, .int .i64 (v.row i).d, .int .i64 (v.row i).u]) ∧ KM w v b sb ws bl w' :=
  (Row_any v i W 0 hv (by decide)).mono fun _ _ ⟨he, hb⟩ => ⟨he.trans rfl, h.step hb⟩
theorem mCol (h : KM w v b sb ws bl W) (hv : v.Bnd 0) (i : Int) : Calls Try.prog 49 #[(.agg #[.pointer v.T.p, .int .i64 v.T.r, .int .i64 v.T.c, .int .i64 v.T.o, .int .i64 v.T.d, .int .i64 v.T.u]), .int .i64 i] W fun e w' => e = .returned (.agg #[.pointer (v.T.col i).p, .int .i64 (v.T.col i).r, .int .i64 (v.T.col i).c, .int .i64 (v.T.col i).o, .int .i64 (v.T.col i).d, .int .i64 (v.T.col i).u]) ∧ KM w v b sb ws bl w' :=
  (Col_any v.T i W 0 (T_bnd hv) (by decide)).mono fun _ _ ⟨he, hb⟩ => ⟨he.trans rfl, h.step hb⟩
theorem mSame1 (h : KM w v b sb ws bl W) : Calls Try.prog 37 #[(.agg #[.pointer v.T.T.p, .int .i64 v.T.T.r, .int .i64 v.T.T.c, .int .i64 v.T.T.o, .int .i64 v.T.T.d, .int .i64 v.T.T.u]), (.agg #[.pointer v.p, .int .i64 v.r, .int .i64 v.c, .int .i64 v.o, .int .i64 v.d, .int .i64 v.u])] W fun e w' => e = .returned (.bool true) ∧ KM w v b sb ws bl w' :=
  (Same_any W v v sb sb ws ws h.ok h.ok).mono fun _ _ ⟨he, hb⟩ => ⟨he.trans (by rw [sameV_refl]), h.step hb⟩
theorem mSame2 (h : KM w v b sb ws bl W) (i : Int) : Calls Try.prog 37 #[(.agg #[.pointer (v.row i).p, .int .i64 (v.row i).r, .int .i64 (v.row i).c, .int .i64 (v.row i).o, .int .i64 (v.row i).d, .int .i64 (v.row i).u]), (.agg #[.pointer (v.T.col i).T.p, .int .i64 (v.T.col i).T.r, .int .i64 (v.T.col i).T.c, .int .i64 (v.T.col i).T.o, .int .i64 (v.T.col i).T.d, .int .i64 (v.T.col i).T.u])] W fun e w' => e = .returned (.bool true) ∧ KM w v b sb ws bl w' := by
  rw [row_col]
  exact (Same_any W (v.row i) (v.row i) sb sb ws ws (row_ok h.ok i) (row_ok h.ok i)).mono fun _ _ ⟨he, hb⟩ => ⟨he.trans (by rw [sameV_refl]), h.step hb⟩
theorem mAt (h : KM w v b sb ws bl W) (u : Vw) (hu : ∀ W, v.Ok W sb ws → u.Ok W sb ws) (i j : Int) : Calls Try.prog 74 #[(.agg #[.pointer u.p, .int .i64 u.r, .int .i64 u.c, .int .i64 u.o, .int .i64 u.d, .int .i64 u.u]), .int .i64 i, .int .i64 j] W fun e w' => e = .returned (.float .f64 (u.get ws i j)) ∧ KM w v b sb ws bl w' :=
  (At_any W u sb ws i j (hu W h.ok)).mono fun _ _ ⟨he, hb⟩ => ⟨he, h.step hb⟩
theorem mBits (h : KM w v b sb ws bl W) (hw : Words ws) (u : Vw) (i j : Int) : Calls Try.prog 68 #[.float .f64 (u.get ws i j)] W fun e w' => e = .returned (.int .u64 (nm (u.get ws i j))) ∧ KM w v b sb ws bl w' :=
  (Bits_any _ (get_word hw i j) W).mono fun _ _ ⟨he, hb⟩ => ⟨he, by subst hb; exact h⟩
theorem mRows (h : KM w v b sb ws bl W) (u : Vw) : Calls Try.prog 71 #[(.agg #[.pointer u.p, .int .i64 u.r, .int .i64 u.c, .int .i64 u.o, .int .i64 u.d, .int .i64 u.u])] W fun e w' => e = .returned (.int .i64 u.r) ∧ KM w v b sb ws bl w' :=
  (Rows_any _ _ _ _ _ _ W).mono fun _ _ ⟨he, hb⟩ => ⟨he, h.step hb⟩
theorem mCols (h : KM w v b sb ws bl W) (u : Vw) : Calls Try.prog 70 #[(.agg #[.pointer u.p, .int .i64 u.r, .int .i64 u.c, .int .i64 u.o, .int .i64 u.d, .int .i64 u.u])] W fun e w' => e = .returned (.int .i64 u.c) ∧ KM w v b sb ws bl w' :=
  (Cols_any _ _ _ _ _ _ W).mono fun _ _ ⟨he, hb⟩ => ⟨he, h.step hb⟩
end

/-! ### What calls give in drawn regions -/
theorem vv_inj {u v : Vw} (h : ((.agg #[.pointer u.p, .int .i64 u.r, .int .i64 u.c, .int .i64 u.o, .int .i64 u.d, .int .i64 u.u]) : Value) = (.agg #[.pointer v.p, .int .i64 v.r, .int .i64 v.c, .int .i64 v.o, .int .i64 v.d, .int .i64 v.u])) : u = v := by
  obtain ⟨p, r, c, o, d, x⟩ := u
  obtain ⟨p', r', c', o', d', x'⟩ := v
  simp at h
  obtain ⟨h1, h2, h3, h4, h5, h6⟩ := h
  have e2 : r = r' := by omega
  have e3 : c = c' := by omega
  have e4 : o = o' := by omega
  have e5 : d = d' := by omega
  have e6 : x = x' := by omega
  subst h1 e2 e3 e4 e5 e6
  rfl
def VF (zs : List Nat) (f : FuncId) (args : Array Value) (x : Value) : Prop :=
  (f = 71 → ∀ u : Vw, args = #[(.agg #[.pointer u.p, .int .i64 u.r, .int .i64 u.c, .int .i64 u.o, .int .i64 u.d, .int .i64 u.u])] → x = .int .i64 u.r) ∧
  (f = 70 → ∀ u : Vw, args = #[(.agg #[.pointer u.p, .int .i64 u.r, .int .i64 u.c, .int .i64 u.o, .int .i64 u.d, .int .i64 u.u])] → x = .int .i64 u.c) ∧
  (f = 46 → ∀ u : Vw, args = #[(.agg #[.pointer u.p, .int .i64 u.r, .int .i64 u.c, .int .i64 u.o, .int .i64 u.d, .int .i64 u.u])] → x = (.agg #[.pointer u.T.p, .int .i64 u.T.r, .int .i64 u.T.c, .int .i64 u.T.o, .int .i64 u.T.d, .int .i64 u.T.u])) ∧
  (f = 74 → ∀ (u : Vw) (i j : Int), args = #[(.agg #[.pointer u.p, .int .i64 u.r, .int .i64 u.c, .int .i64 u.o, .int .i64 u.d, .int .i64 u.u]), .int .i64 i, .int .i64 j] → x = .float .f64 (u.get zs i j)) ∧
  (f = 68 → ∀ y : Nat, args = #[.float .f64 y] → x = .int .u64 (nm y))
theorem one_arg {x y : Value} (h : (#[x] : Array Value) = #[y]) : x = y := by simpa using h
theorem VF_rows (zs : List Nat) (u : Vw) : VF zs 71 #[(.agg #[.pointer u.p, .int .i64 u.r, .int .i64 u.c, .int .i64 u.o, .int .i64 u.d, .int .i64 u.u])] (.int .i64 u.r) :=
  ⟨fun _ u' h => by rw [vv_inj (one_arg h)], fun h => absurd h (by decide), fun h => absurd h (by decide), fun h => absurd h (by decide), fun h => absurd h (by decide)⟩
theorem VF_cols (zs : List Nat) (u : Vw) : VF zs 70 #[(.agg #[.pointer u.p, .int .i64 u.r, .int .i64 u.c, .int .i64 u.o, .int .i64 u.d, .int .i64 u.u])] (.int .i64 u.c) :=
  ⟨fun h => absurd h (by decide), fun _ u' h => by rw [vv_inj (one_arg h)], fun h => absurd h (by decide), fun h => absurd h (by decide), fun h => absurd h (by decide)⟩
theorem VF_T (zs : List Nat) (u : Vw) : VF zs 46 #[(.agg #[.pointer u.p, .int .i64 u.r, .int .i64 u.c, .int .i64 u.o, .int .i64 u.d, .int .i64 u.u])] (.agg #[.pointer u.T.p, .int .i64 u.T.r, .int .i64 u.T.c, .int .i64 u.T.o, .int .i64 u.T.d, .int .i64 u.T.u]) :=
  ⟨fun h => absurd h (by decide), fun h => absurd h (by decide), fun _ u' h => by rw [vv_inj (one_arg h)], fun h => absurd h (by decide), fun h => absurd h (by decide)⟩
theorem VF_at (zs : List Nat) (u : Vw) (i j : Int) : VF zs 74 #[(.agg #[.pointer u.p, .int .i64 u.r, .int .i64 u.c, .int .i64 u.o, .int .i64 u.d, .int .i64 u.u]), .int .i64 i, .int .i64 j] (.float .f64 (u.get zs i j)) :=
  ⟨fun h => absurd h (by decide), fun h => absurd h (by decide), fun h => absurd h (by decide), fun _ u' i' j' h => by
    have h1 : ([(.agg #[.pointer u.p, .int .i64 u.r, .int .i64 u.c, .int .i64 u.o, .int .i64 u.d, .int .i64 u.u]), .int .i64 i, .int .i64 j] : List Value) = [(.agg #[.pointer u'.p, .int .i64 u'.r, .int .i64 u'.c, .int .i64 u'.o, .int .i64 u'.d, .int .i64 u'.u]), .int .i64 i', .int .i64 j'] := congrArg Array.toList h
    injection h1 with h1 h2
    injection h2 with h2 h3
    injection h3 with h3 _
    injection h2 with _ h2
    injection h3 with _ h3
    rw [vv_inj h1, h2, h3], fun h => absurd h (by decide)⟩
theorem VF_bits (zs : List Nat) (y : Nat) : VF zs 68 #[.float .f64 y] (.int .u64 (nm y)) :=
  ⟨fun h => absurd h (by decide), fun h => absurd h (by decide), fun h => absurd h (by decide), fun h => absurd h (by decide), fun _ y' h => by
    have h1 := one_arg h
    injection h1 with _ h1
    rw [h1]⟩
theorem Bits_b (x : Nat) (hx : x < 18446744073709551616) (w : World) : Calls Try.prog 68 #[.float .f64 x] w fun e w' => e = .returned (.int .u64 (nm x)) ∧ Below w.heap.size w w' :=
  (Bits_any x hx w).mono fun _ _ ⟨he, hb⟩ => ⟨he, hb ▸ Below.refl _ _⟩
theorem T_b (u : Vw) (w : World) : Calls Try.prog 46 #[(.agg #[.pointer u.p, .int .i64 u.r, .int .i64 u.c, .int .i64 u.o, .int .i64 u.d, .int .i64 u.u])] w fun e w' => e = .returned (.agg #[.pointer u.T.p, .int .i64 u.T.r, .int .i64 u.T.c, .int .i64 u.T.o, .int .i64 u.T.d, .int .i64 u.T.u]) ∧ Below w.heap.size w w' := T_any u w
theorem At_b (w : World) (v : Vw) (sb : Nat) (ws : List Nat) (i j : Int) (h : v.Ok w sb ws) :
    Calls Try.prog 74 #[(.agg #[.pointer v.p, .int .i64 v.r, .int .i64 v.c, .int .i64 v.o, .int .i64 v.d, .int .i64 v.u]), .int .i64 i, .int .i64 j] w fun e w' => e = .returned (.float .f64 (v.get ws i j)) ∧ Below w.heap.size w w' := At_any w v sb ws i j h
end Go.Proofs.Ytbcdpibcieadlaa
