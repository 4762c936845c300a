/- The chapter's rows on views hold. -/
import Derived.Test.YtbcdpibcieadlaaZz8
import Derived.Test.YtbcdpibcieadlaaVw7Z
import Derived.Deep.RegionHeld3
import Derived.Test.YtbcdpibcieadlaaZz9
namespace Go.Proofs.Ytbcdpibcieadlaa
open Go Go.RowKit
set_option maxRecDepth 100000

/-- What the rows' walk holds on to: the view's variable, its store. -/
structure KnW (w : World) (b st sb : Nat) (ws : List Nat) (W : World) : Prop where
  box : Box W b [.pointer (some ⟨st, 0, none⟩), .int .i64 (2 : Nat), .int .i64 (3 : Nat), .int .i64 (0 : Nat), .int .i64 (3 : Nat), .int .i64 (1 : Nat)]
  sto : Sto W (some ⟨st, 0, none⟩) sb ws
  below : Below w.heap.size w W
  lb : w.heap.size ≤ b ∧ w.heap.size ≤ st ∧ w.heap.size ≤ sb ∧ b ≠ sb ∧ st < b ∧ sb < b
theorem KnW.step {w : World} {b st sb : Nat} {ws : List Nat} {W W' : World} (h : KnW w b st sb ws W) (hb : Below W.heap.size W W') : KnW w b st sb ws W' :=
  ⟨h.box.below hb, h.sto.below hb, below_step h.below h.below.size hb, h.lb⟩
theorem KnW.alloc {w : World} {b st sb : Nat} {ws : List Nat} {W : World} (h : KnW w b st sb ws W) (o : Obj) : KnW w b st sb ws (W.alloc o) := h.step ((Below.refl _ _).alloc (Nat.le_refl _) _)
def ws6 : List Nat := [4607182418800017408, 4611686018427387904, 4613937818241073152, 4616189618054758400, 4617315517961601024, 4618441417868443648]
def ws9 : List Nat := [4607182418800017408, 4611686018427387904, 4613937818241073152, 4616189618054758400, 4617315517961601024, 4621256167635550208]
theorem ws6_eq : ws6 = [4607182418800017408, 4611686018427387904, 4613937818241073152, 4616189618054758400, 4617315517961601024, 4618441417868443648] := rfl
theorem kn_ok {st sb : Nat} {ws : List Nat} {W : World} (h : Sto W (some ⟨st, 0, none⟩) sb ws) (hl : ws.length = 6) : (newV st 2 3).Ok W sb ws := newV_ok h (by decide) (by decide) hl
theorem sto_lt {W : World} {st sb : Nat} {ws : List Nat} (h : Sto W (some ⟨st, 0, none⟩) sb ws) : st < W.heap.size := by
  obtain ⟨st', e, k, _⟩ := h
  obtain rfl : st = st' := by simpa using e
  exact k.lt
theorem feq4 : feq 4616189618054758400 4616189618054758400 = true := by kernel_rfl
theorem feq9 : feq 4621256167635550208 4621256167635550208 = true := by kernel_rfl
theorem feq5 : feq 4617315517961601024 4617315517961601024 = true := by kernel_rfl

theorem kAt10 {w W : World} {b st sb : Nat} (h : KnW w b st sb ws9 W) : Calls Try.prog 74 #[(.agg #[.pointer (some ⟨st, 0, none⟩), .int .i64 2, .int .i64 3, .int .i64 0, .int .i64 3, .int .i64 1]), .int .i64 1, .int .i64 0] W fun e w' => e = .returned (.float .f64 4616189618054758400) ∧ KnW w b st sb ws9 w' :=
  (At_any W (newV st 2 3) sb ws9 1 0 (kn_ok h.sto rfl)).mono fun _ _ ⟨he, hb⟩ => ⟨he.trans (by first | rfl | kernel_rfl), h.step hb⟩
theorem kT {w W : World} {b st sb : Nat} (h : KnW w b st sb ws9 W) : Calls Try.prog 46 #[(.agg #[.pointer (some ⟨st, 0, none⟩), .int .i64 2, .int .i64 3, .int .i64 0, .int .i64 3, .int .i64 1])] W fun e w' => e = .returned ((.agg #[.pointer (some ⟨st, 0, none⟩), .int .i64 3, .int .i64 2, .int .i64 0, .int .i64 1, .int .i64 3])) ∧ KnW w b st sb ws9 w' :=
  (T_any (newV st 2 3) W).mono fun _ _ ⟨he, hb⟩ => ⟨he.trans (by first | rfl | kernel_rfl), h.step hb⟩
theorem kAtT {w W : World} {b st sb : Nat} (h : KnW w b st sb ws9 W) : Calls Try.prog 74 #[(.agg #[.pointer (some ⟨st, 0, none⟩), .int .i64 3, .int .i64 2, .int .i64 0, .int .i64 1, .int .i64 3]), .int .i64 0, .int .i64 1] W fun e w' => e = .returned (.float .f64 4616189618054758400) ∧ KnW w b st sb ws9 w' :=
  (At_any W (newV st 2 3).T sb ws9 0 1 (T_ok (kn_ok h.sto rfl))).mono fun _ _ ⟨he, hb⟩ => ⟨he.trans (by first | rfl | kernel_rfl), h.step hb⟩
theorem kRow1 {w W : World} {b st sb : Nat} (h : KnW w b st sb ws9 W) : Calls Try.prog 47 #[(.agg #[.pointer (some ⟨st, 0, none⟩), .int .i64 2, .int .i64 3, .int .i64 0, .int .i64 3, .int .i64 1]), .int .i64 1] W fun e w' => e = .returned ((.agg #[.pointer (some ⟨st, 0, none⟩), .int .i64 1, .int .i64 3, .int .i64 3, .int .i64 3, .int .i64 1])) ∧ KnW w b st sb ws9 w' :=
  (Row_any (newV st 2 3) 1 W 0 (newV_bnd (by decide) (by decide)) (by decide)).mono fun _ _ ⟨he, hb⟩ => ⟨he.trans (by first | rfl | kernel_rfl), h.step hb⟩
theorem kLen {w W : World} {b st sb : Nat} (h : KnW w b st sb ws9 W) : Calls Try.prog 65 #[(.agg #[.pointer (some ⟨st, 0, none⟩), .int .i64 1, .int .i64 3, .int .i64 3, .int .i64 3, .int .i64 1])] W fun e w' => e = .returned (.int .i64 3) ∧ KnW w b st sb ws9 w' :=
  (Len_any (some ⟨st, 0, none⟩) 1 3 3 3 1 W (by decide) (by decide)).mono fun _ _ ⟨he, hb⟩ => ⟨he.trans (by first | rfl | kernel_rfl), h.step hb⟩
theorem kCol3 {w W : World} {b st sb : Nat} (h : KnW w b st sb ws9 W) : Calls Try.prog 49 #[(.agg #[.pointer (some ⟨st, 0, none⟩), .int .i64 2, .int .i64 3, .int .i64 0, .int .i64 3, .int .i64 1]), .int .i64 3] W fun e w' => e = .returned ((.agg #[.pointer none, .int .i64 0, .int .i64 0, .int .i64 0, .int .i64 0, .int .i64 0])) ∧ KnW w b st sb ws9 w' :=
  (Col_any (newV st 2 3) 3 W 0 (newV_bnd (by decide) (by decide)) (by decide)).mono fun _ _ ⟨he, hb⟩ => ⟨he.trans (by first | rfl | kernel_rfl), h.step hb⟩
theorem kSame {w W : World} {b st sb : Nat} (h : KnW w b st sb ws9 W) : Calls Try.prog 37 #[(.agg #[.pointer none, .int .i64 0, .int .i64 0, .int .i64 0, .int .i64 0, .int .i64 0]), (.agg #[.pointer none, .int .i64 0, .int .i64 0, .int .i64 0, .int .i64 0, .int .i64 0])] W fun e w' => e = .returned (.bool true) ∧ KnW w b st sb ws9 w' :=
  (Same_any W Vw.none Vw.none sb sb ws9 ws9 (none_ok _ _ _) (none_ok _ _ _)).mono fun _ _ ⟨he, hb⟩ => ⟨he.trans (by first | rfl | kernel_rfl), h.step hb⟩
theorem kAt12 {w W : World} {b st sb : Nat} (h : KnW w b st sb ws9 W) : Calls Try.prog 74 #[(.agg #[.pointer (some ⟨st, 0, none⟩), .int .i64 2, .int .i64 3, .int .i64 0, .int .i64 3, .int .i64 1]), .int .i64 1, .int .i64 2] W fun e w' => e = .returned (.float .f64 4621256167635550208) ∧ KnW w b st sb ws9 w' :=
  (At_any W (newV st 2 3) sb ws9 1 2 (kn_ok h.sto rfl)).mono fun _ _ ⟨he, hb⟩ => ⟨he.trans (by first | rfl | kernel_rfl), h.step hb⟩
theorem kGet {w W : World} {b st sb : Nat} (h : KnW w b st sb ws9 W) : Calls Try.prog 59 #[(.agg #[.pointer (some ⟨st, 0, none⟩), .int .i64 2, .int .i64 1, .int .i64 0, .int .i64 4, .int .i64 1]), .int .i64 1] W fun e w' => e = .returned (.float .f64 4617315517961601024) ∧ KnW w b st sb ws9 w' :=
  (Get_any W (newV st 2 3).diag sb ws9 1 (diag_ok (kn_ok h.sto rfl))).mono fun _ _ ⟨he, hb⟩ => ⟨he.trans (by first | rfl | kernel_rfl), h.step hb⟩
theorem kRow0 {w W : World} {b st sb : Nat} (h : KnW w b st sb ws9 W) : Calls Try.prog 47 #[(.agg #[.pointer (some ⟨st, 0, none⟩), .int .i64 2, .int .i64 3, .int .i64 0, .int .i64 3, .int .i64 1]), .int .i64 0] W fun e w' => e = .returned ((.agg #[.pointer (some ⟨st, 0, none⟩), .int .i64 1, .int .i64 3, .int .i64 0, .int .i64 3, .int .i64 1])) ∧ KnW w b st sb ws9 w' :=
  (Row_any (newV st 2 3) 0 W 0 (newV_bnd (by decide) (by decide)) (by decide)).mono fun _ _ ⟨he, hb⟩ => ⟨he.trans (by first | rfl | kernel_rfl), h.step hb⟩
theorem kCol0 {w W : World} {b st sb : Nat} (h : KnW w b st sb ws9 W) : Calls Try.prog 49 #[(.agg #[.pointer (some ⟨st, 0, none⟩), .int .i64 2, .int .i64 3, .int .i64 0, .int .i64 3, .int .i64 1]), .int .i64 0] W fun e w' => e = .returned ((.agg #[.pointer (some ⟨st, 0, none⟩), .int .i64 2, .int .i64 1, .int .i64 0, .int .i64 3, .int .i64 1])) ∧ KnW w b st sb ws9 w' :=
  (Col_any (newV st 2 3) 0 W 0 (newV_bnd (by decide) (by decide)) (by decide)).mono fun _ _ ⟨he, hb⟩ => ⟨he.trans (by first | rfl | kernel_rfl), h.step hb⟩
theorem kSh1 {w W : World} {b st sb : Nat} (h : KnW w b st sb ws9 W) : Calls Try.prog 97 #[(.agg #[.pointer (some ⟨st, 0, none⟩), .int .i64 1, .int .i64 3, .int .i64 0, .int .i64 3, .int .i64 1]), (.agg #[.pointer (some ⟨st, 0, none⟩), .int .i64 2, .int .i64 1, .int .i64 0, .int .i64 3, .int .i64 1])] W fun e w' => e = .returned (.bool true) ∧ KnW w b st sb ws9 w' :=
  (Shares_yes W ((newV st 2 3).row 0) ((newV st 2 3).col 0) st sb ws9 rfl rfl (row_ok (kn_ok h.sto rfl) 0) (col_ok (kn_ok h.sto rfl) 0)).mono fun _ _ ⟨he, hb⟩ => ⟨he.trans (by first | rfl | kernel_rfl), h.step hb⟩
theorem kSh2 {w W : World} {b st sb : Nat} (h : KnW w b st sb ws9 W) : Calls Try.prog 97 #[(.agg #[.pointer (some ⟨st, 0, none⟩), .int .i64 1, .int .i64 3, .int .i64 0, .int .i64 3, .int .i64 1]), (.agg #[.pointer (some ⟨st, 0, none⟩), .int .i64 1, .int .i64 3, .int .i64 3, .int .i64 3, .int .i64 1])] W fun e w' => e = .returned (.bool false) ∧ KnW w b st sb ws9 w' :=
  (Shares_yes W ((newV st 2 3).row 0) ((newV st 2 3).row 1) st sb ws9 rfl rfl (row_ok (kn_ok h.sto rfl) 0) (row_ok (kn_ok h.sto rfl) 1)).mono fun _ _ ⟨he, hb⟩ => ⟨he.trans (by first | rfl | kernel_rfl), h.step hb⟩
theorem kSetN {w W : World} {b st sb : Nat} (h : KnW w b st sb ws9 W) : Calls Try.prog 80 #[(.agg #[.pointer none, .int .i64 0, .int .i64 0, .int .i64 0, .int .i64 0, .int .i64 0]), .int .i64 0, .int .i64 0, .float .f64 4607182418800017408] W fun e w' => e = .returned (.int .i64 1) ∧ KnW w b st sb ws9 w' :=
  (Set_nil W 0 0 0 0 0 0 0 4607182418800017408).mono fun _ _ ⟨he, hb⟩ => ⟨he.trans (by first | rfl | kernel_rfl), h.step hb⟩
theorem kCopy {w W : World} {b st sb : Nat} (h : KnW w b st sb ws9 W) : Calls Try.prog 73 #[(.agg #[.pointer (some ⟨st, 0, none⟩), .int .i64 2, .int .i64 3, .int .i64 0, .int .i64 3, .int .i64 1])] W fun e w' => ∃ stc, e = .returned (.agg #[.pointer (some ⟨stc, 0, none⟩), .int .i64 2, .int .i64 3, .int .i64 0, .int .i64 3, .int .i64 1]) ∧ (stc ≠ st ∧ ∃ cs, Box w' stc cs) ∧ KnW w b st sb ws9 w' := by
  refine (Copy_any W (newV st 2 3) sb ws9 (kn_ok h.sto rfl)).mono ?_
  rintro e w' ⟨stc, sbc, he, hs, h1, h2, hb⟩
  obtain ⟨x, hx, hbx, _⟩ := hs rfl
  obtain rfl : stc = x := by simpa using hx
  have hl := sto_lt h.sto
  exact ⟨stc, he.trans rfl, ⟨by omega, _, hbx⟩, h.step hb⟩
theorem kSh3 {w W : World} {b st sb stc : Nat} (h : KnW w b st sb ws9 W) (hc : stc ≠ st ∧ ∃ cs, Box W stc cs) : Calls Try.prog 97 #[(.agg #[.pointer (some ⟨stc, 0, none⟩), .int .i64 2, .int .i64 3, .int .i64 0, .int .i64 3, .int .i64 1]), (.agg #[.pointer (some ⟨st, 0, none⟩), .int .i64 2, .int .i64 3, .int .i64 0, .int .i64 3, .int .i64 1])] W fun e w' => e = .returned (.bool false) ∧ KnW w b st sb ws9 w' := by
  obtain ⟨hne, cs, hb⟩ := hc
  obtain ⟨x, hx, hbx, _⟩ := h.sto
  obtain rfl : st = x := by simpa using hx
  exact (Shares_other W (newV stc 2 3) (newV st 2 3) stc st _ _ rfl rfl hne hb hbx).mono fun _ _ ⟨he, hb⟩ => ⟨he, h.step hb⟩
theorem kSet20 {w W : World} {b st sb : Nat} (h : KnW w b st sb ws9 W) : Calls Try.prog 80 #[(.agg #[.pointer (some ⟨st, 0, none⟩), .int .i64 2, .int .i64 3, .int .i64 0, .int .i64 3, .int .i64 1]), .int .i64 2, .int .i64 0, .float .f64 4607182418800017408] W fun e w' => e = .returned (.int .i64 2) ∧ KnW w b st sb ws9 w' := by
  refine (Set_any W (newV st 2 3) sb ws9 2 0 4607182418800017408 (kn_ok h.sto rfl)).mono ?_
  rintro e w' ⟨he, hok, hb⟩
  refine ⟨he.trans rfl, ?_⟩
  rcases hok with h1 | ⟨h1, _⟩
  · cases (show (some (⟨st, 0, none⟩ : Addr)) = none from congrArg Vw.p h1)
  · exact ⟨h.box.bel h.lb.2.2.2.1 hb, h1, (bel_step (Bel.of h.below) h.below.size hb).below h.lb.2.2.1, h.lb⟩
theorem kS {w W : World} {b st sb : Nat} (h : KnW w b st sb ws9 W) : KnW w b st sb ws9 W ∧ W.cell? ⟨b, 0, none⟩ = some (.pointer (some ⟨st, 0, none⟩)) ∧ W.cell? ⟨b, 1, none⟩ = some (.int .i64 2) ∧ W.cell? ⟨b, 2, none⟩ = some (.int .i64 3) ∧ W.cell? ⟨b, 3, none⟩ = some (.int .i64 0) ∧ W.cell? ⟨b, 4, none⟩ = some (.int .i64 3) ∧ W.cell? ⟨b, 5, none⟩ = some (.int .i64 1) :=
  ⟨h, h.box.cell 0, h.box.cell 1, h.box.cell 2, h.box.cell 3, h.box.cell 4, h.box.cell 5⟩
theorem kL {w W : World} {b st sb : Nat} (h : KnW w b st sb ws9 W ∧ W.cell? ⟨b, 0, none⟩ = some (.pointer (some ⟨st, 0, none⟩)) ∧ W.cell? ⟨b, 1, none⟩ = some (.int .i64 2) ∧ W.cell? ⟨b, 2, none⟩ = some (.int .i64 3) ∧ W.cell? ⟨b, 3, none⟩ = some (.int .i64 0) ∧ W.cell? ⟨b, 4, none⟩ = some (.int .i64 3) ∧ W.cell? ⟨b, 5, none⟩ = some (.int .i64 1)) : KnW w b st sb ws9 W := h.1
theorem KnW.drew {w W : World} {b st sb : Nat} {ws : List Nat} (h : KnW w b st sb ws W) : KnW w b st sb ws W.drew := h.step (below_drewN 1 (Below.refl _ _))
end Go.Proofs.Ytbcdpibcieadlaa

/- What views turned, and parts, show: plain facts, and what the calls of the statement give. -/
namespace Go.Proofs.Ytbcdpibcieadlaa
open Go Go.RowKit
set_option maxRecDepth 100000

theorem sameF_refl (x : Nat) : sameF x x = true := by simp [sameF]
theorem sameL_refl (v : Vw) (ws : List Nat) (l : List (Nat × Nat)) : sameL v v ws ws l = true := by
  unfold sameL
  rw [List.all_eq_true]
  intro x _
  exact sameF_refl _
theorem sameV_refl (v : Vw) (ws : List Nat) : sameV v v ws ws = true := by
  unfold sameV
  rw [sameL_refl]
  simp
theorem T_T (v : Vw) : v.T.T = v := rfl
/-- A row is the turned one's column, turned. -/
theorem row_col (v : Vw) (i : Int) : (v.T.col i).T = v.row i := by
  unfold Vw.col Vw.row Vw.part Vw.T
  dsimp only
  rw [show (v.p.isSome && fitsV i 1 v.r && fitsV 0 v.c v.c) = (v.p.isSome && fitsV 0 v.c v.c && fitsV i 1 v.r) by cases v.p.isSome <;> cases fitsV i 1 v.r <;> cases fitsV 0 v.c v.c <;> rfl]
  cases h : (v.p.isSome && fitsV 0 v.c v.c && fitsV i 1 v.r)
  · rfl
  · simp
theorem T_get (v : Vw) (ws : List Nat) (i j : Int) : v.T.get ws j i = v.get ws i j := by
  unfold Vw.get Vw.T
  dsimp only
  have h : inV v.c v.r j i = inV v.r v.c i j := by
    unfold inV
    rw [Bool.eq_iff_iff]
    simp only [decide_eq_true_eq]
    omega
  rw [h]
  split
  · congr 1
    omega
  · rfl
/-- A part's place is the whole's, moved. -/
theorem part_get (v : Vw) (ws : List Nat) {A B C D i j : Int} (hr : ((v.part A B C D).r : Int) = C) (hc : ((v.part A B C D).c : Int) = D) (hi : 0 ≤ i) (hi2 : i < C) (hj : 0 ≤ j) (hj2 : j < D) :
    (v.part A B C D).get ws i j = v.get ws (A + i) (B + j) ∧ 0 ≤ A ∧ A + i < v.r ∧ 0 ≤ B ∧ B + j < v.c := by
  unfold Vw.part at *
  cases hp : v.p.isSome && fitsV A C v.r && fitsV B D v.c
  · rw [hp] at hr
    have : ((Vw.none.r : Nat) : Int) = C := hr
    have h0 : ((Vw.none.r : Nat) : Int) = 0 := rfl
    omega
  · simp only [Bool.and_eq_true] at hp
    obtain ⟨A, C, rfl, rfl, h1⟩ := fits_nat hp.1.2
    obtain ⟨B, D, rfl, rfl, h2⟩ := fits_nat hp.2
    obtain ⟨i, rfl⟩ := Int.eq_ofNat_of_zero_le hi
    obtain ⟨j, rfl⟩ := Int.eq_ofNat_of_zero_le hj
    simp only [if_true, Int.toNat_natCast]
    unfold Vw.get
    dsimp only
    have e1 : inV C D (i : Int) (j : Int) = true := by unfold inV; simp; omega
    have e2 : inV v.r v.c ((A : Int) + (i : Int)) ((B : Int) + (j : Int)) = true := by unfold inV; simp; omega
    rw [e1, e2, if_pos rfl, if_pos rfl]
    refine ⟨?_, by omega, by omega, by omega, by omega⟩
    have e3 : ((A : Int) + (i : Int)).toNat = A + i := by omega
    have e4 : ((B : Int) + (j : Int)).toNat = B + j := by omega
    rw [e3, e4, Int.toNat_natCast, Int.toNat_natCast, Nat.add_mul, Nat.add_mul]
    congr 1
    omega
theorem get_word {v : Vw} {ws : List Nat} (h : Words ws) (i j : Int) : v.get ws i j < 18446744073709551616 := by
  unfold Vw.get
  split
  · exact h.at _
  · decide

/-! ### What the statement's walk holds on to -/
structure KM (w : World) (v : Vw) (b sb : Nat) (ws : List Nat) (bl : List (Nat × List Value)) (W : World) : Prop where
  box : Box W b [.pointer v.p, .int .i64 v.r, .int .i64 v.c, .int .i64 v.o, .int .i64 v.d, .int .i64 v.u]
  ok : v.Ok W sb ws
  below : Below w.heap.size w W
  more : ∀ q ∈ bl, Box W q.1 q.2
theorem KM.step {w : World} {v : Vw} {b sb : Nat} {ws : List Nat} {bl : List (Nat × List Value)} {W W' : World} (h : KM w v b sb ws bl W) (hb : Below W.heap.size W W') : KM w v b sb ws bl W' := ⟨h.box.below hb, h.ok.below hb, below_step h.below h.below.size hb, fun q hq => (h.more q hq).below hb⟩
theorem KM.drew {w : World} {v : Vw} {b sb : Nat} {ws : List Nat} {bl : List (Nat × List Value)} {W : World} (h : KM w v b sb ws bl W) : KM w v b sb ws bl W.drew := h.step (below_drewN 1 (Below.refl _ _))
theorem KM.S {w : World} {v : Vw} {b sb : Nat} {ws : List Nat} {bl : List (Nat × List Value)} {W : World} (h : KM w v b sb ws bl W) : KM w v b sb ws bl W ∧ (∀ i, W.cell? ⟨b, i, none⟩ = ([.pointer v.p, .int .i64 v.r, .int .i64 v.c, .int .i64 v.o, .int .i64 v.d, .int .i64 v.u])[i]?) := ⟨h, h.box.cell⟩
theorem KM.L {w : World} {v : Vw} {b sb : Nat} {ws : List Nat} {bl : List (Nat × List Value)} {W : World} {X : Prop} (h : KM w v b sb ws bl W ∧ X) : KM w v b sb ws bl W := h.1
theorem KM.S3 {w : World} {v : Vw} {b sb b1 b2 : Nat} {ws : List Nat} {l1 l2 : List Value} {W : World} (h : KM w v b sb ws [(b1, l1), (b2, l2)] W) : KM w v b sb ws [(b1, l1), (b2, l2)] W ∧ (∀ i, W.cell? ⟨b, i, none⟩ = ([.pointer v.p, .int .i64 v.r, .int .i64 v.c, .int .i64 v.o, .int .i64 v.d, .int .i64 v.u])[i]?) ∧ (∀ i, W.cell? ⟨b1, i, none⟩ = l1[i]?) ∧ (∀ i, W.cell? ⟨b2, i, none⟩ = l2[i]?) :=
  ⟨h, h.box.cell, (h.more (b1, l1) (by simp)).cell, (h.more (b2, l2) (by simp)).cell⟩
section
variable {w W : World} {v : Vw} {b sb : Nat} {ws : List Nat} {bl : List (Nat × List Value)}
theorem mT (h : KM w v b sb ws bl W) (u : Vw) : Calls Try.prog 46 #[(.agg #[.pointer u.p, .int .i64 u.r, .int .i64 u.c, .int .i64 u.o, .int .i64 u.d, .int .i64 u.u])] W fun e w' => e = .returned (.agg #[.pointer u.T.p, .int .i64 u.T.r, .int .i64 u.T.c, .int .i64 u.T.o, .int .i64 u.T.d, .int .i64 u.T.u]) ∧ KM w v b sb ws bl w' :=
  (T_any u W).mono fun _ _ ⟨he, hb⟩ => ⟨he.trans rfl, h.step hb⟩
theorem mRow (h : KM w v b sb ws bl W) (hv : v.Bnd 0) (i : Int) : Calls Try.prog 47 #[(.agg #[.pointer v.p, .int .i64 v.r, .int .i64 v.c, .int .i64 v.o, .int .i64 v.d, .int .i64 v.u]), .int .i64 i] W fun e w' => e = .returned (.agg #[.pointer (v.row i).p, .int .i64 (v.row i).r, .int .i64 (v.row i).c, .int .i64 (v.row i).o, .int .i64 (v.row i).d, .int .i64 (v.row i).u]) ∧ KM w v b sb ws bl w' :=
  (Row_any v i W 0 hv (by decide)).mono fun _ _ ⟨he, hb⟩ => ⟨he.trans rfl, h.step hb⟩
theorem mCol (h : KM w v b sb ws bl W) (hv : v.Bnd 0) (i : Int) : Calls Try.prog 49 #[(.agg #[.pointer v.T.p, .int .i64 v.T.r, .int .i64 v.T.c, .int .i64 v.T.o, .int .i64 v.T.d, .int .i64 v.T.u]), .int .i64 i] W fun e w' => e = .returned (.agg #[.pointer (v.T.col i).p, .int .i64 (v.T.col i).r, .int .i64 (v.T.col i).c, .int .i64 (v.T.col i).o, .int .i64 (v.T.col i).d, .int .i64 (v.T.col i).u]) ∧ KM w v b sb ws bl w' :=
  (Col_any v.T i W 0 (T_bnd hv) (by decide)).mono fun _ _ ⟨he, hb⟩ => ⟨he.trans rfl, h.step hb⟩
theorem mSame1 (h : KM w v b sb ws bl W) : Calls Try.prog 37 #[(.agg #[.pointer v.T.T.p, .int .i64 v.T.T.r, .int .i64 v.T.T.c, .int .i64 v.T.T.o, .int .i64 v.T.T.d, .int .i64 v.T.T.u]), (.agg #[.pointer v.p, .int .i64 v.r, .int .i64 v.c, .int .i64 v.o, .int .i64 v.d, .int .i64 v.u])] W fun e w' => e = .returned (.bool true) ∧ KM w v b sb ws bl w' :=
  (Same_any W v v sb sb ws ws h.ok h.ok).mono fun _ _ ⟨he, hb⟩ => ⟨he.trans (by rw [sameV_refl]), h.step hb⟩
theorem mSame2 (h : KM w v b sb ws bl W) (i : Int) : Calls Try.prog 37 #[(.agg #[.pointer (v.row i).p, .int .i64 (v.row i).r, .int .i64 (v.row i).c, .int .i64 (v.row i).o, .int .i64 (v.row i).d, .int .i64 (v.row i).u]), (.agg #[.pointer (v.T.col i).T.p, .int .i64 (v.T.col i).T.r, .int .i64 (v.T.col i).T.c, .int .i64 (v.T.col i).T.o, .int .i64 (v.T.col i).T.d, .int .i64 (v.T.col i).T.u])] W fun e w' => e = .returned (.bool true) ∧ KM w v b sb ws bl w' := by
  rw [row_col]
  exact (Same_any W (v.row i) (v.row i) sb sb ws ws (row_ok h.ok i) (row_ok h.ok i)).mono fun _ _ ⟨he, hb⟩ => ⟨he.trans (by rw [sameV_refl]), h.step hb⟩
theorem mAt (h : KM w v b sb ws bl W) (u : Vw) (hu : ∀ W, v.Ok W sb ws → u.Ok W sb ws) (i j : Int) : Calls Try.prog 74 #[(.agg #[.pointer u.p, .int .i64 u.r, .int .i64 u.c, .int .i64 u.o, .int .i64 u.d, .int .i64 u.u]), .int .i64 i, .int .i64 j] W fun e w' => e = .returned (.float .f64 (u.get ws i j)) ∧ KM w v b sb ws bl w' :=
  (At_any W u sb ws i j (hu W h.ok)).mono fun _ _ ⟨he, hb⟩ => ⟨he, h.step hb⟩
theorem mBits (h : KM w v b sb ws bl W) (hw : Words ws) (u : Vw) (i j : Int) : Calls Try.prog 68 #[.float .f64 (u.get ws i j)] W fun e w' => e = .returned (.int .u64 (nm (u.get ws i j))) ∧ KM w v b sb ws bl w' :=
  (Bits_any _ (get_word hw i j) W).mono fun _ _ ⟨he, hb⟩ => ⟨he, by subst hb; exact h⟩
theorem mRows (h : KM w v b sb ws bl W) (u : Vw) : Calls Try.prog 71 #[(.agg #[.pointer u.p, .int .i64 u.r, .int .i64 u.c, .int .i64 u.o, .int .i64 u.d, .int .i64 u.u])] W fun e w' => e = .returned (.int .i64 u.r) ∧ KM w v b sb ws bl w' :=
  (Rows_any _ _ _ _ _ _ W).mono fun _ _ ⟨he, hb⟩ => ⟨he, h.step hb⟩
theorem mCols (h : KM w v b sb ws bl W) (u : Vw) : Calls Try.prog 70 #[(.agg #[.pointer u.p, .int .i64 u.r, .int .i64 u.c, .int .i64 u.o, .int .i64 u.d, .int .i64 u.u])] W fun e w' => e = .returned (.int .i64 u.c) ∧ KM w v b sb ws bl w' :=
  (Cols_any _ _ _ _ _ _ W).mono fun _ _ ⟨he, hb⟩ => ⟨he, h.step hb⟩
end

/-! ### What calls give in drawn regions -/
theorem vv_inj {u v : Vw} (h : ((.agg #[.pointer u.p, .int .i64 u.r, .int .i64 u.c, .int .i64 u.o, .int .i64 u.d, .int .i64 u.u]) : Value) = (.agg #[.pointer v.p, .int .i64 v.r, .int .i64 v.c, .int .i64 v.o, .int .i64 v.d, .int .i64 v.u])) : u = v := by
  obtain ⟨p, r, c, o, d, x⟩ := u
  obtain ⟨p', r', c', o', d', x'⟩ := v
  simp at h
  obtain ⟨h1, h2, h3, h4, h5, h6⟩ := h
  have e2 : r = r' := by omega
  have e3 : c = c' := by omega
  have e4 : o = o' := by omega
  have e5 : d = d' := by omega
  have e6 : x = x' := by omega
  subst h1 e2 e3 e4 e5 e6
  rfl
def VF (zs : List Nat) (f : FuncId) (args : Array Value) (x : Value) : Prop :=
  (f = 71 → ∀ u : Vw, args = #[(.agg #[.pointer u.p, .int .i64 u.r, .int .i64 u.c, .int .i64 u.o, .int .i64 u.d, .int .i64 u.u])] → x = .int .i64 u.r) ∧
  (f = 70 → ∀ u : Vw, args = #[(.agg #[.pointer u.p, .int .i64 u.r, .int .i64 u.c, .int .i64 u.o, .int .i64 u.d, .int .i64 u.u])] → x = .int .i64 u.c) ∧
  (f = 46 → ∀ u : Vw, args = #[(.agg #[.pointer u.p, .int .i64 u.r, .int .i64 u.c, .int .i64 u.o, .int .i64 u.d, .int .i64 u.u])] → x = (.agg #[.pointer u.T.p, .int .i64 u.T.r, .int .i64 u.T.c, .int .i64 u.T.o, .int .i64 u.T.d, .int .i64 u.T.u])) ∧
  (f = 74 → ∀ (u : Vw) (i j : Int), args = #[(.agg #[.pointer u.p, .int .i64 u.r, .int .i64 u.c, .int .i64 u.o, .int .i64 u.d, .int .i64 u.u]), .int .i64 i, .int .i64 j] → x = .float .f64 (u.get zs i j)) ∧
  (f = 68 → ∀ y : Nat, args = #[.float .f64 y] → x = .int .u64 (nm y))
theorem one_arg {x y : Value} (h : (#[x] : Array Value) = #[y]) : x = y := by simpa using h
theorem VF_rows (zs : List Nat) (u : Vw) : VF zs 71 #[(.agg #[.pointer u.p, .int .i64 u.r, .int .i64 u.c, .int .i64 u.o, .int .i64 u.d, .int .i64 u.u])] (.int .i64 u.r) :=
  ⟨fun _ u' h => by rw [vv_inj (one_arg h)], fun h => absurd h (by decide), fun h => absurd h (by decide), fun h => absurd h (by decide), fun h => absurd h (by decide)⟩
theorem VF_cols (zs : List Nat) (u : Vw) : VF zs 70 #[(.agg #[.pointer u.p, .int .i64 u.r, .int .i64 u.c, .int .i64 u.o, .int .i64 u.d, .int .i64 u.u])] (.int .i64 u.c) :=
  ⟨fun h => absurd h (by decide), fun _ u' h => by rw [vv_inj (one_arg h)], fun h => absurd h (by decide), fun h => absurd h (by decide), fun h => absurd h (by decide)⟩
theorem VF_T (zs : List Nat) (u : Vw) : VF zs 46 #[(.agg #[.pointer u.p, .int .i64 u.r, .int .i64 u.c, .int .i64 u.o, .int .i64 u.d, .int .i64 u.u])] (.agg #[.pointer u.T.p, .int .i64 u.T.r, .int .i64 u.T.c, .int .i64 u.T.o, .int .i64 u.T.d, .int .i64 u.T.u]) :=
  ⟨fun h => absurd h (by decide), fun h => absurd h (by decide), fun _ u' h => by rw [vv_inj (one_arg h)], fun h => absurd h (by decide), fun h => absurd h (by decide)⟩
theorem VF_at (zs : List Nat) (u : Vw) (i j : Int) : VF zs 74 #[(.agg #[.pointer u.p, .int .i64 u.r, .int .i64 u.c, .int .i64 u.o, .int .i64 u.d, .int .i64 u.u]), .int .i64 i, .int .i64 j] (.float .f64 (u.get zs i j)) :=
  ⟨fun h => absurd h (by decide), fun h => absurd h (by decide), fun h => absurd h (by decide), fun _ u' i' j' h => by
    have h1 : ([(.agg #[.pointer u.p, .int .i64 u.r, .int .i64 u.c, .int .i64 u.o, .int .i64 u.d, .int .i64 u.u]), .int .i64 i, .int .i64 j] : List Value) = [(.agg #[.pointer u'.p, .int .i64 u'.r, .int .i64 u'.c, .int .i64 u'.o, .int .i64 u'.d, .int .i64 u'.u]), .int .i64 i', .int .i64 j'] := congrArg Array.toList h
    injection h1 with h1 h2
    injection h2 with h2 h3
    injection h3 with h3 _
    injection h2 with _ h2
    injection h3 with _ h3
    rw [vv_inj h1, h2, h3], fun h => absurd h (by decide)⟩
theorem VF_bits (zs : List Nat) (y : Nat) : VF zs 68 #[.float .f64 y] (.int .u64 (nm y)) :=
  ⟨fun h => absurd h (by decide), fun h => absurd h (by decide), fun h => absurd h (by decide), fun h => absurd h (by decide), fun _ y' h => by
    have h1 := one_arg h
    injection h1 with _ h1
    rw [h1]⟩
theorem Bits_b (x : Nat) (hx : x < 18446744073709551616) (w : World) : Calls Try.prog 68 #[.float .f64 x] w fun e w' => e = .returned (.int .u64 (nm x)) ∧ Below w.heap.size w w' :=
  (Bits_any x hx w).mono fun _ _ ⟨he, hb⟩ => ⟨he, hb ▸ Below.refl _ _⟩
theorem T_b (u : Vw) (w : World) : Calls Try.prog 46 #[(.agg #[.pointer u.p, .int .i64 u.r, .int .i64 u.c, .int .i64 u.o, .int .i64 u.d, .int .i64 u.u])] w fun e w' => e = .returned (.agg #[.pointer u.T.p, .int .i64 u.T.r, .int .i64 u.T.c, .int .i64 u.T.o, .int .i64 u.T.d, .int .i64 u.T.u]) ∧ Below w.heap.size w w' := T_any u w
theorem At_b (w : World) (v : Vw) (sb : Nat) (ws : List Nat) (i j : Int) (h : v.Ok w sb ws) :
    Calls Try.prog 74 #[(.agg #[.pointer v.p, .int .i64 v.r, .int .i64 v.c, .int .i64 v.o, .int .i64 v.d, .int .i64 v.u]), .int .i64 i, .int .i64 j] w fun e w' => e = .returned (.float .f64 (v.get ws i j)) ∧ Below w.heap.size w w' := At_any w v sb ws i j h
end Go.Proofs.Ytbcdpibcieadlaa

/- Layer 8: Dot. No condition but on lengths. -/
namespace Go.Proofs.Ytbcdpibcieadlaa
open Go Go.RowKit
set_option maxRecDepth 100000

theorem getVec_lt {v : Vw} {ws : List Nat} (h : Words ws) (i : Int) : v.getVec ws i < 18446744073709551616 := by
  unfold Vw.getVec
  split
  · exact get_word h _ _
  · decide
/-- A view's own telling, as a function value. -/
theorem Fnk.get (w : World) (v : Vw) (sb : Nat) (ws : List Nat) (h : v.Ok w sb ws) (hW : Words ws) (lo hi : Nat) : Fnk w (.func (.func 59) #[v.val] #[]) lo hi (fun k => v.getVec ws k) := by
  refine ⟨_, _, _, rfl, enters_of Try.func59 (by kernel_rfl) rfl, fun k W _ _ hb => ?_⟩
  refine (Get_any W v sb ws k (h.below hb)).mono ?_
  rintro e w' ⟨rfl, hb'⟩
  obtain ⟨s, hs⟩ := raw_self (getVec_lt (v := v) hW k)
  exact ⟨⟨s, by rw [← hs]⟩, hb'⟩
def dotV (x : Vw) (wx : List Nat) (y : Vw) (wy : List Nat) : Nat := if openE [x, y] (fits2 x y) = 0 then sumG (fun k => x.getVec wx k) (fun k => y.getVec wy k) 0 (lenV x.p x.r x.c) else 0
theorem lenV_le {p : Option Addr} {r c : Nat} (h : r ≤ 512 ∧ c ≤ 512) : lenV p r c ≤ 262144 := by
  unfold lenV
  split
  · exact Nat.mul_le_mul h.1 h.2
  · exact Nat.zero_le _
set_option maxHeartbeats 8000000 in
theorem Dot_any (w : World) (x y : Vw) (sx sy : Nat) (wx wy : List Nat) (hx : x.Ok w sx wx) (hy : y.Ok w sy wy) (hwx : Words wx) (hwy : Words wy) :
    Calls Try.prog 18 #[x.val, y.val] w fun e w' => (∃ s, e = .returned (.tuple #[.float .f64 (raw (dotV x wx y wy) s), .int .i64 (openE [x, y] (fits2 x y))])) ∧ Below w.heap.size w w' := by
  have HL := Lib.hid (fun W => Len_any x.p x.r x.c x.o x.d x.u W hx.small.1 hx.small.2)
  have hll := lenV_le (p := x.p) hx.small
  have HO := Lib.hid (fun W (h : Below w.heap.size w W) bx by' b hbx hby hb => open_any W 62 #[.pointer (some ⟨bx, 0, none⟩), .pointer (some ⟨by', 0, none⟩)] b [x, y] (fits2 x y) hb (fun v hv => by
    simp only [List.mem_cons, List.not_mem_nil, or_false] at hv
    rcases hv with rfl | rfl
    · exact ⟨sx, wx, hx.below h⟩
    · exact ⟨sy, wy, hy.below h⟩) (by simp) (enters_of Try.func62 (by kernel_rfl) rfl) (fun _ W' h' => Dotf_any W' x y bx by' (Box.below hbx h') (Box.below hby h') hx.small hy.small))
  have HG := Lib.hid (fun W (h : Below w.heap.size w W) n (hn : n ≤ 262144) => sum_any W 0 n _ _ _ _ (Fnk.get W x sx wx (hx.below h) hwx 0 n) (Fnk.get W y sy wy (hy.below h) hwy 0 n) (by omega))
  unfold dotV
  generalize openE [x, y] (fits2 x y) = E at *
  generalize lenV x.p x.r x.c = n at *
  obtain ⟨D, hD⟩ : ∃ D, D = (if E = 0 then sumG (fun k => x.getVec wx k) (fun k => y.getVec wy k) 0 n else 0) := ⟨_, rfl⟩
  rw [← hD]
  obtain ⟨W0, hW0⟩ : ∃ W0, W0 = (w.alloc (.cells #[.pointer x.p, .int .i64 x.r, .int .i64 x.c, .int .i64 x.o, .int .i64 x.d, .int .i64 x.u] 29)).alloc (.cells #[.pointer y.p, .int .i64 y.r, .int .i64 y.c, .int .i64 y.o, .int .i64 y.d, .int .i64 y.u] 29) := ⟨_, rfl⟩
  have hB0 : Below w.heap.size w W0 := hW0 ▸ ((Below.refl _ _).alloc (Nat.le_refl _) _).alloc (by simp) _
  have x2 : Box W0 w.heap.size [.pointer x.p, .int .i64 x.r, .int .i64 x.c, .int .i64 x.o, .int .i64 x.d, .int .i64 x.u] := hW0 ▸ (Box.newA w [.pointer x.p, .int .i64 x.r, .int .i64 x.c, .int .i64 x.o, .int .i64 x.d, .int .i64 x.u] _ rfl).alloc _
  have x3 : Box W0 (w.heap.size + 1) [.pointer y.p, .int .i64 y.r, .int .i64 y.c, .int .i64 y.o, .int .i64 y.d, .int .i64 y.u] := hW0 ▸ Box.newA _ [.pointer y.p, .int .i64 y.r, .int .i64 y.c, .int .i64 y.o, .int .i64 y.d, .int .i64 y.u] _ (by simp)
  have HX := Lib.hid (show _ ∧ _ ∧ _ from ⟨hB0, x2, x3⟩)
  clear hx hy hwx hwy hB0 x2 x3
  show Calls Try.prog 18 #[(.agg #[.pointer x.p, .int .i64 x.r, .int .i64 x.c, .int .i64 x.o, .int .i64 x.d, .int .i64 x.u]), (.agg #[.pointer y.p, .int .i64 y.r, .int .i64 y.c, .int .i64 y.o, .int .i64 y.d, .int .i64 y.u])] w _
  go_enter Try.func18, Try.ntmps18
  go_upto_region 1 with (fail)
  rw [← hW0]
  clear hW0
  obtain ⟨hB0, x2, x3⟩ := HX.out
  have hbA : Below W0.heap.size W0 (W0.alloc (.cells #[.pointer x.p, .int .i64 x.r, .int .i64 x.c, .int .i64 x.o, .int .i64 x.d, .int .i64 x.u, .pointer y.p, .int .i64 y.r, .int .i64 y.c, .int .i64 y.o, .int .i64 y.d, .int .i64 y.u] 29)) := (Below.refl _ _).alloc (Nat.le_refl _) _
  have hz : Box (W0.alloc (.cells #[.pointer x.p, .int .i64 x.r, .int .i64 x.c, .int .i64 x.o, .int .i64 x.d, .int .i64 x.u, .pointer y.p, .int .i64 y.r, .int .i64 y.c, .int .i64 y.o, .int .i64 y.d, .int .i64 y.u] 29)) W0.heap.size ([x, y].flatMap Vw.cs) := Box.newA W0 ([x, y].flatMap Vw.cs) _ rfl
  have hB1 := below_step hB0 hB0.size hbA
  have HC := Lib.hid (HO.out _ hB1 _ _ _ (x2.below hbA) (x3.below hbA) hz)
  obtain ⟨p1, p2, p3⟩ := x2.facts
  obtain ⟨q1, q2, q3⟩ := x3.facts
  have HB1 := Lib.hid (show _ ∧ _ ∧ _ from ⟨hB1, x2.below hbA, x3.below hbA⟩)
  clear hB0 x2 x3 hbA hz hB1 HO HX
  go_wp2_with fail
  refine HC.out.mono ?_
  rintro e w1 ⟨rfl, hb1⟩
  obtain ⟨hB1, x2, x3⟩ := HB1.out
  have hB2 := below_step hB1 hB1.size hb1
  replace x2 := x2.below hb1
  replace x3 := x3.below hb1
  clear p1 p2 p3 q1 q2 q3
  have HB2 := Lib.hid (show _ ∧ _ ∧ _ from ⟨hB2, x2, x3⟩)
  clear hB1 hb1 hB2 x2 x3 HB1 HC
  dsimp only
  by_cases hE : E = 0
  · subst hE
    rw [if_pos rfl] at hD
    have HDD := Lib.hid hD
    clear hD
    go_upto_region 4 with (fail)
    obtain ⟨hB2, x2, x3⟩ := HB2.out
    have hdr : Below w1.heap.size w1 w1.drew := below_drewN 1 (Below.refl _ w1)
    have HB3 := Lib.hid (below_step hB2 hB2.size hdr)
    replace x2 := x2.below hdr
    replace x3 := x3.below hdr
    have HS := Lib.hid (show ∀ W, Below w1.drew.heap.size w1.drew W → (fun W => (∀ i, W.cell? ⟨w.heap.size, i, none⟩ = ([.pointer x.p, .int .i64 x.r, .int .i64 x.c, .int .i64 x.o, .int .i64 x.d, .int .i64 x.u] : List Value)[i]?) ∧ (∀ i, W.cell? ⟨w.heap.size + 1, i, none⟩ = ([.pointer y.p, .int .i64 y.r, .int .i64 y.c, .int .i64 y.o, .int .i64 y.d, .int .i64 y.u] : List Value)[i]?)) W from fun W h => ⟨(x2.below h).cell, (x3.below h).cell⟩)
    refine wp_region_items 6 [(true, 0), (true, 2), (true, 3), (true, 4), (true, 5), (false, 1)] (fun W => (∀ i, W.cell? ⟨w.heap.size, i, none⟩ = ([.pointer x.p, .int .i64 x.r, .int .i64 x.c, .int .i64 x.o, .int .i64 x.d, .int .i64 x.u] : List Value)[i]?) ∧ (∀ i, W.cell? ⟨w.heap.size + 1, i, none⟩ = ([.pointer y.p, .int .i64 y.r, .int .i64 y.c, .int .i64 y.o, .int .i64 y.d, .int .i64 y.u] : List Value)[i]?)) (by kernel_rfl) (by kernel_rfl) (HS.out _ (Below.refl _ _)) ?_
    clear hdr hB2 x2 x3 HB2
    generalize w1.drew = w2 at *
    iterate 5 (refine iW_take (v := ?_) rfl rfl ?_ ?_; rotate_left; (next => (intro w' hSw; (try dsimp only at hSw); go_simp; (try (rw [if_pos (by omega)]; go_simp)); (try with_reducible rfl))); (simp only [Act.put, List.setIfInBounds_toArray, List.set_cons_zero, List.set_cons_succ]))
    refine iW_mid rfl rfl ?_
    go_simp
    refine (HL.out w2).mono ?_
    rintro e w3 ⟨rfl, hb3⟩
    have HB4 := Lib.hid (below_step HB3.out HB3.out.size hb3)
    refine ⟨HS.out _ hb3, ?_⟩
    clear hb3
    refine iW_nil ?_
    have HS4 := Lib.hid (HG.out _ HB4.out n hll)
    rw [Nat.sub_zero, ← HDD.out] at HS4
    go_simp
    go_wp2_with fail
    refine HS4.out.mono ?_
    rintro e w5 ⟨⟨s, rfl⟩, hb5⟩
    have HB5 := Lib.hid (below_step HB4.out HB4.out.size hb5)
    clear hb5
    dsimp only
    go_wp2
    refine NoPanic.normal ?_
    go_wp2_with fail
    exact bodyPost_ret (results_two rfl (rv_tmp rfl) (rv_tmp rfl)) rfl ⟨⟨s, rfl⟩, HB5.out⟩
  · have t1 : (E != 0) = true := by simp [hE]
    rw [if_neg hE] at hD
    subst hD
    clear hE
    go_wp2_with fail
    exact bodyPost_ret (results_two rfl (rv_tmp rfl) (rv_tmp rfl)) rfl ⟨⟨0, by rw [raw_of_not (show isnan 0 = false by kernel_rfl)]; rfl⟩, HB2.out.1⟩
end Go.Proofs.Ytbcdpibcieadlaa
