/- The chapter's rows on views hold. -/
import Derived.Test.YtbcdpibcieadlaaVr
import Derived.Test.YtbcdpibcieadlaaVw7
import Derived.Deep.RegionHeld3
namespace Go.Proofs.Ytbcdpibcieadlaa
open Go Go.RowKit
set_option maxRecDepth 100000

/-- What the rows' walk holds on to: the view's variable, its store. -/
structure KnW (w : World) (b st sb : Nat) (ws : List Nat) (W : World) : Prop where
  box : Box W b [.pointer (some ⟨st, 0, none⟩), .int .i64 (2 : Nat), .int .i64 (3 : Nat), .int .i64 (0 : Nat), .int .i64 (3 : Nat), .int .i64 (1 : Nat)]
  sto : Sto W (some ⟨st, 0, none⟩) sb ws
  below : Below w.heap.size w W
  lb : w.heap.size ≤ b ∧ w.heap.size ≤ st ∧ w.heap.size ≤ sb ∧ b ≠ sb ∧ st < b ∧ sb < b
theorem KnW.step {w : World} {b st sb : Nat} {ws : List Nat} {W W' : World} (h : KnW w b st sb ws W) (hb : Below W.heap.size W W') : KnW w b st sb ws W' :=
  ⟨h.box.below hb, h.sto.below hb, below_step h.below h.below.size hb, h.lb⟩
theorem KnW.alloc {w : World} {b st sb : Nat} {ws : List Nat} {W : World} (h : KnW w b st sb ws W) (o : Obj) : KnW w b st sb ws (W.alloc o) := h.step ((Below.refl _ _).alloc (Nat.le_refl _) _)
def ws6 : List Nat := [4607182418800017408, 4611686018427387904, 4613937818241073152, 4616189618054758400, 4617315517961601024, 4618441417868443648]
def ws9 : List Nat := [4607182418800017408, 4611686018427387904, 4613937818241073152, 4616189618054758400, 4617315517961601024, 4621256167635550208]
theorem ws6_eq : ws6 = [4607182418800017408, 4611686018427387904, 4613937818241073152, 4616189618054758400, 4617315517961601024, 4618441417868443648] := rfl
theorem kn_ok {st sb : Nat} {ws : List Nat} {W : World} (h : Sto W (some ⟨st, 0, none⟩) sb ws) (hl : ws.length = 6) : (newV st 2 3).Ok W sb ws := newV_ok h (by decide) (by decide) hl
theorem sto_lt {W : World} {st sb : Nat} {ws : List Nat} (h : Sto W (some ⟨st, 0, none⟩) sb ws) : st < W.heap.size := by
  obtain ⟨st', e, k, _⟩ := h
  obtain rfl : st = st' := by simpa using e
  exact k.lt
theorem feq4 : feq 4616189618054758400 4616189618054758400 = true := by kernel_rfl
theorem feq9 : feq 4621256167635550208 4621256167635550208 = true := by kernel_rfl
theorem feq5 : feq 4617315517961601024 4617315517961601024 = true := by kernel_rfl

theorem kAt10 {w W : World} {b st sb : Nat} (h : KnW w b st sb ws9 W) : Calls Try.prog 74 #[(.agg #[.pointer (some ⟨st, 0, none⟩), .int .i64 2, .int .i64 3, .int .i64 0, .int .i64 3, .int .i64 1]), .int .i64 1, .int .i64 0] W fun e w' => e = .returned (.float .f64 4616189618054758400) ∧ KnW w b st sb ws9 w' :=
  (At_any W (newV st 2 3) sb ws9 1 0 (kn_ok h.sto rfl)).mono fun _ _ ⟨he, hb⟩ => ⟨he.trans (by first | rfl | kernel_rfl), h.step hb⟩
theorem kT {w W : World} {b st sb : Nat} (h : KnW w b st sb ws9 W) : Calls Try.prog 46 #[(.agg #[.pointer (some ⟨st, 0, none⟩), .int .i64 2, .int .i64 3, .int .i64 0, .int .i64 3, .int .i64 1])] W fun e w' => e = .returned ((.agg #[.pointer (some ⟨st, 0, none⟩), .int .i64 3, .int .i64 2, .int .i64 0, .int .i64 1, .int .i64 3])) ∧ KnW w b st sb ws9 w' :=
  (T_any (newV st 2 3) W).mono fun _ _ ⟨he, hb⟩ => ⟨he.trans (by first | rfl | kernel_rfl), h.step hb⟩
theorem kAtT {w W : World} {b st sb : Nat} (h : KnW w b st sb ws9 W) : Calls Try.prog 74 #[(.agg #[.pointer (some ⟨st, 0, none⟩), .int .i64 3, .int .i64 2, .int .i64 0, .int .i64 1, .int .i64 3]), .int .i64 0, .int .i64 1] W fun e w' => e = .returned (.float .f64 4616189618054758400) ∧ KnW w b st sb ws9 w' :=
  (At_any W (newV st 2 3).T sb ws9 0 1 (T_ok (kn_ok h.sto rfl))).mono fun _ _ ⟨he, hb⟩ => ⟨he.trans (by first | rfl | kernel_rfl), h.step hb⟩
theorem kRow1 {w W : World} {b st sb : Nat} (h : KnW w b st sb ws9 W) : Calls Try.prog 47 #[(.agg #[.pointer (some ⟨st, 0, none⟩), .int .i64 2, .int .i64 3, .int .i64 0, .int .i64 3, .int .i64 1]), .int .i64 1] W fun e w' => e = .returned ((.agg #[.pointer (some ⟨st, 0, none⟩), .int .i64 1, .int .i64 3, .int .i64 3, .int .i64 3, .int .i64 1])) ∧ KnW w b st sb ws9 w' :=
  (Row_any (newV st 2 3) 1 W 0 (newV_bnd (by decide) (by decide)) (by decide)).mono fun _ _ ⟨he, hb⟩ => ⟨he.trans (by first | rfl | kernel_rfl), h.step hb⟩
theorem kLen {w W : World} {b st sb : Nat} (h : KnW w b st sb ws9 W) : Calls Try.prog 65 #[(.agg #[.pointer (some ⟨st, 0, none⟩), .int .i64 1, .int .i64 3, .int .i64 3, .int .i64 3, .int .i64 1])] W fun e w' => e = .returned (.int .i64 3) ∧ KnW w b st sb ws9 w' :=
  (Len_any (some ⟨st, 0, none⟩) 1 3 3 3 1 W (by decide) (by decide)).mono fun _ _ ⟨he, hb⟩ => ⟨he.trans (by first | rfl | kernel_rfl), h.step hb⟩
theorem kCol3 {w W : World} {b st sb : Nat} (h : KnW w b st sb ws9 W) : Calls Try.prog 49 #[(.agg #[.pointer (some ⟨st, 0, none⟩), .int .i64 2, .int .i64 3, .int .i64 0, .int .i64 3, .int .i64 1]), .int .i64 3] W fun e w' => e = .returned ((.agg #[.pointer none, .int .i64 0, .int .i64 0, .int .i64 0, .int .i64 0, .int .i64 0])) ∧ KnW w b st sb ws9 w' :=
  (Col_any (newV st 2 3) 3 W 0 (newV_bnd (by decide) (by decide)) (by decide)).mono fun _ _ ⟨he, hb⟩ => ⟨he.trans (by first | rfl | kernel_rfl), h.step hb⟩
theorem kSame {w W : World} {b st sb : Nat} (h : KnW w b st sb ws9 W) : Calls Try.prog 37 #[(.agg #[.pointer none, .int .i64 0, .int .i64 0, .int .i64 0, .int .i64 0, .int .i64 0]), (.agg #[.pointer none, .int .i64 0, .int .i64 0, .int .i64 0, .int .i64 0, .int .i64 0])] W fun e w' => e = .returned (.bool true) ∧ KnW w b st sb ws9 w' :=
  (Same_any W Vw.none Vw.none sb sb ws9 ws9 (none_ok _ _ _) (none_ok _ _ _)).mono fun _ _ ⟨he, hb⟩ => ⟨he.trans (by first | rfl | kernel_rfl), h.step hb⟩
theorem kAt12 {w W : World} {b st sb : Nat} (h : KnW w b st sb ws9 W) : Calls Try.prog 74 #[(.agg #[.pointer (some ⟨st, 0, none⟩), .int .i64 2, .int .i64 3, .int .i64 0, .int .i64 3, .int .i64 1]), .int .i64 1, .int .i64 2] W fun e w' => e = .returned (.float .f64 4621256167635550208) ∧ KnW w b st sb ws9 w' :=
  (At_any W (newV st 2 3) sb ws9 1 2 (kn_ok h.sto rfl)).mono fun _ _ ⟨he, hb⟩ => ⟨he.trans (by first | rfl | kernel_rfl), h.step hb⟩
theorem kGet {w W : World} {b st sb : Nat} (h : KnW w b st sb ws9 W) : Calls Try.prog 59 #[(.agg #[.pointer (some ⟨st, 0, none⟩), .int .i64 2, .int .i64 1, .int .i64 0, .int .i64 4, .int .i64 1]), .int .i64 1] W fun e w' => e = .returned (.float .f64 4617315517961601024) ∧ KnW w b st sb ws9 w' :=
  (Get_any W (newV st 2 3).diag sb ws9 1 (diag_ok (kn_ok h.sto rfl))).mono fun _ _ ⟨he, hb⟩ => ⟨he.trans (by first | rfl | kernel_rfl), h.step hb⟩
theorem kRow0 {w W : World} {b st sb : Nat} (h : KnW w b st sb ws9 W) : Calls Try.prog 47 #[(.agg #[.pointer (some ⟨st, 0, none⟩), .int .i64 2, .int .i64 3, .int .i64 0, .int .i64 3, .int .i64 1]), .int .i64 0] W fun e w' => e = .returned ((.agg #[.pointer (some ⟨st, 0, none⟩), .int .i64 1, .int .i64 3, .int .i64 0, .int .i64 3, .int .i64 1])) ∧ KnW w b st sb ws9 w' :=
  (Row_any (newV st 2 3) 0 W 0 (newV_bnd (by decide) (by decide)) (by decide)).mono fun _ _ ⟨he, hb⟩ => ⟨he.trans (by first | rfl | kernel_rfl), h.step hb⟩
theorem kCol0 {w W : World} {b st sb : Nat} (h : KnW w b st sb ws9 W) : Calls Try.prog 49 #[(.agg #[.pointer (some ⟨st, 0, none⟩), .int .i64 2, .int .i64 3, .int .i64 0, .int .i64 3, .int .i64 1]), .int .i64 0] W fun e w' => e = .returned ((.agg #[.pointer (some ⟨st, 0, none⟩), .int .i64 2, .int .i64 1, .int .i64 0, .int .i64 3, .int .i64 1])) ∧ KnW w b st sb ws9 w' :=
  (Col_any (newV st 2 3) 0 W 0 (newV_bnd (by decide) (by decide)) (by decide)).mono fun _ _ ⟨he, hb⟩ => ⟨he.trans (by first | rfl | kernel_rfl), h.step hb⟩
theorem kSh1 {w W : World} {b st sb : Nat} (h : KnW w b st sb ws9 W) : Calls Try.prog 97 #[(.agg #[.pointer (some ⟨st, 0, none⟩), .int .i64 1, .int .i64 3, .int .i64 0, .int .i64 3, .int .i64 1]), (.agg #[.pointer (some ⟨st, 0, none⟩), .int .i64 2, .int .i64 1, .int .i64 0, .int .i64 3, .int .i64 1])] W fun e w' => e = .returned (.bool true) ∧ KnW w b st sb ws9 w' :=
  (Shares_yes W ((newV st 2 3).row 0) ((newV st 2 3).col 0) st sb ws9 rfl rfl (row_ok (kn_ok h.sto rfl) 0) (col_ok (kn_ok h.sto rfl) 0)).mono fun _ _ ⟨he, hb⟩ => ⟨he.trans (by first | rfl | kernel_rfl), h.step hb⟩
theorem kSh2 {w W : World} {b st sb : Nat} (h : KnW w b st sb ws9 W) : Calls Try.prog 97 #[(.agg #[.pointer (some ⟨st, 0, none⟩), .int .i64 1, .int .i64 3, .int .i64 0, .int .i64 3, .int .i64 1]), (.agg #[.pointer (some ⟨st, 0, none⟩), .int .i64 1, .int .i64 3, .int .i64 3, .int .i64 3, .int .i64 1])] W fun e w' => e = .returned (.bool false) ∧ KnW w b st sb ws9 w' :=
  (Shares_yes W ((newV st 2 3).row 0) ((newV st 2 3).row 1) st sb ws9 rfl rfl (row_ok (kn_ok h.sto rfl) 0) (row_ok (kn_ok h.sto rfl) 1)).mono fun _ _ ⟨he, hb⟩ => ⟨he.trans (by first | rfl | kernel_rfl), h.step hb⟩
theorem kSetN {w W : World} {b st sb : Nat} (h : KnW w b st sb ws9 W) : Calls Try.prog 80 #[(.agg #[.pointer none, .int .i64 0, .int .i64 0, .int .i64 0, .int .i64 0, .int .i64 0]), .int .i64 0, .int .i64 0, .float .f64 4607182418800017408] W fun e w' => e = .returned (.int .i64 1) ∧ KnW w b st sb ws9 w' :=
  (Set_nil W 0 0 0 0 0 0 0 4607182418800017408).mono fun _ _ ⟨he, hb⟩ => ⟨he.trans (by first | rfl | kernel_rfl), h.step hb⟩
theorem kCopy {w W : World} {b st sb : Nat} (h : KnW w b st sb ws9 W) : Calls Try.prog 73 #[(.agg #[.pointer (some ⟨st, 0, none⟩), .int .i64 2, .int .i64 3, .int .i64 0, .int .i64 3, .int .i64 1])] W fun e w' => ∃ stc, e = .returned (.agg #[.pointer (some ⟨stc, 0, none⟩), .int .i64 2, .int .i64 3, .int .i64 0, .int .i64 3, .int .i64 1]) ∧ (stc ≠ st ∧ ∃ cs, Box w' stc cs) ∧ KnW w b st sb ws9 w' := by
  refine (Copy_any W (newV st 2 3) sb ws9 (kn_ok h.sto rfl)).mono ?_
  rintro e w' ⟨stc, sbc, he, hs, h1, h2, hb⟩
  obtain ⟨x, hx, hbx, _⟩ := hs rfl
  obtain rfl : stc = x := by simpa using hx
  have hl := sto_lt h.sto
  exact ⟨stc, he.trans rfl, ⟨by omega, _, hbx⟩, h.step hb⟩
theorem kSh3 {w W : World} {b st sb stc : Nat} (h : KnW w b st sb ws9 W) (hc : stc ≠ st ∧ ∃ cs, Box W stc cs) : Calls Try.prog 97 #[(.agg #[.pointer (some ⟨stc, 0, none⟩), .int .i64 2, .int .i64 3, .int .i64 0, .int .i64 3, .int .i64 1]), (.agg #[.pointer (some ⟨st, 0, none⟩), .int .i64 2, .int .i64 3, .int .i64 0, .int .i64 3, .int .i64 1])] W fun e w' => e = .returned (.bool false) ∧ KnW w b st sb ws9 w' := by
  obtain ⟨hne, cs, hb⟩ := hc
  obtain ⟨x, hx, hbx, _⟩ := h.sto
  obtain rfl : st = x := by simpa using hx
  exact (Shares_other W (newV stc 2 3) (newV st 2 3) stc st _ _ rfl rfl hne hb hbx).mono fun _ _ ⟨he, hb⟩ => ⟨he, h.step hb⟩
theorem kSet20 {w W : World} {b st sb : Nat} (h : KnW w b st sb ws9 W) : Calls Try.prog 80 #[(.agg #[.pointer (some ⟨st, 0, none⟩), .int .i64 2, .int .i64 3, .int .i64 0, .int .i64 3, .int .i64 1]), .int .i64 2, .int .i64 0, .float .f64 4607182418800017408] W fun e w' => e = .returned (.int .i64 2) ∧ KnW w b st sb ws9 w' := by
  refine (Set_any W (newV st 2 3) sb ws9 2 0 4607182418800017408 (kn_ok h.sto rfl)).mono ?_
  rintro e w' ⟨he, hok, hb⟩
  refine ⟨he.trans rfl, ?_⟩
  rcases hok with h1 | ⟨h1, _⟩
  · cases (show (some (⟨st, 0, none⟩ : Addr)) = none from congrArg Vw.p h1)
  · exact ⟨h.box.bel h.lb.2.2.2.1 hb, h1, (bel_step (Bel.of h.below) h.below.size hb).below h.lb.2.2.1, h.lb⟩
theorem kS {w W : World} {b st sb : Nat} (h : KnW w b st sb ws9 W) : KnW w b st sb ws9 W ∧ W.cell? ⟨b, 0, none⟩ = some (.pointer (some ⟨st, 0, none⟩)) ∧ W.cell? ⟨b, 1, none⟩ = some (.int .i64 2) ∧ W.cell? ⟨b, 2, none⟩ = some (.int .i64 3) ∧ W.cell? ⟨b, 3, none⟩ = some (.int .i64 0) ∧ W.cell? ⟨b, 4, none⟩ = some (.int .i64 3) ∧ W.cell? ⟨b, 5, none⟩ = some (.int .i64 1) :=
  ⟨h, h.box.cell 0, h.box.cell 1, h.box.cell 2, h.box.cell 3, h.box.cell 4, h.box.cell 5⟩
theorem kL {w W : World} {b st sb : Nat} (h : KnW w b st sb ws9 W ∧ W.cell? ⟨b, 0, none⟩ = some (.pointer (some ⟨st, 0, none⟩)) ∧ W.cell? ⟨b, 1, none⟩ = some (.int .i64 2) ∧ W.cell? ⟨b, 2, none⟩ = some (.int .i64 3) ∧ W.cell? ⟨b, 3, none⟩ = some (.int .i64 0) ∧ W.cell? ⟨b, 4, none⟩ = some (.int .i64 3) ∧ W.cell? ⟨b, 5, none⟩ = some (.int .i64 1)) : KnW w b st sb ws9 W := h.1
theorem KnW.drew {w W : World} {b st sb : Nat} {ws : List Nat} (h : KnW w b st sb ws W) : KnW w b st sb ws W.drew := h.step (below_drewN 1 (Below.refl _ _))
end Go.Proofs.Ytbcdpibcieadlaa
