/- The chapter's rows of layer 8 hold (printed by gen_kp.py). -/
import Derived.Test.YtbcdpibcieadlaaZz16
namespace Go.Proofs.Ytbcdpibcieadlaa
open Go Go.RowKit
set_option maxRecDepth 1000000

theorem words_dec {l : List Nat} (h : (l.all fun v => Nat.blt v 18446744073709551616) = true) : Words l := fun v hv => by
  have := List.all_eq_true.1 h v hv
  simpa [Nat.blt_eq] using this
theorem nonan_dec {l : List Nat} (h : (l.all fun v => !isnan v) = true) : ∀ x ∈ l, isnan x = false := fun v hv => by
  have := List.all_eq_true.1 h v hv
  simpa using this
theorem vecK (l : List Nat) (n : Nat) (ty : TypeId) (w : World) (hn : l.length = n) (hl : n ≤ 512) :
    Calls Try.prog 36 #[.slice (some ⟨w.heap.size, 0, none⟩) n n] (w.alloc (.cells (l.map (Value.float .f64)).toArray ty)) fun e w' => ∃ st sb, e = .returned (newV st n 1).val ∧ w.heap.size ≤ st ∧ w.heap.size ≤ sb ∧ Sto w' (some ⟨st, 0, none⟩) sb l ∧ Below w.heap.size w w' := by
  subst hn
  refine (vec_any _ (some ⟨w.heap.size, 0, none⟩) l l.length (Cel.ofBox (Box.newA w _ ty (by simp))) hl).mono ?_
  rintro e w' ⟨st, sb, rfl, k1, k2, hS, hb⟩
  simp only [World.size_alloc] at k1 k2
  refine ⟨st, sb, rfl, by omega, by omega, hS, ?_⟩
  exact below_step ((Below.refl _ _).alloc (Nat.le_refl _) _) (by simp) hb
theorem twoK (l : List Nat) (ty : TypeId) (w : World) (hn : l.length = 4) :
    Calls Try.prog 58 #[.slice (some ⟨w.heap.size, 0, none⟩) 4 4] (w.alloc (.cells (l.map (Value.float .f64)).toArray ty)) fun e w' => ∃ st sb, e = .returned (newV st 2 2).val ∧ w.heap.size ≤ st ∧ w.heap.size ≤ sb ∧ Sto w' (some ⟨st, 0, none⟩) sb l ∧ Below w.heap.size w w' := by
  have h := two_any _ (some ⟨w.heap.size, 0, none⟩) l 4 (Cel.ofBox (Box.newA w (l.map (Value.float .f64)) ty rfl)) hn
  rw [hn] at h
  refine h.mono ?_
  rintro e w' ⟨st, sb, rfl, k1, k2, hS, hb⟩
  simp only [World.size_alloc] at k1 k2
  refine ⟨st, sb, rfl, by omega, by omega, hS, ?_⟩
  exact below_step ((Below.refl _ _).alloc (Nat.le_refl _) _) (by simp) hb
theorem vecB (l : List Nat) (n b : Nat) (w : World) (hn : l.length = n) (hl : n ≤ 512) (h : Box w b (l.map (Value.float .f64))) :
    Calls Try.prog 36 #[.slice (some ⟨b, 0, none⟩) n n] w fun e w' => ∃ st sb, e = .returned (newV st n 1).val ∧ w.heap.size ≤ st ∧ w.heap.size ≤ sb ∧ Sto w' (some ⟨st, 0, none⟩) sb l ∧ Below w.heap.size w w' := by
  subst hn
  exact vec_any _ (some ⟨b, 0, none⟩) l l.length (Cel.ofBox h) hl
theorem twoB (l : List Nat) (b : Nat) (w : World) (hn : l.length = 4) (h : Box w b (l.map (Value.float .f64))) :
    Calls Try.prog 58 #[.slice (some ⟨b, 0, none⟩) 4 4] w fun e w' => ∃ st sb, e = .returned (newV st 2 2).val ∧ w.heap.size ≤ st ∧ w.heap.size ≤ sb ∧ Sto w' (some ⟨st, 0, none⟩) sb l ∧ Below w.heap.size w w' := by
  have k := two_any _ (some ⟨b, 0, none⟩) l 4 (Cel.ofBox h) hn
  rw [hn] at k
  exact k
theorem DotK (w : World) (x y : Vw) (sx sy : Nat) (wx wy : List Nat) (hx : x.Ok w sx wx) (hy : y.Ok w sy wy) (hwx : Words wx) (hwy : Words wy) (V : Nat) (E : Int) (eE : openE [x, y] (fits2 x y) = E) (eV : (dotV x wx y wy == V) = true) (hV : isnan V = false) :
    Calls Try.prog 18 #[x.val, y.val] w fun e w' => e = .returned (.tuple #[.float .f64 V, .int .i64 E]) ∧ Below w.heap.size w w' := by
  refine (Dot_any w x y sx sy wx wy hx hy hwx hwy).mono ?_
  rintro e w' ⟨⟨s, rfl⟩, hb⟩
  exact ⟨by rw [eE, eq_of_beq eV, raw_of_not hV], hb⟩
theorem AsumK (w : World) (x : Vw) (sx : Nat) (wx : List Nat) (hx : x.Ok w sx wx) (hwx : Words wx) (V : Nat) (E : Int) (eE : openE [x] (vecV x.p x.r x.c) = E) (eV : (asumV x wx == V) = true) (hV : isnan V = false) :
    Calls Try.prog 19 #[x.val] w fun e w' => e = .returned (.tuple #[.float .f64 V, .int .i64 E]) ∧ Below w.heap.size w w' := by
  refine (Asum_any w x sx wx hx hwx).mono ?_
  rintro e w' ⟨⟨s, rfl⟩, hb⟩
  exact ⟨by rw [eE, eq_of_beq eV, raw_of_not hV], hb⟩
theorem AmaxK (w : World) (x : Vw) (sx : Nat) (wx : List Nat) (hx : x.Ok w sx wx) (hwx : Words wx) (V : Nat × Nat) (eE : openE [x] (vecV x.p x.r x.c) = 0) (eV : (amaxV x wx == V) = true) (hV : isnan V.2 = false) :
    Calls Try.prog 20 #[x.val] w fun e w' => e = .returned (.tuple #[.int .i64 (V.1 - 1 : Int), .float .f64 V.2, .int .i64 0]) ∧ Below w.heap.size w w' := by
  refine (Amax_any w x sx wx hx hwx).mono ?_
  rintro e w' ⟨⟨s, rfl⟩, hb⟩
  exact ⟨by rw [if_pos eE, eq_of_beq eV, raw_of_not hV], hb⟩
theorem Rw.eq {ws ts : List Nat} (h : Rw ws ts) (hn : ∀ x ∈ ts, isnan x = false) : ws = ts := by
  refine List.ext_getElem h.1 fun i h1 h2 => ?_
  obtain ⟨s, hs⟩ := h.2 i h2
  rw [List.getD_eq_getElem?_getD, List.getD_eq_getElem?_getD, List.getElem?_eq_getElem h1, List.getElem?_eq_getElem h2] at hs
  rw [raw_of_not (by simpa using hn _ (List.getElem_mem h2))] at hs
  simpa using hs
/-- What the rows' walk holds on to: a view's variable, its store. -/
structure Kn8 (w : World) (b st sb : Nat) (ws : List Nat) (W : World) : Prop where
  box : Box W b [.pointer (some ⟨st, 0, none⟩), .int .i64 (2 : Nat), .int .i64 (1 : Nat), .int .i64 (0 : Nat), .int .i64 (1 : Nat), .int .i64 (1 : Nat)]
  sto : Sto W (some ⟨st, 0, none⟩) sb ws
  below : Below w.heap.size w W
  lb : w.heap.size ≤ sb ∧ b ≠ sb
theorem Kn8.step {w : World} {b st sb : Nat} {ws : List Nat} {W W' : World} (h : Kn8 w b st sb ws W) (hb : Below W.heap.size W W') : Kn8 w b st sb ws W' :=
  ⟨h.box.below hb, h.sto.below hb, below_step h.below h.below.size hb, h.lb⟩
theorem Kn8.bel {w : World} {b st sb m : Nat} {ws : List Nat} {W W' : World} (h : Kn8 w b st sb ws W) (hb : Bel W.heap.size m W W') (hm : w.heap.size ≤ m) (h1 : b ≠ m) (h2 : st ≠ m) (h3 : sb ≠ m) : Kn8 w b st sb ws W' :=
  ⟨h.box.bel h1 hb, h.sto.bel h2 h3 hb, (bel_step (Bel.of h.below) h.below.size hb).below hm, h.lb⟩
theorem Kn8.ok {w : World} {b st sb : Nat} {ws : List Nat} {W : World} (h : Kn8 w b st sb ws W) (hl : ws.length = 2) : (newV st 2 1).Ok W sb ws := newV_ok h.sto (by decide) (by decide) hl
theorem nov_ok {w : World} {st sb r c : Nat} {zs : List Nat} (h : Sto w (some ⟨st, 0, none⟩) sb zs) (hr : r ≤ 512) (hc : c ≤ 512) (hn : zs.length = r * c) : (newV st r c).Ok w sb zs := newV_ok h hr hc hn
theorem GemvK {w W : World} {b st sb st1 sb1 st2 sb2 : Nat} (h : Kn8 w b st sb [4621256167635550208, 4621256167635550208] W) (h1 : Sto W (some ⟨st1, 0, none⟩) sb1 [4607182418800017408, 4611686018427387904, 4613937818241073152, 4616189618054758400]) (h2 : Sto W (some ⟨st2, 0, none⟩) sb2 [4607182418800017408, 4607182418800017408]) :
    Calls Try.prog 27 #[.float .f64 4607182418800017408, (newV st1 2 2).val, (newV st2 2 1).val, .float .f64 0, (.agg #[.pointer (some ⟨st, 0, none⟩), .int .i64 2, .int .i64 1, .int .i64 0, .int .i64 1, .int .i64 1])] W fun e w' => e = .returned (.int .i64 0) ∧ Kn8 w b st sb [4613937818241073152, 4619567317775286272] w' := by
  refine (Gemv_any W 4607182418800017408 0 (newV st1 2 2) (newV st2 2 1) (newV st 2 1) sb1 sb2 sb _ _ _ (newV_ok h1 (by decide) (by decide) rfl) (newV_ok h2 (by decide) (by decide) rfl) (h.ok rfl) (words_dec (by kernel_rfl)) (words_dec (by kernel_rfl)) (words_dec (by kernel_rfl))).mono ?_
  rintro e w' ⟨rfl, ws, hok, hrw, hww, hbel⟩
  have e1 : (gemvL 4607182418800017408 0 (newV st1 2 2) (newV st2 2 1) (newV st 2 1) [4607182418800017408, 4611686018427387904, 4613937818241073152, 4616189618054758400] [4607182418800017408, 4607182418800017408] [4621256167635550208, 4621256167635550208] == [4613937818241073152, 4619567317775286272]) = true := by kernel_rfl
  replace e1 := eq_of_beq e1
  rw [e1] at hrw
  obtain rfl := hrw.eq (nonan_dec (by kernel_rfl))
  refine ⟨by kernel_rfl, ?_⟩
  rcases hok with hk | ⟨hk, _⟩
  · have := congrArg Vw.p hk; cases this
  · exact ⟨h.box.bel h.lb.2 hbel, hk, (bel_step (Bel.of h.below) h.below.size hbel).below h.lb.1, h.lb⟩
theorem TrmmK {w W : World} {b st sb st1 sb1 : Nat} (h : Kn8 w b st sb [4607182418800017408, 4607182418800017408] W) (h1 : Sto W (some ⟨st1, 0, none⟩) sb1 [4607182418800017408, 4621256167635550208, 4611686018427387904, 4613937818241073152]) :
    Calls Try.prog 33 #[.bool false, .bool false, (newV st1 2 2).val, (.agg #[.pointer (some ⟨st, 0, none⟩), .int .i64 2, .int .i64 1, .int .i64 0, .int .i64 1, .int .i64 1])] W fun e w' => e = .returned (.int .i64 0) ∧ Kn8 w b st sb [4607182418800017408, 4617315517961601024] w' ∧ Bel W.heap.size sb W w' := by
  refine (Trmm_any W false false (newV st1 2 2) (newV st 2 1) sb1 sb _ _ (newV_ok h1 (by decide) (by decide) rfl) (h.ok rfl) (words_dec (by kernel_rfl)) (words_dec (by kernel_rfl))).mono ?_
  rintro e w' ⟨rfl, ws, hok, hrw, hww, hbel⟩
  have e1 : (trmmL false false (newV st1 2 2) (newV st 2 1) [4607182418800017408, 4621256167635550208, 4611686018427387904, 4613937818241073152] [4607182418800017408, 4607182418800017408] == [4607182418800017408, 4617315517961601024]) = true := by kernel_rfl
  replace e1 := eq_of_beq e1
  rw [e1] at hrw
  obtain rfl := hrw.eq (nonan_dec (by kernel_rfl))
  refine ⟨by kernel_rfl, ?_, hbel⟩
  rcases hok with hk | ⟨hk, _⟩
  · have := congrArg Vw.p hk; cases this
  · exact ⟨h.box.bel h.lb.2 hbel, hk, (bel_step (Bel.of h.below) h.below.size hbel).below h.lb.1, h.lb⟩
theorem GetY0 {w W : World} {b st sb : Nat} (h : Kn8 w b st sb [4613937818241073152, 4619567317775286272] W) : Calls Try.prog 59 #[(.agg #[.pointer (some ⟨st, 0, none⟩), .int .i64 2, .int .i64 1, .int .i64 0, .int .i64 1, .int .i64 1]), .int .i64 0] W fun e w' => e = .returned (.float .f64 4613937818241073152) ∧ Below W.heap.size W w' :=
  (Get_any W (newV st 2 1) sb [4613937818241073152, 4619567317775286272] 0 (h.ok rfl)).mono fun _ _ ⟨he, hb⟩ => ⟨he.trans (by first | rfl | kernel_rfl), hb⟩
theorem GetY1 {w W : World} {b st sb : Nat} (h : Kn8 w b st sb [4613937818241073152, 4619567317775286272] W) : Calls Try.prog 59 #[(.agg #[.pointer (some ⟨st, 0, none⟩), .int .i64 2, .int .i64 1, .int .i64 0, .int .i64 1, .int .i64 1]), .int .i64 1] W fun e w' => e = .returned (.float .f64 4619567317775286272) ∧ Below W.heap.size W w' :=
  (Get_any W (newV st 2 1) sb [4613937818241073152, 4619567317775286272] 1 (h.ok rfl)).mono fun _ _ ⟨he, hb⟩ => ⟨he.trans (by first | rfl | kernel_rfl), hb⟩
theorem GetM0 {w W : World} {b st sb : Nat} (h : Kn8 w b st sb [4607182418800017408, 4617315517961601024] W) : Calls Try.prog 59 #[(.agg #[.pointer (some ⟨st, 0, none⟩), .int .i64 2, .int .i64 1, .int .i64 0, .int .i64 1, .int .i64 1]), .int .i64 0] W fun e w' => e = .returned (.float .f64 4607182418800017408) ∧ Below W.heap.size W w' :=
  (Get_any W (newV st 2 1) sb [4607182418800017408, 4617315517961601024] 0 (h.ok rfl)).mono fun _ _ ⟨he, hb⟩ => ⟨he.trans (by first | rfl | kernel_rfl), hb⟩
theorem GetM1 {w W : World} {b st sb : Nat} (h : Kn8 w b st sb [4607182418800017408, 4617315517961601024] W) : Calls Try.prog 59 #[(.agg #[.pointer (some ⟨st, 0, none⟩), .int .i64 2, .int .i64 1, .int .i64 0, .int .i64 1, .int .i64 1]), .int .i64 1] W fun e w' => e = .returned (.float .f64 4617315517961601024) ∧ Below W.heap.size W w' :=
  (Get_any W (newV st 2 1) sb [4607182418800017408, 4617315517961601024] 1 (h.ok rfl)).mono fun _ _ ⟨he, hb⟩ => ⟨he.trans (by first | rfl | kernel_rfl), hb⟩
theorem DotN {W : World} {st sb : Nat} (h : Sto W (some ⟨st, 0, none⟩) sb [4607182418800017408]) : Calls Try.prog 18 #[(.agg #[.pointer none, .int .i64 0, .int .i64 0, .int .i64 0, .int .i64 0, .int .i64 0]), (newV st 1 1).val] W fun e w' => e = .returned (.tuple #[.float .f64 0, .int .i64 1]) ∧ Below W.heap.size W w' :=
  DotK W Vw.none (newV st 1 1) sb sb [] _ (none_ok _ _ _) (newV_ok h (by decide) (by decide) rfl) (words_dec (by kernel_rfl)) (words_dec (by kernel_rfl)) 0 1 (by kernel_rfl) (by kernel_rfl) (by kernel_rfl)
theorem NewK (W : World) : Calls Try.prog 56 #[.int .i64 2, .int .i64 3] W fun e w' => ∃ st sb, e = .returned (.tuple #[(newV st 2 3).val, .int .i64 0]) ∧ Sto w' (some ⟨st, 0, none⟩) sb [0, 0, 0, 0, 0, 0] ∧ Below W.heap.size W w' := by
  refine (New_yes 2 3 W (by decide) (by decide)).mono ?_
  rintro e w' ⟨st, sb, rfl, _, _, hS, hb⟩
  exact ⟨st, sb, rfl, hS, hb⟩
theorem GemmK {W : World} {st sb : Nat} (h : Sto W (some ⟨st, 0, none⟩) sb [0, 0, 0, 0, 0, 0]) : Calls Try.prog 31 #[.float .f64 4607182418800017408, (.agg #[.pointer (some ⟨st, 0, none⟩), .int .i64 2, .int .i64 3, .int .i64 0, .int .i64 3, .int .i64 1]), (.agg #[.pointer (some ⟨st, 0, none⟩), .int .i64 2, .int .i64 3, .int .i64 0, .int .i64 3, .int .i64 1]), .float .f64 0, (.agg #[.pointer (some ⟨st, 0, none⟩), .int .i64 2, .int .i64 3, .int .i64 0, .int .i64 3, .int .i64 1])] W fun e w' => e = .returned (.int .i64 8) ∧ Below W.heap.size W w' := by
  have ok : (newV st 2 3).Ok W sb [0, 0, 0, 0, 0, 0] := newV_ok h (by decide) (by decide) rfl
  have e1 : openE [newV st 2 3, newV st 2 3, newV st 2 3] (fits_Gemm (newV st 2 3) (newV st 2 3) (newV st 2 3)) = 8 := by kernel_rfl
  refine (Gemm_bad W 4607182418800017408 0 (newV st 2 3) (newV st 2 3) (newV st 2 3) sb sb sb _ _ _ ok ok ok (by rw [e1]; decide)).mono ?_
  rintro e w' ⟨rfl, hb⟩
  exact ⟨by rw [e1], hb⟩
theorem feqk1 : feq 4607182418800017408 4607182418800017408 = true := by kernel_rfl
theorem feqk3 : feq 4613937818241073152 4613937818241073152 = true := by kernel_rfl
theorem feqk5 : feq 4617315517961601024 4617315517961601024 = true := by kernel_rfl
theorem feqk7 : feq 4619567317775286272 4619567317775286272 = true := by kernel_rfl
theorem feqk32 : feq 4629700416936869888 4629700416936869888 = true := by kernel_rfl
end Go.Proofs.Ytbcdpibcieadlaa
