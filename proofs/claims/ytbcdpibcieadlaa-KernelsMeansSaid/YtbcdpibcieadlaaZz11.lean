/- Layer 8: sums of sizes, the greatest size. No condition but on lengths. -/
import Derived.Test.YtbcdpibcieadlaaZz10
namespace Go.Proofs.Ytbcdpibcieadlaa
open Go Go.RowKit
set_option maxRecDepth 100000

/-- Sizes, added up. -/
def asumG (x : Nat → Nat) : Nat → Nat
  | 0 => 0
  | n + 1 => fadd (asumG x n) (fabs (x n))
def asumV (x : Vw) (wx : List Nat) : Nat := if openE [x] (vecV x.p x.r x.c) = 0 then asumG (fun k => x.getVec wx k) (lenV x.p x.r x.c) else 0
theorem open_one (W : World) (x : Vw) (sx : Nat) (wx : List Nat) (b : Nat) (hx : x.Ok W sx wx) (hb : Box W b ([x].flatMap Vw.cs)) :
    Calls Try.prog 61 #[.func (.func 63) #[(.agg #[.pointer x.p, .int .i64 x.r, .int .i64 x.c, .int .i64 x.o, .int .i64 x.d, .int .i64 x.u])] #[], .slice (some ⟨b, 0, none⟩) 1 1] W fun e w' => e = .returned (.int .i64 (openE [x] (vecV x.p x.r x.c))) ∧ Below W.heap.size W w' :=
  open_anyM W 63 #[(.agg #[.pointer x.p, .int .i64 x.r, .int .i64 x.c, .int .i64 x.o, .int .i64 x.d, .int .i64 x.u])] b [x] (vecV x.p x.r x.c) hb (fun v hv => by rw [List.mem_singleton] at hv; subst hv; exact ⟨sx, wx, hx⟩) (by simp) (enters_of Try.func63 (by kernel_rfl) rfl) (fun _ W' _ => Vector_any x.p x.r x.c x.o x.d x.u W')
set_option maxHeartbeats 8000000 in
theorem Asum_any (w : World) (x : Vw) (sx : Nat) (wx : List Nat) (hx : x.Ok w sx wx) (hwx : Words wx) :
    Calls Try.prog 19 #[x.val] w fun e w' => (∃ s, e = .returned (.tuple #[.float .f64 (raw (asumV x wx) s), .int .i64 (openE [x] (vecV x.p x.r x.c))])) ∧ Below w.heap.size w w' := by
  have HL := Lib.hid (fun W => Len_any x.p x.r x.c x.o x.d x.u W hx.small.1 hx.small.2)
  have hll := lenV_le (p := x.p) hx.small
  have HO := Lib.hid (fun W (h : Below w.heap.size w W) b hb => open_one W x sx wx b (hx.below h) hb)
  have HG := Lib.hid (fun W (h : Below w.heap.size w W) (i : Nat) => Get_any W x sx wx i (hx.below h))
  have HWx := Lib.hid (fun i => getVec_lt (v := x) hwx i)
  unfold asumV
  generalize openE [x] (vecV x.p x.r x.c) = E at *
  generalize lenV x.p x.r x.c = n at *
  obtain ⟨D, hD⟩ : ∃ D, D = (if E = 0 then asumG (fun k => x.getVec wx k) n else 0) := ⟨_, rfl⟩
  rw [← hD]
  obtain ⟨W0, hW0⟩ : ∃ W0, W0 = (w.alloc (.cells #[.pointer x.p, .int .i64 x.r, .int .i64 x.c, .int .i64 x.o, .int .i64 x.d, .int .i64 x.u] 29)) := ⟨_, rfl⟩
  have hB0 : Below w.heap.size w W0 := hW0 ▸ (Below.refl _ _).alloc (Nat.le_refl _) _
  have x2 : Box W0 w.heap.size [.pointer x.p, .int .i64 x.r, .int .i64 x.c, .int .i64 x.o, .int .i64 x.d, .int .i64 x.u] := hW0 ▸ Box.newA w [.pointer x.p, .int .i64 x.r, .int .i64 x.c, .int .i64 x.o, .int .i64 x.d, .int .i64 x.u] _ rfl
  have HX := Lib.hid (show _ ∧ _ from ⟨hB0, x2⟩)
  clear hx hwx hB0 x2
  show Calls Try.prog 19 #[(.agg #[.pointer x.p, .int .i64 x.r, .int .i64 x.c, .int .i64 x.o, .int .i64 x.d, .int .i64 x.u])] w _
  go_enter Try.func19, Try.ntmps19
  go_upto_region 1 with (fail)
  rw [← hW0]
  clear hW0
  obtain ⟨hB0, x2⟩ := HX.out
  have hbA : Below W0.heap.size W0 (W0.alloc (.cells #[.pointer x.p, .int .i64 x.r, .int .i64 x.c, .int .i64 x.o, .int .i64 x.d, .int .i64 x.u] 29)) := (Below.refl _ _).alloc (Nat.le_refl _) _
  have hz : Box (W0.alloc (.cells #[.pointer x.p, .int .i64 x.r, .int .i64 x.c, .int .i64 x.o, .int .i64 x.d, .int .i64 x.u] 29)) W0.heap.size ([x].flatMap Vw.cs) := Box.newA W0 ([x].flatMap Vw.cs) _ rfl
  have hB1 := below_step hB0 hB0.size hbA
  have HC := Lib.hid (HO.out _ hB1 _ hz)
  obtain ⟨p1, p2, p3⟩ := x2.facts
  have HB1 := Lib.hid (show _ ∧ _ from ⟨hB1, x2.below hbA⟩)
  clear hB0 x2 hbA hz hB1 HO HX
  go_wp2_with fail
  refine HC.out.mono ?_
  rintro e w1 ⟨rfl, hb1⟩
  obtain ⟨hB1, x2⟩ := HB1.out
  have hB2 := below_step hB1 hB1.size hb1
  replace x2 := x2.below hb1
  clear p1 p2 p3
  have HB2 := Lib.hid (show _ ∧ _ from ⟨hB2, x2⟩)
  clear hB1 hb1 hB2 x2 HB1 HC
  dsimp only
  by_cases hE : E = 0
  · subst hE
    rw [if_pos rfl] at hD
    have HDD := Lib.hid hD
    clear hD
    obtain ⟨p1, p2, p3⟩ := HB2.out.2.facts
    go_wp2_with fail
    refine (HL.out _).mono ?_
    rintro e w2 ⟨rfl, hb2⟩
    have HB3 := Lib.hid (show _ ∧ _ from ⟨below_step HB2.out.1 HB2.out.1.size hb2, HB2.out.2.below hb2⟩)
    clear p1 p2 p3 hb2 HL HB2
    dsimp only
    go_wp2_with fail
    go_loopw [5, 17] (fun s5 s17 wr => ∃ k s : Nat, k ≤ n ∧ s5 = .float .f64 (raw (asumG (fun k => x.getVec wx k) k) s) ∧ s17 = .int .i64 k ∧ Below w.heap.size w wr ∧ Box wr w.heap.size [.pointer x.p, .int .i64 x.r, .int .i64 x.c, .int .i64 x.o, .int .i64 x.d, .int .i64 x.u]) (fun _ s17 _ => n - (intOf s17).toNat)
    case atStart => exact ⟨0, 0, Nat.zero_le _, by rw [asumG, raw_of_not (by kernel_rfl)], rfl, HB3.out.1, HB3.out.2⟩
    case round =>
      obtain ⟨k, s, hk, rfl, rfl, hB, hbx⟩ := hrel
      by_cases hlt : k < n
      · obtain ⟨p1, p2, p3⟩ := hbx.facts
        have HG1 := Lib.hid (HG.out wr hB k)
        have HB := Lib.hid (show _ ∧ _ ∧ _ from ⟨hB, hbx, hlt⟩)
        clear hB hbx hk
        go_wp2_with fail
        refine HG1.out.mono ?_
        rintro e w3 ⟨rfl, hb3⟩
        have HB4 := Lib.hid (show _ ∧ _ from ⟨below_step HB.out.1 HB.out.1.size hb3, HB.out.2.1.below hb3⟩)
        clear hb3 p1 p2 p3
        have hlt64 := HWx.out (k : Int)
        dsimp only
        go_wp2_with fail
        refine (Abs_any _ hlt64 w3).mono ?_
        rintro e w5 ⟨rfl, rfl⟩
        clear hlt64
        dsimp only
        go_wp2_with (first | (fail) | (refine wpList_flt rfl rfl rfl rfl rfl ?_; intro K hK _ _; go_frame; refine hK _ _ ?_; clear hK K))
        go_roundw
        case rel => exact ⟨k + 1, _, HB.out.2.2, by rw [asumG]; simp only [fadd_rawl]; rfl, by go_num, below_drewN _ HB4.out.1, HB4.out.2.below (below_drewN _ (Below.refl _ _))⟩
        case measure => have := HB.out.2.2; simp [intOf]; omega
      · obtain rfl : k = n := by omega
        rw [← HDD.out]
        have HB := Lib.hid hB
        clear hB hbx hk
        go_wp2_with fail
        exact bodyPost_ret (results_two rfl (rv_tmp rfl) (rv_tmp rfl)) rfl ⟨⟨s, rfl⟩, HB.out⟩
  · have t1 : (E != 0) = true := by simp [hE]
    rw [if_neg hE] at hD
    subst hD
    clear hE
    go_wp2_with fail
    exact bodyPost_ret (results_two rfl (rv_tmp rfl) (rv_tmp rfl)) rfl ⟨⟨0, by rw [raw_of_not (show isnan 0 = false by kernel_rfl)]; rfl⟩, HB2.out.1⟩
/-- The greatest size: where it stands (from 1 on; 0: nowhere), and the size. -/
def amaxG (x : Nat → Nat) : Nat → Nat × Nat
  | 0 => (0, 0)
  | n + 1 => if flt (amaxG x n).2 (fabs (x n)) || ((amaxG x n).1 == 0 && feq (fabs (x n)) (fabs (x n))) then (n + 1, fabs (x n)) else amaxG x n
def amaxV (x : Vw) (wx : List Nat) : Nat × Nat := amaxG (fun k => x.getVec wx k) (lenV x.p x.r x.c)
set_option maxHeartbeats 8000000 in
theorem Amax_any (w : World) (x : Vw) (sx : Nat) (wx : List Nat) (hx : x.Ok w sx wx) (hwx : Words wx) :
    Calls Try.prog 20 #[x.val] w fun e w' => (∃ s, e = .returned (.tuple (if openE [x] (vecV x.p x.r x.c) = 0 then #[.int .i64 ((amaxV x wx).1 - 1 : Int), .float .f64 (raw (amaxV x wx).2 s), .int .i64 0] else #[.int .i64 0, .float .f64 0, .int .i64 (openE [x] (vecV x.p x.r x.c))]))) ∧ Below w.heap.size w w' := by
  have HL := Lib.hid (fun W => Len_any x.p x.r x.c x.o x.d x.u W hx.small.1 hx.small.2)
  have hll := lenV_le (p := x.p) hx.small
  have HO := Lib.hid (fun W (h : Below w.heap.size w W) b hb => open_one W x sx wx b (hx.below h) hb)
  have HG := Lib.hid (fun W (h : Below w.heap.size w W) (i : Nat) => Get_any W x sx wx i (hx.below h))
  have HWx := Lib.hid (fun i => getVec_lt (v := x) hwx i)
  unfold amaxV
  generalize openE [x] (vecV x.p x.r x.c) = E at *
  generalize lenV x.p x.r x.c = n at *
  obtain ⟨W0, hW0⟩ : ∃ W0, W0 = (w.alloc (.cells #[.pointer x.p, .int .i64 x.r, .int .i64 x.c, .int .i64 x.o, .int .i64 x.d, .int .i64 x.u] 29)) := ⟨_, rfl⟩
  have hB0 : Below w.heap.size w W0 := hW0 ▸ (Below.refl _ _).alloc (Nat.le_refl _) _
  have x2 : Box W0 w.heap.size [.pointer x.p, .int .i64 x.r, .int .i64 x.c, .int .i64 x.o, .int .i64 x.d, .int .i64 x.u] := hW0 ▸ Box.newA w [.pointer x.p, .int .i64 x.r, .int .i64 x.c, .int .i64 x.o, .int .i64 x.d, .int .i64 x.u] _ rfl
  have HX := Lib.hid (show _ ∧ _ from ⟨hB0, x2⟩)
  clear hx hwx hB0 x2
  show Calls Try.prog 20 #[(.agg #[.pointer x.p, .int .i64 x.r, .int .i64 x.c, .int .i64 x.o, .int .i64 x.d, .int .i64 x.u])] w _
  by_cases hE : E = 0
  · subst hE
    simp only [if_true]
    obtain ⟨D, hD⟩ : ∃ D, D = amaxG (fun k => x.getVec wx k) n := ⟨_, rfl⟩
    rw [← hD]
    have HDD := Lib.hid hD
    clear hD
    go_enter Try.func20, Try.ntmps20
    go_upto_region 1 with (fail)
    rw [← hW0]
    clear hW0
    obtain ⟨hB0, x2⟩ := HX.out
    have hbA : Below W0.heap.size W0 (W0.alloc (.cells #[.pointer x.p, .int .i64 x.r, .int .i64 x.c, .int .i64 x.o, .int .i64 x.d, .int .i64 x.u] 29)) := (Below.refl _ _).alloc (Nat.le_refl _) _
    have hz : Box (W0.alloc (.cells #[.pointer x.p, .int .i64 x.r, .int .i64 x.c, .int .i64 x.o, .int .i64 x.d, .int .i64 x.u] 29)) W0.heap.size ([x].flatMap Vw.cs) := Box.newA W0 ([x].flatMap Vw.cs) _ rfl
    have hB1 := below_step hB0 hB0.size hbA
    have HC := Lib.hid (HO.out _ hB1 _ hz)
    obtain ⟨p1, p2, p3⟩ := x2.facts
    have HB1 := Lib.hid (show _ ∧ _ from ⟨hB1, x2.below hbA⟩)
    clear hB0 x2 hbA hz hB1 HO HX
    go_wp2_with fail
    refine HC.out.mono ?_
    rintro e w1 ⟨rfl, hb1⟩
    obtain ⟨hB1, x2⟩ := HB1.out
    have hB2 := below_step hB1 hB1.size hb1
    replace x2 := x2.below hb1
    clear p1 p2 p3
    have HB2 := Lib.hid (show _ ∧ _ from ⟨hB2, x2⟩)
    clear hB1 hb1 hB2 x2 HB1 HC
    dsimp only
    obtain ⟨p1, p2, p3⟩ := HB2.out.2.facts
    go_wp2_with fail
    refine (HL.out _).mono ?_
    rintro e w2 ⟨rfl, hb2⟩
    have HB3 := Lib.hid (show _ ∧ _ from ⟨below_step HB2.out.1 HB2.out.1.size hb2, HB2.out.2.below hb2⟩)
    clear p1 p2 p3 hb2 HL HB2
    dsimp only
    go_wp2_with fail
    go_loopw [6, 7, 20] (fun s6 s7 s20 wr => ∃ k s : Nat, k ≤ n ∧ s6 = .int .i64 ((amaxG (fun k => x.getVec wx k) k).1 - 1 : Int) ∧ s7 = .float .f64 (raw (amaxG (fun k => x.getVec wx k) k).2 s) ∧ s20 = .int .i64 k ∧ Below w.heap.size w wr ∧ Box wr w.heap.size [.pointer x.p, .int .i64 x.r, .int .i64 x.c, .int .i64 x.o, .int .i64 x.d, .int .i64 x.u] ∧ (amaxG (fun k => x.getVec wx k) k).1 ≤ k) (fun _ _ s20 _ => n - (intOf s20).toNat)
    case atStart => exact ⟨0, 0, Nat.zero_le _, rfl, by rw [amaxG, raw_of_not (by kernel_rfl)], rfl, HB3.out.1, HB3.out.2, Nat.le_refl _⟩
    case round =>
      obtain ⟨k, s, hk, rfl, rfl, rfl, hB, hbx, hle⟩ := hrel
      by_cases hlt : k < n
      · obtain ⟨p1, p2, p3⟩ := hbx.facts
        have HG1 := Lib.hid (HG.out wr hB k)
        have hlt64 := HWx.out (k : Int)
        obtain ⟨ga, hga⟩ : ∃ g, g = amaxG (fun k => x.getVec wx k) k := ⟨_, rfl⟩
        have hnx : amaxG (fun k => x.getVec wx k) (k + 1) = if flt ga.2 (fabs (x.getVec wx k)) || (ga.1 == 0 && feq (fabs (x.getVec wx k)) (fabs (x.getVec wx k))) then (k + 1, fabs (x.getVec wx k)) else ga := by rw [amaxG, ← hga]
        rw [← hga] at hle ⊢
        have HB := Lib.hid (show _ ∧ _ ∧ _ ∧ _ from ⟨hB, hbx, hlt, hle⟩)
        have HNX0 := Lib.hid hnx
        have hg0 : decide ((ga.1 : Int) - 1 < 0) = (ga.1 == 0) := by rw [Bool.eq_iff_iff]; simp; omega
        clear hB hbx hk hga hnx hle
        generalize x.getVec wx (k : Int) = v at *
        obtain ⟨g1, g2⟩ := ga
        dsimp only at *
        go_wp2_with fail
        refine HG1.out.mono ?_
        rintro e w3 ⟨rfl, hb3⟩
        have HB4 := Lib.hid (show _ ∧ _ from ⟨below_step HB.out.1 HB.out.1.size hb3, HB.out.2.1.below hb3⟩)
        clear hb3 p1 p2 p3
        dsimp only
        go_wp2_with fail
        refine (Abs_any _ hlt64 w3).mono ?_
        rintro e w5 ⟨rfl, rfl⟩
        clear hlt64
        dsimp only
        obtain ⟨s', hs'⟩ := raw_self (b := fabs v) (by unfold fabs; omega)
        have HS' := Lib.hid hs'
        clear hs'
        cases h1 : flt g2 (fabs v)
        · cases h2 : (g1 == 0)
          · rw [h2] at hg0
            have hnx := HNX0.out
            rw [h1, h2, Bool.false_and, Bool.or_false, if_neg (by decide)] at hnx
            have HNX := Lib.hid hnx
            clear hnx
            go_wp2_with fail
            go_roundw
            case rel => exact ⟨k + 1, s, HB.out.2.2.1, by rw [HNX.out], by rw [HNX.out], by go_num, HB4.out.1, HB4.out.2, by rw [HNX.out]; have := HB.out.2.2.2; omega⟩
            case measure => have := HB.out.2.2.1; simp [intOf]; omega
          · rw [h2] at hg0
            have hnx := HNX0.out
            cases h3 : feq (fabs v) (fabs v)
            · skip
              rw [h1, h2, h3, Bool.and_false, Bool.or_false, if_neg (by decide)] at hnx
              have HNX := Lib.hid hnx
              clear hnx
              go_wp2_with fail
              go_roundw
              case rel => exact ⟨k + 1, s, HB.out.2.2.1, by rw [HNX.out], by rw [HNX.out], by go_num, HB4.out.1, HB4.out.2, by rw [HNX.out]; have := HB.out.2.2.2; omega⟩
              case measure => have := HB.out.2.2.1; simp [intOf]; omega
            · skip
              rw [h1, h2, h3, Bool.and_true, Bool.or_true, if_pos rfl] at hnx
              have HNX := Lib.hid hnx
              clear hnx
              go_wp2_with fail
              go_roundw
              case rel => exact ⟨k + 1, s', HB.out.2.2.1, by rw [HNX.out]; congr 1; simp, by rw [HNX.out]; exact congrArg _ HS'.out, by go_num, HB4.out.1, HB4.out.2, by rw [HNX.out]; exact Nat.le_refl _⟩
              case measure => have := HB.out.2.2.1; simp [intOf]; omega
        · have hnx := HNX0.out
          rw [h1, Bool.true_or, if_pos rfl] at hnx
          have HNX := Lib.hid hnx
          clear hnx
          go_wp2_with fail
          go_roundw
          case rel => exact ⟨k + 1, s', HB.out.2.2.1, by rw [HNX.out]; congr 1; simp, by rw [HNX.out]; exact congrArg _ HS'.out, by go_num, HB4.out.1, HB4.out.2, by rw [HNX.out]; exact Nat.le_refl _⟩
          case measure => have := HB.out.2.2.1; simp [intOf]; omega
      · obtain rfl : k = n := by omega
        rw [← HDD.out]
        have HB := Lib.hid hB
        clear hB hbx hk hle
        go_wp2_with fail
        exact bodyPost_ret (results_three rfl (rv_tmp rfl) (rv_tmp rfl) (rv_tmp rfl)) rfl ⟨⟨s, rfl⟩, HB.out⟩
  · simp only [if_neg hE]
    have t1 : (E != 0) = true := by simp [hE]
    clear hE
    go_enter Try.func20, Try.ntmps20
    go_upto_region 1 with (fail)
    rw [← hW0]
    clear hW0
    obtain ⟨hB0, x2⟩ := HX.out
    have hbA : Below W0.heap.size W0 (W0.alloc (.cells #[.pointer x.p, .int .i64 x.r, .int .i64 x.c, .int .i64 x.o, .int .i64 x.d, .int .i64 x.u] 29)) := (Below.refl _ _).alloc (Nat.le_refl _) _
    have hz : Box (W0.alloc (.cells #[.pointer x.p, .int .i64 x.r, .int .i64 x.c, .int .i64 x.o, .int .i64 x.d, .int .i64 x.u] 29)) W0.heap.size ([x].flatMap Vw.cs) := Box.newA W0 ([x].flatMap Vw.cs) _ rfl
    have hB1 := below_step hB0 hB0.size hbA
    have HC := Lib.hid (HO.out _ hB1 _ hz)
    obtain ⟨p1, p2, p3⟩ := x2.facts
    have HB1 := Lib.hid hB1
    clear hB0 x2 hbA hz hB1 HO HX
    go_wp2_with fail
    refine HC.out.mono ?_
    rintro e w1 ⟨rfl, hb1⟩
    have HB2 := Lib.hid (below_step HB1.out HB1.out.size hb1)
    clear p1 p2 p3 hb1 HB1 HC
    dsimp only
    go_wp2_with fail
    exact bodyPost_ret (results_three rfl (rv_tmp rfl) (rv_tmp rfl) (rv_tmp rfl)) rfl ⟨⟨0, rfl⟩, HB2.out⟩
end Go.Proofs.Ytbcdpibcieadlaa

/- Layer 8: a matrix, told by a function, times a vector. No condition but on lengths. -/
namespace Go.Proofs.Ytbcdpibcieadlaa
open Go Go.RowKit
set_option maxRecDepth 100000

/-! ### Words up to a NaN's bits -/
/-- The words ws are the floats ts. -/
def Rw (ws ts : List Nat) : Prop := ws.length = ts.length ∧ ∀ i, i < ts.length → ∃ s, ws.getD i 0 = raw (ts.getD i 0) s
theorem Rw.self {ws : List Nat} (h : Words ws) : Rw ws ws := ⟨rfl, fun i _ => raw_self (h.at i)⟩
theorem Rw.set {ws ts : List Nat} (h : Rw ws ts) (k x s : Nat) : Rw (ws.set k (raw x s)) (ts.set k x) := by
  refine ⟨by rw [List.length_set, List.length_set]; exact h.1, fun i hi => ?_⟩
  rw [List.length_set] at hi
  obtain ⟨u, hu⟩ := h.2 i hi
  have hw : i < ws.length := by rw [h.1]; exact hi
  by_cases hk : k = i
  · subst hk
    refine ⟨s, ?_⟩
    simp [List.getD_eq_getElem?_getD, hi, hw]
  · refine ⟨u, ?_⟩
    rw [List.getD_eq_getElem?_getD, List.getD_eq_getElem?_getD, List.getElem?_set_ne hk, List.getElem?_set_ne hk, ← List.getD_eq_getElem?_getD, ← List.getD_eq_getElem?_getD]
    exact hu
theorem Rw.put {ws ts : List Nat} (h : Rw ws ts) (v : Vw) (i j : Int) (x s : Nat) : Rw (v.put ws i j (raw x s)) (v.put ts i j x) := by
  unfold Vw.put
  split
  · exact h.set _ _ _
  · exact h
theorem Rw.putVec {ws ts : List Nat} (h : Rw ws ts) (v : Vw) (i : Int) (x s : Nat) : Rw (v.putVec ws i (raw x s)) (v.putVec ts i x) := by
  unfold Vw.putVec
  split
  · exact h
  · exact h.put _ _ _ _ _
theorem words_set {ws : List Nat} (h : Words ws) {k x : Nat} (hx : x < 18446744073709551616) : Words (ws.set k x) := fun v hv => by
  rcases List.mem_or_eq_of_mem_set hv with h1 | h1
  · exact h v h1
  · rw [h1]; exact hx
theorem words_putVec {ws : List Nat} (h : Words ws) (v : Vw) (i : Int) {x : Nat} (hx : x < 18446744073709551616) : Words (v.putVec ws i x) := by
  unfold Vw.putVec Vw.put
  split
  · exact h
  · split
    · exact words_set h hx
    · exact h
/-- (b o) + (a s), each rounded. -/
def bothW (b o a s : Nat) : Nat := fadd (fmul b o) (fmul a s)
theorem both_any (w : World) (b o a s t : Nat) : Calls Try.prog 81 #[.float .f64 b, .float .f64 o, .float .f64 a, .float .f64 (raw s t)] w fun e w' => (∃ u, e = .returned (.float .f64 (raw (bothW b o a s) u))) ∧ Below w.heap.size w w' := by
  unfold bothW
  go_enter Try.func81, Try.ntmps81
  go_wp2_with (first | (fail) | (refine wpList_flt rfl rfl rfl rfl rfl ?_; intro K hK _ _; go_frame; refine hK _ _ ?_; clear hK K))
  simp only [fadd_rawl, fadd_rawr, fmul_rawr]
  go_ret
  exact ⟨⟨_, rfl⟩, below_drewN _ (below_drewN _ (below_drewN _ (Below.refl _ _)))⟩
theorem bothW_lt (b o a s : Nat) : bothW b o a s < 18446744073709551616 := fadd_lt _ _

/-! ### Blocks apart from one that is written -/
theorem Sto.bel {w w' : World} {st sb m : Nat} {ws : List Nat} (h : Sto w (some ⟨st, 0, none⟩) sb ws) (h1 : st ≠ m) (h2 : sb ≠ m) (hb : Bel w.heap.size m w w') : Sto w' (some ⟨st, 0, none⟩) sb ws := by
  obtain ⟨st', e, b1, b2, hl⟩ := h
  obtain rfl : st = st' := by simpa using e
  exact ⟨st, rfl, b1.bel h1 hb, b2.bel h2 hb, hl⟩
/-- A view of a store apart from block m. -/
def Vw.Apart (v : Vw) (w : World) (sb : Nat) (ws : List Nat) (m : Nat) : Prop := v.Ok w sb ws ∧ (v = Vw.none ∨ sb ≠ m ∧ ∀ st, v.p = some ⟨st, 0, Option.none⟩ → st ≠ m)
theorem Vw.Apart.bel {v : Vw} {w w' : World} {sb m : Nat} {ws : List Nat} (h : v.Apart w sb ws m) (hb : Bel w.heap.size m w w') : v.Apart w' sb ws m := by
  obtain ⟨h1, h2⟩ := h
  refine ⟨?_, h2⟩
  rcases h2 with h2 | ⟨h2, h3⟩
  · exact .inl h2
  · rcases h1 with h1 | ⟨h1, h4⟩
    · exact .inl h1
    · obtain ⟨st, e, _⟩ := id h1
      rw [e] at h1
      exact .inr ⟨by rw [e]; exact h1.bel (h3 st e) h2 hb, h4⟩
theorem Vw.Apart.below {v : Vw} {w w' : World} {sb m : Nat} {ws : List Nat} (h : v.Apart w sb ws m) (hb : Below w.heap.size w w') : v.Apart w' sb ws m := ⟨h.1.below hb, h.2⟩
theorem Vw.Apart.of {v : Vw} {w : World} {sb m : Nat} {ws : List Nat} {st : Nat} (h : v.Ok w sb ws) (hp : v.p = Option.none ∨ v.p = some ⟨st, 0, Option.none⟩) (h1 : sb ≠ m) (h2 : st ≠ m) : v.Apart w sb ws m := by
  refine ⟨h, .inr ⟨h1, fun st' e => ?_⟩⟩
  rcases hp with hp | hp
  · rw [hp] at e; cases e
  · rw [hp] at e
    simp only [Option.some.injEq, Addr.mk.injEq, and_true] at e
    omega
theorem list_len8 (v : Vw) (ws : List Nat) : (v.list ws).length = v.r * v.c := by unfold Vw.list plcs; simp
theorem cpy_ok {x : Vw} {w W : World} {sb st sb' : Nat} {ws : List Nat} (h : x.Ok w sb ws) (hp : x.p.isNone = false → Sto W (some ⟨st, 0, none⟩) sb' (x.list ws)) : (cpyV x st).Ok W sb' (x.list ws) := by
  unfold cpyV
  cases hn : x.p.isNone
  · rw [if_neg (by decide)]
    exact newV_ok (hp hn) h.small.1 h.small.2 (list_len8 x ws)
  · rw [if_pos rfl]
    exact .inl rfl
theorem cpy_p (x : Vw) (st : Nat) : (cpyV x st).p = none ∨ (cpyV x st).p = some ⟨st, 0, none⟩ := by
  unfold cpyV
  split
  · exact .inl rfl
  · exact .inr rfl
theorem list_getD8 (v : Vw) (ws : List Nat) {k : Nat} (hk : k < v.r * v.c) : (v.list ws).getD k 0 = v.get ws (k / v.c : Nat) (k % v.c : Nat) := by
  unfold Vw.list plcs
  rw [List.getD_eq_getElem?_getD]
  simp [hk]
theorem vec_cases {p : Option Addr} {r c : Nat} (h : vecV p r c = true) : p.isSome = true ∧ (r = 1 ∨ c = 1 ∨ r = 0 ∧ c = 0) := by
  unfold vecV at h
  simp only [Bool.and_eq_true, Bool.or_eq_true, decide_eq_true_eq] at h
  exact ⟨h.1, by rcases h.2 with (h | h) | h; exact .inl h; exact .inr (.inl h); exact .inr (.inr h)⟩
theorem cpy_getVec (x : Vw) (ws : List Nat) (st k : Nat) (hv : vecV x.p x.r x.c = true) (hk : k < lenV x.p x.r x.c) : (cpyV x st).getVec (x.list ws) k = x.getVec ws k := by
  have hl : lenV x.p x.r x.c = x.r * x.c := by unfold lenV; rw [if_pos hv]
  rw [hl] at hk
  obtain ⟨hs, hc⟩ := vec_cases hv
  have hn : x.p.isNone = false := by cases h : x.p <;> simp_all
  have e : cpyV x st = newV st x.r x.c := by unfold cpyV; rw [hn]; rfl
  have hv2 : vecV (newV st x.r x.c).p (newV st x.r x.c).r (newV st x.r x.c).c = true := by
    unfold vecV at hv ⊢
    simp only [newV, Option.isSome_some, Bool.true_and]
    simp only [Bool.and_eq_true] at hv
    exact hv.2
  rw [e]
  unfold Vw.getVec
  rw [if_pos hv, if_pos hv2]
  unfold Vw.al
  simp only [newV]
  rcases hc with hc | hc | ⟨h1, h2⟩
  · rw [if_pos hc, if_pos hc]
    rw [hc, Nat.one_mul] at hk
    have h3 := list_getD8 x ws (k := k) (by rw [hc, Nat.one_mul]; exact hk)
    rw [Nat.div_eq_of_lt hk, Nat.mod_eq_of_lt hk] at h3
    show Vw.get _ _ _ _ = x.get ws 0 k
    rw [show ((0 : Nat) : Int) = 0 from rfl] at h3
    rw [← h3]
    unfold Vw.get
    rw [if_pos (by unfold inV; simp; omega)]
    simp [hc]
  · rw [hc, Nat.mul_one] at hk
    have h3 := list_getD8 x ws (k := k) (by rw [hc, Nat.mul_one]; exact hk)
    rw [hc, Nat.div_one, Nat.mod_one] at h3
    by_cases h1 : x.r = 1
    · rw [if_pos h1, if_pos h1]
      obtain rfl : k = 0 := by omega
      show Vw.get _ _ _ _ = x.get ws 0 0
      rw [show ((0 : Nat) : Int) = 0 from rfl] at h3
      rw [← h3]
      unfold Vw.get
      rw [if_pos (by unfold inV; simp; omega)]
      simp [h1]
    · rw [if_neg h1, if_neg h1]
      show Vw.get _ _ _ _ = x.get ws k 0
      rw [show ((0 : Nat) : Int) = 0 from rfl] at h3
      rw [← h3]
      unfold Vw.get
      rw [if_pos (by unfold inV; simp; omega)]
      simp [hc, h1]
  · rw [h1, h2] at hk
    omega
end Go.Proofs.Ytbcdpibcieadlaa

/- Layer 8: times. No condition but on lengths. -/
namespace Go.Proofs.Ytbcdpibcieadlaa
open Go Go.RowKit
set_option maxRecDepth 1000000

/-- A function value of two places that tells floats, in every world that is as w was but for block m. -/
def Fn2 (w : World) (m : Nat) (v : Value) (r c : Nat) (g : Nat → Nat → Nat) : Prop :=
  ∃ f first cap, v = .func (.func f) first cap ∧ Enters Try.prog f ∧ ∀ (i k : Nat) W, i < r → k < c → Bel w.heap.size m w W → Calls Try.prog f (first ++ (#[.int .i64 i, .int .i64 k] ++ cap)) W fun e w' => (∃ s, e = .returned (.float .f64 (raw (g i k) s))) ∧ Below W.heap.size W w'
def six (w : World) (m : Nat) (v : Vw) : World := (((((w.setCell ⟨m, 0, none⟩ (.pointer v.p)).setCell ⟨m, 1, none⟩ (.int .i64 v.r)).setCell ⟨m, 2, none⟩ (.int .i64 v.c)).setCell ⟨m, 3, none⟩ (.int .i64 v.o)).setCell ⟨m, 4, none⟩ (.int .i64 v.d)).setCell ⟨m, 5, none⟩ (.int .i64 v.u)
theorem six_bel (B : Nat) (w : World) (m : Nat) (v : Vw) : Bel B m w (six w m v) := ((((((Bel.refl B m w).set 0 _).set 1 _).set 2 _).set 3 _).set 4 _).set 5 _
theorem six_box {w : World} {m : Nat} {u : Vw} (h : Box w m [.pointer u.p, .int .i64 u.r, .int .i64 u.c, .int .i64 u.o, .int .i64 u.d, .int .i64 u.u]) (v : Vw) : Box (six w m v) m [.pointer v.p, .int .i64 v.r, .int .i64 v.c, .int .i64 v.o, .int .i64 v.d, .int .i64 v.u] := h.put6 _ _ _ _ _ _
theorem six_other {w : World} {m n : Nat} {cs : List Value} (h : Box w n cs) (hne : n ≠ m) (v : Vw) : Box (six w m v) n cs := h.other6 hne _ _ _ _ _ _
theorem six_below {B m : Nat} {a w : World} (h : Below B a w) (hm : B ≤ m) (v : Vw) : Below B a (six w m v) := below_set (below_set (below_set (below_set (below_set (below_set h hm _ _) hm _ _) hm _ _) hm _ _) hm _ _) hm _ _
set_option maxHeartbeats 4000000 in
theorem Times1_any (W : World) (f : FuncId) (first cap : Array Value) (bm bi i k : Nat) (G : Nat) (h1 : Box W bm [.func (.func f) first cap]) (h2 : Box W bi [.int .i64 i]) (hE : Enters Try.prog f)
    (hf : Calls Try.prog f (first ++ (#[.int .i64 i, .int .i64 k] ++ cap)) W fun e w' => (∃ s, e = .returned (.float .f64 (raw G s))) ∧ Below W.heap.size W w') :
    Calls Try.prog 107 #[.int .i64 k, .pointer (some ⟨bm, 0, none⟩), .pointer (some ⟨bi, 0, none⟩)] W fun e w' => (∃ s, e = .returned (.float .f64 (raw G s))) ∧ Below W.heap.size W w' := by
  obtain ⟨p1, p2, p3⟩ := h1.facts
  obtain ⟨q1, q2, q3⟩ := h2.facts
  have HE := Lib.hid hE
  have HF := Lib.hid hf
  clear h1 h2 hE hf
  go_enter Try.func107, Try.ntmps107
  go_wp2_with fail
  rw [HE.out _ _]
  go_simp
  refine HF.out.mono ?_
  rintro e w1 ⟨⟨s, rfl⟩, hb1⟩
  dsimp only
  go_wp2_with fail
  go_ret
  exact ⟨⟨s, rfl⟩, hb1⟩
/-- What times holds on to. -/
structure TmK (wr : World) (fm : Value) (m b0 b1 b3 b5 s1 s2 : Nat) (cx y cy : Vw) (lx ly : List Nat) : Prop where
  x0 : Box wr b0 [fm]
  x1 : Box wr b1 [.pointer cx.p, .int .i64 cx.r, .int .i64 cx.c, .int .i64 cx.o, .int .i64 cx.d, .int .i64 cx.u]
  x3 : Box wr b3 [.pointer y.p, .int .i64 y.r, .int .i64 y.c, .int .i64 y.o, .int .i64 y.d, .int .i64 y.u]
  x5 : Box wr b5 [.pointer cy.p, .int .i64 cy.r, .int .i64 cy.c, .int .i64 cy.o, .int .i64 cy.d, .int .i64 cy.u]
  ax : cx.Apart wr s1 lx m
  ay : cy.Apart wr s2 ly m
  n0 : b0 ≠ m
  n1 : b1 ≠ m
  n3 : b3 ≠ m
  n5 : b5 ≠ m
section
variable {wr wr' : World} {fm : Value} {m b0 b1 b3 b5 s1 s2 : Nat} {cx y cy : Vw} {lx ly : List Nat}
theorem TmK.bel (h : TmK wr fm m b0 b1 b3 b5 s1 s2 cx y cy lx ly) (hb : Bel wr.heap.size m wr wr') : TmK wr' fm m b0 b1 b3 b5 s1 s2 cx y cy lx ly :=
  ⟨h.x0.bel h.n0 hb, h.x1.bel h.n1 hb, h.x3.bel h.n3 hb, h.x5.bel h.n5 hb, h.ax.bel hb, h.ay.bel hb, h.n0, h.n1, h.n3, h.n5⟩
theorem TmK.below (h : TmK wr fm m b0 b1 b3 b5 s1 s2 cx y cy lx ly) (hb : Below wr.heap.size wr wr') : TmK wr' fm m b0 b1 b3 b5 s1 s2 cx y cy lx ly := h.bel (Bel.of hb)
end
theorem sumG_congr {x x' y y' : Nat → Nat} {lo : Nat} : ∀ n, (∀ k, k < n → x (lo + k) = x' (lo + k) ∧ y (lo + k) = y' (lo + k)) → sumG x y lo n = sumG x' y' lo n
  | 0, _ => rfl
  | n + 1, h => by rw [sumG, sumG, sumG_congr n (fun k hk => h k (by omega)), (h n (by omega)).1, (h n (by omega)).2]
theorem list_words8 {v : Vw} {ws : List Nat} (h : Words ws) : Words (v.list ws) := fun x hx => by
  unfold Vw.list at hx
  obtain ⟨y, _, rfl⟩ := List.mem_map.1 hx
  exact get_word h _ _
theorem sumG_lt (x y : Nat → Nat) (lo : Nat) : ∀ n, sumG x y lo n < 18446744073709551616
  | 0 => by rw [sumG]; decide
  | n + 1 => by rw [sumG]; exact fadd_lt _ _
/-- What y's store comes to. -/
def timesL (a b : Nat) (g : Nat → Nat → Nat) (X Y : Nat → Nat) (y : Vw) (cols : Nat) (ys : List Nat) : Nat → List Nat
  | 0 => ys
  | n + 1 => y.putVec (timesL a b g X Y y cols ys n) n (bothW b (Y n) a (sumG (g n) X 0 cols))
set_option maxHeartbeats 16000000 in
theorem times_any (w : World) (a b rows cols : Nat) (fm : Value) (g : Nat → Nat → Nat) (x y : Vw) (sx sy : Nat) (xs ys : List Nat) (hx : x.Ok w sx xs) (hy : y.Ok w sy ys) (hwx : Words xs) (hwy : Words ys) (hm : Fn2 w sy fm rows cols g)
    (hvx : vecV x.p x.r x.c = true) (hvy : vecV y.p y.r y.c = true) (hc : cols = lenV x.p x.r x.c) (hr : rows = lenV y.p y.r y.c) (hsy : sy < w.heap.size) (hsty : ∀ st, y.p = some ⟨st, 0, none⟩ → st < w.heap.size) :
    Calls Try.prog 72 #[.float .f64 a, .int .i64 rows, .int .i64 cols, fm, x.val, .float .f64 b, y.val] w fun e w' => e = .returned (.tuple #[]) ∧ ∃ ws, y.Ok w' sy ws ∧ Rw ws (timesL a b g (fun k => x.getVec xs k) (fun k => y.getVec ys k) y cols ys rows) ∧ Words ws ∧ Bel w.heap.size sy w w' := by
  obtain ⟨f, first, cap, rfl, hE, hf⟩ := hm
  have hrl := lenV_le (p := y.p) hy.small
  have hcl := lenV_le (p := x.p) hx.small
  obtain ⟨W0, hW0⟩ : ∃ W0, W0 = ((w.alloc (.cells #[.func (.func f) first cap] 85)).alloc (.cells #[.pointer x.p, .int .i64 x.r, .int .i64 x.c, .int .i64 x.o, .int .i64 x.d, .int .i64 x.u] 29)).alloc (.cells #[.pointer y.p, .int .i64 y.r, .int .i64 y.c, .int .i64 y.o, .int .i64 y.d, .int .i64 y.u] 29) := ⟨_, rfl⟩
  have hB0 : Below w.heap.size w W0 := hW0 ▸ (((Below.refl _ _).alloc (Nat.le_refl _) _).alloc (by simp) _).alloc (by simp; omega) _
  have x0 : Box W0 w.heap.size [.func (.func f) first cap] := hW0 ▸ ((Box.newA w [_] _ rfl).alloc _).alloc _
  have x1 : Box W0 (w.heap.size + 1) [.pointer x.p, .int .i64 x.r, .int .i64 x.c, .int .i64 x.o, .int .i64 x.d, .int .i64 x.u] := hW0 ▸ (Box.newA _ [.pointer x.p, .int .i64 x.r, .int .i64 x.c, .int .i64 x.o, .int .i64 x.d, .int .i64 x.u] _ (by simp)).alloc _
  have x3 : Box W0 (w.heap.size + 1 + 1) [.pointer y.p, .int .i64 y.r, .int .i64 y.c, .int .i64 y.o, .int .i64 y.d, .int .i64 y.u] := hW0 ▸ Box.newA _ [.pointer y.p, .int .i64 y.r, .int .i64 y.c, .int .i64 y.o, .int .i64 y.d, .int .i64 y.u] _ (by simp)
  have HX := Lib.hid (show _ ∧ _ ∧ _ ∧ _ from ⟨hB0, x0, x1, x3⟩)
  have HC := Lib.hid (fun W (h : Below w.heap.size w W) => Copy_any W x sx xs (hx.below h))
  have HCy := Lib.hid (fun W (h : Below w.heap.size w W) => Copy_any W y sy ys (hy.below h))
  clear hB0 x0 x1 x3
  show Calls Try.prog 72 #[.float .f64 a, .int .i64 rows, .int .i64 cols, .func (.func f) first cap, (.agg #[.pointer x.p, .int .i64 x.r, .int .i64 x.c, .int .i64 x.o, .int .i64 x.d, .int .i64 x.u]), .float .f64 b, (.agg #[.pointer y.p, .int .i64 y.r, .int .i64 y.c, .int .i64 y.o, .int .i64 y.d, .int .i64 y.u])] w _
  have HY := Lib.hid (show _ ∧ _ ∧ _ ∧ _ from ⟨hx, hy, hwx, hwy⟩)
  have HV := Lib.hid (show _ ∧ _ ∧ _ ∧ _ from ⟨hvx, hvy, hc, hr⟩)
  have HE := Lib.hid hE
  have HF := Lib.hid hf
  have hrr : rows ≤ 262144 := by omega
  have hcc : cols ≤ 262144 := by omega
  have HS := Lib.hid (And.intro hsy hsty)
  clear hx hy hwx hwy hvx hvy hc hr hE hf hrl hcl hsty
  go_enter Try.func72, Try.ntmps72
  go_upto_region 1 with (fail)
  rw [← hW0]
  clear hW0
  obtain ⟨hB0, x0, x1, x3⟩ := HX.out
  have hdr : Below W0.heap.size W0 W0.drew := below_drewN 1 (Below.refl _ W0)
  have hB1 := below_step hB0 hB0.size hdr
  replace x0 := x0.below hdr
  replace x1 := x1.below hdr
  replace x3 := x3.below hdr
  have hsz := hdr.size
  have hl3 := x3.lt
  refine wp_region_items 5 [(true, 2), (true, 3), (false, 0), (false, 1), (false, 4)] (fun W => ∀ i, W.cell? ⟨w.heap.size + 1 + 1, i, none⟩ = ([.pointer y.p, .int .i64 y.r, .int .i64 y.c, .int .i64 y.o, .int .i64 y.d, .int .i64 y.u] : List Value)[i]?) (by kernel_rfl) (by kernel_rfl) x3.cell ?_
  generalize W0.drew = W1 at *
  clear hdr hB0 HX
  iterate 2 (refine iW_take (v := ?_) rfl rfl ?_ ?_; rotate_left; (next => (intro w' hSw; (try dsimp only at hSw); go_simp; (try (rw [if_pos (by omega)]; go_simp)); (try with_reducible rfl))); (simp only [Act.put, List.setIfInBounds_toArray, List.set_cons_zero, List.set_cons_succ]))
  have HX1 := Lib.hid (show _ ∧ _ ∧ _ ∧ _ from ⟨hB1, x0, x1, x3⟩)
  obtain ⟨p1, p2, p3⟩ := x1.facts
  have HS3 := Lib.hid x3.cell
  clear hB1 x0 x1 x3
  refine iW_mid rfl rfl ?_
  go_simp
  refine ⟨HS3.out, ?_⟩
  refine iW_mid rfl rfl ?_
  go_simp
  refine (HC.out W1 HX1.out.1).mono ?_
  rintro e W2 ⟨st1, sb1, rfl, hst1, k1, k2, hb2⟩
  obtain ⟨hB1, x0, x1, x3⟩ := HX1.out
  have hB2 := below_step hB1 hB1.size hb2
  have hs1 := hB1.size
  have ax := Vw.Apart.of (m := sy) (cpy_ok HY.out.1 hst1) (cpy_p x st1) (by have := HS.out.1; omega) (by have := HS.out.1; omega)
  have hgx := fun k hk => cpy_getVec x xs st1 k HV.out.1 hk
  generalize hcx : cpyV x st1 = cx at *
  have hne1 : cx.p = none ∨ cx.p = some ⟨st1, 0, none⟩ := hcx ▸ cpy_p x st1
  replace x0 := x0.below hb2
  replace x1 := x1.below hb2
  replace x3 := x3.below hb2
  clear p1 p2 p3 hcx
  have hS3 := x3.cell
  obtain ⟨p1, p2, p3⟩ := x1.facts
  have ax2 := Vw.Apart.of (m := w.heap.size + 1) ax.1 hne1 (by omega) (by omega)
  have x0' := six_other x0 (show w.heap.size ≠ w.heap.size + 1 by omega) cx
  have x1' := six_box x1 cx
  have x3' := six_other x3 (show w.heap.size + 1 + 1 ≠ w.heap.size + 1 by omega) cx
  have hB3 := six_below hB2 (show w.heap.size ≤ w.heap.size + 1 by omega) cx
  have ax' : cx.Apart (six W2 (w.heap.size + 1) cx) sb1 (x.list xs) sy := ⟨(ax2.bel (six_bel _ _ _ _)).1, ax.2⟩
  have HX2 := Lib.hid (show _ ∧ _ ∧ _ ∧ _ ∧ _ from ⟨hB3, x0', x1', x3', ax'⟩)
  have HS2 := Lib.hid hS3
  have HG1 := Lib.hid hgx
  clear hB1 hb2 hB2 x0 x1 x3 x1' ax hgx hst1 HX1 HS3 ax2 x0' x3' hB3 ax' hne1 k1 k2
  dsimp only [Vw.val]
  refine ⟨HS2.out, ?_⟩
  refine iW_mid rfl rfl ?_
  go_simp
  refine iW_nil ?_
  go_simp
  go_wp2
  refine NoPanic.normal ?_
  go_upto_region 2 with (fail)
  rw [show (((((W2.setCell ⟨w.heap.size + 1, 0, none⟩ (.pointer cx.p)).setCell ⟨w.heap.size + 1, 1, none⟩ (.int .i64 cx.r)).setCell ⟨w.heap.size + 1, 2, none⟩ (.int .i64 cx.c)).setCell ⟨w.heap.size + 1, 3, none⟩ (.int .i64 cx.o)).setCell ⟨w.heap.size + 1, 4, none⟩ (.int .i64 cx.d)).setCell ⟨w.heap.size + 1, 5, none⟩ (.int .i64 cx.u) = six W2 (w.heap.size + 1) cx from rfl]
  clear p1 p2 p3 hS3
  generalize six W2 (w.heap.size + 1) cx = W3 at *
  have HC3 := Lib.hid (HCy.out W3 HX2.out.1)
  obtain ⟨p1, p2, p3⟩ := HX2.out.2.2.2.1.facts
  go_wp2_with fail
  refine HC3.out.mono ?_
  rintro e W4 ⟨st2, sb2, rfl, hst2, k1, k2, hb4⟩
  obtain ⟨hB3, x0, x1, x3, ax⟩ := HX2.out
  have hs3 := hB3.size
  have hl33 := x3.lt
  have ay := Vw.Apart.of (m := sy) (cpy_ok HY.out.2.1 hst2) (cpy_p y st2) (by have := HS.out.1; omega) (by have := HS.out.1; omega)
  have hgy := fun k hk => cpy_getVec y ys st2 k HV.out.2.1 hk
  generalize cpyV y st2 = cy at *
  have hbA : Below W4.heap.size W4 (W4.alloc (.cells #[.pointer cy.p, .int .i64 cy.r, .int .i64 cy.c, .int .i64 cy.o, .int .i64 cy.d, .int .i64 cy.u] 29)) := (Below.refl _ _).alloc (Nat.le_refl _) _
  have x5 := Box.newA W4 [.pointer cy.p, .int .i64 cy.r, .int .i64 cy.c, .int .i64 cy.o, .int .i64 cy.d, .int .i64 cy.u] 29 rfl
  have hb34 := below_step hb4 hb4.size hbA
  have hB5 := below_step hB3 hB3.size hb34
  replace x0 := x0.below hb34
  replace x1 := x1.below hb34
  replace x3 := x3.below hb34
  replace ax := ax.below hb34
  replace ay := ay.below hbA
  have hs4 := hb4.size
  clear p1 p2 p3 HC3 hst2 hb4 hb34 hB3 HX2 HC HCy
  dsimp only [Vw.val]
  go_upto_region 3 with (fail)
  have hs5 := x5.lt
  generalize W4.alloc (.cells #[.pointer cy.p, .int .i64 cy.r, .int .i64 cy.c, .int .i64 cy.o, .int .i64 cy.d, .int .i64 cy.u] 29) = W5 at *
  have hp5 : w.heap.size + 1 + 1 < W4.heap.size := by omega
  generalize W4.heap.size = P5 at *
  have HK := Lib.hid (TmK.mk x0 x1 x3 x5 ax ay (show w.heap.size ≠ sy by have := HS.out.1; omega) (show w.heap.size + 1 ≠ sy by have := HS.out.1; omega) (show w.heap.size + 1 + 1 ≠ sy by have := HS.out.1; omega) (show P5 ≠ sy by have := HS.out.1; omega))
  have HB5 := Lib.hid (And.intro (Bel.of (s := sy) hB5) (HY.out.2.1.below hB5))
  have HG2 := Lib.hid hgy
  clear hbA hB5 x0 x1 x3 x5 ax ay hgy hs1 hs3 hs4 hs5 k1 k2 hl3 hsz hp5 hl33
  go_wp2_with fail
  go_loopw [25] (fun s25 wr => ∃ (i : Nat) (ws : List Nat), i ≤ rows ∧ s25 = .int .i64 i ∧ TmK wr (.func (.func f) first cap) sy w.heap.size (w.heap.size + 1) (w.heap.size + 1 + 1) P5 sb1 sb2 cx y cy (x.list xs) (y.list ys) ∧ y.Ok wr sy ws ∧ Rw ws (timesL a b g (fun k => x.getVec xs k) (fun k => y.getVec ys k) y cols ys i) ∧ Words ws ∧ Bel w.heap.size sy w wr) (fun s25 _ => rows - (intOf s25).toNat)
  case atStart => exact ⟨0, ys, Nat.zero_le _, rfl, HK.out, HB5.out.2, Rw.self HY.out.2.2.2, HY.out.2.2.2, HB5.out.1⟩
  case round =>
    obtain ⟨i, ws, hi, rfl, hK, hok, hrw, hWw, hBl⟩ := hrel
    by_cases hlt : i < rows
    · have HR := Lib.hid (show _ ∧ _ ∧ _ ∧ _ ∧ _ ∧ _ from ⟨hK, hok, hrw, hWw, hBl, hlt⟩)
      clear hK hok hrw hWw hBl hi
      go_upto_region 6 with (fail)
      obtain ⟨hK, hok, hrw, hWw, hBl, _⟩ := HR.out
      have hbA : Below wr.heap.size wr (wr.alloc (.cells #[.int .i64 i] 3)) := (Below.refl _ _).alloc (Nat.le_refl _) _
      have z16 := Box.newA wr [.int .i64 i] 3 rfl
      generalize wr.alloc (.cells #[.int .i64 i] 3) = wa at *
      have hrs := hBl.size
      have hws := hbA.size
      have hKa := hK.below hbA
      have hoka := hok.below hbA
      have hBla : Bel w.heap.size sy w wa := hBl.trans ((Bel.of hbA).mono hrs)
      have hz := z16.lt
      have hP16 : wr.heap.size ≠ sy := by have := HS.out.1; omega
      generalize wr.heap.size = P16 at *
      have hsum := sum_any wa 0 cols _ _ _ _ (⟨_, _, _, rfl, enters_of Try.func107 (by kernel_rfl) rfl, fun k W _ hk hb => Times1_any W f first cap w.heap.size P16 i k (g i k) (hKa.x0.below hb) (z16.below hb) HE.out (HF.out i k W hlt hk (hBla.trans ((Bel.of hb).mono (by have := hBla.size; omega))))⟩ : Fnk wa (.func (.func 107) #[] #[.pointer (some ⟨w.heap.size, 0, none⟩), .pointer (some ⟨P16, 0, none⟩)]) 0 cols (g i)) (Fnk.get wa cx sb1 (x.list xs) hKa.ax.1 (list_words8 HY.out.2.2.1) 0 cols) (by omega)
      rw [Nat.sub_zero, sumG_congr (x' := g i) (y' := fun k => x.getVec xs k) cols (fun k hk => ⟨rfl, by rw [Nat.zero_add]; exact HG1.out k (by rw [← HV.out.2.2.1]; exact hk)⟩)] at hsum
      have HSum := Lib.hid hsum
      have HRa := Lib.hid (show _ ∧ _ ∧ _ ∧ _ ∧ _ ∧ _ ∧ _ ∧ _ from ⟨hKa, hoka, hrw, hWw, hBla, hlt, z16, hP16⟩)
      obtain ⟨p1, p2, p3⟩ := hKa.x1.facts
      obtain ⟨q1, q2, q3⟩ := z16.facts
      clear hK hok hrw hWw hBl hbA z16 hrs hws hKa hoka hBla hz hP16 hsum HR
      go_wp2_with fail
      refine HSum.out.mono ?_
      rintro e wb ⟨⟨ss, rfl⟩, hbb⟩
      obtain ⟨hKa, hoka, hrw, hWw, hBla, _, z16, hP16⟩ := HRa.out
      have hKb := hKa.below hbb
      have hokb := hoka.below hbb
      have hBlb : Bel w.heap.size sy w wb := hBla.trans ((Bel.of hbb).mono hBla.size)
      have zb16 := z16.below hbb
      have HRb := Lib.hid (show _ ∧ _ ∧ _ ∧ _ ∧ _ ∧ _ ∧ _ from ⟨hKb, hokb, hrw, hWw, hBlb, hlt, zb16⟩)
      clear p1 p2 p3 q1 q2 q3 hKa hoka hrw hWw hBla z16 hbb hKb hokb hBlb zb16 HRa HSum
      dsimp only
      go_upto_region 7 with (fail)
      obtain ⟨hKb, hokb, hrw, hWw, hBlb, _, zb16⟩ := HRb.out
      have hdr : Below wb.heap.size wb wb.drew := below_drewN 1 (Below.refl _ wb)
      have hKc := hKb.below hdr
      have hokc := hokb.below hdr
      have hBlc : Bel w.heap.size sy w wb.drew := hBlb.trans ((Bel.of hdr).mono hBlb.size)
      have zc16 := zb16.below hdr
      have HSt := Lib.hid (show ∀ W, Below wb.drew.heap.size wb.drew W → (fun W => (∀ j, W.cell? ⟨P16, j, none⟩ = ([.int .i64 i] : List Value)[j]?) ∧ (∀ j, W.cell? ⟨P5, j, none⟩ = ([.pointer cy.p, .int .i64 cy.r, .int .i64 cy.c, .int .i64 cy.o, .int .i64 cy.d, .int .i64 cy.u] : List Value)[j]?)) W from fun W h => ⟨(zc16.below h).cell, (hKc.x5.below h).cell⟩)
      refine wp_region_items 9 [(true, 0), (true, 1), (true, 2), (true, 3), (true, 4), (true, 6), (true, 7), (false, 5), (false, 8)] (fun W => (∀ j, W.cell? ⟨P16, j, none⟩ = ([.int .i64 i] : List Value)[j]?) ∧ (∀ j, W.cell? ⟨P5, j, none⟩ = ([.pointer cy.p, .int .i64 cy.r, .int .i64 cy.c, .int .i64 cy.o, .int .i64 cy.d, .int .i64 cy.u] : List Value)[j]?)) (by kernel_rfl) (by kernel_rfl) (HSt.out _ (Below.refl _ _)) ?_
      generalize wb.drew = wc at *
      have hgv := HG2.out i (by rw [← HV.out.2.2.2]; exact hlt)
      have HGet := Lib.hid (hgv ▸ Get_any wc cy sb2 (y.list ys) i hKc.ay.1)
      have HRc := Lib.hid (show _ ∧ _ ∧ _ ∧ _ ∧ _ ∧ _ from ⟨hKc, hokc, hrw, hWw, hBlc, hlt⟩)
      clear hKb hokb hrw hWw hBlb zb16 hdr hKc hokc hBlc zc16 HRb hgv
      iterate 7 (refine iW_take (v := ?_) rfl rfl ?_ ?_; rotate_left; (next => (intro w' hSw; (try dsimp only at hSw); go_simp; (try (rw [if_pos (by omega)]; go_simp)); (try with_reducible rfl))); (simp only [Act.put, List.setIfInBounds_toArray, List.set_cons_zero, List.set_cons_succ]))
      refine iW_mid rfl rfl ?_
      go_simp
      refine HGet.out.mono ?_
      rintro e wd ⟨rfl, hbd⟩
      refine ⟨HSt.out _ hbd, ?_⟩
      refine iW_mid rfl rfl ?_
      go_simp
      refine (both_any wd b _ a _ ss).mono ?_
      rintro e we ⟨⟨u, rfl⟩, hbe⟩
      have hbde := below_step hbd hbd.size hbe
      refine ⟨HSt.out _ hbde, ?_⟩
      refine iW_nil ?_
      obtain ⟨hKc, hokc, hrw, hWw, hBlc, _⟩ := HRc.out
      have hKe := hKc.below hbde
      have hoke := hokc.below hbde
      have hBle : Bel w.heap.size sy w we := hBlc.trans ((Bel.of hbde).mono hBlc.size)
      have HPut := Lib.hid (Put_any we y sy ws i (raw (bothW b (y.getVec ys i) a (sumG (g i) (fun k => x.getVec xs k) 0 cols)) u) hoke)
      have HRe := Lib.hid (show _ ∧ _ ∧ _ ∧ _ ∧ _ from ⟨hKe, hrw, hWw, hBle, hlt⟩)
      clear hKc hokc hrw hWw hBlc hKe hoke hBle hbd hbe hbde HRc HSt HGet
      go_simp
      go_wp2_with fail
      refine HPut.out.mono ?_
      rintro e wf ⟨rfl, hokf, hbf⟩
      obtain ⟨hKe, hrw, hWw, hBle, _⟩ := HRe.out
      have HRf := Lib.hid (show _ ∧ _ ∧ _ ∧ _ ∧ _ from ⟨hKe.bel hbf, hokf, hrw.putVec y i (bothW b (y.getVec ys i) a (sumG (g i) (fun k => x.getVec xs k) 0 cols)) u, words_putVec hWw y i (raw_lt (bothW_lt b (y.getVec ys i) a (sumG (g i) (fun k => x.getVec xs k) 0 cols)) u), hBle.trans (hbf.mono hBle.size)⟩)
      clear hKe hrw hWw hBle hokf hbf HRe HPut
      dsimp only
      go_wp2
      refine NoPanic.normal ?_
      go_wp2_with fail
      go_roundw
      case rel => exact ⟨i + 1, _, by omega, by go_num, HRf.out.1, HRf.out.2.1, by rw [timesL]; exact HRf.out.2.2.1, HRf.out.2.2.2.1, HRf.out.2.2.2.2⟩
      case measure => simp [intOf]; omega
    · obtain rfl : i = rows := by omega
      have HR := Lib.hid (show _ ∧ _ ∧ _ ∧ _ from ⟨hok, hrw, hWw, hBl⟩)
      clear hK hok hrw hWw hBl hi
      go_wp2_with fail
      refine bodyPost_end (results_none rfl _ _ _) rfl ?_
      exact ⟨rfl, ws, HR.out⟩
end Go.Proofs.Ytbcdpibcieadlaa
