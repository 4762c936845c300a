/- Layer 8: sums of sizes, the greatest size. No condition but on lengths. -/
import Derived.Test.YtbcdpibcieadlaaKd
namespace Go.Proofs.Ytbcdpibcieadlaa
open Go Go.RowKit
set_option maxRecDepth 100000

/-- Sizes, added up. -/
def asumG (x : Nat → Nat) : Nat → Nat
  | 0 => 0
  | n + 1 => fadd (asumG x n) (fabs (x n))
def asumV (x : Vw) (wx : List Nat) : Nat := if openE [x] (vecV x.p x.r x.c) = 0 then asumG (fun k => x.getVec wx k) (lenV x.p x.r x.c) else 0
theorem open_one (W : World) (x : Vw) (sx : Nat) (wx : List Nat) (b : Nat) (hx : x.Ok W sx wx) (hb : Box W b ([x].flatMap Vw.cs)) :
    Calls Try.prog 61 #[.func (.func 63) #[(.agg #[.pointer x.p, .int .i64 x.r, .int .i64 x.c, .int .i64 x.o, .int .i64 x.d, .int .i64 x.u])] #[], .slice (some ⟨b, 0, none⟩) 1 1] W fun e w' => e = .returned (.int .i64 (openE [x] (vecV x.p x.r x.c))) ∧ Below W.heap.size W w' :=
  open_anyM W 63 #[(.agg #[.pointer x.p, .int .i64 x.r, .int .i64 x.c, .int .i64 x.o, .int .i64 x.d, .int .i64 x.u])] b [x] (vecV x.p x.r x.c) hb (fun v hv => by rw [List.mem_singleton] at hv; subst hv; exact ⟨sx, wx, hx⟩) (by simp) (enters_of Try.func63 (by kernel_rfl) rfl) (fun _ W' _ => Vector_any x.p x.r x.c x.o x.d x.u W')
set_option maxHeartbeats 8000000 in
theorem Asum_any (w : World) (x : Vw) (sx : Nat) (wx : List Nat) (hx : x.Ok w sx wx) (hwx : Words wx) :
    Calls Try.prog 19 #[x.val] w fun e w' => (∃ s, e = .returned (.tuple #[.float .f64 (raw (asumV x wx) s), .int .i64 (openE [x] (vecV x.p x.r x.c))])) ∧ Below w.heap.size w w' := by
  have HL := Lib.hid (fun W => Len_any x.p x.r x.c x.o x.d x.u W hx.small.1 hx.small.2)
  have hll := lenV_le (p := x.p) hx.small
  have HO := Lib.hid (fun W (h : Below w.heap.size w W) b hb => open_one W x sx wx b (hx.below h) hb)
  have HG := Lib.hid (fun W (h : Below w.heap.size w W) (i : Nat) => Get_any W x sx wx i (hx.below h))
  have HWx := Lib.hid (fun i => getVec_lt (v := x) hwx i)
  unfold asumV
  generalize openE [x] (vecV x.p x.r x.c) = E at *
  generalize lenV x.p x.r x.c = n at *
  obtain ⟨D, hD⟩ : ∃ D, D = (if E = 0 then asumG (fun k => x.getVec wx k) n else 0) := ⟨_, rfl⟩
  rw [← hD]
  obtain ⟨W0, hW0⟩ : ∃ W0, W0 = (w.alloc (.cells #[.pointer x.p, .int .i64 x.r, .int .i64 x.c, .int .i64 x.o, .int .i64 x.d, .int .i64 x.u] 29)) := ⟨_, rfl⟩
  have hB0 : Below w.heap.size w W0 := hW0 ▸ (Below.refl _ _).alloc (Nat.le_refl _) _
  have x2 : Box W0 w.heap.size [.pointer x.p, .int .i64 x.r, .int .i64 x.c, .int .i64 x.o, .int .i64 x.d, .int .i64 x.u] := hW0 ▸ Box.newA w [.pointer x.p, .int .i64 x.r, .int .i64 x.c, .int .i64 x.o, .int .i64 x.d, .int .i64 x.u] _ rfl
  have HX := Lib.hid (show _ ∧ _ from ⟨hB0, x2⟩)
  clear hx hwx hB0 x2
  show Calls Try.prog 19 #[(.agg #[.pointer x.p, .int .i64 x.r, .int .i64 x.c, .int .i64 x.o, .int .i64 x.d, .int .i64 x.u])] w _
  go_enter Try.func19, Try.ntmps19
  go_upto_region 1 with (fail)
  rw [← hW0]
  clear hW0
  obtain ⟨hB0, x2⟩ := HX.out
  have hbA : Below W0.heap.size W0 (W0.alloc (.cells #[.pointer x.p, .int .i64 x.r, .int .i64 x.c, .int .i64 x.o, .int .i64 x.d, .int .i64 x.u] 29)) := (Below.refl _ _).alloc (Nat.le_refl _) _
  have hz : Box (W0.alloc (.cells #[.pointer x.p, .int .i64 x.r, .int .i64 x.c, .int .i64 x.o, .int .i64 x.d, .int .i64 x.u] 29)) W0.heap.size ([x].flatMap Vw.cs) := Box.newA W0 ([x].flatMap Vw.cs) _ rfl
  have hB1 := below_step hB0 hB0.size hbA
  have HC := Lib.hid (HO.out _ hB1 _ hz)
  obtain ⟨p1, p2, p3⟩ := x2.facts
  have HB1 := Lib.hid (show _ ∧ _ from ⟨hB1, x2.below hbA⟩)
  clear hB0 x2 hbA hz hB1 HO HX
  go_wp2_with fail
  refine HC.out.mono ?_
  rintro e w1 ⟨rfl, hb1⟩
  obtain ⟨hB1, x2⟩ := HB1.out
  have hB2 := below_step hB1 hB1.size hb1
  replace x2 := x2.below hb1
  clear p1 p2 p3
  have HB2 := Lib.hid (show _ ∧ _ from ⟨hB2, x2⟩)
  clear hB1 hb1 hB2 x2 HB1 HC
  dsimp only
  by_cases hE : E = 0
  · subst hE
    rw [if_pos rfl] at hD
    have HDD := Lib.hid hD
    clear hD
    obtain ⟨p1, p2, p3⟩ := HB2.out.2.facts
    go_wp2_with fail
    refine (HL.out _).mono ?_
    rintro e w2 ⟨rfl, hb2⟩
    have HB3 := Lib.hid (show _ ∧ _ from ⟨below_step HB2.out.1 HB2.out.1.size hb2, HB2.out.2.below hb2⟩)
    clear p1 p2 p3 hb2 HL HB2
    dsimp only
    go_wp2_with fail
    go_loopw [5, 17] (fun s5 s17 wr => ∃ k s : Nat, k ≤ n ∧ s5 = .float .f64 (raw (asumG (fun k => x.getVec wx k) k) s) ∧ s17 = .int .i64 k ∧ Below w.heap.size w wr ∧ Box wr w.heap.size [.pointer x.p, .int .i64 x.r, .int .i64 x.c, .int .i64 x.o, .int .i64 x.d, .int .i64 x.u]) (fun _ s17 _ => n - (intOf s17).toNat)
    case atStart => exact ⟨0, 0, Nat.zero_le _, by rw [asumG, raw_of_not (by kernel_rfl)], rfl, HB3.out.1, HB3.out.2⟩
    case round =>
      obtain ⟨k, s, hk, rfl, rfl, hB, hbx⟩ := hrel
      by_cases hlt : k < n
      · obtain ⟨p1, p2, p3⟩ := hbx.facts
        have HG1 := Lib.hid (HG.out wr hB k)
        have HB := Lib.hid (show _ ∧ _ ∧ _ from ⟨hB, hbx, hlt⟩)
        clear hB hbx hk
        go_wp2_with fail
        refine HG1.out.mono ?_
        rintro e w3 ⟨rfl, hb3⟩
        have HB4 := Lib.hid (show _ ∧ _ from ⟨below_step HB.out.1 HB.out.1.size hb3, HB.out.2.1.below hb3⟩)
        clear hb3 p1 p2 p3
        have hlt64 := HWx.out (k : Int)
        dsimp only
        go_wp2_with fail
        refine (Abs_any _ hlt64 w3).mono ?_
        rintro e w5 ⟨rfl, rfl⟩
        clear hlt64
        dsimp only
        go_wp2_with (first | (fail) | (refine wpList_flt rfl rfl rfl rfl rfl ?_; intro K hK _ _; go_frame; refine hK _ _ ?_; clear hK K))
        go_roundw
        case rel => exact ⟨k + 1, _, HB.out.2.2, by rw [asumG]; simp only [fadd_rawl]; rfl, by go_num, below_drewN _ HB4.out.1, HB4.out.2.below (below_drewN _ (Below.refl _ _))⟩
        case measure => have := HB.out.2.2; simp [intOf]; omega
      · obtain rfl : k = n := by omega
        rw [← HDD.out]
        have HB := Lib.hid hB
        clear hB hbx hk
        go_wp2_with fail
        exact bodyPost_ret (results_two rfl (rv_tmp rfl) (rv_tmp rfl)) rfl ⟨⟨s, rfl⟩, HB.out⟩
  · have t1 : (E != 0) = true := by simp [hE]
    rw [if_neg hE] at hD
    subst hD
    clear hE
    go_wp2_with fail
    exact bodyPost_ret (results_two rfl (rv_tmp rfl) (rv_tmp rfl)) rfl ⟨⟨0, by rw [raw_of_not (show isnan 0 = false by kernel_rfl)]; rfl⟩, HB2.out.1⟩
/-- The greatest size: where it stands (from 1 on; 0: nowhere), and the size. -/
def amaxG (x : Nat → Nat) : Nat → Nat × Nat
  | 0 => (0, 0)
  | n + 1 => if flt (amaxG x n).2 (fabs (x n)) || ((amaxG x n).1 == 0 && feq (fabs (x n)) (fabs (x n))) then (n + 1, fabs (x n)) else amaxG x n
def amaxV (x : Vw) (wx : List Nat) : Nat × Nat := amaxG (fun k => x.getVec wx k) (lenV x.p x.r x.c)
set_option maxHeartbeats 8000000 in
theorem Amax_any (w : World) (x : Vw) (sx : Nat) (wx : List Nat) (hx : x.Ok w sx wx) (hwx : Words wx) :
    Calls Try.prog 20 #[x.val] w fun e w' => (∃ s, e = .returned (.tuple (if openE [x] (vecV x.p x.r x.c) = 0 then #[.int .i64 ((amaxV x wx).1 - 1 : Int), .float .f64 (raw (amaxV x wx).2 s), .int .i64 0] else #[.int .i64 0, .float .f64 0, .int .i64 (openE [x] (vecV x.p x.r x.c))]))) ∧ Below w.heap.size w w' := by
  have HL := Lib.hid (fun W => Len_any x.p x.r x.c x.o x.d x.u W hx.small.1 hx.small.2)
  have hll := lenV_le (p := x.p) hx.small
  have HO := Lib.hid (fun W (h : Below w.heap.size w W) b hb => open_one W x sx wx b (hx.below h) hb)
  have HG := Lib.hid (fun W (h : Below w.heap.size w W) (i : Nat) => Get_any W x sx wx i (hx.below h))
  have HWx := Lib.hid (fun i => getVec_lt (v := x) hwx i)
  unfold amaxV
  generalize openE [x] (vecV x.p x.r x.c) = E at *
  generalize lenV x.p x.r x.c = n at *
  obtain ⟨W0, hW0⟩ : ∃ W0, W0 = (w.alloc (.cells #[.pointer x.p, .int .i64 x.r, .int .i64 x.c, .int .i64 x.o, .int .i64 x.d, .int .i64 x.u] 29)) := ⟨_, rfl⟩
  have hB0 : Below w.heap.size w W0 := hW0 ▸ (Below.refl _ _).alloc (Nat.le_refl _) _
  have x2 : Box W0 w.heap.size [.pointer x.p, .int .i64 x.r, .int .i64 x.c, .int .i64 x.o, .int .i64 x.d, .int .i64 x.u] := hW0 ▸ Box.newA w [.pointer x.p, .int .i64 x.r, .int .i64 x.c, .int .i64 x.o, .int .i64 x.d, .int .i64 x.u] _ rfl
  have HX := Lib.hid (show _ ∧ _ from ⟨hB0, x2⟩)
  clear hx hwx hB0 x2
  show Calls Try.prog 20 #[(.agg #[.pointer x.p, .int .i64 x.r, .int .i64 x.c, .int .i64 x.o, .int .i64 x.d, .int .i64 x.u])] w _
  by_cases hE : E = 0
  · subst hE
    simp only [if_true]
    obtain ⟨D, hD⟩ : ∃ D, D = amaxG (fun k => x.getVec wx k) n := ⟨_, rfl⟩
    rw [← hD]
    have HDD := Lib.hid hD
    clear hD
    go_enter Try.func20, Try.ntmps20
    go_upto_region 1 with (fail)
    rw [← hW0]
    clear hW0
    obtain ⟨hB0, x2⟩ := HX.out
    have hbA : Below W0.heap.size W0 (W0.alloc (.cells #[.pointer x.p, .int .i64 x.r, .int .i64 x.c, .int .i64 x.o, .int .i64 x.d, .int .i64 x.u] 29)) := (Below.refl _ _).alloc (Nat.le_refl _) _
    have hz : Box (W0.alloc (.cells #[.pointer x.p, .int .i64 x.r, .int .i64 x.c, .int .i64 x.o, .int .i64 x.d, .int .i64 x.u] 29)) W0.heap.size ([x].flatMap Vw.cs) := Box.newA W0 ([x].flatMap Vw.cs) _ rfl
    have hB1 := below_step hB0 hB0.size hbA
    have HC := Lib.hid (HO.out _ hB1 _ hz)
    obtain ⟨p1, p2, p3⟩ := x2.facts
    have HB1 := Lib.hid (show _ ∧ _ from ⟨hB1, x2.below hbA⟩)
    clear hB0 x2 hbA hz hB1 HO HX
    go_wp2_with fail
    refine HC.out.mono ?_
    rintro e w1 ⟨rfl, hb1⟩
    obtain ⟨hB1, x2⟩ := HB1.out
    have hB2 := below_step hB1 hB1.size hb1
    replace x2 := x2.below hb1
    clear p1 p2 p3
    have HB2 := Lib.hid (show _ ∧ _ from ⟨hB2, x2⟩)
    clear hB1 hb1 hB2 x2 HB1 HC
    dsimp only
    obtain ⟨p1, p2, p3⟩ := HB2.out.2.facts
    go_wp2_with fail
    refine (HL.out _).mono ?_
    rintro e w2 ⟨rfl, hb2⟩
    have HB3 := Lib.hid (show _ ∧ _ from ⟨below_step HB2.out.1 HB2.out.1.size hb2, HB2.out.2.below hb2⟩)
    clear p1 p2 p3 hb2 HL HB2
    dsimp only
    go_wp2_with fail
    go_loopw [6, 7, 20] (fun s6 s7 s20 wr => ∃ k s : Nat, k ≤ n ∧ s6 = .int .i64 ((amaxG (fun k => x.getVec wx k) k).1 - 1 : Int) ∧ s7 = .float .f64 (raw (amaxG (fun k => x.getVec wx k) k).2 s) ∧ s20 = .int .i64 k ∧ Below w.heap.size w wr ∧ Box wr w.heap.size [.pointer x.p, .int .i64 x.r, .int .i64 x.c, .int .i64 x.o, .int .i64 x.d, .int .i64 x.u] ∧ (amaxG (fun k => x.getVec wx k) k).1 ≤ k) (fun _ _ s20 _ => n - (intOf s20).toNat)
    case atStart => exact ⟨0, 0, Nat.zero_le _, rfl, by rw [amaxG, raw_of_not (by kernel_rfl)], rfl, HB3.out.1, HB3.out.2, Nat.le_refl _⟩
    case round =>
      obtain ⟨k, s, hk, rfl, rfl, rfl, hB, hbx, hle⟩ := hrel
      by_cases hlt : k < n
      · obtain ⟨p1, p2, p3⟩ := hbx.facts
        have HG1 := Lib.hid (HG.out wr hB k)
        have hlt64 := HWx.out (k : Int)
        obtain ⟨ga, hga⟩ : ∃ g, g = amaxG (fun k => x.getVec wx k) k := ⟨_, rfl⟩
        have hnx : amaxG (fun k => x.getVec wx k) (k + 1) = if flt ga.2 (fabs (x.getVec wx k)) || (ga.1 == 0 && feq (fabs (x.getVec wx k)) (fabs (x.getVec wx k))) then (k + 1, fabs (x.getVec wx k)) else ga := by rw [amaxG, ← hga]
        rw [← hga] at hle ⊢
        have HB := Lib.hid (show _ ∧ _ ∧ _ ∧ _ from ⟨hB, hbx, hlt, hle⟩)
        have HNX0 := Lib.hid hnx
        have hg0 : decide ((ga.1 : Int) - 1 < 0) = (ga.1 == 0) := by rw [Bool.eq_iff_iff]; simp; omega
        clear hB hbx hk hga hnx hle
        generalize x.getVec wx (k : Int) = v at *
        obtain ⟨g1, g2⟩ := ga
        dsimp only at *
        go_wp2_with fail
        refine HG1.out.mono ?_
        rintro e w3 ⟨rfl, hb3⟩
        have HB4 := Lib.hid (show _ ∧ _ from ⟨below_step HB.out.1 HB.out.1.size hb3, HB.out.2.1.below hb3⟩)
        clear hb3 p1 p2 p3
        dsimp only
        go_wp2_with fail
        refine (Abs_any _ hlt64 w3).mono ?_
        rintro e w5 ⟨rfl, rfl⟩
        clear hlt64
        dsimp only
        obtain ⟨s', hs'⟩ := raw_self (b := fabs v) (by unfold fabs; omega)
        have HS' := Lib.hid hs'
        clear hs'
        cases h1 : flt g2 (fabs v)
        · cases h2 : (g1 == 0)
          · rw [h2] at hg0
            have hnx := HNX0.out
            rw [h1, h2, Bool.false_and, Bool.or_false, if_neg (by decide)] at hnx
            have HNX := Lib.hid hnx
            clear hnx
            go_wp2_with fail
            go_roundw
            case rel => exact ⟨k + 1, s, HB.out.2.2.1, by rw [HNX.out], by rw [HNX.out], by go_num, HB4.out.1, HB4.out.2, by rw [HNX.out]; have := HB.out.2.2.2; omega⟩
            case measure => have := HB.out.2.2.1; simp [intOf]; omega
          · rw [h2] at hg0
            have hnx := HNX0.out
            cases h3 : feq (fabs v) (fabs v)
            · skip
              rw [h1, h2, h3, Bool.and_false, Bool.or_false, if_neg (by decide)] at hnx
              have HNX := Lib.hid hnx
              clear hnx
              go_wp2_with fail
              go_roundw
              case rel => exact ⟨k + 1, s, HB.out.2.2.1, by rw [HNX.out], by rw [HNX.out], by go_num, HB4.out.1, HB4.out.2, by rw [HNX.out]; have := HB.out.2.2.2; omega⟩
              case measure => have := HB.out.2.2.1; simp [intOf]; omega
            · skip
              rw [h1, h2, h3, Bool.and_true, Bool.or_true, if_pos rfl] at hnx
              have HNX := Lib.hid hnx
              clear hnx
              go_wp2_with fail
              go_roundw
              case rel => exact ⟨k + 1, s', HB.out.2.2.1, by rw [HNX.out]; congr 1; simp, by rw [HNX.out]; exact congrArg _ HS'.out, by go_num, HB4.out.1, HB4.out.2, by rw [HNX.out]; exact Nat.le_refl _⟩
              case measure => have := HB.out.2.2.1; simp [intOf]; omega
        · have hnx := HNX0.out
          rw [h1, Bool.true_or, if_pos rfl] at hnx
          have HNX := Lib.hid hnx
          clear hnx
          go_wp2_with fail
          go_roundw
          case rel => exact ⟨k + 1, s', HB.out.2.2.1, by rw [HNX.out]; congr 1; simp, by rw [HNX.out]; exact congrArg _ HS'.out, by go_num, HB4.out.1, HB4.out.2, by rw [HNX.out]; exact Nat.le_refl _⟩
          case measure => have := HB.out.2.2.1; simp [intOf]; omega
      · obtain rfl : k = n := by omega
        rw [← HDD.out]
        have HB := Lib.hid hB
        clear hB hbx hk hle
        go_wp2_with fail
        exact bodyPost_ret (results_three rfl (rv_tmp rfl) (rv_tmp rfl) (rv_tmp rfl)) rfl ⟨⟨s, rfl⟩, HB.out⟩
  · simp only [if_neg hE]
    have t1 : (E != 0) = true := by simp [hE]
    clear hE
    go_enter Try.func20, Try.ntmps20
    go_upto_region 1 with (fail)
    rw [← hW0]
    clear hW0
    obtain ⟨hB0, x2⟩ := HX.out
    have hbA : Below W0.heap.size W0 (W0.alloc (.cells #[.pointer x.p, .int .i64 x.r, .int .i64 x.c, .int .i64 x.o, .int .i64 x.d, .int .i64 x.u] 29)) := (Below.refl _ _).alloc (Nat.le_refl _) _
    have hz : Box (W0.alloc (.cells #[.pointer x.p, .int .i64 x.r, .int .i64 x.c, .int .i64 x.o, .int .i64 x.d, .int .i64 x.u] 29)) W0.heap.size ([x].flatMap Vw.cs) := Box.newA W0 ([x].flatMap Vw.cs) _ rfl
    have hB1 := below_step hB0 hB0.size hbA
    have HC := Lib.hid (HO.out _ hB1 _ hz)
    obtain ⟨p1, p2, p3⟩ := x2.facts
    have HB1 := Lib.hid hB1
    clear hB0 x2 hbA hz hB1 HO HX
    go_wp2_with fail
    refine HC.out.mono ?_
    rintro e w1 ⟨rfl, hb1⟩
    have HB2 := Lib.hid (below_step HB1.out HB1.out.size hb1)
    clear p1 p2 p3 hb1 HB1 HC
    dsimp only
    go_wp2_with fail
    exact bodyPost_ret (results_three rfl (rv_tmp rfl) (rv_tmp rfl) (rv_tmp rfl)) rfl ⟨⟨0, rfl⟩, HB2.out⟩
end Go.Proofs.Ytbcdpibcieadlaa
