/- The equation's left side and what it is made of: what the Go functions of package secular give. -/
import Derived.Test.YtpjdibanjmmbkaaChecked
import Derived.Test.YtpjdibanjmmbkaaMath
namespace Go.Proofs.Ytpjdibanjmmbkaa
open Go Go.RowKit
set_option maxRecDepth 100000

set_option maxHeartbeats 400000 in
theorem less_any (w : World) (da za : Option Addr) (ds : List Nat) (dc zn zc : Nat) (rho : Nat) (i q : Nat) (off : Nat) (hD : Fls w da ds) (hi : i < ds.length) (hq : q < ds.length) (hl : ds.length ≤ maxLen) :
    Calls Try.prog 99 #[.agg #[.slice da ds.length dc, .slice za zn zc, .float .f64 rho], .int .i64 i, .agg #[.int .i64 q, .float .f64 off]] w fun e w' => FR e (fsub (fsub (ds.getD i 0) (ds.getD q 0)) off) ∧ Below w.heap.size w w' := by
  unfold maxLen at hl
  obtain ⟨b, o, s1, rfl, hb, hc1⟩ := hD.at hi
  obtain ⟨b', o', s2, hbo, _, hc2⟩ := hD.at hq
  simp only [Option.some.injEq, Addr.mk.injEq] at hbo
  obtain ⟨rfl, rfl, _⟩ := hbo
  have hbm := lt_more hb
  go_enter Try.func99, Try.ntmps99
  go_wp2
  refine wp_region_nqb 16 (fun _ _ _ => False) (by kernel_rfl) (by kernel_rfl) ?_
  intro C R hc hb' hb2 hd hR
  simp only [List.take_succ_cons, List.take_zero]
  repeat (
    first
      | (refine nqW_plain (fun K hK => ?_))
      | (refine nqW_step (fun K hK => ?_); go_simp)
    first
      | (refine nq_move rfl ?_; go_simp; refine hK _ ?_; clear hK K)
      | (refine nq_assign rfl ?_; go_simp; refine hK _ ?_; clear hK K)
      | (refine nq_flt rfl rfl rfl rfl hd ?_; intro _; go_frame; refine hK _ ?_; clear hK K)
      | (refine nq_same ?_; intro w' hw'; go_simp; (try go_bits); refine hK _ ?_; clear hK K hw' w')
      | (refine nq_same ?_; intro w' hw'; go_simp; rw [if_pos (by omega)]; go_simp; (try go_bits); refine hK _ ?_; clear hK K hw' w')
      | (go_simp; refine hK _ ?_; clear hK K))
  refine nqW_nil (hR _ ?_)
  clear hc hb' hb2 hd hR
  intro w' hw'
  simp only [List.drop_succ_cons, List.drop_zero, List.drop_nil]
  go_wp2
  go_ret
  refine ⟨?_, (((Below.refl _ _).alloc (Nat.le_refl _) _).alloc (by simp) _).trans (hw'.mono (by simp; omega))⟩
  simp [hi, hq]
  exact FR.mk _ _

/-- The sum on the left side, after k poles. -/
def sideAcc (ds zs : List Nat) (q off : Nat) : Nat → Nat
  | 0 => 0
  | k + 1 => fadd (sideAcc ds zs q off k) (fdiv (fmul (zs.getD k 0) (zs.getD k 0)) (fsub (fsub (ds.getD k 0) (ds.getD q 0)) off))
def sideS (ds zs : List Nat) (rho q off : Nat) : Nat := fadd 4607182418800017408 (fmul rho (sideAcc ds zs q off zs.length))

set_option maxHeartbeats 1000000 in
theorem side_any (w : World) (da za : Option Addr) (ds zs : List Nat) (dc zc : Nat) (rho : Nat) (q : Nat) (off : Nat) (hD : Fls w da ds) (hZ : Fls w za zs) (hq : q < ds.length) (hn : zs.length = ds.length) (hl : ds.length ≤ maxLen) :
    Calls Try.prog 69 #[.agg #[.slice da ds.length dc, .slice za zs.length zc, .float .f64 rho], .agg #[.int .i64 q, .float .f64 off]] w fun e w' => FR e (sideS ds zs rho q off) ∧ Below w.heap.size w w' := by
  have hl' := hl
  unfold maxLen at hl'
  have hln : zs.length ≤ 9223372036854775807 := by omega
  have HN := Lib.hid hn
  clear hn
  go_enter Try.func69, Try.ntmps69
  go_wp2
  have hb1 := Box.new w [.slice da ds.length dc, .slice za zs.length zc, .float .f64 rho] 25
  have hb2 := Box.new (w.alloc (.cells #[.slice da ds.length dc, .slice za zs.length zc, .float .f64 rho] 25)) [.int .i64 q, .float .f64 off] 28
  rw [World.size_alloc] at hb2
  go_loopw [5, 11] (fun f i wr => ∃ k : Nat, k ≤ zs.length ∧ i = .int .i64 k ∧ IsF f (sideAcc ds zs q off k) ∧ Below w.heap.size w wr ∧ Box wr w.heap.size [.slice da ds.length dc, .slice za zs.length zc, .float .f64 rho] ∧ Box wr (w.heap.size + 1) [.int .i64 q, .float .f64 off]) (fun _ i _ => zs.length - (intOf i).toNat)
  case atStart => exact ⟨0, Nat.zero_le _, rfl, IsF.const (by kernel_rfl), ((Below.refl _ _).alloc (Nat.le_refl _) _).alloc (by simp) _, hb1.alloc _, hb2⟩
  case round =>
    obtain ⟨k, hk, rfl, ⟨s, rfl⟩, hB, hx1, hx2⟩ := hrel
    obtain ⟨g1, g2, g3⟩ := hx1.facts
    obtain ⟨g4, g5, g6⟩ := hx2.facts
    by_cases hlt : k < zs.length
    · obtain ⟨b, o, s1, rfl, hb, hc1⟩ := (hZ.below hB).at hlt
      go_wp2_with (first | (go_at_call 99; refine (less_any _ _ _ ds _ _ _ _ k q off (Fls.below hD (below_drewN _ hB)) (by have := HN.out; omega) hq hl).mono ?_; rintro e w2 ⟨⟨s', rfl⟩, hb3⟩) | (refine wpList_flt rfl rfl rfl rfl rfl ?_; intro K hK _ _; go_frame; refine hK _ _ ?_; clear hK K))
      have hb4 := below_undrew hb3
      go_roundw
      case rel => exact ⟨k + 1, by omega, by go_num, IsF.of (by simp [go_sem, sideAcc, hlt, hq]), below_drewN _ (below_step hB (by omega) hb4), (hx1.below hb4).drewN _, (hx2.below hb4).drewN _⟩
      case measure => simp [intOf]; omega
    · obtain rfl : k = zs.length := by omega
      go_wp2_with (first | (refine wpList_flt rfl rfl rfl rfl rfl ?_; intro K hK _ _; go_frame; refine hK _ _ ?_; clear hK K))
      go_ret
      exact ⟨FR.eq (by simp [go_sem, sideS]), below_drewN _ (below_drewN _ hB)⟩

set_option maxHeartbeats 1000000 in
theorem infinite_any (x : Nat) (hx : x < 18446744073709551616) (w : World) : Calls Try.prog 95 #[.float .f64 x] w fun e w' => e = .returned (.bool (!ffin x)) ∧ w = w' := by
  have HI := Lib.hid (infinite_eq x)
  cases hn : isnan x
  all_goals
    go_enter Try.func95, Try.ntmps95
    go_wp2_with (first | (go_at_call 85; refine (IsNaN_any x _).mono ?_; rintro e w' ⟨rfl, rfl⟩; rw [hn]) | (go_at_call 110; refine (IsInf0_any x hx _).mono ?_; rintro e w' ⟨rfl, rfl⟩))
    go_ret
    exact ⟨by rw [← HI.out, hn]; rfl, rfl⟩

theorem infinite_enter (x : Nat) (w : World) : (callFunc 95 #[.float .f64 x]).run Try.prog w = .ok (.enter 95 #[.float .f64 x]) w := by kernel_rfl
theorem ffin_not_raw (v s : Nat) : (!ffin (raw v s)) = !ffin v := by rw [ffin_raw]

set_option maxHeartbeats 1000000 in
theorem at_any (da za : Option Addr) (nd dc nz zc : Nat) (rho : Nat) (i : Int) (w : World) (hl : nd ≤ maxLen) :
    Calls Try.prog 67 #[.agg #[.slice da nd dc, .slice za nz zc, .float .f64 rho], .int .i64 i] w fun e w' => e = .returned (.bool (decide (0 ≤ i ∧ i < nd))) ∧ Below w.heap.size w w' := by
  unfold maxLen at hl
  by_cases h : 0 ≤ i
  all_goals
    go_enter Try.func67, Try.ntmps67
    go_wp2
    go_ret
    exact ⟨by simp; omega, (Below.refl _ _).alloc (Nat.le_refl _) _⟩

/-- Is one of the first k wrong: a nought, or a pole that does not rise? -/
def wrongA (ds zs : List Nat) : Nat → Bool
  | 0 => false
  | k + 1 => wrongA ds zs k || feq (zs.getD k 0) 0 || (decide (0 < k) && fle (ds.getD k 0) (ds.getD (k - 1) 0))
def mayE (ds zs : List Nat) (rho : Nat) : Int :=
  if wrongA ds zs zs.length then 2
  else if !ffin rho || ds.any (fun x => !ffin x) || zs.any (fun x => !ffin x) then 10 else 0
def badS (ds zs : List Nat) (rho : Nat) : Prop := ds.length = 0 ∨ 512 < ds.length ∨ zs.length ≠ ds.length ∨ (flt 0 rho = false ∧ isnan rho = false)
instance (ds zs : List Nat) (rho : Nat) : Decidable (badS ds zs rho) := by unfold badS; infer_instance
def mayS (ds zs : List Nat) (rho : Nat) : Int := if badS ds zs rho then 2 else mayE ds zs rho

set_option maxHeartbeats 2000000 in
/-- It may not be: sizes, or the factor. -/
theorem May_no (w : World) (da za : Option Addr) (ds zs : List Nat) (dc zc : Nat) (rho : Nat) (hl : ds.length ≤ maxLen) (hlz : zs.length ≤ maxLen)
    (h : ds.length = 0 ∨ 512 < ds.length ∨ zs.length ≠ ds.length ∨ (flt 0 rho = false ∧ isnan rho = false)) :
    Calls Try.prog 66 #[.agg #[.slice da ds.length dc, .slice za zs.length zc, .float .f64 rho]] w fun e w' => e = .returned (.int .i64 2) ∧ Below w.heap.size w w' := by
  unfold maxLen at hl hlz
  have e1 : (((ds.length : Nat) : Int) == 0) = decide (ds.length = 0) := by rw [Bool.eq_iff_iff]; simp
  have e2 : decide ((512 : Int) < ((ds.length : Nat) : Int)) = decide (512 < ds.length) := by rw [Bool.eq_iff_iff]; simp; omega
  have e3 : (((zs.length : Nat) : Int) != ((ds.length : Nat) : Int)) = decide (zs.length ≠ ds.length) := by rw [Bool.eq_iff_iff]; simp; omega
  cases t1 : (((ds.length : Nat) : Int) == 0)
  case true =>
    clear h e1 e2 e3
    go_enter Try.func66, Try.ntmps66
    go_wp2_with (go_at_call 85; refine (IsNaN_any rho _).mono ?_; rintro e w' ⟨rfl, rfl⟩)
    go_ret
    exact ⟨rfl, (Below.refl _ _).alloc (Nat.le_refl _) _⟩
  cases t2 : decide ((512 : Int) < ((ds.length : Nat) : Int))
  case true =>
    clear h e1 e2 e3
    go_enter Try.func66, Try.ntmps66
    go_wp2_with (go_at_call 85; refine (IsNaN_any rho _).mono ?_; rintro e w' ⟨rfl, rfl⟩)
    go_ret
    exact ⟨rfl, (Below.refl _ _).alloc (Nat.le_refl _) _⟩
  cases t3 : (((zs.length : Nat) : Int) != ((ds.length : Nat) : Int))
  case true =>
    clear h e1 e2 e3
    go_enter Try.func66, Try.ntmps66
    go_wp2_with (go_at_call 85; refine (IsNaN_any rho _).mono ?_; rintro e w' ⟨rfl, rfl⟩)
    go_ret
    exact ⟨rfl, (Below.refl _ _).alloc (Nat.le_refl _) _⟩
  rw [e1] at t1
  rw [e2] at t2
  rw [e3] at t3
  simp only [decide_eq_false_iff_not] at t1 t2 t3
  obtain ⟨t4, t5⟩ : flt 0 rho = false ∧ isnan rho = false := by
    rcases h with h | h | h | h
    · exact absurd h t1
    · exact absurd h t2
    · exact absurd h t3
    · exact h
  have t1' : (((ds.length : Nat) : Int) == 0) = false := by rw [e1]; simpa using t1
  have t2' : decide ((512 : Int) < ((ds.length : Nat) : Int)) = false := by rw [e2]; simpa using t2
  have t3' : (((zs.length : Nat) : Int) != ((ds.length : Nat) : Int)) = false := by rw [e3]; simpa using t3
  clear e1 e2 e3 t1 t2 t3
  go_enter Try.func66, Try.ntmps66
  go_wp2_with (go_at_call 85; refine (IsNaN_any rho _).mono ?_; rintro e w' ⟨rfl, rfl⟩)
  go_ret
  exact ⟨rfl, (Below.refl _ _).alloc (Nat.le_refl _) _⟩

set_option maxHeartbeats 4000000 in
/-- Sizes and factor may be: what the entries say. -/
theorem May_yes (w : World) (da za : Option Addr) (ds zs : List Nat) (dc zc : Nat) (rho : Nat) (hD : Fls w da ds) (hZ : Fls w za zs) (hWD : Words ds) (hWZ : Words zs) (hrho : rho < 18446744073709551616)
    (h1 : 0 < ds.length) (h2 : ds.length ≤ 512) (h3 : zs.length = ds.length) (h4 : flt 0 rho = true ∨ isnan rho = true) :
    Calls Try.prog 66 #[.agg #[.slice da ds.length dc, .slice za zs.length zc, .float .f64 rho]] w fun e w' =>
      e = .returned (.int .i64 (mayE ds zs rho)) ∧ Below w.heap.size w w' := by
  have t1 : (((ds.length : Nat) : Int) == 0) = false := by simpa using (show ¬ ds.length = 0 by omega)
  have t2 : decide ((512 : Int) < ((ds.length : Nat) : Int)) = false := by simp; omega
  have t3 : (((zs.length : Nat) : Int) != ((ds.length : Nat) : Int)) = false := by simp; omega
  have t3' : ds.length ≤ zs.length := by omega
  have t3'' : zs.length ≤ 512 := by omega
  have t3b : zs.length ≤ ds.length := by omega
  have HCd := Lib.hid (fun (W : World) (hB : Below w.heap.size w W) => ContainsFunc_any 95 (fun x => !ffin x) (fun x w hx => infinite_any x hx w) ffin_not_raw infinite_enter W da ds dc (hD.below hB) hWD (by unfold maxLen; omega))
  have HCz := Lib.hid (fun (W : World) (hB : Below w.heap.size w W) => ContainsFunc_any 95 (fun x => !ffin x) (fun x w hx => infinite_any x hx w) ffin_not_raw infinite_enter W za zs zc (hZ.below hB) hWZ (by unfold maxLen; omega))
  clear h3
  cases t4 : flt 0 rho
  all_goals
    go_enter Try.func66, Try.ntmps66
    try (have t5 : isnan rho = true := by rcases h4 with h | h; (rw [h] at t4; cases t4); exact h)
    clear h4
    go_wp2_with (go_at_call 85; refine (IsNaN_any rho _).mono ?_; rintro e w' ⟨rfl, rfl⟩)
    have hb1 := Box.new w [.slice da ds.length dc, .slice za zs.length zc, .float .f64 rho] 25
    go_loopw [3, 40] (fun f i wr => ∃ (k : Nat) (x : Bool), k ≤ zs.length ∧ i = .int .i64 k ∧ f = .bool x ∧ Hid (x = wrongA ds zs k) ∧ Below w.heap.size w wr ∧ Box wr w.heap.size [.slice da ds.length dc, .slice za zs.length zc, .float .f64 rho]) (fun _ i _ => zs.length - (intOf i).toNat)
    case atStart => exact ⟨0, false, Nat.zero_le _, rfl, rfl, rfl, (Below.refl _ _).alloc (Nat.le_refl _) _, hb1⟩
    case round =>
      obtain ⟨k, x, hk, rfl, rfl, hx, hB, hx1⟩ := hrel
      obtain ⟨g1, g2, g3⟩ := hx1.facts
      by_cases hlt : k < zs.length
      · obtain ⟨b, o, s1, rfl, hb, hc1⟩ := (hZ.below hB).at hlt
        have hbm := lt_more hb
        have e0 : zs.getD k 0 = zs[k] := by simp [hlt]
        have hkd : k < ds.length := by omega
        have eD : ds.getD k 0 = ds[k] := by simp [hkd]
        cases hp : decide (0 < k)
        · have hp' : decide ((0 : Int) < (k : Int)) = false := by simp at hp ⊢; omega
          have hpk : ¬ 0 < k := by simpa using hp
          cases x <;> cases hz : feq zs[k] 0
          all_goals
            go_wp2
            refine wp_region_nqb 24 (fun _ _ _ => False) (by kernel_rfl) (by kernel_rfl) ?_
            intro C R hc hb' hb2 hd hR
            simp only [List.take_succ_cons, List.take_zero]
            repeat (
              first
                | (refine nqW_plain (fun K hK => ?_))
                | (refine nqW_step (fun K hK => ?_); go_simp)
              first
                | (refine nq_move rfl ?_; go_simp; refine hK _ ?_; clear hK K)
                | (refine nq_assign rfl ?_; go_simp; refine hK _ ?_; clear hK K)
                | (refine nq_flt rfl rfl rfl rfl hd ?_; intro _; go_frame; refine hK _ ?_; clear hK K)
                | (refine nq_same ?_; intro w' hw'; go_simp; (try go_bits); refine hK _ ?_; clear hK K hw' w')
                | (refine nq_same ?_; intro w' hw'; go_simp; rw [if_pos (by omega)]; go_simp; (try go_bits); refine hK _ ?_; clear hK K hw' w')
                | (go_simp; refine hK _ ?_; clear hK K))
            refine nqW_nil (hR _ ?_)
            clear hc hb' hb2 hd hR
            intro w' hw'
            simp only [List.drop_succ_cons, List.drop_zero, List.drop_nil]
            go_wp2
            go_roundw
            case rel => exact ⟨k + 1, _, by omega, by go_num, rfl, (by unfold Hid; rw [wrongA, ← hx.out]; simp [e0, eD, hz, hpk, hkd, hlt]), below_step hB (Nat.le_of_lt g1) hw', hx1.below hw'⟩
            case measure => simp [intOf]; omega
        · have hp' : decide ((0 : Int) < (k : Int)) = true := by simp at hp ⊢; omega
          have hpk : 0 < k := by simpa using hp
          have hkd' : k - 1 < ds.length := by omega
          have hidx : (0 : Int) ≤ (k : Int) - 1 ∧ ((k : Int) - 1).toNat = k - 1 ∧ (k : Int) - 1 < (ds.length : Int) := by omega
          obtain ⟨b2, o2, s2, rfl, hb2, hc2⟩ := (hD.below hB).at hkd
          obtain ⟨b3, o3, s3, hbo, _, hc3⟩ := (hD.below hB).at hkd'
          simp only [Option.some.injEq, Addr.mk.injEq] at hbo
          obtain ⟨rfl, rfl, _⟩ := hbo
          have hbm2 := lt_more hb2
          cases x <;> cases hz : feq zs[k] 0
          all_goals
            go_wp2
            refine wp_region_nqb 24 (fun _ _ _ => False) (by kernel_rfl) (by kernel_rfl) ?_
            intro C R hc hb' hb2 hd hR
            simp only [List.take_succ_cons, List.take_zero]
            repeat (
              first
                | (refine nqW_plain (fun K hK => ?_))
                | (refine nqW_step (fun K hK => ?_); go_simp)
              first
                | (refine nq_move rfl ?_; go_simp; refine hK _ ?_; clear hK K)
                | (refine nq_assign rfl ?_; go_simp; refine hK _ ?_; clear hK K)
                | (refine nq_flt rfl rfl rfl rfl hd ?_; intro _; go_frame; refine hK _ ?_; clear hK K)
                | (refine nq_same ?_; intro w' hw'; go_simp; (try go_bits); refine hK _ ?_; clear hK K hw' w')
                | (refine nq_same ?_; intro w' hw'; go_simp; rw [if_pos (by omega)]; go_simp; (try go_bits); refine hK _ ?_; clear hK K hw' w')
                | (go_simp; refine hK _ ?_; clear hK K))
            refine nqW_nil (hR _ ?_)
            clear hc hb' hb2 hd hR
            intro w' hw'
            simp only [List.drop_succ_cons, List.drop_zero, List.drop_nil]
            go_wp2
            go_roundw
            case rel => exact ⟨k + 1, _, by omega, by go_num, rfl, (by unfold Hid; rw [wrongA, ← hx.out]; simp [e0, eD, hz, hpk, hkd, hkd', hlt]), below_step hB (Nat.le_of_lt g1) hw', hx1.below hw'⟩
            case measure => simp [intOf]; omega
      · obtain rfl : k = zs.length := by omega
        have HW := hx
        clear hx
        have hrr := HCd.out wr hB
        have hrz := HCz.out wr hB
        cases x
        case true =>
          go_wp2
          go_ret
          exact ⟨by unfold mayE; rw [← HW.out]; rfl, hB⟩
        case false =>
          have hHd := Lib.hid hrr
          have hHz := Lib.hid hrz
          clear hrr hrz
          cases f1 : ffin rho <;> cases f2 : ds.any (fun x => !ffin x) <;> cases f3 : zs.any (fun x => !ffin x)
          all_goals
            rw [f2] at hHd
            rw [f3] at hHz
            go_wp2_with (first | (go_at_call 95; refine (infinite_any rho hrho _).mono ?_; rintro e w' ⟨rfl, rfl⟩; rw [f1]) | (go_at_call 96; refine hHd.out.mono ?_; rintro e w' ⟨rfl, rfl⟩) | (go_at_call 96; refine hHz.out.mono ?_; rintro e w' ⟨rfl, rfl⟩))
            go_ret
            exact ⟨by unfold mayE; rw [← HW.out, f1, f2, f3]; rfl, hB⟩
end Go.Proofs.Ytpjdibanjmmbkaa
