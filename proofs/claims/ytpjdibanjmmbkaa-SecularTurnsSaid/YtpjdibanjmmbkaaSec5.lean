/- The statement's own function: it answers true. -/
import Derived.Test.YtpjdibanjmmbkaaSecL
namespace Go.Proofs.Ytpjdibanjmmbkaa
open Go Go.RowKit
set_option maxRecDepth 100000

/-- There is no root: Find says why. -/
theorem Find_err (w : World) (da za : Option Addr) (ds zs : List Nat) (dc zc : Nat) (rho : Nat) (k : Int) (hD : Fls w da ds) (hZ : Fls w za zs) (hWD : Words ds) (hWZ : Words zs) (hrho : rho < 18446744073709551616) (hl : ds.length ≤ maxLen) (hlz : zs.length ≤ maxLen)
    (h : ¬ (mayS ds zs rho = 0 ∧ (0 ≤ k ∧ k < ds.length) ∧ ffin (greatS ds zs rho k.toNat) = true)) :
    Calls Try.prog 14 #[.agg #[.slice da ds.length dc, .slice za zs.length zc, .float .f64 rho], .int .i64 k] w fun e w' => (∃ c : Int, (c != 0) = true ∧ e = .returned (.tuple #[.agg #[.int .i64 0, .float .f64 0], .int .i64 0, .int .i64 c])) ∧ Below w.heap.size w w' := by
  refine (Find_any w da za ds zs dc zc rho k hD hZ hWD hWZ hrho hl hlz).mono ?_
  rintro e w' ⟨hF, hb⟩
  refine ⟨?_, hb⟩
  unfold FindA at hF
  by_cases h1 : mayS ds zs rho = 0
  · rw [if_neg (by rw [h1]; decide)] at hF
    by_cases h2 : 0 ≤ k ∧ k < ds.length
    · rw [if_pos h2] at hF
      unfold FindR at hF
      have h3 : ¬ ffin (greatS ds zs rho k.toNat) = true := fun h3 => h ⟨h1, h2, h3⟩
      rw [if_neg h3] at hF
      exact ⟨10, by decide, hF⟩
    · rw [if_neg h2] at hF
      exact ⟨2, by decide, hF⟩
  · rw [if_pos h1] at hF
    exact ⟨_, by simp [h1], hF⟩

/-- There is a root. -/
theorem Find_ok (w : World) (da za : Option Addr) (ds zs : List Nat) (dc zc : Nat) (rho : Nat) (k : Nat) (hD : Fls w da ds) (hZ : Fls w za zs) (hWD : Words ds) (hWZ : Words zs) (hrho : rho < 18446744073709551616) (hl : ds.length ≤ maxLen) (hlz : zs.length ≤ maxLen)
    (h1 : mayS ds zs rho = 0) (h2 : k < ds.length) (h3 : ffin (greatS ds zs rho k) = true) :
    Calls Try.prog 14 #[.agg #[.slice da ds.length dc, .slice za zs.length zc, .float .f64 rho], .int .i64 k] w fun e w' => (∃ m : Nat, e = .returned (.tuple #[.agg #[.int .i64 (atS ds zs rho k), .float .f64 (if negS ds zs rho k then 9223372036854775808 + offS ds zs rho k else offS ds zs rho k)], .int .i64 m, .int .i64 0])) ∧ Below w.heap.size w w' := by
  refine (Find_any w da za ds zs dc zc rho k hD hZ hWD hWZ hrho hl hlz).mono ?_
  rintro e w' ⟨hF, hb⟩
  refine ⟨?_, hb⟩
  unfold FindA at hF
  rw [if_neg (by rw [h1]; decide), if_pos (by omega)] at hF
  unfold FindR at hF
  rw [Int.toNat_natCast, if_pos h3] at hF
  obtain ⟨s, hs⟩ := hF
  refine ⟨(bis (testS ds zs rho k) 0 (greatS ds zs rho k) 0).2, ?_⟩
  rw [hs]
  have ho := (offS_spec h1 h2 h3).1
  have e1 : raw (fmul (sgnS (negS ds zs rho k)) (bis (testS ds zs rho k) 0 (greatS ds zs rho k) 0).1) s = (if negS ds zs rho k then 9223372036854775808 + offS ds zs rho k else offS ds zs rho k) := by
    show raw (fmul (sgnS (negS ds zs rho k)) (offS ds zs rho k)) s = _
    cases hn : negS ds zs rho k
    · unfold sgnS
      rw [if_neg (by decide), if_neg (by decide), fmul_one ho, raw_of_not]
      unfold isnan
      rw [decide_eq_false_iff_not]
      omega
    · unfold sgnS
      rw [if_pos rfl, if_pos rfl, fmul_mone ho, raw_of_not]
      unfold isnan
      rw [decide_eq_false_iff_not]
      omega
  rw [e1]

set_option maxHeartbeats 2000000 in
/-- Too many poles. -/
theorem turns_big (w : World) (da za : Option Addr) (nd dc nz zc : Nat) (rho : Nat) (k : Int) (hl : nd ≤ maxLen) (hlz : nz ≤ maxLen) (h : 16 < nd ∨ 30 < nz) :
    Calls Try.prog 3 #[.agg #[.slice da nd dc, .slice za nz zc, .float .f64 rho], .int .i64 k] w fun e w' => e = .returned (.bool true) ∧ Below w.heap.size w w' := by
  unfold maxLen at hl hlz
  have hB0 : Below w.heap.size w (w.alloc (.cells #[.slice da nd dc, .slice za nz zc, .float .f64 rho] 25)) := (Below.refl _ _).alloc (Nat.le_refl _) _
  by_cases h1 : 16 < nd
  · have t1 : decide ((16 : Int) < (nd : Int)) = true := by simp; omega
    clear h
    go_enter Try.func3, Try.ntmps3
    go_wp2_with (first | (go_at_call 13; refine (known_any _).mono ?_; rintro e w1 ⟨rfl, hb1⟩) | (refine wpList_flt rfl rfl rfl rfl rfl ?_; intro K hK _ _; go_frame; refine hK _ _ ?_; clear hK K))
    go_ret
    exact ⟨rfl, below_step hB0 hB0.size hb1⟩
  · have t1 : decide ((16 : Int) < (nd : Int)) = false := by simp; omega
    have t2 : decide ((30 : Int) < (nz : Int)) = true := by simp; omega
    clear h
    go_enter Try.func3, Try.ntmps3
    go_wp2_with (first | (go_at_call 13; refine (known_any _).mono ?_; rintro e w1 ⟨rfl, hb1⟩) | (refine wpList_flt rfl rfl rfl rfl rfl ?_; intro K hK _ _; go_frame; refine hK _ _ ?_; clear hK K))
    go_ret
    exact ⟨rfl, below_step hB0 hB0.size hb1⟩

set_option maxHeartbeats 2000000 in
/-- No root. -/
theorem turns_err (w : World) (da za : Option Addr) (ds zs : List Nat) (dc zc : Nat) (rho : Nat) (k : Int) (hD : Fls w da ds) (hZ : Fls w za zs) (hWD : Words ds) (hWZ : Words zs) (hrho : rho < 18446744073709551616) (hl : ds.length ≤ 16) (hlz : zs.length ≤ 30)
    (h : ¬ (mayS ds zs rho = 0 ∧ (0 ≤ k ∧ k < ds.length) ∧ ffin (greatS ds zs rho k.toNat) = true)) :
    Calls Try.prog 3 #[.agg #[.slice da ds.length dc, .slice za zs.length zc, .float .f64 rho], .int .i64 k] w fun e w' => e = .returned (.bool true) ∧ Below w.heap.size w w' := by
  have HF := Lib.hid (fun (W : World) (hB : Below w.heap.size w W) => Find_err W da za ds zs dc zc rho k (hD.below hB) (hZ.below hB) hWD hWZ hrho (by unfold maxLen; omega) (by unfold maxLen; omega) h)
  clear h
  have hB0 : Below w.heap.size w (w.alloc (.cells #[.slice da ds.length dc, .slice za zs.length zc, .float .f64 rho] 25)) := (Below.refl _ _).alloc (Nat.le_refl _) _
  have t1 : decide ((16 : Int) < (ds.length : Int)) = false := by simp; omega
  have t2 : decide ((30 : Int) < (zs.length : Int)) = false := by simp; omega
  go_enter Try.func3, Try.ntmps3
  go_wp2_with fail
  refine (HF.out _ hB0).mono ?_
  rintro e w1 ⟨⟨c, hc, rfl⟩, hb1⟩
  have hB1 := below_step hB0 hB0.size hb1
  have s1 := hB1.size
  go_wp2_with (first | (go_at_call 13; refine (known_any _).mono ?_; rintro e w2 ⟨rfl, hb2⟩) | (refine wpList_flt rfl rfl rfl rfl rfl ?_; intro K hK _ _; go_frame; refine hK _ _ ?_; clear hK K))
  go_ret
  exact ⟨rfl, below_step (hB1.alloc s1 _) (by simp; omega) hb2⟩
end Go.Proofs.Ytpjdibanjmmbkaa
