/- The statement's own function, at any arguments. -/
import Derived.Test.YtpjdibanjmmbkaaVs
namespace Go.Proofs.Ytpjdibanjmmbkaa
open Go Go.RowKit
set_option maxRecDepth 100000

set_option maxHeartbeats 8000000 in
theorem same_out (w : World) (r c r' c' : Int) (a a' : Option Addr) (zs zs' : List Nat) (cap cap' : Nat) (ka : Option Addr) (n kc : Nat) (hl : zs.length ≤ maxLen) (hl' : zs'.length ≤ maxLen)
    (h : decide (400 < zs.length) = true ∨ decide (400 < zs'.length) = true ∨ 12 < n ∨ mayM r c zs.length = false ∨ mayM r' c' zs'.length = false) :
    Calls Try.prog 4 #[.agg #[.int .i64 r, .int .i64 c, .slice a zs.length cap], .agg #[.int .i64 r', .int .i64 c', .slice a' zs'.length cap'], .slice ka n kc] w fun e w' => e = .returned (.bool true) ∧ Below w.heap.size w w' := by
  have HB1 := Lib.hid (fun W => big_any r c a zs.length cap W hl)
  have HB2 := Lib.hid (fun W => big_any r' c' a' zs'.length cap' W hl')
  have HM1 := Lib.hid (fun W => May07_any r c a zs.length cap W hl)
  have HM2 := Lib.hid (fun W => May07_any r' c' a' zs'.length cap' W hl')
  generalize decide (400 < zs.length) = b1 at *
  generalize decide (400 < zs'.length) = b2 at *
  generalize mayM r c zs.length = b4 at *
  generalize mayM r' c' zs'.length = b5 at *
  have HH := Lib.hid h
  clear h hl hl'
  have x0 : Box ((w.alloc (.cells #[.int .i64 r, .int .i64 c, .slice a zs.length cap] 40)).alloc (.cells #[.int .i64 r', .int .i64 c', .slice a' zs'.length cap'] 40)) w.heap.size [.int .i64 r, .int .i64 c, .slice a zs.length cap] := (Box.newA w [_, _, _] _ rfl).alloc _
  have x1 : Box ((w.alloc (.cells #[.int .i64 r, .int .i64 c, .slice a zs.length cap] 40)).alloc (.cells #[.int .i64 r', .int .i64 c', .slice a' zs'.length cap'] 40)) (w.heap.size + 1) [.int .i64 r', .int .i64 c', .slice a' zs'.length cap'] := Box.newA _ [_, _, _] _ (by simp)
  have hB0 : Below w.heap.size w ((w.alloc (.cells #[.int .i64 r, .int .i64 c, .slice a zs.length cap] 40)).alloc (.cells #[.int .i64 r', .int .i64 c', .slice a' zs'.length cap'] 40)) := ((Below.refl _ _).alloc (Nat.le_refl _) _).alloc (by simp) _
  have hkd : decide (12 < (n : Int)) = decide (12 < n) := by by_cases q : 12 < n; rw [decide_eq_true q, decide_eq_true (by omega)]; rw [decide_eq_false q, decide_eq_false (by omega)]
  have HK := Lib.hid (show (12 < n) ↔ decide (12 < n) = true by simp)
  generalize decide (12 < n) = b3 at *
  go_enter Try.func4, Try.ntmps4
  go_wp2_with fail
  refine (HB1.out _).mono ?_
  rintro e w1 ⟨rfl, hb1⟩
  have y0 := x0.below hb1
  have y1 := x1.below hb1
  have hB1 := below_step hB0 hB0.size hb1
  clear x0 x1 hB0 hb1
  obtain ⟨a1, a2, a3⟩ := y1.facts
  cases b1
  case true =>
    go_wp2_with fail
    refine (known07 _).mono ?_
    rintro e u4 ⟨rfl, hs4⟩
    have hBd := below_step hB1 hB1.size hs4
    go_wp2
    go_ret
    exact ⟨rfl, hBd⟩
  go_wp2_with fail
  refine (HB2.out _).mono ?_
  rintro e w2 ⟨rfl, hb2⟩
  have z0 := y0.below hb2
  have z1 := y1.below hb2
  have hB2 := below_step hB1 hB1.size hb2
  clear y0 y1 hB1 hb2 a1 a2 a3
  obtain ⟨a1, a2, a3⟩ := z0.facts
  cases b2
  case true =>
    go_wp2_with fail
    refine (known07 _).mono ?_
    rintro e u4 ⟨rfl, hs4⟩
    have hBd := below_step hB2 hB2.size hs4
    go_wp2
    go_ret
    exact ⟨rfl, hBd⟩
  cases b3
  case true =>
    go_wp2_with fail
    refine (known07 _).mono ?_
    rintro e u4 ⟨rfl, hs4⟩
    have hBd := below_step hB2 hB2.size hs4
    go_wp2
    go_ret
    exact ⟨rfl, hBd⟩
  go_wp2_with fail
  refine (HM1.out _).mono ?_
  rintro e w3 ⟨rfl, hb3⟩
  have y0 := z0.below hb3
  have y1 := z1.below hb3
  have hB3 := below_step hB2 hB2.size hb3
  clear z0 z1 hB2 hb3 a1 a2 a3
  obtain ⟨a1, a2, a3⟩ := y1.facts
  cases b4
  case false =>
    go_wp2_with fail
    refine (known07 _).mono ?_
    rintro e u4 ⟨rfl, hs4⟩
    have hBd := below_step hB3 hB3.size hs4
    go_wp2
    go_ret
    exact ⟨rfl, hBd⟩
  go_wp2_with fail
  refine (HM2.out _).mono ?_
  rintro e w4 ⟨rfl, hb4⟩
  have hB4 := below_step hB3 hB3.size hb4
  cases b5
  case false =>
    go_wp2_with fail
    refine (known07 _).mono ?_
    rintro e u4 ⟨rfl, hs4⟩
    have hBd := below_step hB4 hB4.size hs4
    go_wp2
    go_ret
    exact ⟨rfl, hBd⟩
  exfalso
  have h1 := HH.out
  have h2 := HK.out
  simp at h1 h2
  omega

theorem same_any07 (w : World) (r c : Int) (a : Option Addr) (zs : List Nat) (cap : Nat) (r' c' : Int) (a' : Option Addr) (zs' : List Nat) (cap' : Nat) (ka : Option Addr) (ks : List Stp) (kc : Nat)
    (hZ : Cel w a zs) (hWd : Words zs) (hl : zs.length ≤ maxLen) (hZ' : Cel w a' zs') (hWd' : Words zs') (hl' : zs'.length ≤ maxLen) (hK : Stc w ka ks) :
    Calls Try.prog 4 #[.agg #[.int .i64 r, .int .i64 c, .slice a zs.length cap], .agg #[.int .i64 r', .int .i64 c', .slice a' zs'.length cap'], .slice ka ks.length kc] w fun e w' => e = .returned (.bool true) ∧ Below w.heap.size w w' := by
  by_cases h : decide (400 < zs.length) = true ∨ decide (400 < zs'.length) = true ∨ 12 < ks.length ∨ mayM r c zs.length = false ∨ mayM r' c' zs'.length = false
  · exact same_out w r c r' c' a a' zs zs' cap cap' ka ks.length kc hl hl' h
  · simp only [not_or, decide_eq_true_eq, Bool.not_eq_false] at h
    obtain ⟨h1, h2, h3, h4, h5⟩ := h
    unfold mayM okSz at h4 h5
    simp only [Bool.and_eq_true, decide_eq_true_eq] at h4 h5
    obtain ⟨R, rfl⟩ := Int.eq_ofNat_of_zero_le h4.1.1.1
    obtain ⟨C, rfl⟩ := Int.eq_ofNat_of_zero_le h4.1.2.1
    obtain ⟨R', rfl⟩ := Int.eq_ofNat_of_zero_le h5.1.1.1
    obtain ⟨C', rfl⟩ := Int.eq_ofNat_of_zero_le h5.1.2.1
    exact same_in w R C R' C' a a' zs zs' cap cap' ka ks kc hZ hWd hZ' hWd' hK (by omega) (by omega) (by have := h4.2; rw [← Int.natCast_mul] at this; omega) (by omega) (by omega) (by have := h5.2; rw [← Int.natCast_mul] at this; omega) (by omega) (by omega) (by omega)
end Go.Proofs.Ytpjdibanjmmbkaa
