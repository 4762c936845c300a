/- The statement's own function, at any arguments. -/
import Derived.Test.YtpjdibanjmmbkaaVq
namespace Go.Proofs.Ytpjdibanjmmbkaa
open Go Go.RowKit
set_option maxRecDepth 100000

set_option maxHeartbeats 8000000 in
theorem takes_out (w : World) (r c : Int) (a : Option Addr) (zs : List Nat) (cap : Nat) (ka : Option Addr) (n kc : Nat) (la : Option Addr) (n' lc : Nat) (x : Nat) (hl : zs.length ≤ maxLen)
    (h : decide (400 < zs.length) = true ∨ 12 < n ∨ 12 < n' ∨ mayM r c zs.length = false) :
    Calls Try.prog 10 #[.agg #[.int .i64 r, .int .i64 c, .slice a zs.length cap], .slice ka n kc, .slice la n' lc, .float .f64 x] w fun e w' => e = .returned (.bool true) ∧ Below w.heap.size w w' := by
  have HB1 := Lib.hid (fun W => big_any r c a zs.length cap W hl)
  have HM1 := Lib.hid (fun W => May07_any r c a zs.length cap W hl)
  have HO1 := Lib.hid (fun (hm : mayM r c zs.length = false) W => open_no W r c a zs.length cap hl hm)
  generalize decide (400 < zs.length) = b1 at *
  generalize mayM r c zs.length = b4 at *
  have HH := Lib.hid h
  clear h hl
  have x0 : Box (w.alloc (.cells #[.int .i64 r, .int .i64 c, .slice a zs.length cap] 40)) w.heap.size [.int .i64 r, .int .i64 c, .slice a zs.length cap] := Box.newA w [_, _, _] _ rfl
  have hB0 : Below w.heap.size w (w.alloc (.cells #[.int .i64 r, .int .i64 c, .slice a zs.length cap] 40)) := (Below.refl _ _).alloc (Nat.le_refl _) _
  have hkd : decide (12 < (n : Int)) = decide (12 < n) := by by_cases q : 12 < n; rw [decide_eq_true q, decide_eq_true (by omega)]; rw [decide_eq_false q, decide_eq_false (by omega)]
  have HK := Lib.hid (show (12 < n) ↔ decide (12 < n) = true by simp)
  generalize decide (12 < n) = b3 at *
  have hkd2 : decide (12 < (n' : Int)) = decide (12 < n') := by by_cases q : 12 < n'; rw [decide_eq_true q, decide_eq_true (by omega)]; rw [decide_eq_false q, decide_eq_false (by omega)]
  have HK2 := Lib.hid (show (12 < n') ↔ decide (12 < n') = true by simp)
  generalize decide (12 < n') = b5 at *
  go_enter Try.func10, Try.ntmps10
  go_wp2_with fail
  refine (HB1.out _).mono ?_
  rintro e w1 ⟨rfl, hb1⟩
  have y0 := x0.below hb1
  have hB1 := below_step hB0 hB0.size hb1
  clear x0 hB0 hb1
  obtain ⟨a1, a2, a3⟩ := y0.facts
  cases b1
  case true =>
    go_wp2_with fail
    refine (known07 _).mono ?_
    rintro e u4 ⟨rfl, hs4⟩
    have hBd := below_step hB1 hB1.size hs4
    go_wp2
    go_ret
    exact ⟨rfl, hBd⟩
  cases b3
  case true =>
    go_wp2_with fail
    refine (known07 _).mono ?_
    rintro e u4 ⟨rfl, hs4⟩
    have hBd := below_step hB1 hB1.size hs4
    go_wp2
    go_ret
    exact ⟨rfl, hBd⟩
  cases b5
  case true =>
    go_wp2_with fail
    refine (known07 _).mono ?_
    rintro e u4 ⟨rfl, hs4⟩
    have hBd := below_step hB1 hB1.size hs4
    go_wp2
    go_ret
    exact ⟨rfl, hBd⟩
  have hb4 : b4 = false := by
    have h1 := HH.out
    have h2 := HK.out
    have h3 := HK2.out
    simp at h1 h2 h3
    rcases h1 with h1 | h1 | h1
    · omega
    · omega
    · exact h1
  have HO := Lib.hid (HO1.out hb4)
  have HM := Lib.hid HM1.out
  rw [hb4] at HM
  clear HO1 HM1 hb4 HH HK HK2
  go_wp2_with fail
  refine (HO.out _).mono ?_
  rintro e w2 ⟨rfl, hb2⟩
  have z0 := y0.below hb2
  have hB2 := below_step hB1 hB1.size hb2
  have hs2 := hB2.size
  have lt0 : w.heap.size < w2.heap.size := z0.lt
  clear y0 hB1 hb2 a1 a2 a3
  obtain ⟨a1, a2, a3⟩ := z0.facts
  have hA : Below w2.heap.size w2 ((w2.alloc (.cells #[.pointer none, .int .i64 0, .int .i64 0, .int .i64 0, .int .i64 0, .int .i64 0] 45)).alloc (.cells #[.slice none 0 0, .int .i64 0, .int .i64 0, .slice none 0 0, .bool false] 48)) := ((Below.refl _ _).alloc (Nat.le_refl _) _).alloc (by simp) _
  have hBA := below_step hB2 hB2.size hA
  have ne1 : w.heap.size ≠ w2.heap.size := by omega
  have ne2 : w.heap.size ≠ w2.heap.size + 1 := by omega
  have ne3 : w.heap.size < w2.heap.size + 1 := by omega
  go_wp2_with fail
  refine (HM.out _).mono ?_
  rintro e w3 ⟨rfl, hb3⟩
  have hB3 := below_step hBA hBA.size hb3
  go_wp2_with fail
  refine (known07 _).mono ?_
  rintro e u4 ⟨rfl, hs4⟩
  have hBd := below_step hB3 hB3.size hs4
  go_wp2
  go_ret
  exact ⟨rfl, hBd⟩

theorem takes_any (w : World) (r c : Int) (a : Option Addr) (zs : List Nat) (cap : Nat) (ka : Option Addr) (ks : List Stp) (kc : Nat) (la : Option Addr) (ls : List Stp) (lc : Nat) (x : Nat) (hZ : Cel w a zs) (hWd : Words zs) (hl : zs.length ≤ maxLen) (hK : Stc w ka ks) (hL : Stc w la ls) (hx : x < 18446744073709551616) :
    Calls Try.prog 10 #[.agg #[.int .i64 r, .int .i64 c, .slice a zs.length cap], .slice ka ks.length kc, .slice la ls.length lc, .float .f64 x] w fun e w' => e = .returned (.bool true) ∧ Below w.heap.size w w' := by
  by_cases h : decide (400 < zs.length) = true ∨ 12 < ks.length ∨ 12 < ls.length ∨ mayM r c zs.length = false
  · exact takes_out w r c a zs cap ka ks.length kc la ls.length lc x hl h
  · simp only [not_or, decide_eq_true_eq, Bool.not_eq_false] at h
    obtain ⟨h1, h3, h5, h4⟩ := h
    unfold mayM okSz at h4
    simp only [Bool.and_eq_true, decide_eq_true_eq] at h4
    obtain ⟨R, rfl⟩ := Int.eq_ofNat_of_zero_le h4.1.1.1
    obtain ⟨C, rfl⟩ := Int.eq_ofNat_of_zero_le h4.1.2.1
    exact takes_in w R C a zs cap ka ks kc la ls lc x hZ hWd hK hL hx (by omega) (by omega) (by have := h4.2; rw [← Int.natCast_mul] at this; omega) (by omega) (by omega) (by omega)
end Go.Proofs.Ytpjdibanjmmbkaa
