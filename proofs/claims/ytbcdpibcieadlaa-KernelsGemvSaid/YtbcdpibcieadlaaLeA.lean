/- 'plumblinelaw08.KernelsGemv' at every input (printed by gen_lw.py). No condition but on lengths. -/
import Derived.Test.YtbcdpibcieadlaaLe
namespace Go.Proofs.Ytbcdpibcieadlaa
open Go Go.RowKit
set_option maxRecDepth 1000000

set_option maxHeartbeats 8000000 in
theorem gemv8_any (w : World) (a : Nat) (rm cm : Int) (am : Option Addr) (zm : List Nat) (pm : Nat) (rx cx : Int) (ax : Option Addr) (zx : List Nat) (px : Nat) (b : Nat) (ry cy : Int) (ay : Option Addr) (zy : List Nat) (py : Nat) (t : Bool) (_ha : a < 18446744073709551616) (hZm : Cel w am zm) (hWm : Words zm) (hlm : zm.length ≤ maxLen) (hkm : zm.length ≤ pm) (hmm : pm ≤ maxLen) (hZx : Cel w ax zx) (hWx : Words zx) (hlx : zx.length ≤ maxLen) (hkx : zx.length ≤ px) (hmx : px ≤ maxLen) (_hb : b < 18446744073709551616) (hZy : Cel w ay zy) (hWy : Words zy) (hly : zy.length ≤ maxLen) (hky : zy.length ≤ py) (hmy : py ≤ maxLen) :
    Calls Try.prog 4 #[.float .f64 a, .agg #[.int .i64 rm, .int .i64 cm, .slice am zm.length pm], .agg #[.int .i64 rx, .int .i64 cx, .slice ax zx.length px], .float .f64 b, .agg #[.int .i64 ry, .int .i64 cy, .slice ay zy.length py], .bool t] w fun e w' => e = .returned (.bool true) ∧ Below w.heap.size w w' := by
  have Bm := fun W => big8_any rm cm am zm.length pm W hlm
  have Bx := fun W => big8_any rx cx ax zx.length px W hlx
  have By := fun W => big8_any ry cy ay zy.length py W hly
  by_cases hs : (!mayM rm cm zm.length || decide (150 < zm.length)) = false ∧ (!mayM rx cx zx.length || decide (150 < zx.length)) = false ∧ (!mayM ry cy zy.length || decide (150 < zy.length)) = false
  · obtain ⟨gm, gx, gy⟩ := hs
    rw [gm] at Bm
    rw [gx] at Bx
    rw [gy] at By
    simp only [Bool.or_eq_false_iff, Bool.not_eq_false', decide_eq_false_iff_not] at gm gx gy
    obtain ⟨rm, cm, rfl, rfl, um, vm, nm⟩ := mayM_nat gm.1
    obtain ⟨rx, cx, rfl, rfl, ux, vx, nx⟩ := mayM_nat gx.1
    obtain ⟨ry, cy, rfl, rfl, uy, vy, ny⟩ := mayM_nat gy.1
    exact gemv8_small w a b rm cm rx cx ry cy am ax ay zm zx zy pm px py t ⟨hZm, hWm, um, vm, nm, by omega, hkm, hmm⟩ ⟨hZx, hWx, ux, vx, nx, by omega, hkx, hmx⟩ ⟨hZy, hWy, uy, vy, ny, by omega, hky, hmy⟩ Bm Bx By
  · skip
    obtain ⟨W0, hW0⟩ : ∃ W0, W0 = (((w.alloc (.cells #[.int .i64 rm, .int .i64 cm, .slice am zm.length pm] 24)).alloc (.cells #[.int .i64 rx, .int .i64 cx, .slice ax zx.length px] 24)).alloc (.cells #[.int .i64 ry, .int .i64 cy, .slice ay zy.length py] 24)) := ⟨_, rfl⟩
    have hB0 : Below w.heap.size w W0 := hW0 ▸ (((Below.refl _ _).alloc (Nat.le_refl _) _).alloc (by simp) _).alloc (by simp; omega) _
    have x0 : Box W0 (w.heap.size) [.int .i64 rm, .int .i64 cm, .slice am zm.length pm] := hW0 ▸ (((Box.newA w [.int .i64 rm, .int .i64 cm, .slice am zm.length pm] _ rfl).alloc _).alloc _)
    have x1 : Box W0 (w.heap.size + 1) [.int .i64 rx, .int .i64 cx, .slice ax zx.length px] := hW0 ▸ ((Box.newA _ [.int .i64 rx, .int .i64 cx, .slice ax zx.length px] _ (by simp)).alloc _)
    have x2 : Box W0 (w.heap.size + 1 + 1) [.int .i64 ry, .int .i64 cy, .slice ay zy.length py] := hW0 ▸ (Box.newA _ [.int .i64 ry, .int .i64 cy, .slice ay zy.length py] _ (by simp))
    have S0 := Lib.hid (show BoxS w W0 [(w.heap.size, [.int .i64 rm, .int .i64 cm, .slice am zm.length pm]), (w.heap.size + 1, [.int .i64 rx, .int .i64 cx, .slice ax zx.length px]), (w.heap.size + 1 + 1, [.int .i64 ry, .int .i64 cy, .slice ay zy.length py])] from ⟨fun p hp => by
      simp only [List.mem_cons, List.not_mem_nil, or_false] at hp
      rcases hp with rfl | rfl | rfl
      · exact x0
      · exact x1
      · exact x2
      , hB0⟩)
    clear hB0 x0 x1 x2
    have HBm := Lib.hid Bm
    have HBx := Lib.hid Bx
    have HBy := Lib.hid By
    clear Bm hZm hWm hlm hkm hmm Bx hZx hWx hlx hkx hmx By hZy hWy hly hky hmy
    generalize (!mayM rm cm zm.length || decide (150 < zm.length)) = qm at *
    generalize (!mayM rx cx zx.length || decide (150 < zx.length)) = qx at *
    generalize (!mayM ry cy zy.length || decide (150 < zy.length)) = qy at *
    have HS := Lib.hid hs
    clear hs
    go_enter Try.func4, Try.ntmps4
    go_upto_region 1 with (fail)
    rw [← hW0]
    clear hW0
    obtain ⟨f01, f02, f03⟩ := (S0.out.get 0 rfl).facts
    obtain ⟨f11, f12, f13⟩ := (S0.out.get 1 rfl).facts
    obtain ⟨f21, f22, f23⟩ := (S0.out.get 2 rfl).facts
    go_wp2_with fail
    refine (HBm.out _).mono ?_
    rintro e w1 ⟨rfl, hb⟩
    have S1 := Lib.hid (S0.out.step hb)
    clear hb f01 f02 f03 f11 f12 f13 f21 f22 f23
    dsimp only
    cases qm
    case true =>
      go_wp2_with fail
      refine (known08_any _).mono ?_
      rintro e w9 ⟨rfl, hb⟩
      have S9 := Lib.hid (S1.out.step hb)
      clear hb
      dsimp only
      go_wp2_with fail
      go_ret
      exact ⟨rfl, S9.out.below⟩
    case false =>
    obtain ⟨f01, f02, f03⟩ := (S1.out.get 0 rfl).facts
    obtain ⟨f11, f12, f13⟩ := (S1.out.get 1 rfl).facts
    obtain ⟨f21, f22, f23⟩ := (S1.out.get 2 rfl).facts
    go_wp2_with fail
    refine (HBx.out _).mono ?_
    rintro e w2 ⟨rfl, hb⟩
    have S2 := Lib.hid (S1.out.step hb)
    clear hb f01 f02 f03 f11 f12 f13 f21 f22 f23
    dsimp only
    cases qx
    case true =>
      go_wp2_with fail
      refine (known08_any _).mono ?_
      rintro e w9 ⟨rfl, hb⟩
      have S9 := Lib.hid (S2.out.step hb)
      clear hb
      dsimp only
      go_wp2_with fail
      go_ret
      exact ⟨rfl, S9.out.below⟩
    case false =>
    obtain ⟨f01, f02, f03⟩ := (S2.out.get 0 rfl).facts
    obtain ⟨f11, f12, f13⟩ := (S2.out.get 1 rfl).facts
    obtain ⟨f21, f22, f23⟩ := (S2.out.get 2 rfl).facts
    go_wp2_with fail
    refine (HBy.out _).mono ?_
    rintro e w3 ⟨rfl, hb⟩
    have S3 := Lib.hid (S2.out.step hb)
    clear hb f01 f02 f03 f11 f12 f13 f21 f22 f23
    dsimp only
    cases qy
    case true =>
      go_wp2_with fail
      refine (known08_any _).mono ?_
      rintro e w9 ⟨rfl, hb⟩
      have S9 := Lib.hid (S3.out.step hb)
      clear hb
      dsimp only
      go_wp2_with fail
      go_ret
      exact ⟨rfl, S9.out.below⟩
    case false =>
    exact absurd (by simp) HS.out
end Go.Proofs.Ytbcdpibcieadlaa
