/- 'plumblinelaw08.KernelsSums' at every input. No condition but on lengths. -/
import Derived.Test.YtbcdpibcieadlaaKs
namespace Go.Proofs.Ytbcdpibcieadlaa
open Go Go.RowKit
set_option maxRecDepth 1000000

set_option maxHeartbeats 4000000 in
theorem sums8_any (w : World) (rx cx : Int) (ax : Option Addr) (zx : List Nat) (px : Nat) (ry cy : Int) (ay : Option Addr) (zy : List Nat) (py : Nat) (t : Bool) (hZx : Cel w ax zx) (hWx : Words zx) (hlx : zx.length ≤ maxLen) (hZy : Cel w ay zy) (hWy : Words zy) (hly : zy.length ≤ maxLen) :
    Calls Try.prog 3 #[.agg #[.int .i64 rx, .int .i64 cx, .slice ax zx.length px], .agg #[.int .i64 ry, .int .i64 cy, .slice ay zy.length py], .bool t] w fun e w' => e = .returned (.bool true) ∧ Below w.heap.size w w' := by
  have H1 := fun W => big8_any rx cx ax zx.length px W hlx
  have H2 := fun W => big8_any ry cy ay zy.length py W hly
  by_cases hs : (!mayM rx cx zx.length || decide (150 < zx.length)) = false ∧ (!mayM ry cy zy.length || decide (150 < zy.length)) = false
  · obtain ⟨hx, hy⟩ := hs
    rw [hx] at H1
    rw [hy] at H2
    simp only [Bool.or_eq_false_iff, Bool.not_eq_false', decide_eq_false_iff_not] at hx hy
    obtain ⟨rx, cx, rfl, rfl, h1, h2, hnx⟩ := mayM_nat hx.1
    obtain ⟨ry, cy, rfl, rfl, h3, h4, hny⟩ := mayM_nat hy.1
    exact sums8_small w rx cx ry cy ax ay zx zy px py t hZx hWx hZy hWy h1 h2 h3 h4 hnx hny (by omega) (by omega) H1 H2
  · have x0 := (Box.newA w [.int .i64 rx, .int .i64 cx, .slice ax zx.length px] 24 rfl).alloc (.cells #[.int .i64 ry, .int .i64 cy, .slice ay zy.length py] 24)
    have x1 : Box ((w.alloc (.cells #[.int .i64 rx, .int .i64 cx, .slice ax zx.length px] 24)).alloc (.cells #[.int .i64 ry, .int .i64 cy, .slice ay zy.length py] 24)) (w.heap.size + 1) [.int .i64 ry, .int .i64 cy, .slice ay zy.length py] := Box.newA _ _ _ (by simp)
    have hB0 : Below w.heap.size w ((w.alloc (.cells #[.int .i64 rx, .int .i64 cx, .slice ax zx.length px] 24)).alloc (.cells #[.int .i64 ry, .int .i64 cy, .slice ay zy.length py] 24)) := ((Below.refl _ _).alloc (Nat.le_refl _) _).alloc (by simp) _
    have HX := Lib.hid H1
    have HY := Lib.hid H2
    clear H1 H2 hZx hWx hlx hZy hWy hly
    generalize (!mayM rx cx zx.length || decide (150 < zx.length)) = q1 at *
    generalize (!mayM ry cy zy.length || decide (150 < zy.length)) = q2 at *
    have HS := Lib.hid hs
    clear hs
    obtain ⟨p1, p2, p3⟩ := x0.facts
    go_enter Try.func3, Try.ntmps3
    go_wp2_with fail
    refine (HX.out _).mono ?_
    rintro e w1 ⟨rfl, hb⟩
    have HB1 := Lib.hid (below_step hB0 hB0.size hb)
    replace x1 := x1.below hb
    clear p1 p2 p3 x0 hB0 hb
    obtain ⟨p1, p2, p3⟩ := x1.facts
    dsimp only
    cases q1
    · cases q2
      · exact absurd ⟨rfl, rfl⟩ HS.out
      · go_wp2_with fail
        refine (HY.out _).mono ?_
        rintro e w2 ⟨rfl, hb⟩
        have HB2 := Lib.hid (below_step HB1.out HB1.out.size hb)
        clear p1 p2 p3 x1 hb
        dsimp only
        go_wp2_with fail
        refine (known08_any _).mono ?_
        rintro e w3 ⟨rfl, hb⟩
        have HB3 := Lib.hid (below_step HB2.out HB2.out.size hb)
        dsimp only
        go_wp2_with fail
        go_ret
        exact ⟨rfl, HB3.out⟩
    · go_wp2_with fail
      refine (known08_any _).mono ?_
      rintro e w3 ⟨rfl, hb⟩
      have HB3 := Lib.hid (below_step HB1.out HB1.out.size hb)
      dsimp only
      go_wp2_with fail
      go_ret
      exact ⟨rfl, HB3.out⟩
end Go.Proofs.Ytbcdpibcieadlaa
