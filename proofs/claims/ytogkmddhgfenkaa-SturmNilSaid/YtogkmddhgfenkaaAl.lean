/- Package sturm: All, where there are none. -/
import Derived.Test.YtogkmddhgfenkaaOc
import Derived.Test.YtogkmddhgfenkaaTb
namespace Go.Proofs.Ytogkmddhgfenkaa
open Go Go.RowKit
set_option maxRecDepth 100000

set_option maxHeartbeats 4000000 in
theorem All_ask (w : World) (da ea : Option Addr) (ds es : List Nat) (dc ec : Nat) (hD : Fls w da ds) (hE : Fls w ea es) (hl : ds.length ≤ 1000) (hl' : es.length ≤ 1000) (hz : askS ds es [] ≠ 0 ∨ ds.length = 0) :
    Calls Try.prog 41 #[.agg #[.slice da ds.length dc, .slice ea es.length ec]] w fun e w' => e = .returned (.tuple #[.slice none 0 0, .int .i64 0, .int .i64 (askS ds es [])]) ∧ Below w.heap.size w w' := by
  have hm : ds.length ≤ maxLen := by unfold maxLen; omega
  have hm' : es.length ≤ maxLen := by unfold maxLen; omega
  have x0 : Box (w.alloc (.cells #[.slice da ds.length dc, .slice ea es.length ec] 51)) w.heap.size [.slice da ds.length dc, .slice ea es.length ec] := Box.newA w [_, _] _ rfl
  have hB0 : Below w.heap.size w (w.alloc (.cells #[.slice da ds.length dc, .slice ea es.length ec] 51)) := (Below.refl _ _).alloc (Nat.le_refl _) _
  have HA := Lib.hid (ask13_any _ da ea none ds es [] dc ec 0 (hD.below hB0) (hE.below hB0) (fun h => absurd rfl h) hm hm' (by decide))
  generalize askS ds es [] = a0 at *
  clear hD hE hl hl' hm hm'
  by_cases h0 : a0 = 0
  · subst h0
    have hn : ds.length = 0 := hz.resolve_left (fun h => h rfl)
    have t1 : ((ds.length : Int) == 0) = true := by rw [beq_iff_eq]; omega
    clear hz hn
    go_enter Try.func41, Try.ntmps41
    go_wp2_with fail
    refine HA.out.mono ?_
    rintro e w1 ⟨rfl, hb1⟩
    obtain ⟨a1, a2, a3⟩ := (x0.below hb1).facts
    have hB1 := below_step hB0 hB0.size hb1
    go_wp2
    exact bodyPost_ret (results_tmp3 rfl _ _ _) rfl ⟨rfl, hB1⟩
  · have t1 : (a0 != 0) = true := by simp [h0]
    clear hz h0
    go_enter Try.func41, Try.ntmps41
    go_wp2_with fail
    refine HA.out.mono ?_
    rintro e w1 ⟨rfl, hb1⟩
    obtain ⟨a1, a2, a3⟩ := (x0.below hb1).facts
    have hB1 := below_step hB0 hB0.size hb1
    go_wp2
    exact bodyPost_ret (results_tmp3 rfl _ _ _) rfl ⟨rfl, hB1⟩
set_option maxHeartbeats 4000000 in
theorem All_bad (w : World) (da ea : Option Addr) (ds es : List Nat) (dc ec : Nat) (hD : Fls w da ds) (hE : Fls w ea es) (hW : Words es) (hl : ds.length ≤ 1000) (hl' : es.length ≤ 1000) (hz : askS ds es [] = 0) (hn : ds.length ≠ 0) (hb : bndE ds es ≠ 0) :
    Calls Try.prog 41 #[.agg #[.slice da ds.length dc, .slice ea es.length ec]] w fun e w' => e = .returned (.tuple #[.slice none 0 0, .int .i64 0, .int .i64 (bndE ds es)]) ∧ Below w.heap.size w w' := by
  have hm : ds.length ≤ maxLen := by unfold maxLen; omega
  have hm' : es.length ≤ maxLen := by unfold maxLen; omega
  have x0 : Box (w.alloc (.cells #[.slice da ds.length dc, .slice ea es.length ec] 51)) w.heap.size [.slice da ds.length dc, .slice ea es.length ec] := Box.newA w [_, _] _ rfl
  have hB0 : Below w.heap.size w (w.alloc (.cells #[.slice da ds.length dc, .slice ea es.length ec] 51)) := (Below.refl _ _).alloc (Nat.le_refl _) _
  have HA := Lib.hid (ask13_any _ da ea none ds es [] dc ec 0 (hD.below hB0) (hE.below hB0) (fun h => absurd rfl h) hm hm' (by decide))
  rw [hz] at HA
  have HO := Lib.hid (fun (W : World) (hW' : Below w.heap.size w W) => open13_any W da ea ds es dc ec (hD.below hW') (hE.below hW') hW hl hl')
  have t1 : ((ds.length : Int) == 0) = false := by rw [beq_eq_false_iff_ne]; omega
  have HB := Lib.hid hb
  have t2 : (bndE ds es != 0) = true := by simp [hb]
  clear hD hE hl hl' hm hm' hz hn hb hW
  go_enter Try.func41, Try.ntmps41
  go_wp2_with fail
  refine HA.out.mono ?_
  rintro e w1 ⟨rfl, hb1⟩
  have x1 := x0.below hb1
  obtain ⟨a1, a2, a3⟩ := x1.facts
  have hB1 := below_step hB0 hB0.size hb1
  go_wp2_with fail
  refine (HO.out _ hB1).mono ?_
  rintro e w2 ⟨a, b, f, mb, Bm, Bt, rfl, _, hnf, hb2⟩
  obtain rfl := hnf HB.out
  have hB2 := below_step hB1 hB1.size hb2
  have hA : Below w2.heap.size w2 (w2.alloc (.cells #[.int .i64 a, .int .i64 b, .nilFunc] 100)) := (Below.refl _ _).alloc (Nat.le_refl _) _
  have hB3 := below_step hB2 hB2.size hA
  clear x0 x1 a1 a2 a3 hB0 hb1 hB1 hb2 hA HO HA hnf
  go_wp2
  exact bodyPost_ret (results_tmp3 rfl _ _ _) rfl ⟨rfl, hB3⟩
theorem All_err (w : World) (da ea : Option Addr) (ds es : List Nat) (dc ec : Nat) (hD : Fls w da ds) (hE : Fls w ea es) (hW : Words es) (hl : ds.length ≤ 1000) (hl' : es.length ≤ 1000) (hb : bndE ds es ≠ 0) :
    Calls Try.prog 41 #[.agg #[.slice da ds.length dc, .slice ea es.length ec]] w fun e w' => e = .returned (.tuple #[.slice none 0 0, .int .i64 0, .int .i64 (allE ds es)]) ∧ Below w.heap.size w w' := by
  unfold allE
  by_cases h : askS ds es [] = 0 ∧ ds.length ≠ 0
  · rw [if_pos h]
    exact All_bad w da ea ds es dc ec hD hE hW hl hl' h.1 h.2 hb
  · rw [if_neg h]
    exact All_ask w da ea ds es dc ec hD hE hl hl' (by omega)
end Go.Proofs.Ytogkmddhgfenkaa
