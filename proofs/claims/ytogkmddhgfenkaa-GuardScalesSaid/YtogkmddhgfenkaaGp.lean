/- The guard laws: powers. -/
import Derived.Test.YtogkmddhgfenkaaGo
namespace Go.Proofs.Ytogkmddhgfenkaa
open Go Go.RowKit
set_option maxRecDepth 100000
theorem wrong_may (r c : Int) (zs : List Nat) : mayB r c zs.length = (decide (wrongC r c zs = 0) || decide (wrongC r c zs = 10)) := by
  unfold wrongC
  cases h1 : szB r c
  · have : mayB r c zs.length = false := by unfold mayB; rw [h1]; rfl
    rw [this]; rfl
  · cases h2 : mayB r c zs.length
    · rfl
    · cases h3 : zs.all ffin <;> rfl
theorem wrong_vals (r c : Int) (zs : List Nat) : wrongC r c zs = 0 ∨ wrongC r c zs = 2 ∨ wrongC r c zs = 8 ∨ wrongC r c zs = 10 := by
  unfold wrongC
  split
  · omega
  · split
    · omega
    · split <;> omega
theorem wrong_fin {r c : Int} {zs : List Nat} (h : wrongC r c zs = 0) : zs.all ffin = true := by
  unfold wrongC at h
  split at h
  · cases h
  · split at h
    · cases h
    · split at h
      · cases h
      · rename_i h'; simpa using h'
set_option maxHeartbeats 4000000 in
theorem powers_any (w : World) (r c : Int) (a : Option Addr) (zs : List Nat) (ac : Nat) (hZ : Cel w a zs) (hW : Words zs) (hl : zs.length ≤ maxLen) :
    Calls Try.prog 5 #[.agg #[.int .i64 r, .int .i64 c, .slice a zs.length ac]] w fun e w' => e = .returned (.bool true) ∧ Below w.heap.size w w' := by
  have hln : zs.length ≤ 9223372036854775807 := by unfold maxLen at hl; omega
  have hB0 : Below w.heap.size w (w.alloc (.cells #[.int .i64 r, .int .i64 c, .slice a zs.length ac] 26)) := (Below.refl _ _).alloc (Nat.le_refl _) _
  have x0 : Box (w.alloc (.cells #[.int .i64 r, .int .i64 c, .slice a zs.length ac] 26)) w.heap.size [.int .i64 r, .int .i64 c, .slice a zs.length ac] := Box.newA w [_, _, _] _ rfl
  by_cases h400 : 400 < zs.length
  · have t0 : decide ((400 : Int) < (zs.length : Int)) = true := decide_eq_true (by omega)
    have t0' : decide (400 < zs.length) = true := decide_eq_true h400
    clear hZ hW hl h400
    go_enter Try.func5, Try.ntmps5
    go_wp2_with fail
    refine (known05 _).mono ?_
    rintro e w1 ⟨rfl, hb1⟩
    go_wp2
    go_ret
    exact ⟨rfl, below_step hB0 hB0.size hb1⟩
  · have t0 : decide ((400 : Int) < (zs.length : Int)) = false := decide_eq_false (by omega)
    have t0' : decide (400 < zs.length) = false := decide_eq_false h400
    have hn : zs.length ≤ 262144 := by omega
    have HP := Lib.hid (fun W (hW' : Below w.heap.size w W) => Power_any W r c a zs ac (hZ.below hW') hW hn)
    have HR := Lib.hid (fun W (hW' : Below w.heap.size w W) => RWrong_any W r c a zs ac (hZ.below hW') hW hl)
    have HM := Lib.hid (fun W => gMay_any W r c a zs.length ac hl)
    have HRP := Lib.hid (fun (h : zs.all ffin = true) W (hW' : Below w.heap.size w W) => RPower_any W a zs ac (hZ.below hW') hW hn h)
    have hm := wrong_may r c zs
    have hv := wrong_vals r c zs
    have HF := Lib.hid (fun (h : wrongC r c zs = 0) => wrong_fin h)
    rw [hm] at HM
    generalize wrongC r c zs = C at *
    have HV := Lib.hid hv
    clear hZ hW hl h400 hm hv
    go_enter Try.func5, Try.ntmps5
    go_wp2_with fail
    refine (HP.out _ hB0).mono ?_
    rintro e w1 ⟨rfl, hb1⟩
    have x1 := x0.below hb1
    have hB1 := below_step hB0 hB0.size hb1
    obtain ⟨q1, q2, q3⟩ := x1.facts
    clear x0 hB0 hb1 t0 t0'
    have tC : (C != C) = false := bne_self_eq_false _
    by_cases h0 : C = 0
    · subst h0
      have HRP2 := Lib.hid (HRP.out (HF.out rfl))
      rw [if_pos rfl]
      generalize powR (mostF zs zs.length) = pw at *
      have tp : (pw == pw) = true := beq_self_eq_true _
      go_wp2_with fail
      refine (HR.out _ hB1).mono ?_
      rintro e w2 ⟨rfl, hb2⟩
      have x2 := x1.below hb2
      have hB2 := below_step hB1 hB1.size hb2
      clear x1 hB1 hb2 q1 q2 q3
      obtain ⟨q1, q2, q3⟩ := x2.facts
      go_wp2_with fail
      refine (HM.out _).mono ?_
      rintro e w3 ⟨rfl, hb3⟩
      have x3 := x2.below hb3
      have hB3 := below_step hB2 hB2.size hb3
      clear x2 hB2 hb3 q1 q2 q3
      obtain ⟨q1, q2, q3⟩ := x3.facts
      go_wp2_with fail
      refine (HRP2.out _ hB3).mono ?_
      rintro e w4 ⟨rfl, hb4⟩
      have hB4 := below_step hB3 hB3.size hb4
      clear hB3 hb4 q1 q2 q3 x3
      go_wp2_with fail
      refine (known05 _).mono ?_
      rintro e w5 ⟨rfl, hb5⟩
      go_wp2
      go_ret
      exact ⟨rfl, below_step hB4 hB4.size hb5⟩
    · rw [if_neg h0]
      rcases HV.out with h | h | h | h
      · exact absurd h h0
      all_goals
        subst h
        clear h0
        go_wp2_with fail
        refine (HR.out _ hB1).mono ?_
        rintro e w2 ⟨rfl, hb2⟩
        have x2 := x1.below hb2
        have hB2 := below_step hB1 hB1.size hb2
        clear x1 hB1 hb2 q1 q2 q3
        obtain ⟨q1, q2, q3⟩ := x2.facts
        go_wp2_with fail
        refine (HM.out _).mono ?_
        rintro e w3 ⟨rfl, hb3⟩
        have hB3 := below_step hB2 hB2.size hb3
        clear x2 hB2 hb3 q1 q2 q3
        go_wp2_with fail
        refine (known05 _).mono ?_
        rintro e w5 ⟨rfl, hb5⟩
        go_wp2
        go_ret
        exact ⟨rfl, below_step hB3 hB3.size hb5⟩
end Go.Proofs.Ytogkmddhgfenkaa
