/- The document's views: vectors, lengths, floats. -/
import Derived.Test.YtpjdibanjmmbkaaRv8
import Derived.Test.YtpjdibanjmmbkaaVsL
namespace Go.Proofs.Ytpjdibanjmmbkaa
open Go Go.RowKit
set_option maxRecDepth 100000

set_option maxHeartbeats 4000000 in
theorem ref_vector (w : World) (v : Vw) (da : Option Addr) (dn dc : Nat) (x : Value) {P : Nat → Prop} (h : RefV P w da dn dc v x) :
    Calls Try.prog 30 #[x] w fun e w' => e = .returned (.bool (vecV v.p v.r v.c)) ∧ Below w.heap.size w w' := by
  obtain ⟨ea, en, ec, aa, ac, rfl, h2, h3, hA, _⟩ := h
  clear h2 h3 hA
  unfold vecV
  generalize v.p.isSome = is at *
  generalize v.r * v.c = an at *
  generalize v.r = r at *
  generalize v.c = c at *
  have hB0 : Below w.heap.size w (w.alloc (.cells #[.slice ea en ec, .int .i64 r, .int .i64 c, .slice aa an ac, .bool is] 48)) := (Below.refl _ _).alloc (Nat.le_refl _) _
  have e1 : ((r : Int) == 1) = decide (r = 1) := by by_cases q : r = 1; subst q; rfl; rw [decide_eq_false q, beq_eq_false_iff_ne]; omega
  have e2 : ((c : Int) == 1) = decide (c = 1) := by by_cases q : c = 1; subst q; rfl; rw [decide_eq_false q, beq_eq_false_iff_ne]; omega
  have e3 : ((r : Int) == 0) = decide (r = 0) := by by_cases q : r = 0; subst q; rfl; rw [decide_eq_false q, beq_eq_false_iff_ne]; omega
  have e4 : ((c : Int) == 0) = decide (c = 0) := by by_cases q : c = 0; subst q; rfl; rw [decide_eq_false q, beq_eq_false_iff_ne]; omega
  have f1 : (r == 1) = decide (r = 1) := rfl
  have f2 : (c == 1) = decide (c = 1) := rfl
  have f3 : (r == 0) = decide (r = 0) := rfl
  have f4 : (c == 0) = decide (c = 0) := rfl
  generalize decide (r = 1) = b1 at *
  generalize decide (c = 1) = b2 at *
  generalize decide (r = 0) = b3 at *
  generalize decide (c = 0) = b4 at *
  cases is
  case false =>
    go_enter Try.func30, Try.ntmps30
    go_wp2
    go_ret
    exact ⟨rfl, hB0⟩
  cases b1
  case true =>
    go_enter Try.func30, Try.ntmps30
    go_wp2
    go_ret
    exact ⟨rfl, hB0⟩
  cases b2
  case true =>
    go_enter Try.func30, Try.ntmps30
    go_wp2
    go_ret
    exact ⟨rfl, hB0⟩
  cases b3
  all_goals
    cases b4
    all_goals
      go_enter Try.func30, Try.ntmps30
      go_wp2
      go_ret
      exact ⟨rfl, hB0⟩

set_option maxHeartbeats 4000000 in
theorem ref_len (w : World) (v : Vw) (da : Option Addr) (dn dc : Nat) (x : Value) {P : Nat → Prop} (h : RefV P w da dn dc v x) (hr : v.r ≤ 512) (hc : v.c ≤ 512) :
    Calls Try.prog 32 #[x] w fun e w' => e = .returned (.int .i64 (lenV v.p v.r v.c)) ∧ Below w.heap.size w w' := by
  have HV := Lib.hid (fun (W : World) (hW : Below w.heap.size w W) => ref_vector W v da dn dc x (h.below hW))
  obtain ⟨ea, en, ec, aa, ac, rfl, h2, h3, hA, _⟩ := h
  clear h2 h3 hA
  unfold lenV
  generalize vecV v.p v.r v.c = vv at *
  generalize v.p.isSome = is at *
  have hrc : v.r * v.c ≤ 512 * 512 := Nat.mul_le_mul hr hc
  generalize v.r = r at *
  generalize v.c = c at *
  have e0 : (r : Int) * (c : Int) = ((r * c : Nat) : Int) := (Int.natCast_mul _ _).symm
  have h1 : (r : Int) * (c : Int) ≤ 9223372036854775807 := by rw [e0]; omega
  have h2 : (0 : Int) ≤ (r : Int) * (c : Int) := Int.mul_nonneg (Int.natCast_nonneg _) (Int.natCast_nonneg _)
  have HE := Lib.hid e0
  clear e0 hrc
  have hB0 : Below w.heap.size w (w.alloc (.cells #[.slice ea en ec, .int .i64 r, .int .i64 c, .slice aa (r * c) ac, .bool is] 48)) := (Below.refl _ _).alloc (Nat.le_refl _) _
  have x0 : Box (w.alloc (.cells #[.slice ea en ec, .int .i64 r, .int .i64 c, .slice aa (r * c) ac, .bool is] 48)) w.heap.size [.slice ea en ec, .int .i64 r, .int .i64 c, .slice aa (r * c) ac, .bool is] := Box.newA w [_, _, _, _, _] _ rfl
  go_enter Try.func32, Try.ntmps32
  go_wp2_with fail
  refine (HV.out _ hB0).mono ?_
  rintro e w1 ⟨rfl, hb1⟩
  have hB1 := below_step hB0 hB0.size hb1
  obtain ⟨a1, a2, a3⟩ := (x0.below hb1).facts
  cases vv
  · go_wp2
    go_ret
    exact ⟨rfl, hB1⟩
  · go_wp2
    go_ret
    exact ⟨by show Ending.returned (.int .i64 ((r : Int) * (c : Int))) = Ending.returned (.int .i64 ((r * c : Nat) : Int)); rw [HE.out], hB1⟩

theorem get_case {w : World} {v : Vw} {sb : Nat} {ws : List Nat} (i j : Int) (hv : v.Ok w sb ws) : (plI v i j = -1 ∧ v.get ws i j = 0) ∨ (∃ p : Nat, plI v i j = (p : Int) ∧ p < ws.length ∧ v.get ws i j = ws.getD p 0 ∧ v.p.isSome = true) := by
  cases hin : inV v.r v.c i j
  · left
    unfold plI Vw.get
    rw [hin]
    exact ⟨rfl, rfl⟩
  · obtain ⟨I, J, rfl, rfl, hI, hJ⟩ := inV_nat hin
    right
    refine ⟨v.o + I * v.d + J * v.u, ?_, ?_, ?_, ?_⟩
    · unfold plI; rw [hin, if_pos rfl, Int.toNat_natCast, Int.toNat_natCast]
    · rcases hv with rfl | ⟨_, hIn, _, _⟩
      · exact absurd hI (Nat.not_lt_zero _)
      · exact hIn I J hI hJ
    · unfold Vw.get; rw [hin, if_pos rfl, Int.toNat_natCast, Int.toNat_natCast]
    · rcases hv with rfl | ⟨⟨st, e, _⟩, _, _, _⟩
      · exact absurd hI (Nat.not_lt_zero _)
      · rw [e]; rfl

set_option maxHeartbeats 4000000 in
theorem ref_get (w : World) (v : Vw) (sb : Nat) (da : Option Addr) (ws : List Nat) (dc : Nat) (x : Value) (i j : Int) {P : Nat → Prop} (hv : v.Ok w sb ws) (h : RefV P w da ws.length dc v x) (hD : Cel w da ws) :
    Calls Try.prog 35 #[x, .int .i64 i, .int .i64 j] w fun e w' => e = .returned (.float .f64 (v.get ws i j)) ∧ Below w.heap.size w w' := by
  have hsm := hv.small
  have HP := Lib.hid (fun (W : World) (hW : Below w.heap.size w W) => ref_place W v da ws.length dc x i j (h.below hW) hsm.1 hsm.2)
  have hcase := get_case i j hv
  obtain ⟨ea, en, ec, aa, ac, rfl, h2, h3, hA, _⟩ := h
  generalize v.get ws i j = z at *
  generalize plI v i j = pv at *
  clear h3 hA hv hsm
  have hD' : v.p.isSome = true → ea = da ∧ en = ws.length := fun hp => ⟨(h2 hp).1, (h2 hp).2.1⟩
  clear h2
  generalize v.p.isSome = is at *
  generalize v.r * v.c = an at *
  generalize v.r = r at *
  generalize v.c = c at *
  have hB0 : Below w.heap.size w (w.alloc (.cells #[.slice ea en ec, .int .i64 r, .int .i64 c, .slice aa an ac, .bool is] 48)) := (Below.refl _ _).alloc (Nat.le_refl _) _
  have x0 : Box (w.alloc (.cells #[.slice ea en ec, .int .i64 r, .int .i64 c, .slice aa an ac, .bool is] 48)) w.heap.size [.slice ea en ec, .int .i64 r, .int .i64 c, .slice aa an ac, .bool is] := Box.newA w [_, _, _, _, _] _ rfl
  rcases hcase with ⟨rfl, rfl⟩ | ⟨p, rfl, hp, rfl, hs⟩
  · go_enter Try.func35, Try.ntmps35
    go_wp2_with fail
    refine (HP.out _ hB0).mono ?_
    rintro e w1 ⟨rfl, hb1⟩
    have hB1 := below_step hB0 hB0.size hb1
    go_wp2
    go_ret
    exact ⟨rfl, hB1⟩
  · obtain ⟨rfl, rfl⟩ := hD' hs
    subst hs
    have nw : ws ≠ [] := by intro e; rw [e] at hp; exact absurd hp (Nat.not_lt_zero _)
    obtain ⟨bd, od, rfl, hbd, hcd⟩ := hD nw
    have c0 := hcd p (ws.getD p 0) (by simp [hp])
    generalize ws.getD p 0 = z at *
    clear hD' hcd nw hD
    go_enter Try.func35, Try.ntmps35
    go_wp2_with fail
    refine (HP.out _ hB0).mono ?_
    rintro e w1 ⟨rfl, hb1⟩
    have hB1 := below_step hB0 hB0.size hb1
    have c1 : w1.cell? ⟨bd, od + p, none⟩ = some (.float .f64 z) := by rw [(below_cells hB1).1 _ _ hbd]; exact c0
    obtain ⟨a1, a2, a3⟩ := (x0.below hb1).facts
    go_wp2
    go_ret
    exact ⟨rfl, hB1⟩
end Go.Proofs.Ytpjdibanjmmbkaa
