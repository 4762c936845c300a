/- The document's views: a place. -/
import Derived.Test.YtpjdibanjmmbkaaRv6
namespace Go.Proofs.Ytpjdibanjmmbkaa
open Go Go.RowKit
set_option maxRecDepth 100000

/-- The k-th place, by its row and column; none: -1. -/
def plI (v : Vw) (i j : Int) : Int := if inV v.r v.c i j then ((v.o + i.toNat * v.d + j.toNat * v.u : Nat) : Int) else -1
set_option maxHeartbeats 4000000 in
theorem ref_place (w : World) (v : Vw) (da : Option Addr) (dn dc : Nat) (x : Value) (i j : Int) {P : Nat → Prop} (h : RefV P w da dn dc v x) (hr : v.r ≤ 512) (hc : v.c ≤ 512) :
    Calls Try.prog 81 #[x, .int .i64 i, .int .i64 j] w fun e w' => e = .returned (.int .i64 (plI v i j)) ∧ Below w.heap.size w w' := by
  obtain ⟨ea, en, ec, aa, ac, rfl, h2, h3, hA, _⟩ := h
  clear h2 h3
  cases hin : inV v.r v.c i j
  case false =>
    have e0 : plI v i j = -1 := by unfold plI; rw [hin]; rfl
    rw [e0]
    have hk : i < 0 ∨ (0 ≤ i ∧ (v.r : Int) ≤ i) ∨ (0 ≤ i ∧ i < v.r ∧ j < 0) ∨ (0 ≤ i ∧ i < v.r ∧ 0 ≤ j ∧ (v.c : Int) ≤ j) := by unfold inV at hin; simp at hin; omega
    have HK : (decide (i < 0) = true) ∨ (decide (i < 0) = false ∧ decide ((v.r : Int) ≤ i) = true) ∨ (decide (i < 0) = false ∧ decide ((v.r : Int) ≤ i) = false ∧ decide (j < 0) = true) ∨ (decide (i < 0) = false ∧ decide ((v.r : Int) ≤ i) = false ∧ decide (j < 0) = false ∧ decide ((v.c : Int) ≤ j) = true) := by
      simp only [decide_eq_true_eq, decide_eq_false_iff_not]
      omega
    clear hk hin e0 hA hr hc
    generalize v.p.isSome = is at *
    generalize v.r * v.c = an at *
    generalize v.r = r at *
    generalize v.c = c at *
    have hB0 : Below w.heap.size w (w.alloc (.cells #[.slice ea en ec, .int .i64 r, .int .i64 c, .slice aa an ac, .bool is] 48)) := (Below.refl _ _).alloc (Nat.le_refl _) _
    rcases HK with h1 | ⟨h1, h2⟩ | ⟨h1, h2, h3⟩ | ⟨h1, h2, h3, h4⟩
    all_goals
      go_enter Try.func81, Try.ntmps81
      go_wp2
      go_ret
      exact ⟨rfl, hB0⟩
  case true =>
    obtain ⟨I, J, rfl, rfl, hI, hJ⟩ := inV_nat hin
    have e0 : plI v I J = ((v.pl (I * v.c + J) : Nat) : Int) := by
      unfold plI
      rw [hin, if_pos rfl]
      have h3 : (I * v.c + J) / v.c = I := by rw [Nat.mul_comm, Nat.mul_add_div (by omega), Nat.div_eq_of_lt hJ]; rfl
      have h4 : (I * v.c + J) % v.c = J := by rw [Nat.mul_comm, Nat.mul_add_mod, Nat.mod_eq_of_lt hJ]
      unfold Vw.pl
      rw [h3, h4]
      simp only [Int.toNat_natCast]
    have hb : I * v.c + J < v.r * v.c := by have : (I + 1) * v.c ≤ v.r * v.c := Nat.mul_le_mul_right _ hI; rw [Nat.succ_mul] at this; omega
    have hrc : v.r * v.c ≤ 512 * 512 := Nat.mul_le_mul hr hc
    have hg : v.pls[I * v.c + J]? = some (v.pl (I * v.c + J)) := pls_get hb
    have np : v.pls ≠ [] := by intro e; rw [e] at hg; cases hg
    obtain ⟨ba, oa, rfl, hba, hca⟩ := hA np
    have c0 := hca _ _ hg
    rw [e0]
    clear e0 hin hg np hca
    generalize v.pl (I * v.c + J) = z at *
    generalize v.p.isSome = is at *
    generalize v.r = r at *
    generalize v.c = c at *
    have hB0 : Below w.heap.size w (w.alloc (.cells #[.slice ea en ec, .int .i64 r, .int .i64 c, .slice (some ⟨ba, oa, none⟩) (r * c) ac, .bool is] 48)) := (Below.refl _ _).alloc (Nat.le_refl _) _
    have x0 : Box (w.alloc (.cells #[.slice ea en ec, .int .i64 r, .int .i64 c, .slice (some ⟨ba, oa, none⟩) (r * c) ac, .bool is] 48)) w.heap.size [.slice ea en ec, .int .i64 r, .int .i64 c, .slice (some ⟨ba, oa, none⟩) (r * c) ac, .bool is] := Box.newA w [_, _, _, _, _] _ rfl
    have c1 : (w.alloc (.cells #[.slice ea en ec, .int .i64 r, .int .i64 c, .slice (some ⟨ba, oa, none⟩) (r * c) ac, .bool is] 48)).cell? ⟨ba, oa + (I * c + J), none⟩ = some (.int .i64 (z : Int)) := by rw [(below_cells hB0).1 _ _ hba]; exact c0
    obtain ⟨a1, a2, a3⟩ := x0.facts
    have h1 : decide ((I : Int) < 0) = false := by simp
    have h2 : decide ((r : Int) ≤ (I : Int)) = false := by simp; omega
    have h2' : decide (r ≤ I) = false := by simp; omega
    have h3 : decide ((J : Int) < 0) = false := by simp
    have h4 : decide ((c : Int) ≤ (J : Int)) = false := by simp; omega
    have h4' : decide (c ≤ J) = false := by simp; omega
    have e0 : (I : Int) * (c : Int) = ((I * c : Nat) : Int) := (Int.natCast_mul _ _).symm
    have hm : I * c ≤ 262144 := by omega
    have g0 : (I : Int) * (c : Int) + (J : Int) = ((I * c + J : Nat) : Int) := by rw [e0]; rfl
    have g1 : wrap64 ((I : Int) * (c : Int)) = (I : Int) * (c : Int) := by rw [e0]; unfold wrap64; omega
    have g2 : wrap64 ((I : Int) * (c : Int) + (J : Int)) = (I : Int) * (c : Int) + (J : Int) := by rw [g0]; unfold wrap64; omega
    have g3 : ((I : Int) * (c : Int) + (J : Int)).toNat = I * c + J := by rw [g0]; exact Int.toNat_natCast _
    have g4 : (0 : Int) ≤ (I : Int) * (c : Int) + (J : Int) := by rw [g0]; exact Int.natCast_nonneg _
    have g5 : (I : Int) * (c : Int) + (J : Int) < (r : Int) * (c : Int) := by rw [g0, ← Int.natCast_mul]; exact Int.ofNat_lt.2 hb
    have g6 : (0 : Int) ≤ (I : Int) * (c : Int) ∧ (I : Int) * (c : Int) ≤ 262144 := by rw [e0]; omega
    clear c0 e0 g0
    go_enter Try.func81, Try.ntmps81
    go_wp2
    go_ret
    exact ⟨rfl, hB0⟩
end Go.Proofs.Ytpjdibanjmmbkaa
