/- The guard law's own functions; its rows hold. -/
import Derived.Test.YtogkmddhgfenkaaGk
namespace Go.Proofs.Ytogkmddhgfenkaa
open Go Go.RowKit
set_option maxRecDepth 100000
theorem word05_any (x : Nat) (w : World) : Calls Try.prog 48 #[.float .f64 x] w fun e w' => e = .returned (.int .u64 x) ∧ w = w' := by
  go_enter Try.func48, Try.ntmps48
  go_wp2
  go_ret
  exact ⟨rfl, rfl⟩
theorem none05_any (w : World) : Calls Try.prog 18 #[.agg #[.int .i64 0, .int .i64 0, .slice none 0 0]] w fun e w' => e = .returned (.bool true) ∧ Below w.heap.size w w' := by
  have hB0 : Below w.heap.size w (w.alloc (.cells #[.int .i64 0, .int .i64 0, .slice none 0 0] 26)) := (Below.refl _ _).alloc (Nat.le_refl _) _
  go_enter Try.func18, Try.ntmps18
  go_wp2
  go_ret
  exact ⟨rfl, hB0⟩
def WordF (f : FuncId) (args : Array Value) (v : Value) : Prop := f = 48 → ∀ x : Nat, args = #[.float .f64 x] → v = .int .u64 x
set_option maxHeartbeats 4000000 in
theorem same05_any (w : World) (m n : Int) (a b : Option Addr) (ws : List Nat) (ac bc : Nat) (hA : Cel w a ws) (hB : Wds w b ws) (hl : ws.length ≤ 262144) :
    Calls Try.prog 19 #[.agg #[.int .i64 m, .int .i64 n, .slice a ws.length ac], .int .i64 m, .int .i64 n, .slice b ws.length bc] w fun e w' => e = .returned (.bool true) ∧ Below w.heap.size w w' := by
  have hB0 : Below w.heap.size w (w.alloc (.cells #[.int .i64 m, .int .i64 n, .slice a ws.length ac] 26)) := (Below.refl _ _).alloc (Nat.le_refl _) _
  have x0 : Box (w.alloc (.cells #[.int .i64 m, .int .i64 n, .slice a ws.length ac] 26)) w.heap.size [.int .i64 m, .int .i64 n, .slice a ws.length ac] := Box.newA w [_, _, _] _ rfl
  have t1 : (m != m) = false := bne_self_eq_false _
  have t2 : (n != n) = false := bne_self_eq_false _
  have t3 : ((ws.length : Int) != (ws.length : Int)) = false := bne_self_eq_false _
  have HA := Lib.hid hA
  have HB := Lib.hid hB
  clear hA hB
  go_enter Try.func19, Try.ntmps19
  go_wp2
  generalize w.alloc (.cells #[.int .i64 m, .int .i64 n, .slice a ws.length ac] 26) = W0 at *
  clear t1 t2 t3
  go_loopw [9] (fun s wr => ∃ k : Nat, k ≤ ws.length ∧ s = .int .i64 k ∧ Below W0.heap.size W0 wr) (fun s _ => ws.length - (intOf s).toNat)
  case atStart => exact ⟨0, Nat.zero_le _, rfl, Below.refl _ _⟩
  case round =>
    obtain ⟨k, hk, rfl, hB⟩ := hrel
    have hBw := below_step hB0 hB0.size hB
    by_cases hlt : k < ws.length
    · obtain ⟨ba, oa, rfl, hba, c1⟩ := (HA.out.below hBw).at hlt
      obtain ⟨bb, ob, rfl, hbb, c2⟩ := (HB.out.below hBw).at hlt
      obtain ⟨q1, q2, q3⟩ := (x0.below hB).facts
      generalize ws.getD k 0 = x at *
      have t3 : ((x : Int) != (x : Int)) = false := bne_self_eq_false _
      have hkl : k + 1 ≤ 262144 := by omega
      have i1 : (0 : Int) ≤ (k : Int) := by omega
      have i2 : (k : Int) < (ws.length : Int) := by omega
      go_wp2
      refine wp_region_nqb 11 WordF (by kernel_rfl) (by kernel_rfl) ?_
      intro C R hc hb' hb2 hd hR
      simp only [List.take_succ_cons, List.take_zero]
      repeat (
        first
          | (refine nqW_plain (fun K hK => ?_))
          | (refine nqW_step (fun K hK => ?_); go_simp)
        first
          | (refine nq_move rfl ?_; go_simp; refine hK _ ?_; clear hK K)
          | (refine nq_assign rfl ?_; go_simp; refine hK _ ?_; clear hK K)
          | (refine nq_flt rfl rfl rfl rfl hd ?_; intro _; go_frame; refine hK _ ?_; clear hK K)
          | (refine nq_in ?_; intro w' hw'; go_simp; refine ⟨?_, ?_⟩; (next => (intro w2 hw2; go_at_call 48; refine (word05_any _ w2).mono ?_; (intro e w3 ⟨he, hb⟩; subst hb; exact ⟨_, he, (fun _ x' hx' => by simp at hx'; subst hx'; rfl), hw2⟩))); intro v hv; obtain rfl := hv rfl _ rfl; go_simp; refine hK _ ?_; clear hv hK K hw' w')
          | (refine nq_same ?_; intro w' hw'; go_simp; (try go_bits); refine hK _ ?_; clear hK K hw' w')
          | (refine nq_same ?_; intro w' hw'; go_simp; rw [if_pos (by omega)]; go_simp; (try go_bits); refine hK _ ?_; clear hK K hw' w')
          | (go_simp; refine hK _ ?_; clear hK K))
      refine nqW_nil (hR _ ?_)
      clear hc hb' hb2 hd hR
      intro w' hw'
      simp only [List.drop]
      clear c1 c2 q1 q2 q3 i1 i2
      go_wp2
      go_roundw
      case rel => exact ⟨k + 1, by omega, by go_num, below_step hB hB.size hw'⟩
      case measure => simp [intOf]; omega
    · obtain rfl : k = ws.length := by omega
      go_wp2
      go_ret
      exact ⟨rfl, hBw⟩
theorem Same06_any (x y : Nat) (w : World) : Calls Try.prog 29 #[.float .f64 x, .float .f64 y] w fun e w' => e = .returned (.bool (sameF x y)) ∧ w = w' := by
  have hx := feq_self x
  have hy := feq_self y
  have e1 : ((x : Int) == (y : Int)) = decide (x = y) := by rw [Bool.eq_iff_iff]; simp; omega
  have e0 : sameF x y = (decide (x = y) || (isnan x && isnan y)) := rfl
  rw [e0]
  clear e0
  generalize decide (x = y) = q at *
  cases h1 : isnan x
  · rw [h1] at hx
    go_enter Try.func29, Try.ntmps29
    go_wp2
    go_ret
    exact ⟨by simp, rfl⟩
  · rw [h1] at hx
    cases h2 : isnan y
    · rw [h2] at hy
      go_enter Try.func29, Try.ntmps29
      go_wp2
      go_ret
      exact ⟨by simp, rfl⟩
    · rw [h2] at hy
      go_enter Try.func29, Try.ntmps29
      go_wp2
      go_ret
      exact ⟨by simp, rfl⟩
theorem sameF_refl (x : Nat) : sameF x x = true := by unfold sameF; simp
end Go.Proofs.Ytogkmddhgfenkaa
