/- The guard laws: scales. -/
import Derived.Test.YtogkmddhgfenkaaGp
import Derived.Test.YtogkmddhgfenkaaNq3
namespace Go.Proofs.Ytogkmddhgfenkaa
open Go Go.RowKit
set_option maxRecDepth 1000000
theorem sameN_self (xs : List Nat) : ∀ n, sameN xs xs n = true
  | 0 => rfl
  | n + 1 => by unfold sameN; rw [sameN_self xs n, sameF_refl]; rfl
set_option maxHeartbeats 2000000 in
theorem SameAll_self (w : World) (a b : Option Addr) (xs : List Nat) (ca cb : Nat) (hX : Cel w a xs) (hY : Cel w b xs) (hlx : xs.length ≤ 262144) :
    Calls Try.prog 49 #[.slice a xs.length ca, .slice b xs.length cb] w fun e w' => e = .returned (.bool true) ∧ Below w.heap.size w w' := by
  have t1 : ((xs.length : Int) != (xs.length : Int)) = false := bne_self_eq_false _
  go_enter Try.func49, Try.ntmps49
  go_wp2
  clear t1
  go_loopw [5] (fun s wr => ∃ k : Nat, k ≤ xs.length ∧ s = .int .i64 k ∧ Below w.heap.size w wr) (fun s _ => xs.length - (intOf s).toNat)
  case atStart => exact ⟨0, Nat.zero_le _, rfl, Below.refl _ _⟩
  case round =>
    obtain ⟨k, hk, rfl, hB⟩ := hrel
    by_cases hlt : k < xs.length
    · obtain ⟨ba, oa, rfl, hba, c1⟩ := (hX.below hB).at hlt
      obtain ⟨bb, ob, rfl, hbb, c2⟩ := (hY.below hB).at hlt
      generalize xs.getD k 0 = x at *
      have HS := Lib.hid (fun W => sameF_refl x ▸ Same06_any x x W)
      have i1 : (0 : Int) ≤ (k : Int) := by omega
      have i2 : (k : Int) < (xs.length : Int) := by omega
      have hkl : k + 1 ≤ 262144 := by omega
      go_wp2
      refine wp_region_nqd 10  (by kernel_rfl) (by kernel_rfl) ?_
      intro Cw Rw hc hb' hb2 hd hRw
      simp only [List.take_succ_cons, List.take_zero]
      repeat (
        first
          | (refine nqW_skip rfl (fun K hK => ?_); go_frame; refine hK _ ?_; clear hK K)
          | ((first | (refine nqW_plain (fun K hK => ?_)) | (refine nqW_want rfl (fun K hK => ?_)) | (refine nqW_step (fun K hK => ?_); go_simp))
             first
               | (refine nq_move rfl ?_; go_simp; refine hK _ ?_; clear hK K)
               | (refine nq_assign rfl ?_; go_simp; refine hK _ ?_; clear hK K)
               | (refine nq_flt rfl rfl rfl rfl hd ?_; intro _; go_frame; refine hK _ ?_; clear hK K)
               | (refine nq_inC rfl ?_; intro w' hw'; go_simp; refine fd_both (V := (.bool true)) (by kernel_rfl) (fun w2 hw2 => ?_) ?_; (next => (go_at_call 29; exact (((HS.out w2).mono fun e w' (⟨h1, h2⟩ : e = Ending.returned (.bool true) ∧ w2 = w') => (⟨h1, h2 ▸ Below.refl _ _⟩ : e = Ending.returned (.bool true) ∧ Below w2.heap.size w2 w'))).mono (fun e w3 ⟨he, hb⟩ => ⟨he, hb2 _ _ hw2 hb⟩))); (try go_simp); refine hK _ ?_; clear hK K hw' w')
               | (refine nq_same ?_; intro w' hw'; go_simp; (try go_bits); refine hK _ ?_; clear hK K hw' w')
               | (refine nq_same ?_; intro w' hw'; go_simp; rw [if_pos (by omega)]; go_simp; (try go_bits); refine hK _ ?_; clear hK K hw' w')
               | (go_simp; refine hK _ ?_; clear hK K)))
      refine nqW_nil (hRw _ ?_)
      clear hc hb' hb2 hd hRw
      intro w' hw'
      simp only [List.drop]
      clear c1 c2 i1 i2
      go_wp2
      go_roundw
      case rel => exact ⟨k + 1, by omega, by go_num, below_step hB hB.size hw'⟩
      case measure => simp [intOf]; omega
    · obtain rfl : k = xs.length := by omega
      go_wp2
      go_ret
      exact ⟨rfl, hB⟩
end Go.Proofs.Ytogkmddhgfenkaa
