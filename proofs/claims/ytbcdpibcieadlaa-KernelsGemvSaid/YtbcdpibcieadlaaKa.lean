/- Layer 8: sums of products over function values. No condition but on lengths. -/
import Derived.Test.YtbcdpibcieadlaaVw7
import Derived.Test.YtbcdpibcieadlaaVr
import Derived.Shelf.Abstract
namespace Go.Proofs.Ytbcdpibcieadlaa
open Go Go.RowKit
set_option maxRecDepth 100000

/-- A function value that tells floats, in every world grown from w. -/
def Fnk (w : World) (v : Value) (lo hi : Nat) (g : Nat → Nat) : Prop :=
  ∃ f first cap, v = .func (.func f) first cap ∧ Enters Try.prog f ∧ ∀ (k : Nat) W, lo ≤ k → k < hi → Below w.heap.size w W → Calls Try.prog f (first.push (.int .i64 k) ++ cap) W fun e w' => (∃ s, e = .returned (.float .f64 (raw (g k) s))) ∧ Below W.heap.size W w'
/-- Products, added up from one place on. -/
def sumG (x y : Nat → Nat) (lo : Nat) : Nat → Nat
  | 0 => 0
  | n + 1 => fadd (sumG x y lo n) (fmul (x (lo + n)) (y (lo + n)))
set_option maxHeartbeats 4000000 in
theorem sum_any (w : World) (lo hi : Nat) (fx fy : Value) (x y : Nat → Nat) (hx : Fnk w fx lo hi x) (hy : Fnk w fy lo hi y) (hh : hi ≤ 1000000) :
    Calls Try.prog 66 #[.int .i64 lo, .int .i64 hi, fx, fy] w fun e w' => (∃ s, e = .returned (.float .f64 (raw (sumG x y lo (hi - lo)) s))) ∧ Below w.heap.size w w' := by
  obtain ⟨f1, a1, c1, rfl, E1, h1⟩ := hx
  obtain ⟨f2, a2, c2, rfl, E2, h2⟩ := hy
  have HE := Lib.hid (And.intro E1 E2)
  have H1 := Lib.hid h1
  have H2 := Lib.hid h2
  clear h1 h2 E1 E2
  go_enter Try.func66, Try.ntmps66
  go_wp2_with fail
  go_loopw [9, 10] (fun s9 s10 wr => ∃ k s : Nat, (k ≤ hi ∨ k = lo) ∧ lo ≤ k ∧ s9 = .float .f64 (raw (sumG x y lo (k - lo)) s) ∧ s10 = .int .i64 k ∧ Below w.heap.size w wr) (fun _ s10 _ => hi - (intOf s10).toNat)
  case atStart => exact ⟨lo, 0, .inr rfl, Nat.le_refl _, by rw [Nat.sub_self, sumG, raw_of_not (by kernel_rfl)], rfl, Below.refl _ _⟩
  case round =>
    obtain ⟨k, s, hk, hlo, rfl, rfl, hB⟩ := hrel
    by_cases hlt : k < hi
    · have HB := Lib.hid (show _ ∧ _ ∧ _ from ⟨hB, hlt, hlo⟩)
      clear hB hk hlo
      go_wp2_with fail
      rw [HE.out.1 _ _]
      go_simp
      refine (H1.out k wr HB.out.2.2 HB.out.2.1 HB.out.1).mono ?_
      rintro e w1 ⟨⟨s1, rfl⟩, hb1⟩
      have hB1 := below_step HB.out.1 HB.out.1.size hb1
      dsimp only
      go_wp2_with fail
      rw [HE.out.2 _ _]
      go_simp
      refine (H2.out k w1 HB.out.2.2 HB.out.2.1 hB1).mono ?_
      rintro e w2 ⟨⟨s2, rfl⟩, hb2⟩
      have hB2 := below_step hB1 hB1.size hb2
      dsimp only
      go_wp2_with (first | (fail) | (refine wpList_flt rfl rfl rfl rfl rfl ?_; intro K hK _ _; go_frame; refine hK _ _ ?_; clear hK K))
      go_roundw
      case rel => exact ⟨k + 1, _, .inl HB.out.2.1, by have := HB.out.2.2; omega, by rw [show k + 1 - lo = (k - lo) + 1 from by have := HB.out.2.2; omega, sumG, show lo + (k - lo) = k from by have := HB.out.2.2; omega]; simp only [fadd_rawl, fadd_rawr, fmul_rawl, fmul_rawr]; rfl, by go_num, below_drewN _ (below_step hB1 hB1.size hb2)⟩
      case measure => have := HB.out.2.1; simp [intOf]; omega
    · have e : k - lo = hi - lo := by omega
      rw [e]
      have HB := Lib.hid hB
      clear hB hk hlo e
      go_wp2_with fail
      go_ret
      exact ⟨⟨s, rfl⟩, HB.out⟩
end Go.Proofs.Ytbcdpibcieadlaa
