/- SturmNil: what each call gives. -/
import Derived.Test.YtogkmddhgfenkaaTn0
namespace Go.Proofs.Ytogkmddhgfenkaa
open Go Go.RowKit Go.Shelf
set_option maxRecDepth 100000

section
variable (W : World) (a b : Option Addr) (c d : Nat)
theorem cn_a (hD : Fls W a (List.replicate 513 0)) (hE : Fls W b (List.replicate 512 0)) : Calls Try.prog 44 #[.agg #[.slice a 513 c, .slice b 512 d], .float .f64 0] W fun e w' => (∃ z, e = .returned (.tuple #[.int .i64 z, .int .i64 2])) ∧ Below W.heap.size W w' := by
  have := Count_c W a b _ _ c d 0 (by kernel_rfl) hD hE (by simp) (by simp)
  rw [tn1, List.length_replicate, List.length_replicate] at this
  exact this.mono fun e w' ⟨h1, h2⟩ => ⟨⟨_, h1⟩, h2⟩
theorem cn_b (hD : Fls W a (List.replicate 512 0)) (hE : Fls W b (List.replicate 511 0)) : Calls Try.prog 44 #[.agg #[.slice a 512 c, .slice b 511 d], .float .f64 4607182418800017408] W fun e w' => e = .returned (.tuple #[.int .i64 512, .int .i64 0]) ∧ Below W.heap.size W w' := by
  have := Count_c W a b _ _ c d 4607182418800017408 (by kernel_rfl) hD hE (by simp) (by simp)
  rw [tn2, tn3, List.length_replicate, List.length_replicate] at this
  exact this
theorem cn_c (hD : Fls W a [9218868437227405311, 9218868437227405311]) (hE : Fls W b [9218868437227405311]) : Calls Try.prog 35 #[.agg #[.slice a 2 c, .slice b 1 d]] W fun e w' => (∃ x y, e = .returned (.tuple #[.float .f64 x, .float .f64 y, .int .i64 10])) ∧ Below W.heap.size W w' := by
  have := Bounds_any W a b [9218868437227405311, 9218868437227405311] [9218868437227405311] c d hD hE (by intro v hv; simp at hv; omega) (by decide) (by decide)
  rw [tn4] at this
  exact this.mono fun e w' ⟨_, _, _, _, h1, _, _, h2⟩ => ⟨⟨_, _, h1⟩, h2⟩
theorem cn_d (hD : Fls W a [9218868437227405311, 9218868437227405311]) (hE : Fls W b [9218868437227405311]) : Calls Try.prog 41 #[.agg #[.slice a 2 c, .slice b 1 d]] W fun e w' => e = .returned (.tuple #[.slice none 0 0, .int .i64 0, .int .i64 10]) ∧ Below W.heap.size W w' := by
  have := All_err W a b [9218868437227405311, 9218868437227405311] [9218868437227405311] c d hD hE (by intro v hv; simp at hv; omega) (by decide) (by decide) (by rw [tn4]; decide)
  rw [tn5] at this
  exact this
theorem cn_e (hD : Fls W a [0, 0]) (hE : Fls W b [4607182418800017408]) : Calls Try.prog 44 #[.agg #[.slice a 2 c, .slice b 1 d], .float .f64 0] W fun e w' => e = .returned (.tuple #[.int .i64 1, .int .i64 0]) ∧ Below W.heap.size W w' := by
  have := Count_c W a b [0, 0] [4607182418800017408] c d 0 (by kernel_rfl) hD hE (by decide) (by decide)
  rw [tn6, tn6e] at this
  exact this
theorem cn_f (hD : Fls W a [9322451228656926720]) : Calls Try.prog 44 #[.agg #[.slice a 1 c, .slice none 0 0], .float .f64 0] W fun e w' => e = .returned (.tuple #[.int .i64 1, .int .i64 0]) ∧ Below W.heap.size W w' := by
  have := Count_c W a none [9322451228656926720] [] c 0 0 (by kernel_rfl) hD (fls_none _) (by decide) (by decide)
  rw [tn7, tn7e] at this
  exact this
theorem cn_g (hD : Fls W a [9326954828284297216]) : Calls Try.prog 44 #[.agg #[.slice a 1 c, .slice none 0 0], .float .f64 0] W fun e w' => e = .returned (.tuple #[.int .i64 1, .int .i64 0]) ∧ Below W.heap.size W w' := by
  have := Count_c W a none [9326954828284297216] [] c 0 0 (by kernel_rfl) hD (fls_none _) (by decide) (by decide)
  rw [tn8, tn8e] at this
  exact this
theorem cn_h (hD : Fls W a [0]) : Calls Try.prog 43 #[.agg #[.slice a 1 c, .slice none 0 0], .int .i64 0] W fun e w' => e = .returned (.tuple #[.float .f64 0, .int .i64 1, .int .i64 0]) ∧ Below W.heap.size W w' := by
  have := Find_any W a none [0] [] c 0 0 hD (fls_none _) (by intro v hv; cases hv) (by decide) (by decide)
  rw [tn9, tn9m, tn9e] at this
  exact this
theorem cn_i : Calls Try.prog 57 #[.float .f64 13830554455654793216, .int .i64 (-1001)] W fun e w' => e = .returned (.float .f64 9322451228656926720) ∧ Below W.heap.size W w' := by
  have := Ldexp_any 13830554455654793216 (-1001) (by decide) (by decide) (by decide) W
  rw [tn10] at this
  exact this
theorem cn_j : Calls Try.prog 57 #[.float .f64 13830554455654793216, .int .i64 (-1000)] W fun e w' => e = .returned (.float .f64 9326954828284297216) ∧ Below W.heap.size W w' := by
  have := Ldexp_any 13830554455654793216 (-1000) (by decide) (by decide) (by decide) W
  rw [tn11] at this
  exact this
end

end Go.Proofs.Ytogkmddhgfenkaa
