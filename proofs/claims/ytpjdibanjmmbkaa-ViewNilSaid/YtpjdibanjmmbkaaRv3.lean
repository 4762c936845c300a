/- The document's views: parts. -/
import Derived.Test.YtpjdibanjmmbkaaRv2
namespace Go.Proofs.Ytpjdibanjmmbkaa
open Go Go.RowKit
set_option maxRecDepth 100000

set_option maxHeartbeats 8000000 in
theorem RPart_no (w : World) (da : Option Addr) (dn dc : Nat) (r c : Nat) (aa : Option Addr) (an ac : Nat) (is : Bool) (i j a b : Int) (hr : r ≤ 512) (hc : c ≤ 512) (h : (is && fitsV i a r && fitsV j b c) = false) :
    Calls Try.prog 74 #[.agg #[.slice da dn dc, .int .i64 r, .int .i64 c, .slice aa an ac, .bool is], .int .i64 i, .int .i64 j, .int .i64 a, .int .i64 b] w fun e w' => e = .returned (.agg #[.slice none 0 0, .int .i64 0, .int .i64 0, .slice none 0 0, .bool false]) ∧ Below w.heap.size w w' := by
  have y1 : Box ((w.alloc (.cells #[.slice da dn dc, .int .i64 r, .int .i64 c, .slice aa an ac, .bool is] 48)).alloc (.cells #[.slice none 0 0, .int .i64 0, .int .i64 0, .slice none 0 0, .bool false] 48)) (w.heap.size + 1) [.slice none 0 0, .int .i64 0, .int .i64 0, .slice none 0 0, .bool false] := Box.newA _ [_, _, _, _, _] _ (by simp)
  have hB0 : Below w.heap.size w ((w.alloc (.cells #[.slice da dn dc, .int .i64 r, .int .i64 c, .slice aa an ac, .bool is] 48)).alloc (.cells #[.slice none 0 0, .int .i64 0, .int .i64 0, .slice none 0 0, .bool false] 48)) := ((Below.refl _ _).alloc (Nat.le_refl _) _).alloc (by simp) _
  have hW1 : 0 ≤ i → i ≤ r → IntKind.i64.wrap ((r : Int) - i) = (r : Int) - i := fun _ _ => by rw [IntKind.wrap_i64]; omega
  have hW2 : 0 ≤ j → j ≤ c → IntKind.i64.wrap ((c : Int) - j) = (c : Int) - j := fun _ _ => by rw [IntKind.wrap_i64]; omega
  have hW3 : 0 ≤ i → i ≤ r → wrap64 ((r : Int) - i) = (r : Int) - i := fun _ _ => by unfold wrap64; omega
  have hW4 : 0 ≤ j → j ≤ c → wrap64 ((c : Int) - j) = (c : Int) - j := fun _ _ => by unfold wrap64; omega
  have key : is = false ∨ (is = true ∧ decide (i < 0) = true) ∨ (is = true ∧ decide (i < 0) = false ∧ decide (j < 0) = true) ∨ (is = true ∧ decide (i < 0) = false ∧ decide (j < 0) = false ∧ decide (a < 0) = true) ∨
      (is = true ∧ decide (i < 0) = false ∧ decide (j < 0) = false ∧ decide (a < 0) = false ∧ decide (b < 0) = true) ∨
      (is = true ∧ decide (i < 0) = false ∧ decide (j < 0) = false ∧ decide (a < 0) = false ∧ decide (b < 0) = false ∧ decide ((r : Int) < i) = true) ∨
      (is = true ∧ decide (i < 0) = false ∧ decide (j < 0) = false ∧ decide (a < 0) = false ∧ decide (b < 0) = false ∧ decide ((r : Int) < i) = false ∧ decide ((c : Int) < j) = true) ∨
      (is = true ∧ decide (i < 0) = false ∧ decide (j < 0) = false ∧ decide (a < 0) = false ∧ decide (b < 0) = false ∧ decide ((r : Int) < i) = false ∧ decide ((c : Int) < j) = false ∧ (IntKind.i64.wrap ((r : Int) - i) = (r : Int) - i ∧ wrap64 ((r : Int) - i) = (r : Int) - i) ∧ decide ((r : Int) - i < a) = true) ∨
      (is = true ∧ decide (i < 0) = false ∧ decide (j < 0) = false ∧ decide (a < 0) = false ∧ decide (b < 0) = false ∧ decide ((r : Int) < i) = false ∧ decide ((c : Int) < j) = false ∧ (IntKind.i64.wrap ((r : Int) - i) = (r : Int) - i ∧ wrap64 ((r : Int) - i) = (r : Int) - i) ∧ decide ((r : Int) - i < a) = false ∧ (IntKind.i64.wrap ((c : Int) - j) = (c : Int) - j ∧ wrap64 ((c : Int) - j) = (c : Int) - j) ∧ decide ((c : Int) - j < b) = true) := by
    unfold fitsV at h
    cases is
    · exact .inl rfl
    · right
      simp only [Bool.true_and, Bool.and_eq_false_iff, decide_eq_false_iff_not] at h
      by_cases g1 : i < 0
      · exact .inl ⟨rfl, decide_eq_true g1⟩
      by_cases g2 : j < 0
      · exact .inr (.inl ⟨rfl, decide_eq_false g1, decide_eq_true g2⟩)
      by_cases g3 : a < 0
      · exact .inr (.inr (.inl ⟨rfl, decide_eq_false g1, decide_eq_false g2, decide_eq_true g3⟩))
      by_cases g4 : b < 0
      · exact .inr (.inr (.inr (.inl ⟨rfl, decide_eq_false g1, decide_eq_false g2, decide_eq_false g3, decide_eq_true g4⟩)))
      by_cases g5 : (r : Int) < i
      · exact .inr (.inr (.inr (.inr (.inl ⟨rfl, decide_eq_false g1, decide_eq_false g2, decide_eq_false g3, decide_eq_false g4, decide_eq_true g5⟩))))
      by_cases g6 : (c : Int) < j
      · exact .inr (.inr (.inr (.inr (.inr (.inl ⟨rfl, decide_eq_false g1, decide_eq_false g2, decide_eq_false g3, decide_eq_false g4, decide_eq_false g5, decide_eq_true g6⟩)))))
      by_cases g7 : (r : Int) - i < a
      · exact .inr (.inr (.inr (.inr (.inr (.inr (.inl ⟨rfl, decide_eq_false g1, decide_eq_false g2, decide_eq_false g3, decide_eq_false g4, decide_eq_false g5, decide_eq_false g6, ⟨hW1 (by omega) (by omega), hW3 (by omega) (by omega)⟩, decide_eq_true g7⟩))))))
      · exact .inr (.inr (.inr (.inr (.inr (.inr (.inr ⟨rfl, decide_eq_false g1, decide_eq_false g2, decide_eq_false g3, decide_eq_false g4, decide_eq_false g5, decide_eq_false g6, ⟨hW1 (by omega) (by omega), hW3 (by omega) (by omega)⟩, decide_eq_false g7, ⟨hW2 (by omega) (by omega), hW4 (by omega) (by omega)⟩, decide_eq_true (by omega)⟩))))))
  clear h hW1 hW2 hW3 hW4 hr hc
  rcases key with rfl | ⟨rfl, h1⟩ | ⟨rfl, h1, h2⟩ | ⟨rfl, h1, h2, h3⟩ | ⟨rfl, h1, h2, h3, h4⟩ | ⟨rfl, h1, h2, h3, h4, h5⟩ | ⟨rfl, h1, h2, h3, h4, h5, h6⟩ | ⟨rfl, h1, h2, h3, h4, h5, h6, h7, h8⟩ | ⟨rfl, h1, h2, h3, h4, h5, h6, h7, h8, h9, h10⟩
  all_goals
    go_enter Try.func74, Try.ntmps74
    go_wp2
    generalize ((w.alloc (.cells #[.slice da dn dc, .int .i64 r, .int .i64 c, .slice aa an ac, .bool _] 48)).alloc (.cells #[.slice none 0 0, .int .i64 0, .int .i64 0, .slice none 0 0, .bool false] 48)) = W0 at y1 hB0 ⊢
    refine bodyPost_ret (results_one rfl (rv_cell (g := w.heap.size + 1) rfl y1 rfl Try.underlying48 (by kernel_rfl))) rfl ⟨rfl, ?_⟩
    exact hB0
end Go.Proofs.Ytpjdibanjmmbkaa
