/- 'plumblinelaw05.GuardSquares' answers true at every input, and each argument reads behind the call as it did. No condition. -/
import Derived.Test.YtogkmddhgfenkaaRows
import Derived.Test.YtogkmddhgfenkaaGo
import Derived.Test.YtogkmddhgfenkaaRow
import Derived.Test.YtogkmddhgfenkaaOpn5
import Derived.Test.YtogkmddhgfenkaaOpn4
import Derived.Carry
namespace Go.Proofs.Ytogkmddhgfenkaa
open Go Go.RowKit Go.ChangeShapes Go.WideShapes Go.ChangeAt
set_option maxRecDepth 100000

theorem Try.own : ownKnob Try.prog.godebug = none := by kernel_rfl
theorem Try.laidOut : laidOutB Try.prog = true := by kernel_rfl

theorem guardSquares_lifted (os : Os) (started : os.Started) (H : Type) (enc : TypeId × Value → H) :
    ReturnsInHanded {} Try.checked os 3 .any (Rows.guardSquaresSpec.pre6 enc Try.prog Try.f3 Rows.guardSquaresRow.domain false) (Rows.guardSquaresSpec.post enc Try.prog Try.f3 false true false false) := by
  refine returnsInHanded_of_change (C := Try.checked) Try.own started (by kernel_rfl) Try.func3
    (ChangeSpec.witness6 (enc := enc) (C := Try.checked) false ⟨#[], #[.int .i64 0, .slice none 0 0], []⟩ 8 (by kernel_rfl) (by kernel_rfl) (by kernel_rfl) (by kernel_rfl)) ?_
  intro W base args ds gs before hval0 hW hcnd _
  have hval : ∀ (j : Nat) t v, Try.f3.params[j]? = some t → args[j]? = some v → Value.okWide Try.prog W .any base t v := hval0
  have hW' := hW
  obtain ⟨p, q, hA0, hV, rfl, hfz, hnd⟩ := hW
  have hA : DataW.TrodAll enc Try.prog W 0 (fun _ => true) true Try.f3.params.toList args.toList ds p := hA0
  rw [Try.params3] at hA hval
  obtain ⟨v0, v1, d0, d1, p0, p1, rfl, rfl, rfl, h0, h1⟩ := trodAll_two hA
  obtain ⟨rfl, rfl⟩ := trodVars_none hV
  obtain ⟨x0, rfl, _, _, hi0⟩ := open_int Try.underlying3 (hval 0 3 v0 rfl rfl) h0
  obtain ⟨sa1, sl1, sc1, rfl⟩ := okWide_slice Try.underlying22 (hval 1 22 v1 rfl rfl)
  obtain ⟨fu1, hf1⟩ := h1
  simp only [Value.cells] at hf1
  obtain ⟨a1, zs1, cap1, hsv1, hZ1, hWZ1, hl1⟩ := open_wds Try.underlying22 Try.underlying34 (by kernel_rfl) hf1
  obtain ⟨es1, el1, ec1⟩ := Value.slice.inj hsv1
  subst es1 el1 ec1
  clear hA0 hval0
  refine (squares_any W x0 sa1 zs1 sc1 hZ1 hWZ1 hl1).mono fun e W' ⟨he, hb⟩ => ?_
  subst he
  exact ⟨_, rfl, post_of_below Try.laidOut (by kernel_rfl) rfl hW' rfl hb rfl Try.underlying4⟩

/-- **GuardSquares.** -/
theorem guardSquares_holds : Rows.GuardSquaresSaid :=
  OpenClaim.holds_of_wide 3 Try.f3 rfl rfl rfl rfl rfl rfl rfl ⟨rfl, rfl, rfl, rfl, rfl⟩ rfl rfl rfl rfl rfl (by kernel_rfl) Try.func3 (by kernel_rfl)
    (of_decide_eq_true (by kernel_rfl)) (by unfold Func.isWrapper; first | (rw [if_pos (by decide +kernel)]; kernel_rfl) | (rw [if_neg (by decide +kernel)]; exact ⟨rfl, rfl⟩))
    (fun os started H enc _ => guardSquares_lifted os started H enc)
#print axioms guardSquares_holds
end Go.Proofs.Ytogkmddhgfenkaa
