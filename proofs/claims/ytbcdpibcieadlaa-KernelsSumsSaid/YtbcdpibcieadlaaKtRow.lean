/- 'plumblinelaw08.KernelsSums' answers true at every input, and each argument reads behind the call as it did. No condition. -/
import Derived.Test.YtbcdpibcieadlaaRows
import Derived.Test.YtbcdpibcieadlaaKt
import Derived.Test.YtbcdpibcieadlaaRow
import Derived.Test.YtbcdpibcieadlaaOpn2
import Derived.Test.YtbcdpibcieadlaaOpn4
import Derived.Carry
namespace Go.Proofs.Ytbcdpibcieadlaa
open Go Go.RowKit Go.ChangeShapes Go.WideShapes Go.ChangeAt
set_option maxRecDepth 100000

theorem Try.own : ownKnob Try.prog.godebug = none := by kernel_rfl
theorem Try.laidOut : laidOutB Try.prog = true := by kernel_rfl

theorem kernelsSums_lifted (os : Os) (started : os.Started) (H : Type) (enc : TypeId × Value → H) :
    ReturnsInHanded {} Try.checked os 3 .any (Rows.kernelsSumsSpec.pre6 enc Try.prog Try.f3 Rows.kernelsSumsRow.domain false) (Rows.kernelsSumsSpec.post enc Try.prog Try.f3 false true false false) := by
  refine returnsInHanded_of_change (C := Try.checked) Try.own started (by kernel_rfl) Try.func3
    (ChangeSpec.witness6 (enc := enc) (C := Try.checked) false ⟨#[], #[.agg #[.int .i64 0, .int .i64 0, .slice none 0 0], .agg #[.int .i64 0, .int .i64 0, .slice none 0 0], .bool false], []⟩ 8 (by kernel_rfl) (by kernel_rfl) (by kernel_rfl) (by kernel_rfl)) ?_
  intro W base args ds gs before hval0 hW hcnd _
  have hval : ∀ (j : Nat) t v, Try.f3.params[j]? = some t → args[j]? = some v → Value.okWide Try.prog W .any base t v := hval0
  have hW' := hW
  obtain ⟨p, q, hA0, hV, rfl, hfz, hnd⟩ := hW
  have hA : DataW.TrodAll enc Try.prog W 0 (fun _ => true) true Try.f3.params.toList args.toList ds p := hA0
  rw [Try.params3] at hA hval
  obtain ⟨v0, v1, v2, d0, d1, d2, p0, p1, p2, rfl, rfl, rfl, h0, h1, h2⟩ := trodAll_three hA
  obtain ⟨rfl, rfl⟩ := trodVars_none hV
  obtain ⟨c00, c01, c02, y00, y01, y02, n0, rfl, _, _, g00, g01, g02⟩ := Joins.open_agg3 Try.underlying24 (by kernel_rfl) (by kernel_rfl) (hval 0 24 v0 rfl rfl) h0
  obtain ⟨r0, hr0, _, _⟩ := DataW.trod_int Try.underlying3 g00
  obtain ⟨c0, hc0, _, _⟩ := DataW.trod_int Try.underlying3 g01
  simp only [List.cons.injEq, and_true] at hr0 hc0
  subst hr0 hc0
  obtain ⟨a0, zs0, cap0, rfl, hZ0, hWZ0, hl0⟩ := open_cel Try.underlying22 Try.underlying31 (by kernel_rfl) g02
  obtain ⟨c10, c11, c12, y10, y11, y12, n1, rfl, _, _, g10, g11, g12⟩ := Joins.open_agg3 Try.underlying24 (by kernel_rfl) (by kernel_rfl) (hval 1 24 v1 rfl rfl) h1
  obtain ⟨r1, hr1, _, _⟩ := DataW.trod_int Try.underlying3 g10
  obtain ⟨c1, hc1, _, _⟩ := DataW.trod_int Try.underlying3 g11
  simp only [List.cons.injEq, and_true] at hr1 hc1
  subst hr1 hc1
  obtain ⟨a1, zs1, cap1, rfl, hZ1, hWZ1, hl1⟩ := open_cel Try.underlying22 Try.underlying31 (by kernel_rfl) g12
  obtain ⟨x2, rfl, _, _⟩ := open_bool Try.underlying4 (hval 2 4 v2 rfl rfl) h2
  clear hA0 hval0
  refine (sums8_any W r0 c0 a0 zs0 cap0 r1 c1 a1 zs1 cap1 x2 hZ0 hWZ0 hl0 hZ1 hWZ1 hl1).mono fun e W' ⟨he, hb⟩ => ?_
  subst he
  exact ⟨_, rfl, post_of_below Try.laidOut (by kernel_rfl) rfl hW' rfl hb rfl Try.underlying4⟩

/-- **KernelsSums.** -/
theorem kernelsSums_holds : Rows.KernelsSumsSaid :=
  OpenClaim.holds_of_wide 3 Try.f3 rfl rfl rfl rfl rfl rfl rfl ⟨rfl, rfl, rfl, rfl, rfl⟩ rfl rfl rfl rfl rfl (by kernel_rfl) Try.func3 (by kernel_rfl)
    (of_decide_eq_true (by kernel_rfl)) (by unfold Func.isWrapper; first | (rw [if_pos (by decide +kernel)]; kernel_rfl) | (rw [if_neg (by decide +kernel)]; exact ⟨rfl, rfl⟩))
    (fun os started H enc _ => kernelsSums_lifted os started H enc)
#print axioms kernelsSums_holds
end Go.Proofs.Ytbcdpibcieadlaa
