/- 'plumblinelaw08.KernelsMeans' answers true at every input, and each argument reads behind the call as it did. No condition. -/
import Derived.Test.YtbcdpibcieadlaaRows
import Derived.Test.YtbcdpibcieadlaaZz32
import Derived.Carry
namespace Go.Proofs.Ytbcdpibcieadlaa
open Go Go.RowKit Go.ChangeShapes Go.WideShapes Go.ChangeAt
set_option maxRecDepth 100000

theorem Try.own : ownKnob Try.prog.godebug = none := by kernel_rfl
theorem Try.laidOut : laidOutB Try.prog = true := by kernel_rfl

theorem kernelsMeans_lifted (os : Os) (started : os.Started) (H : Type) (enc : TypeId × Value → H) :
    ReturnsInHanded {} Try.checked os 7 .any (Rows.kernelsMeansSpec.pre6 enc Try.prog Try.f7 Rows.kernelsMeansRow.domain false) (Rows.kernelsMeansSpec.post enc Try.prog Try.f7 false true false false) := by
  refine returnsInHanded_of_change (C := Try.checked) Try.own started (by kernel_rfl) Try.func7
    (ChangeSpec.witness6 (enc := enc) (C := Try.checked) false ⟨#[], #[.agg #[.int .i64 0, .int .i64 0, .slice none 0 0], .slice none 0 0, .slice none 0 0, .slice none 0 0], []⟩ 8 (by kernel_rfl) (by kernel_rfl) (by kernel_rfl) (by kernel_rfl)) ?_
  intro W base args ds gs before hval0 hW hcnd _
  have hval : ∀ (j : Nat) t v, Try.f7.params[j]? = some t → args[j]? = some v → Value.okWide Try.prog W .any base t v := hval0
  have hW' := hW
  obtain ⟨p, q, hA0, hV, rfl, hfz, hnd⟩ := hW
  have hA : DataW.TrodAll enc Try.prog W 0 (fun _ => true) true Try.f7.params.toList args.toList ds p := hA0
  rw [Try.params7] at hA hval
  obtain ⟨v0, v1, v2, v3, d0, d1, d2, d3, p0, p1, p2, p3, rfl, rfl, rfl, h0, h1, h2, h3⟩ := trodAll_four hA
  obtain ⟨rfl, rfl⟩ := trodVars_none hV
  obtain ⟨c00, c01, c02, y00, y01, y02, n0, rfl, _, _, g00, g01, g02⟩ := Joins.open_agg3 Try.underlying24 (by kernel_rfl) (by kernel_rfl) (hval 0 24 v0 rfl rfl) h0
  obtain ⟨r0, hr0, _, _⟩ := DataW.trod_int Try.underlying3 g00
  obtain ⟨c0, hc0, _, _⟩ := DataW.trod_int Try.underlying3 g01
  simp only [List.cons.injEq, and_true] at hr0 hc0
  subst hr0 hc0
  obtain ⟨a0, zs0, cap0, rfl, hZ0, hWZ0, hl0, hk0, hm0⟩ := open_cec Try.underlying22 Try.underlying31 (by kernel_rfl) g02
  obtain ⟨sa1, sl1, sc1, rfl⟩ := okWide_slice Try.underlying22 (hval 1 22 v1 rfl rfl)
  obtain ⟨fu1, hf1⟩ := h1
  simp only [Value.cells] at hf1
  obtain ⟨a1, zs1, cap1, hsv1, hZ1, hWZ1, hl1⟩ := open_cel Try.underlying22 Try.underlying31 (by kernel_rfl) hf1
  obtain ⟨es1, el1, ec1⟩ := Value.slice.inj hsv1
  subst es1 el1 ec1
  obtain ⟨sa2, sl2, sc2, rfl⟩ := okWide_slice Try.underlying54 (hval 2 54 v2 rfl rfl)
  obtain ⟨fu2, hf2⟩ := h2
  simp only [Value.cells] at hf2
  obtain ⟨a2, zs2, cap2, hsv2, hZ2, hWZ2, hl2⟩ := open_i32s Try.underlying54 Try.underlying21 (by kernel_rfl) hf2
  obtain ⟨es2, el2, ec2⟩ := Value.slice.inj hsv2
  subst es2 el2 ec2
  obtain ⟨sa3, sl3, sc3, rfl⟩ := okWide_slice Try.underlying54 (hval 3 54 v3 rfl rfl)
  obtain ⟨fu3, hf3⟩ := h3
  simp only [Value.cells] at hf3
  obtain ⟨a3, zs3, cap3, hsv3, hZ3, hWZ3, hl3⟩ := open_i32s Try.underlying54 Try.underlying21 (by kernel_rfl) hf3
  obtain ⟨es3, el3, ec3⟩ := Value.slice.inj hsv3
  subst es3 el3 ec3
  clear hA0 hval0
  refine (means8_any W r0 c0 a0 zs0 cap0 sa1 zs1 sc1 sa2 zs2 sc2 sa3 zs3 sc3 hZ0 hWZ0 hl0 hk0 hm0 hZ1 hWZ1 hl1 hZ2 hWZ2 hl2 hZ3 hWZ3 hl3).mono fun e W' ⟨he, hb⟩ => ?_
  subst he
  exact ⟨_, rfl, post_of_below Try.laidOut (by kernel_rfl) rfl hW' rfl hb rfl Try.underlying4⟩

/-- **KernelsMeans.** -/
theorem kernelsMeans_holds : Rows.KernelsMeansSaid :=
  OpenClaim.holds_of_wide 7 Try.f7 rfl rfl rfl rfl rfl rfl rfl ⟨rfl, rfl, rfl, rfl, rfl⟩ rfl rfl rfl rfl rfl (by kernel_rfl) Try.func7 (by kernel_rfl)
    (of_decide_eq_true (by kernel_rfl)) (by unfold Func.isWrapper; first | (rw [if_pos (by decide +kernel)]; kernel_rfl) | (rw [if_neg (by decide +kernel)]; exact ⟨rfl, rfl⟩))
    (fun os started H enc _ => kernelsMeans_lifted os started H enc)
#print axioms kernelsMeans_holds
end Go.Proofs.Ytbcdpibcieadlaa
