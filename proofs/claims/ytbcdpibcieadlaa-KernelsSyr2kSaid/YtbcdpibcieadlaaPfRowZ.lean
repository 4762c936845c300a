/- 'plumblinelaw08.KernelsSyr2k' answers true at every input, and each argument reads behind the call as it did. No condition. -/
import Derived.Test.YtbcdpibcieadlaaRows
import Derived.Test.YtbcdpibcieadlaaZz27
import Derived.Test.YtbcdpibcieadlaaZz28
import Derived.Carry
namespace Go.Proofs.Ytbcdpibcieadlaa
open Go Go.RowKit Go.ChangeShapes Go.WideShapes Go.ChangeAt
set_option maxRecDepth 100000

theorem Try.own : ownKnob Try.prog.godebug = none := by kernel_rfl
theorem Try.laidOut : laidOutB Try.prog = true := by kernel_rfl

theorem kernelsSyr2k_lifted (os : Os) (started : os.Started) (H : Type) (enc : TypeId × Value → H) :
    ReturnsInHanded {} Try.checked os 11 .any (Rows.kernelsSyr2kSpec.pre6 enc Try.prog Try.f11 Rows.kernelsSyr2kRow.domain false) (Rows.kernelsSyr2kSpec.post enc Try.prog Try.f11 false true false false) := by
  refine returnsInHanded_of_change (C := Try.checked) Try.own started (by kernel_rfl) Try.func11
    (ChangeSpec.witness6 (enc := enc) (C := Try.checked) false ⟨#[], #[.float .f64 0, .agg #[.int .i64 0, .int .i64 0, .slice none 0 0], .agg #[.int .i64 0, .int .i64 0, .slice none 0 0], .float .f64 0, .agg #[.int .i64 0, .int .i64 0, .slice none 0 0], .bool false], []⟩ 8 (by kernel_rfl) (by kernel_rfl) (by kernel_rfl) (by kernel_rfl)) ?_
  intro W base args ds gs before hval0 hW hcnd _
  have hval : ∀ (j : Nat) t v, Try.f11.params[j]? = some t → args[j]? = some v → Value.okWide Try.prog W .any base t v := hval0
  have hW' := hW
  obtain ⟨p, q, hA0, hV, rfl, hfz, hnd⟩ := hW
  have hA : DataW.TrodAll enc Try.prog W 0 (fun _ => true) true Try.f11.params.toList args.toList ds p := hA0
  rw [Try.params11] at hA hval
  obtain ⟨v0, v1, v2, v3, v4, v5, d0, d1, d2, d3, d4, d5, p0, p1, p2, p3, p4, p5, rfl, rfl, rfl, h0, h1, h2, h3, h4, h5⟩ := trodAll_6 hA
  obtain ⟨rfl, rfl⟩ := trodVars_none hV
  obtain ⟨x0, rfl, _, _, hx0⟩ := open_f64w Try.underlying31 (hval 0 31 v0 rfl rfl) h0
  obtain ⟨c10, c11, c12, y10, y11, y12, n1, rfl, _, _, g10, g11, g12⟩ := Joins.open_agg3 Try.underlying24 (by kernel_rfl) (by kernel_rfl) (hval 1 24 v1 rfl rfl) h1
  obtain ⟨r1, hr1, _, _⟩ := DataW.trod_int Try.underlying3 g10
  obtain ⟨c1, hc1, _, _⟩ := DataW.trod_int Try.underlying3 g11
  simp only [List.cons.injEq, and_true] at hr1 hc1
  subst hr1 hc1
  obtain ⟨a1, zs1, cap1, rfl, hZ1, hWZ1, hl1, hk1, hm1⟩ := open_cec Try.underlying22 Try.underlying31 (by kernel_rfl) g12
  obtain ⟨c20, c21, c22, y20, y21, y22, n2, rfl, _, _, g20, g21, g22⟩ := Joins.open_agg3 Try.underlying24 (by kernel_rfl) (by kernel_rfl) (hval 2 24 v2 rfl rfl) h2
  obtain ⟨r2, hr2, _, _⟩ := DataW.trod_int Try.underlying3 g20
  obtain ⟨c2, hc2, _, _⟩ := DataW.trod_int Try.underlying3 g21
  simp only [List.cons.injEq, and_true] at hr2 hc2
  subst hr2 hc2
  obtain ⟨a2, zs2, cap2, rfl, hZ2, hWZ2, hl2, hk2, hm2⟩ := open_cec Try.underlying22 Try.underlying31 (by kernel_rfl) g22
  obtain ⟨x3, rfl, _, _, hx3⟩ := open_f64w Try.underlying31 (hval 3 31 v3 rfl rfl) h3
  obtain ⟨c40, c41, c42, y40, y41, y42, n4, rfl, _, _, g40, g41, g42⟩ := Joins.open_agg3 Try.underlying24 (by kernel_rfl) (by kernel_rfl) (hval 4 24 v4 rfl rfl) h4
  obtain ⟨r4, hr4, _, _⟩ := DataW.trod_int Try.underlying3 g40
  obtain ⟨c4, hc4, _, _⟩ := DataW.trod_int Try.underlying3 g41
  simp only [List.cons.injEq, and_true] at hr4 hc4
  subst hr4 hc4
  obtain ⟨a4, zs4, cap4, rfl, hZ4, hWZ4, hl4, hk4, hm4⟩ := open_cec Try.underlying22 Try.underlying31 (by kernel_rfl) g42
  obtain ⟨x5, rfl, _, _⟩ := open_bool Try.underlying4 (hval 5 4 v5 rfl rfl) h5
  clear hA0 hval0
  refine (syr2k8_any W x0 r1 c1 a1 zs1 cap1 r2 c2 a2 zs2 cap2 x3 r4 c4 a4 zs4 cap4 x5 hx0 hZ1 hWZ1 hl1 hk1 hm1 hZ2 hWZ2 hl2 hk2 hm2 hx3 hZ4 hWZ4 hl4 hk4 hm4).mono fun e W' ⟨he, hb⟩ => ?_
  subst he
  exact ⟨_, rfl, post_of_below Try.laidOut (by kernel_rfl) rfl hW' rfl hb rfl Try.underlying4⟩

/-- **KernelsSyr2k.** -/
theorem kernelsSyr2k_holds : Rows.KernelsSyr2kSaid :=
  OpenClaim.holds_of_wide 11 Try.f11 rfl rfl rfl rfl rfl rfl rfl ⟨rfl, rfl, rfl, rfl, rfl⟩ rfl rfl rfl rfl rfl (by kernel_rfl) Try.func11 (by kernel_rfl)
    (of_decide_eq_true (by kernel_rfl)) (by unfold Func.isWrapper; first | (rw [if_pos (by decide +kernel)]; kernel_rfl) | (rw [if_neg (by decide +kernel)]; exact ⟨rfl, rfl⟩))
    (fun os started H enc _ => kernelsSyr2k_lifted os started H enc)
#print axioms kernelsSyr2k_holds
end Go.Proofs.Ytbcdpibcieadlaa
