/- 'plumblinelaw17.GkSolves' answers true at every input, and each argument reads behind the call as it did. No condition. -/
import Derived.Test.YtdljnhdhigbefaaRows
import Derived.Test.YtdljnhdhigbefaaZz28
import Derived.Carry
namespace Go.Proofs.Ytdljnhdhigbefaa
open Go Go.RowKit Go.ChangeShapes Go.WideShapes Go.ChangeAt
set_option maxRecDepth 100000

theorem Try.own : ownKnob Try.prog.godebug = none := by kernel_rfl
theorem Try.laidOut : laidOutB Try.prog = true := by kernel_rfl

theorem gkSolves_lifted (os : Os) (started : os.Started) (H : Type) (enc : TypeId × Value → H) :
    ReturnsInHanded {} Try.checked os 3 .any (Rows.gkSolvesSpec.pre6 enc Try.prog Try.f3 Rows.gkSolvesRow.domain false) (Rows.gkSolvesSpec.post enc Try.prog Try.f3 false true false false) := by
  refine returnsInHanded_of_change (C := Try.checked) Try.own started (by kernel_rfl) Try.func3
    (ChangeSpec.witness6 (enc := enc) (C := Try.checked) false ⟨#[], #[.agg #[.slice none 0 0, .slice none 0 0], .agg #[.int .i64 0, .int .i64 0, .slice none 0 0], .agg #[.int .i64 0, .int .i64 0, .slice none 0 0]], []⟩ 8 (by kernel_rfl) (by kernel_rfl) (by kernel_rfl) (by kernel_rfl)) ?_
  intro W base args ds gs before hval0 hW hcnd _
  have hval : ∀ (j : Nat) t v, Try.f3.params[j]? = some t → args[j]? = some v → Value.okWide Try.prog W .any base t v := hval0
  have hW' := hW
  obtain ⟨p, q, hA0, hV, rfl, hfz, hnd⟩ := hW
  have hA : DataW.TrodAll enc Try.prog W 0 (fun _ => true) true Try.f3.params.toList args.toList ds p := hA0
  rw [Try.params3] at hA hval
  obtain ⟨v0, v1, v2, d0, d1, d2, p0, p1, p2, rfl, rfl, rfl, h0, h1, h2⟩ := trodAll_three hA
  obtain ⟨rfl, rfl⟩ := trodVars_none hV
  obtain ⟨c00, c01, y00, y01, n0, rfl, _, _, g00, g01⟩ := Joins.open_agg2 Try.underlying24 (by kernel_rfl) (by kernel_rfl) (hval 0 24 v0 rfl rfl) h0
  obtain ⟨da0, ds0, dc0, rfl, dF0, dW0, dL0, dN0⟩ := open_inf Try.underlying22 Try.underlying40 (by kernel_rfl) g00
  obtain ⟨ea0, es0, ec0, rfl, eF0, eW0, eL0, eN0⟩ := open_inf Try.underlying22 Try.underlying40 (by kernel_rfl) g01
  obtain ⟨c10, c11, c12, y10, y11, y12, n1, rfl, _, _, g10, g11, g12⟩ := Joins.open_agg3 Try.underlying26 (by kernel_rfl) (by kernel_rfl) (hval 1 26 v1 rfl rfl) h1
  obtain ⟨r1, hr1, _, _⟩ := DataW.trod_int Try.underlying3 g10
  obtain ⟨c1, hc1, _, _⟩ := DataW.trod_int Try.underlying3 g11
  simp only [List.cons.injEq, and_true] at hr1 hc1
  subst hr1 hc1
  obtain ⟨a1, zs1, cap1, rfl, hZ1, hWZ1, hl1, hn1⟩ := open_inf Try.underlying22 Try.underlying40 (by kernel_rfl) g12
  obtain ⟨c20, c21, c22, y20, y21, y22, n2, rfl, _, _, g20, g21, g22⟩ := Joins.open_agg3 Try.underlying26 (by kernel_rfl) (by kernel_rfl) (hval 2 26 v2 rfl rfl) h2
  obtain ⟨r2, hr2, _, _⟩ := DataW.trod_int Try.underlying3 g20
  obtain ⟨c2, hc2, _, _⟩ := DataW.trod_int Try.underlying3 g21
  simp only [List.cons.injEq, and_true] at hr2 hc2
  subst hr2 hc2
  obtain ⟨a2, zs2, cap2, rfl, hZ2, hWZ2, hl2, hn2⟩ := open_inf Try.underlying22 Try.underlying40 (by kernel_rfl) g22
  clear hA0 hval0
  refine (gkSolves_any W da0 ea0 a1 a2 ds0 es0 zs1 zs2 dc0 ec0 cap1 cap2 r1 c1 r2 c2 dF0 eF0 hZ1 hZ2 dN0 eN0 hn1 hn2 dW0 eW0 hWZ1 hWZ2 dL0 eL0 hl1 hl2).mono fun e W' ⟨he, hb⟩ => ?_
  subst he
  exact ⟨_, rfl, post_of_below Try.laidOut (by kernel_rfl) rfl hW' rfl hb rfl Try.underlying4⟩

/-- **GkSolves.** -/
theorem gkSolves_holds : Rows.GkSolvesSaid :=
  OpenClaim.holds_of_wide 3 Try.f3 rfl rfl rfl rfl rfl rfl rfl ⟨rfl, rfl, rfl, rfl, rfl⟩ rfl rfl rfl rfl rfl (by kernel_rfl) Try.func3 (by kernel_rfl)
    (of_decide_eq_true (by kernel_rfl)) (by unfold Func.isWrapper; first | (rw [if_pos (by decide +kernel)]; kernel_rfl) | (rw [if_neg (by decide +kernel)]; exact ⟨rfl, rfl⟩))
    (fun os started H enc _ => gkSolves_lifted os started H enc)
#print axioms gkSolves_holds
end Go.Proofs.Ytdljnhdhigbefaa
