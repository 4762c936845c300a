/- 'plumblinelaw14.InverseFactors' answers true at every input, and each argument reads behind the call as it did. No condition. -/
import Derived.Test.YtdljnhdhigbefaaRows
import Derived.Test.YtdljnhdhigbefaaZz32
import Derived.Carry
namespace Go.Proofs.Ytdljnhdhigbefaa
open Go Go.RowKit Go.ChangeShapes Go.WideShapes Go.ChangeAt
set_option maxRecDepth 100000

theorem Try.own : ownKnob Try.prog.godebug = none := by kernel_rfl
theorem Try.laidOut : laidOutB Try.prog = true := by kernel_rfl

theorem inverseFactors_lifted (os : Os) (started : os.Started) (H : Type) (enc : TypeId × Value → H) :
    ReturnsInHanded {} Try.checked os 9 .any (Rows.inverseFactorsSpec.pre6 enc Try.prog Try.f9 Rows.inverseFactorsRow.domain false) (Rows.inverseFactorsSpec.post enc Try.prog Try.f9 false true false false) := by
  refine returnsInHanded_of_change (C := Try.checked) Try.own started (by kernel_rfl) Try.func9
    (ChangeSpec.witness6 (enc := enc) (C := Try.checked) false ⟨#[], #[.agg #[.slice none 0 0, .slice none 0 0], .float .f64 0], []⟩ 8 (by kernel_rfl) (by kernel_rfl) (by kernel_rfl) (by kernel_rfl)) ?_
  intro W base args ds gs before hval0 hW hcnd _
  have hval : ∀ (j : Nat) t v, Try.f9.params[j]? = some t → args[j]? = some v → Value.okWide Try.prog W .any base t v := hval0
  have hW' := hW
  obtain ⟨p, q, hA0, hV, rfl, hfz, hnd⟩ := hW
  have hA : DataW.TrodAll enc Try.prog W 0 (fun _ => true) true Try.f9.params.toList args.toList ds p := hA0
  rw [Try.params9] at hA hval
  obtain ⟨v0, v1, d0, d1, p0, p1, rfl, rfl, rfl, h0, h1⟩ := trodAll_two hA
  obtain ⟨rfl, rfl⟩ := trodVars_none hV
  obtain ⟨c00, c01, y00, y01, n0, rfl, _, _, g00, g01⟩ := Joins.open_agg2 Try.underlying54 (by kernel_rfl) (by kernel_rfl) (hval 0 54 v0 rfl rfl) h0
  obtain ⟨da0, ds0, dc0, rfl, dF0, dW0, dL0, dN0⟩ := open_inf Try.underlying22 Try.underlying40 (by kernel_rfl) g00
  obtain ⟨ea0, es0, ec0, rfl, eF0, eW0, eL0, eN0⟩ := open_inf Try.underlying22 Try.underlying40 (by kernel_rfl) g01
  obtain ⟨x1, rfl, _, _, hx1⟩ := open_f64w Try.underlying40 (hval 1 40 v1 rfl rfl) h1
  clear hA0 hval0
  refine (factors14 W da0 ea0 ds0 es0 dc0 ec0 x1 _ _ rfl rfl ⟨dF0, eF0, dN0, eN0, fun x hx => (List.mem_append.1 hx).elim (dW0 x) (eW0 x)⟩ hx1 dL0 eL0).mono fun e W' ⟨he, hb⟩ => ?_
  subst he
  exact ⟨_, rfl, post_of_below Try.laidOut (by kernel_rfl) rfl hW' rfl hb rfl Try.underlying4⟩

/-- **InverseFactors.** -/
theorem inverseFactors_holds : Rows.InverseFactorsSaid :=
  OpenClaim.holds_of_wide 9 Try.f9 rfl rfl rfl rfl rfl rfl rfl ⟨rfl, rfl, rfl, rfl, rfl⟩ rfl rfl rfl rfl rfl (by kernel_rfl) Try.func9 (by kernel_rfl)
    (of_decide_eq_true (by kernel_rfl)) (by unfold Func.isWrapper; first | (rw [if_pos (by decide +kernel)]; kernel_rfl) | (rw [if_neg (by decide +kernel)]; exact ⟨rfl, rfl⟩))
    (fun os started H enc _ => inverseFactors_lifted os started H enc)
#print axioms inverseFactors_holds
end Go.Proofs.Ytdljnhdhigbefaa
