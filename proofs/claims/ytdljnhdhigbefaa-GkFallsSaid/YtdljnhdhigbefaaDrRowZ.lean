/- 'plumblinelaw17.GkFalls' answers true at every input, and each argument reads behind the call as it did. No condition. -/
import Derived.Test.YtdljnhdhigbefaaRows
import Derived.Test.YtdljnhdhigbefaaZz22
namespace Go.Proofs.Ytdljnhdhigbefaa
open Go Go.RowKit Go.ChangeShapes Go.WideShapes Go.ChangeAt
set_option maxRecDepth 100000

theorem Try.own : ownKnob Try.prog.godebug = none := by kernel_rfl
theorem Try.laidOut : laidOutB Try.prog = true := by kernel_rfl

theorem gkFalls_lifted (os : Os) (started : os.Started) (H : Type) (enc : TypeId × Value → H) :
    ReturnsInHanded {} Try.checked os 4 .any (Rows.gkFallsSpec.pre6 enc Try.prog Try.f4 Rows.gkFallsRow.domain false) (Rows.gkFallsSpec.post enc Try.prog Try.f4 false true false false) := by
  refine returnsInHanded_of_change (C := Try.checked) Try.own started (by kernel_rfl) Try.func4
    (ChangeSpec.witness6 (enc := enc) (C := Try.checked) false ⟨#[], #[.agg #[.slice none 0 0, .slice none 0 0]], []⟩ 8 (by kernel_rfl) (by kernel_rfl) (by kernel_rfl) (by kernel_rfl)) ?_
  intro W base args ds gs before hval0 hW hcnd _
  have hval : ∀ (j : Nat) t v, Try.f4.params[j]? = some t → args[j]? = some v → Value.okWide Try.prog W .any base t v := hval0
  have hW' := hW
  obtain ⟨p, q, hA0, hV, rfl, hfz, hnd⟩ := hW
  have hA : DataW.TrodAll enc Try.prog W 0 (fun _ => true) true Try.f4.params.toList args.toList ds p := hA0
  rw [Try.params4] at hA hval
  obtain ⟨v0, d0, rfl, rfl, h0⟩ := trodAll_one hA
  obtain ⟨rfl, rfl⟩ := trodVars_none hV
  obtain ⟨c00, c01, y00, y01, n0, rfl, _, _, g00, g01⟩ := Joins.open_agg2 Try.underlying24 (by kernel_rfl) (by kernel_rfl) (hval 0 24 v0 rfl rfl) h0
  obtain ⟨da0, ds0, dc0, rfl, dF0, dW0, dL0, dN0⟩ := open_inf Try.underlying22 Try.underlying40 (by kernel_rfl) g00
  obtain ⟨ea0, es0, ec0, rfl, eF0, eW0, eL0, eN0⟩ := open_inf Try.underlying22 Try.underlying40 (by kernel_rfl) g01
  clear hA0 hval0
  refine (gkFalls_any W da0 ea0 ds0 es0 dc0 ec0 dF0 eF0 dN0 eN0 dW0 eW0 dL0 eL0).mono fun e W' ⟨he, hb⟩ => ?_
  subst he
  exact ⟨_, rfl, post_of_below Try.laidOut (by kernel_rfl) rfl hW' rfl hb rfl Try.underlying4⟩

/-- **GkFalls.** -/
theorem gkFalls_holds : Rows.GkFallsSaid :=
  OpenClaim.holds_of_wide 4 Try.f4 rfl rfl rfl rfl rfl rfl rfl ⟨rfl, rfl, rfl, rfl, rfl⟩ rfl rfl rfl rfl rfl (by kernel_rfl) Try.func4 (by kernel_rfl)
    (of_decide_eq_true (by kernel_rfl)) (by unfold Func.isWrapper; first | (rw [if_pos (by decide +kernel)]; kernel_rfl) | (rw [if_neg (by decide +kernel)]; exact ⟨rfl, rfl⟩))
    (fun os started H enc _ => gkFalls_lifted os started H enc)
#print axioms gkFalls_holds
end Go.Proofs.Ytdljnhdhigbefaa
