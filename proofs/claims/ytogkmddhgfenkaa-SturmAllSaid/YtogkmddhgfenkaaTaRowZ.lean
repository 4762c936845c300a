/- 'plumblinelaw13.SturmAll' answers true at every input, and each argument reads behind the call as it did. No condition. -/
import Derived.Test.YtogkmddhgfenkaaRows
import Derived.Test.YtogkmddhgfenkaaZz17
import Derived.Test.YtogkmddhgfenkaaZz18
import Derived.Carry
namespace Go.Proofs.Ytogkmddhgfenkaa
open Go Go.RowKit Go.ChangeShapes Go.WideShapes Go.ChangeAt
set_option maxRecDepth 100000

theorem Try.own : ownKnob Try.prog.godebug = none := by kernel_rfl
theorem Try.laidOut : laidOutB Try.prog = true := by kernel_rfl

theorem sturmAll_lifted (os : Os) (started : os.Started) (H : Type) (enc : TypeId × Value → H) :
    ReturnsInHanded {} Try.checked os 14 .any (Rows.sturmAllSpec.pre6 enc Try.prog Try.f14 Rows.sturmAllRow.domain false) (Rows.sturmAllSpec.post enc Try.prog Try.f14 false true false false) := by
  refine returnsInHanded_of_change (C := Try.checked) Try.own started (by kernel_rfl) Try.func14
    (ChangeSpec.witness6 (enc := enc) (C := Try.checked) false ⟨#[], #[.agg #[.slice none 0 0, .slice none 0 0], .float .f64 0, .float .f64 0], []⟩ 8 (by kernel_rfl) (by kernel_rfl) (by kernel_rfl) (by kernel_rfl)) ?_
  intro W base args ds gs before hval0 hW hcnd _
  have hval : ∀ (j : Nat) t v, Try.f14.params[j]? = some t → args[j]? = some v → Value.okWide Try.prog W .any base t v := hval0
  have hW' := hW
  obtain ⟨p, q, hA0, hV, rfl, hfz, hnd⟩ := hW
  have hA : DataW.TrodAll enc Try.prog W 0 (fun _ => true) true Try.f14.params.toList args.toList ds p := hA0
  rw [Try.params14] at hA hval
  obtain ⟨v0, v1, v2, d0, d1, d2, p0, p1, p2, rfl, rfl, rfl, h0, h1, h2⟩ := trodAll_three hA
  obtain ⟨rfl, rfl⟩ := trodVars_none hV
  obtain ⟨c00, c01, y00, y01, n0, rfl, _, _, g00, g01⟩ := Joins.open_agg2 Try.underlying51 (by kernel_rfl) (by kernel_rfl) (hval 0 51 v0 rfl rfl) h0
  obtain ⟨da0, ds0, dc0, rfl, dF0, dW0, dL0⟩ := open_fls Try.underlying24 Try.underlying35 (by kernel_rfl) g00
  obtain ⟨ea0, es0, ec0, rfl, eF0, eW0, eL0⟩ := open_fls Try.underlying24 Try.underlying35 (by kernel_rfl) g01
  obtain ⟨x1, rfl, _, _, hx1⟩ := open_f64w Try.underlying35 (hval 1 35 v1 rfl rfl) h1
  obtain ⟨x2, rfl, _, _, hx2⟩ := open_f64w Try.underlying35 (hval 2 35 v2 rfl rfl) h2
  clear hA0 hval0
  refine (all13_any W da0 ea0 ds0 es0 dc0 ec0 x1 x2 dF0 eF0 dW0 eW0 dL0 eL0 hx1 hx2).mono fun e W' ⟨he, hb⟩ => ?_
  subst he
  exact ⟨_, rfl, post_of_below Try.laidOut (by kernel_rfl) rfl hW' rfl hb rfl Try.underlying4⟩

/-- **SturmAll.** -/
theorem sturmAll_holds : Rows.SturmAllSaid :=
  OpenClaim.holds_of_wide 14 Try.f14 rfl rfl rfl rfl rfl rfl rfl ⟨rfl, rfl, rfl, rfl, rfl⟩ rfl rfl rfl rfl rfl (by kernel_rfl) Try.func14 (by kernel_rfl)
    (of_decide_eq_true (by kernel_rfl)) (by unfold Func.isWrapper; first | (rw [if_pos (by decide +kernel)]; kernel_rfl) | (rw [if_neg (by decide +kernel)]; exact ⟨rfl, rfl⟩))
    (fun os started H enc _ => sturmAll_lifted os started H enc)
#print axioms sturmAll_holds
end Go.Proofs.Ytogkmddhgfenkaa
