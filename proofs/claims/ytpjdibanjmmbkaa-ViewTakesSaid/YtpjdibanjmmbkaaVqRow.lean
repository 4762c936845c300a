/- 'plumblinelaw07.ViewTakes' answers true at every input, and each argument reads behind the call as it did. No condition. -/
import Derived.Test.YtpjdibanjmmbkaaRows
import Derived.Test.YtpjdibanjmmbkaaVqA
import Derived.Test.YtpjdibanjmmbkaaRow
import Derived.Test.YtpjdibanjmmbkaaOpn3
import Derived.Carry
namespace Go.Proofs.Ytpjdibanjmmbkaa
open Go Go.RowKit Go.ChangeShapes Go.WideShapes Go.ChangeAt
set_option maxRecDepth 100000

theorem Try.own : ownKnob Try.prog.godebug = none := by kernel_rfl
theorem Try.laidOut : laidOutB Try.prog = true := by kernel_rfl

theorem viewTakes_lifted (os : Os) (started : os.Started) (H : Type) (enc : TypeId × Value → H) :
    ReturnsInHanded {} Try.checked os 10 .any (Rows.viewTakesSpec.pre6 enc Try.prog Try.f10 Rows.viewTakesRow.domain false) (Rows.viewTakesSpec.post enc Try.prog Try.f10 false true false false) := by
  refine returnsInHanded_of_change (C := Try.checked) Try.own started (by kernel_rfl) Try.func10
    (ChangeSpec.witness6 (enc := enc) (C := Try.checked) false ⟨#[], #[.agg #[.int .i64 0, .int .i64 0, .slice none 0 0], .slice none 0 0, .slice none 0 0, .float .f64 0], []⟩ 8 (by kernel_rfl) (by kernel_rfl) (by kernel_rfl) (by kernel_rfl)) ?_
  intro W base args ds gs before hval0 hW hcnd _
  have hval : ∀ (j : Nat) t v, Try.f10.params[j]? = some t → args[j]? = some v → Value.okWide Try.prog W .any base t v := hval0
  have hW' := hW
  obtain ⟨p, q, hA0, hV, rfl, hfz, hnd⟩ := hW
  have hA : DataW.TrodAll enc Try.prog W 0 (fun _ => true) true Try.f10.params.toList args.toList ds p := hA0
  rw [Try.params10] at hA hval
  obtain ⟨v0, v1, v2, v3, d0, d1, d2, d3, p0, p1, p2, p3, rfl, rfl, rfl, h0, h1, h2, h3⟩ := trodAll_four hA
  obtain ⟨rfl, rfl⟩ := trodVars_none hV
  obtain ⟨c00, c01, c02, y00, y01, y02, n0, rfl, _, _, g00, g01, g02⟩ := Joins.open_agg3 Try.underlying40 (by kernel_rfl) (by kernel_rfl) (hval 0 40 v0 rfl rfl) h0
  obtain ⟨r0, hr0, _, _⟩ := DataW.trod_int Try.underlying3 g00
  obtain ⟨c0, hc0, _, _⟩ := DataW.trod_int Try.underlying3 g01
  simp only [List.cons.injEq, and_true] at hr0 hc0
  subst hr0 hc0
  obtain ⟨a0, zs0, cap0, rfl, hZ0, hWZ0, hl0⟩ := open_cel Try.underlying22 Try.underlying23 (by kernel_rfl) g02
  obtain ⟨fu1, hf1⟩ := h1
  obtain ⟨b1, ks1, kc1, rfl, hK1, hkl1⟩ := open_steps Try.underlying41 Try.underlying64 (ti := 3) (by rfl) ⟨rfl, rfl, rfl, rfl, rfl⟩ Try.underlying3 (by kernel_rfl) (by kernel_rfl) (hval 1 41 v1 rfl rfl) hf1
  obtain ⟨fu2, hf2⟩ := h2
  obtain ⟨b2, ks2, kc2, rfl, hK2, hkl2⟩ := open_steps Try.underlying41 Try.underlying64 (ti := 3) (by rfl) ⟨rfl, rfl, rfl, rfl, rfl⟩ Try.underlying3 (by kernel_rfl) (by kernel_rfl) (hval 2 41 v2 rfl rfl) hf2
  obtain ⟨x3, rfl, _, _, hx3⟩ := open_f64v Try.underlying23 (hval 3 23 v3 rfl rfl) h3
  clear hA0 hval0
  refine (takes_any W r0 c0 a0 zs0 cap0 b1 ks1 kc1 b2 ks2 kc2 x3 hZ0 hWZ0 hl0 hK1 hK2 hx3).mono fun e W' ⟨he, hb⟩ => ?_
  subst he
  exact ⟨_, rfl, post_of_below Try.laidOut (by kernel_rfl) rfl hW' rfl hb rfl Try.underlying4⟩

/-- **ViewTakes.** -/
theorem viewTakes_holds : Rows.ViewTakesSaid :=
  OpenClaim.holds_of_wide 10 Try.f10 rfl rfl rfl rfl rfl rfl rfl ⟨rfl, rfl, rfl, rfl, rfl⟩ rfl rfl rfl rfl rfl (by kernel_rfl) Try.func10 (by kernel_rfl)
    (of_decide_eq_true (by kernel_rfl)) (by unfold Func.isWrapper; first | (rw [if_pos (by decide +kernel)]; kernel_rfl) | (rw [if_neg (by decide +kernel)]; exact ⟨rfl, rfl⟩))
    (fun os started H enc _ => viewTakes_lifted os started H enc)
#print axioms viewTakes_holds
end Go.Proofs.Ytpjdibanjmmbkaa
