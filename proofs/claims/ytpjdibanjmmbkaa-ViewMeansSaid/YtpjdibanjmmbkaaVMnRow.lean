/- 'plumblinelaw07.ViewMeans' answers true at every input, and each argument reads behind the call as it did. No condition. -/
import Derived.Test.YtpjdibanjmmbkaaRows
import Derived.Test.YtpjdibanjmmbkaaVMn
import Derived.Test.YtpjdibanjmmbkaaRow
import Derived.Test.YtpjdibanjmmbkaaOpn2
import Derived.Carry
namespace Go.Proofs.Ytpjdibanjmmbkaa
open Go Go.RowKit Go.ChangeShapes Go.WideShapes Go.ChangeAt
set_option maxRecDepth 100000

theorem Try.own : ownKnob Try.prog.godebug = none := by kernel_rfl
theorem Try.laidOut : laidOutB Try.prog = true := by kernel_rfl

theorem means_lifted (os : Os) (started : os.Started) (H : Type) (enc : TypeId × Value → H) :
    ReturnsInHanded {} Try.checked os 6 .any (Rows.viewMeansSpec.pre6 enc Try.prog Try.f6 Rows.viewMeansRow.domain false) (Rows.viewMeansSpec.post enc Try.prog Try.f6 false true false false) := by
  refine returnsInHanded_of_change (C := Try.checked) Try.own started (by kernel_rfl) Try.func6
    (ChangeSpec.witness6 (enc := enc) (C := Try.checked) false ⟨#[], #[.agg #[.int .i64 0, .int .i64 0, .slice none 0 0], .agg #[.int .i64 0, .int .i64 0, .int .i64 0, .int .i64 0, .int .i64 0], .int .i64 0, .int .i64 0], []⟩ 8 (by kernel_rfl) (by kernel_rfl) (by kernel_rfl) (by kernel_rfl)) ?_
  intro W base args ds gs before hval0 hW hcnd _
  have hval : ∀ (j : Nat) t v, Try.f6.params[j]? = some t → args[j]? = some v → Value.okWide Try.prog W .any base t v := hval0
  have hW' := hW
  obtain ⟨p, q, hA0, hV, rfl, hfz, hnd⟩ := hW
  have hA : DataW.TrodAll enc Try.prog W 0 (fun _ => true) true Try.f6.params.toList args.toList ds p := hA0
  rw [Try.params6] at hA hval
  obtain ⟨v0, v1, v2, v3, d0, d1, d2, d3, p0, p1, p2, p3, rfl, rfl, rfl, h0, h1, h2, h3⟩ := trodAll_four hA
  obtain ⟨rfl, rfl⟩ := trodVars_none hV
  obtain ⟨c0, c1, c2, y0, y1, y2, n, rfl, _, _, g0, g1, g2⟩ := Joins.open_agg3 Try.underlying40 (by kernel_rfl) (by kernel_rfl) (hval 0 40 v0 rfl rfl) h0
  obtain ⟨r, hr, _, _⟩ := DataW.trod_int Try.underlying3 g0
  obtain ⟨c, hc, _, _⟩ := DataW.trod_int Try.underlying3 g1
  simp only [List.cons.injEq, and_true] at hr hc
  subst hr hc
  obtain ⟨a, zs, cap, rfl, hZ, hWZ, hl⟩ := open_cel Try.underlying22 Try.underlying23 (by kernel_rfl) g2
  obtain ⟨K, A, B, C, D, rfl⟩ := open_step Try.underlying64 (ti := 3) (by rfl) ⟨rfl, rfl, rfl, rfl, rfl⟩ Try.underlying3 (by kernel_rfl) (by kernel_rfl) (hval 1 64 v1 rfl rfl) h1
  obtain ⟨i, rfl, _, _, _⟩ := open_int Try.underlying3 (hval 2 3 v2 rfl rfl) h2
  obtain ⟨j, rfl, _, _, _⟩ := open_int Try.underlying3 (hval 3 3 v3 rfl rfl) h3
  clear hA0 hval0
  refine (means_any W r c a zs cap K A B C D i j hZ hWZ hl).mono fun e W' ⟨he, hb⟩ => ?_
  subst he
  exact ⟨_, rfl, post_of_below Try.laidOut (by kernel_rfl) rfl hW' rfl hb rfl Try.underlying4⟩

/-- **ViewMeans.** -/
theorem means_holds : Rows.ViewMeansSaid :=
  OpenClaim.holds_of_wide 6 Try.f6 rfl rfl rfl rfl rfl rfl rfl ⟨rfl, rfl, rfl, rfl, rfl⟩ rfl rfl rfl rfl rfl (by kernel_rfl) Try.func6 (by kernel_rfl)
    (of_decide_eq_true (by kernel_rfl)) (by unfold Func.isWrapper; first | (rw [if_pos (by decide +kernel)]; kernel_rfl) | (rw [if_neg (by decide +kernel)]; exact ⟨rfl, rfl⟩))
    (fun os started H enc _ => means_lifted os started H enc)
#print axioms means_holds
end Go.Proofs.Ytpjdibanjmmbkaa
