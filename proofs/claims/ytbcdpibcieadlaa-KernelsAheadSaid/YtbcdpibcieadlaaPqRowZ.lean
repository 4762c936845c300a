/- 'plumblinelaw08.KernelsAhead' answers true at every input, and each argument reads behind the call as it did. No condition. -/
import Derived.Test.YtbcdpibcieadlaaRows
import Derived.Test.YtbcdpibcieadlaaZz31
import Derived.Carry
namespace Go.Proofs.Ytbcdpibcieadlaa
open Go Go.RowKit Go.ChangeShapes Go.WideShapes Go.ChangeAt
set_option maxRecDepth 100000

theorem Try.own : ownKnob Try.prog.godebug = none := by kernel_rfl
theorem Try.laidOut : laidOutB Try.prog = true := by kernel_rfl

theorem kernelsAhead_lifted (os : Os) (started : os.Started) (H : Type) (enc : TypeId × Value → H) :
    ReturnsInHanded {} Try.checked os 12 .any (Rows.kernelsAheadSpec.pre6 enc Try.prog Try.f12 Rows.kernelsAheadRow.domain false) (Rows.kernelsAheadSpec.post enc Try.prog Try.f12 false true false false) := by
  refine returnsInHanded_of_change (C := Try.checked) Try.own started (by kernel_rfl) Try.func12
    (ChangeSpec.witness6 (enc := enc) (C := Try.checked) false ⟨#[], #[.float .f64 0, .agg #[.int .i64 0, .int .i64 0, .slice none 0 0], .float .f64 0, .int .i64 0, .bool false], []⟩ 8 (by kernel_rfl) (by kernel_rfl) (by kernel_rfl) (by kernel_rfl)) ?_
  intro W base args ds gs before hval0 hW hcnd _
  have hval : ∀ (j : Nat) t v, Try.f12.params[j]? = some t → args[j]? = some v → Value.okWide Try.prog W .any base t v := hval0
  have hW' := hW
  obtain ⟨p, q, hA0, hV, rfl, hfz, hnd⟩ := hW
  have hA : DataW.TrodAll enc Try.prog W 0 (fun _ => true) true Try.f12.params.toList args.toList ds p := hA0
  rw [Try.params12] at hA hval
  obtain ⟨v0, v1, v2, v3, v4, d0, d1, d2, d3, d4, p0, p1, p2, p3, p4, rfl, rfl, rfl, h0, h1, h2, h3, h4⟩ := trodAll_5 hA
  obtain ⟨rfl, rfl⟩ := trodVars_none hV
  obtain ⟨x0, rfl, _, _, hx0⟩ := open_f64w Try.underlying31 (hval 0 31 v0 rfl rfl) h0
  obtain ⟨c10, c11, c12, y10, y11, y12, n1, rfl, _, _, g10, g11, g12⟩ := Joins.open_agg3 Try.underlying24 (by kernel_rfl) (by kernel_rfl) (hval 1 24 v1 rfl rfl) h1
  obtain ⟨r1, hr1, _, _⟩ := DataW.trod_int Try.underlying3 g10
  obtain ⟨c1, hc1, _, _⟩ := DataW.trod_int Try.underlying3 g11
  simp only [List.cons.injEq, and_true] at hr1 hc1
  subst hr1 hc1
  obtain ⟨a1, zs1, cap1, rfl, hZ1, hWZ1, hl1, hk1, hm1⟩ := open_cec Try.underlying22 Try.underlying31 (by kernel_rfl) g12
  obtain ⟨x2, rfl, _, _, hx2⟩ := open_f64w Try.underlying31 (hval 2 31 v2 rfl rfl) h2
  obtain ⟨x3, rfl, _, _, hi3⟩ := open_int Try.underlying3 (hval 3 3 v3 rfl rfl) h3
  obtain ⟨x4, rfl, _, _⟩ := open_bool Try.underlying4 (hval 4 4 v4 rfl rfl) h4
  clear hA0 hval0
  refine (ahead8_any W x0 r1 c1 a1 zs1 cap1 x2 x3 x4 hx0 hZ1 hWZ1 hl1 hk1 hm1 hx2).mono fun e W' ⟨he, hb⟩ => ?_
  subst he
  exact ⟨_, rfl, post_of_below Try.laidOut (by kernel_rfl) rfl hW' rfl hb rfl Try.underlying4⟩

/-- **KernelsAhead.** -/
theorem kernelsAhead_holds : Rows.KernelsAheadSaid :=
  OpenClaim.holds_of_wide 12 Try.f12 rfl rfl rfl rfl rfl rfl rfl ⟨rfl, rfl, rfl, rfl, rfl⟩ rfl rfl rfl rfl rfl (by kernel_rfl) Try.func12 (by kernel_rfl)
    (of_decide_eq_true (by kernel_rfl)) (by unfold Func.isWrapper; first | (rw [if_pos (by decide +kernel)]; kernel_rfl) | (rw [if_neg (by decide +kernel)]; exact ⟨rfl, rfl⟩))
    (fun os started H enc _ => kernelsAhead_lifted os started H enc)
#print axioms kernelsAhead_holds
end Go.Proofs.Ytbcdpibcieadlaa
