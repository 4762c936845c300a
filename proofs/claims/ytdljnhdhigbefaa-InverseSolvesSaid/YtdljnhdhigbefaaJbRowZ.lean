/- 'plumblinelaw14.InverseSolves' answers true at every input, and each argument reads behind the call as it did. No condition. -/
import Derived.Test.YtdljnhdhigbefaaRows
import Derived.Test.YtdljnhdhigbefaaZz28
import Derived.Carry
namespace Go.Proofs.Ytdljnhdhigbefaa
open Go Go.RowKit Go.ChangeShapes Go.WideShapes Go.ChangeAt
set_option maxRecDepth 100000

theorem Try.own : ownKnob Try.prog.godebug = none := by kernel_rfl
theorem Try.laidOut : laidOutB Try.prog = true := by kernel_rfl

theorem inverseSolves_lifted (os : Os) (started : os.Started) (H : Type) (enc : TypeId × Value → H) :
    ReturnsInHanded {} Try.checked os 6 .any (Rows.inverseSolvesSpec.pre6 enc Try.prog Try.f6 Rows.inverseSolvesRow.domain false) (Rows.inverseSolvesSpec.post enc Try.prog Try.f6 false true false false) := by
  refine returnsInHanded_of_change (C := Try.checked) Try.own started (by kernel_rfl) Try.func6
    (ChangeSpec.witness6 (enc := enc) (C := Try.checked) false ⟨#[], #[.agg #[.slice none 0 0, .slice none 0 0, .slice none 0 0, .slice none 0 0, .slice none 0 0], .slice none 0 0], []⟩ 8 (by kernel_rfl) (by kernel_rfl) (by kernel_rfl) (by kernel_rfl)) ?_
  intro W base args ds gs before hval0 hW hcnd _
  have hval : ∀ (j : Nat) t v, Try.f6.params[j]? = some t → args[j]? = some v → Value.okWide Try.prog W .any base t v := hval0
  have hW' := hW
  obtain ⟨p, q, hA0, hV, rfl, hfz, hnd⟩ := hW
  have hA : DataW.TrodAll enc Try.prog W 0 (fun _ => true) true Try.f6.params.toList args.toList ds p := hA0
  rw [Try.params6] at hA hval
  obtain ⟨v0, v1, d0, d1, p0, p1, rfl, rfl, rfl, h0, h1⟩ := trodAll_two hA
  obtain ⟨rfl, rfl⟩ := trodVars_none hV
  obtain ⟨c00, c01, c02, c03, c04, y00, y01, y02, y03, y04, n0, rfl, g00, g01, g02, g03, g04⟩ := open_agg5I Try.underlying45 (by kernel_rfl) (by kernel_rfl) (hval 0 45 v0 rfl rfl) h0
  obtain ⟨aa0, as0, ac0, rfl, aF0, aW0, aL0, aN0⟩ := open_inf Try.underlying22 Try.underlying40 (by kernel_rfl) g00
  obtain ⟨ba0, bs0, bc0, rfl, bF0, bW0, bL0, bN0⟩ := open_inf Try.underlying22 Try.underlying40 (by kernel_rfl) g01
  obtain ⟨ca0, cs0, cc0, rfl, cF0, cW0, cL0, cN0⟩ := open_inf Try.underlying22 Try.underlying40 (by kernel_rfl) g02
  obtain ⟨la0, ls0, lc0, rfl, lF0, lW0, lL0, lN0⟩ := open_inf Try.underlying22 Try.underlying40 (by kernel_rfl) g03
  obtain ⟨ka0, ks0, kc0, rfl, kF0, kL0⟩ := open_bosI Try.underlying43 Try.underlying4 (by kernel_rfl) g04
  obtain ⟨sa1, sl1, sc1, rfl⟩ := okWide_slice Try.underlying22 (hval 1 22 v1 rfl rfl)
  obtain ⟨fu1, hf1⟩ := h1
  simp only [Value.cells] at hf1
  obtain ⟨a1, zs1, cap1, hsv1, hZ1, hWZ1, hl1, hn1⟩ := open_inf Try.underlying22 Try.underlying40 (by kernel_rfl) hf1
  obtain ⟨es1, el1, ec1⟩ := Value.slice.inj hsv1
  subst es1 el1 ec1
  clear hA0 hval0
  refine (solves14 W aa0 ba0 ca0 la0 ka0 sa1 as0 bs0 cs0 ls0 zs1 ks0 _ _ _ _ _ _ ac0 bc0 cc0 lc0 kc0 sc1 rfl rfl rfl rfl rfl rfl aF0 bF0 cF0 lF0 kF0 hZ1 hn1 hWZ1 ⟨aL0, bL0, cL0, lL0, kL0⟩).mono fun e W' ⟨he, hb⟩ => ?_
  subst he
  exact ⟨_, rfl, post_of_below Try.laidOut (by kernel_rfl) rfl hW' rfl hb rfl Try.underlying4⟩

/-- **InverseSolves.** -/
theorem inverseSolves_holds : Rows.InverseSolvesSaid :=
  OpenClaim.holds_of_wide 6 Try.f6 rfl rfl rfl rfl rfl rfl rfl ⟨rfl, rfl, rfl, rfl, rfl⟩ rfl rfl rfl rfl rfl (by kernel_rfl) Try.func6 (by kernel_rfl)
    (of_decide_eq_true (by kernel_rfl)) (by unfold Func.isWrapper; first | (rw [if_pos (by decide +kernel)]; kernel_rfl) | (rw [if_neg (by decide +kernel)]; exact ⟨rfl, rfl⟩))
    (fun os started H enc _ => inverseSolves_lifted os started H enc)
#print axioms inverseSolves_holds
end Go.Proofs.Ytdljnhdhigbefaa
