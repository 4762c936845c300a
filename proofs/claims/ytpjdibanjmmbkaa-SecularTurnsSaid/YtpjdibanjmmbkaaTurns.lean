/- 'plumblinelaw15.SecularTurns' answers true at every input, and each argument reads behind the call as it did. No condition. -/
import Derived.Test.YtpjdibanjmmbkaaRows
import Derived.Test.YtpjdibanjmmbkaaSec6
import Derived.Test.YtpjdibanjmmbkaaRow
namespace Go.Proofs.Ytpjdibanjmmbkaa
open Go Go.RowKit Go.ChangeShapes Go.WideShapes Go.ChangeAt
set_option maxRecDepth 100000

/-- Whatever the equation and the number: true. -/
theorem turns_any (w : World) (da za : Option Addr) (ds zs : List Nat) (dc zc : Nat) (rho : Nat) (k : Int) (hD : Fls w da ds) (hZ : Fls w za zs) (hWD : Words ds) (hWZ : Words zs) (hrho : rho < 18446744073709551616) (hl : ds.length ≤ maxLen) (hlz : zs.length ≤ maxLen) :
    Calls Try.prog 3 #[.agg #[.slice da ds.length dc, .slice za zs.length zc, .float .f64 rho], .int .i64 k] w fun e w' => e = .returned (.bool true) ∧ Below w.heap.size w w' := by
  by_cases hbig : 16 < ds.length ∨ 30 < zs.length
  · exact turns_big w da za ds.length dc zs.length zc rho k hl hlz hbig
  have h1 : ds.length ≤ 16 := by omega
  have h2 : zs.length ≤ 30 := by omega
  by_cases h : mayS ds zs rho = 0 ∧ (0 ≤ k ∧ k < ds.length) ∧ ffin (greatS ds zs rho k.toNat) = true
  · obtain ⟨hm, ⟨hk0, hk1⟩, hf⟩ := h
    obtain ⟨n, rfl⟩ := Int.eq_ofNat_of_zero_le hk0
    rw [Int.toNat_natCast] at hf
    have hk : n < ds.length := by omega
    have HF : ∀ W, Below w.heap.size w W → Calls Try.prog 14 #[.agg #[.slice da ds.length dc, .slice za zs.length zc, .float .f64 rho], .int .i64 n] W fun e w' => (∃ m : Nat, e = .returned (.tuple #[.agg #[.int .i64 (atS ds zs rho n), .float .f64 (if negS ds zs rho n then 9223372036854775808 + offS ds zs rho n else offS ds zs rho n)], .int .i64 m, .int .i64 0])) ∧ Below W.heap.size W w' :=
      fun W hB => Find_ok W da za ds zs dc zc rho n (hD.below hB) (hZ.below hB) hWD hWZ hrho hl hlz hm hk hf
    by_cases h3 : offS ds zs rho n < 2
    · exact turns_small w da za ds zs dc zc rho n h1 h2 _ _ _ h3 HF
    · obtain ⟨g, hg⟩ : ∃ g, offS ds zs rho n = g + 1 := ⟨offS ds zs rho n - 1, by omega⟩
      have ho := (offS_spec hm hk hf).1
      obtain ⟨hx, hy⟩ := turns_plain hm hk hf (by omega)
      rw [hg] at HF hx hy ho
      rw [Nat.add_sub_cancel] at hy
      have hat : atS ds zs rho n < ds.length := by
        unfold atS
        split
        · rename_i hneg
          unfold negS at hneg
          simp only [Bool.and_eq_true, decide_eq_true_eq] at hneg
          omega
        · exact hk
      exact turns_walk w da za ds zs dc zc rho n hD hZ h1 h2 hk _ _ g (by omega) ho HF (fun W off hB => Side_any W da za ds zs dc zc rho _ off (hD.below hB) (hZ.below hB) hWD hWZ hrho hl hlz hm hat) hx hy
  · exact turns_err w da za ds zs dc zc rho k hD hZ hWD hWZ hrho h1 h2 h

theorem Try.own : ownKnob Try.prog.godebug = none := by kernel_rfl
theorem Try.laidOut : laidOutB Try.prog = true := by kernel_rfl

theorem turns_lifted (os : Os) (started : os.Started) (H : Type) (enc : TypeId × Value → H) :
    ReturnsInHanded {} Try.checked os 3 .any (Rows.secularTurnsSpec.pre6 enc Try.prog Try.f3 Rows.secularTurnsRow.domain false) (Rows.secularTurnsSpec.post enc Try.prog Try.f3 false true false false) := by
  refine returnsInHanded_of_change (C := Try.checked) Try.own started (by kernel_rfl) Try.func3
    (ChangeSpec.witness6 (enc := enc) (C := Try.checked) false ⟨#[], #[.agg #[.slice none 0 0, .slice none 0 0, .float .f64 0], .int .i64 0], []⟩ 8 (by kernel_rfl) (by kernel_rfl) (by kernel_rfl) (by kernel_rfl)) ?_
  intro W base args ds gs before hval0 hW hcnd _
  have hval : ∀ (j : Nat) t v, Try.f3.params[j]? = some t → args[j]? = some v → Value.okWide Try.prog W .any base t v := hval0
  have hW' := hW
  obtain ⟨p, q, hA0, hV, rfl, hfz, hnd⟩ := hW
  have hA : DataW.TrodAll enc Try.prog W 0 (fun _ => true) true Try.f3.params.toList args.toList ds p := hA0
  rw [Try.params3] at hA hval
  obtain ⟨v0, v1, d0, d1, p0, p1, rfl, rfl, rfl, h0, h1⟩ := trodAll_two hA
  obtain ⟨rfl, rfl⟩ := trodVars_none hV
  obtain ⟨c0, c1, c2, y0, y1, y2, n, rfl, _, _, g0, g1, g2⟩ := Joins.open_agg3 Try.underlying25 (by kernel_rfl) (by kernel_rfl) (hval 0 25 v0 rfl rfl) h0
  obtain ⟨da, ds, dc, rfl, hD, hWD, hl⟩ := open_fls Try.underlying22 Try.underlying23 (by kernel_rfl) g0
  obtain ⟨za, zs, zc, rfl, hZ, hWZ, hlz⟩ := open_fls Try.underlying22 Try.underlying23 (by kernel_rfl) g1
  obtain ⟨rho, hrho, _, hrw⟩ := trod_f64 Try.underlying23 g2
  simp only [List.cons.injEq, and_true] at hrho
  subst hrho
  obtain ⟨k, rfl, _, _, _⟩ := open_int Try.underlying3 (hval 1 3 v1 rfl rfl) h1
  clear hA0 hval0
  refine (turns_any W da za ds zs dc zc rho k hD hZ hWD hWZ hrw hl hlz).mono fun e W' ⟨he, hb⟩ => ?_
  subst he
  exact ⟨_, rfl, post_of_below Try.laidOut (by kernel_rfl) rfl hW' rfl hb rfl Try.underlying4⟩

/-- **SecularTurns.** -/
theorem turns_holds : Rows.SecularTurnsSaid :=
  OpenClaim.holds_of_wide 3 Try.f3 rfl rfl rfl rfl rfl rfl rfl ⟨rfl, rfl, rfl, rfl, rfl⟩ rfl rfl rfl rfl rfl (by kernel_rfl) Try.func3 (by kernel_rfl)
    (of_decide_eq_true (by kernel_rfl)) (by unfold Func.isWrapper; first | (rw [if_pos (by decide +kernel)]; kernel_rfl) | (rw [if_neg (by decide +kernel)]; exact ⟨rfl, rfl⟩))
    (fun os started H enc _ => turns_lifted os started H enc)
#print axioms turns_holds
end Go.Proofs.Ytpjdibanjmmbkaa
