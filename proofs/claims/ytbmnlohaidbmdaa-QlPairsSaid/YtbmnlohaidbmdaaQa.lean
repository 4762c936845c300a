/- Layer 6 and the document's: sizes, signs, lengths of two, on floats up to a NaN's bits. No condition. -/
import Derived.Test.YtbmnlohaidbmdaaGen
import Derived.Test.YtbmnlohaidbmdaaQp2
import Derived.Test.YtbmnlohaidbmdaaNq2
import Derived.Laws.Externs
namespace Go.Proofs.Ytbmnlohaidbmdaa
open Go Go.RowKit
set_option maxRecDepth 100000

theorem call_sqrt (x : Nat) (w : World) : (callFunc 45 #[.float .f64 x]).run Try.prog w = ((Extern.MathSqrt.sqrt #[.float .f64 x]).run Try.prog w).andThen (fun v w' => .ok (.value v) w') :=
  run_callFunc_extern (P := Try.prog) (fn := Try.f45) (e := Extern.MathSqrt.sqrt) (by kernel_rfl) (by kernel_rfl) (by kernel_rfl) (by kernel_rfl) (by kernel_rfl) _ _
theorem run_sqrt (x : Nat) (w : World) : ∃ s n, (callFunc 45 #[.float .f64 x]).run Try.prog w = .ok (.value (.float .f64 (raw (fsqrt x) s))) (w.drewN n) := by
  rw [call_sqrt]
  have e : Extern.MathSqrt.sqrt #[.float .f64 x] = (match Ieee.double.sqrt x with | some r => pure (.float .f64 r) | none => do pure (.float .f64 (← choose (.nanBits .f64 x x)))) := rfl
  rw [e]
  cases h : Ieee.double.sqrt x with
  | some r =>
    have hn : isnan r = false := by
      obtain ⟨d, hd, rfl⟩ := Option.map_eq_some_iff.1 h
      exact write_not_nan d (root_some hd)
    have hf : fsqrt x = r := by with_unfolding_all (show (Ieee.double.sqrt x).getD qnan = r); rw [h]; rfl
    exact ⟨0, 0, by rw [hf, raw_of_not hn]; rfl⟩
  | none =>
    have hf : fsqrt x = qnan := by with_unfolding_all (show (Ieee.double.sqrt x).getD qnan = qnan); rw [h]; rfl
    refine ⟨w.tape w.drawn (.nanBits .f64 x x), 1, ?_⟩
    have hr : raw (fsqrt x) (w.tape w.drawn (.nanBits .f64 x x)) = nanW (w.tape w.drawn (.nanBits .f64 x x)) := by
      rw [hf]
      with_unfolding_all (show (if isnan qnan then _ else _) = _)
      rw [isnan_qnan]; rfl
    rw [hr]
    with_unfolding_all rfl
theorem SqrtF (x s : Nat) (w : World) : Calls Try.prog 42 #[.float .f64 (raw x s)] w fun e w' => FR e (fsqrt x) ∧ Below w.heap.size w w' := by
  obtain ⟨t, n, hr⟩ := run_sqrt (raw x s) w
  rw [fsqrt_raw] at hr
  go_enter Try.func42, Try.ntmps42
  go_wp2
  go_ret
  exact ⟨⟨t, rfl⟩, below_drewN n (Below.refl _ _)⟩
theorem AbsF (x s : Nat) (hx : x < 18446744073709551616) (w : World) : Calls Try.prog 37 #[.float .f64 (raw x s)] w fun e w' => FR e (fabs x) ∧ w = w' := by
  refine (Abs_any (raw x s) (raw_lt hx s) w).mono ?_
  rintro e w' ⟨rfl, rfl⟩
  obtain ⟨t, ht⟩ := fabs_raw x s
  exact ⟨⟨t, by rw [ht]⟩, rfl⟩
set_option maxHeartbeats 4000000 in
theorem HypotF (x s y t : Nat) (hx : x < 18446744073709551616) (hy : y < 18446744073709551616) (w : World) :
    Calls Try.prog 38 #[.float .f64 (raw x s), .float .f64 (raw y t)] w fun e w' => FR e (hypW x y) ∧ Below w.heap.size w w' := by
  have HX := Lib.hid (fun w => AbsF x s hx w)
  have HY := Lib.hid (fun w => AbsF y t hy w)
  have HS := Lib.hid (fun x s w => SqrtF x s w)
  obtain ⟨R, hR⟩ : ∃ R, R = hypW x y := ⟨_, rfl⟩
  unfold hypW at hR
  rw [← show R = hypW x y by rw [hR]; rfl]
  generalize fabs x = p at *
  generalize fabs y = q at *
  have HR := Lib.hid hR
  clear hR
  cases hlt : flt p q
  all_goals rw [hlt] at HR
  · rw [if_neg (by simp)] at HR
    cases hz : feq p 0
    · go_enter Try.func38, Try.ntmps38
      go_wp2_with fail
      refine (HX.out _).mono ?_
      rintro e w' ⟨⟨s1, rfl⟩, rfl⟩
      go_wp2_with fail
      refine (HY.out _).mono ?_
      rintro e w' ⟨⟨t1, rfl⟩, rfl⟩
      go_wp2_with (first | (go_at_call 42; refine (HS.out _ _ _).mono ?_; rintro e w2 ⟨⟨s5, rfl⟩, hb⟩) | (refine wpList_flt rfl rfl rfl rfl rfl ?_; intro K hK _ _; go_frame; refine hK _ _ ?_; clear hK K))
      go_ret
      refine ⟨FR.eq ?_, ?_⟩
      · rw [HR.out]; unfold hypP; rw [hz, if_neg (by decide), fmul_rawl, fmul_rawr]
      · exact below_drewN _ ((below_drewN _ (Below.refl _ _)).trans (hb.mono (by simp)))
    · go_enter Try.func38, Try.ntmps38
      go_wp2_with fail
      refine (HX.out _).mono ?_
      rintro e w' ⟨⟨s1, rfl⟩, rfl⟩
      go_wp2_with fail
      refine (HY.out _).mono ?_
      rintro e w' ⟨⟨t1, rfl⟩, rfl⟩
      go_wp2
      go_ret
      refine ⟨FR.eq ?_, Below.refl _ _⟩
      rw [HR.out]; unfold hypP; rw [hz, if_pos rfl]
  · rw [if_pos rfl] at HR
    cases hz : feq q 0
    · go_enter Try.func38, Try.ntmps38
      go_wp2_with fail
      refine (HX.out _).mono ?_
      rintro e w' ⟨⟨s1, rfl⟩, rfl⟩
      go_wp2_with fail
      refine (HY.out _).mono ?_
      rintro e w' ⟨⟨t1, rfl⟩, rfl⟩
      go_wp2_with (first | (go_at_call 42; refine (HS.out _ _ _).mono ?_; rintro e w2 ⟨⟨s5, rfl⟩, hb⟩) | (refine wpList_flt rfl rfl rfl rfl rfl ?_; intro K hK _ _; go_frame; refine hK _ _ ?_; clear hK K))
      go_ret
      refine ⟨FR.eq ?_, ?_⟩
      · rw [HR.out]; unfold hypP; rw [hz, if_neg (by decide), fmul_rawl, fmul_rawr]
      · exact below_drewN _ ((below_drewN _ (Below.refl _ _)).trans (hb.mono (by simp)))
    · go_enter Try.func38, Try.ntmps38
      go_wp2_with fail
      refine (HX.out _).mono ?_
      rintro e w' ⟨⟨s1, rfl⟩, rfl⟩
      go_wp2_with fail
      refine (HY.out _).mono ?_
      rintro e w' ⟨⟨t1, rfl⟩, rfl⟩
      go_wp2
      go_ret
      refine ⟨FR.eq ?_, Below.refl _ _⟩
      rw [HR.out]; unfold hypP; rw [hz, if_pos rfl]
end Go.Proofs.Ytbmnlohaidbmdaa
