/- Layer 6 and the document's: sizes, signs, lengths of two, on floats up to a NaN's bits. No condition. -/
import Derived.Test.YtdljnhdhigbefaaZz4
import Derived.Laws.Externs
import Derived.Laws.AppendOwn
import Derived.Test.YtdljnhdhigbefaaZz3
import Derived.WalkMore
namespace Go.Proofs.Ytdljnhdhigbefaa
open Go Go.RowKit
set_option maxRecDepth 100000

theorem call_sqrt (x : Nat) (w : World) : (callFunc 117 #[.float .f64 x]).run Try.prog w = ((Extern.MathSqrt.sqrt #[.float .f64 x]).run Try.prog w).andThen (fun v w' => .ok (.value v) w') :=
  run_callFunc_extern (P := Try.prog) (fn := Try.f117) (e := Extern.MathSqrt.sqrt) (by kernel_rfl) (by kernel_rfl) (by kernel_rfl) (by kernel_rfl) (by kernel_rfl) _ _
theorem run_sqrt (x : Nat) (w : World) : ∃ s n, (callFunc 117 #[.float .f64 x]).run Try.prog w = .ok (.value (.float .f64 (raw (fsqrt x) s))) (w.drewN n) := by
  rw [call_sqrt]
  have e : Extern.MathSqrt.sqrt #[.float .f64 x] = (match Ieee.double.sqrt x with | some r => pure (.float .f64 r) | none => do pure (.float .f64 (← choose (.nanBits .f64 x x)))) := rfl
  rw [e]
  cases h : Ieee.double.sqrt x with
  | some r =>
    have hn : isnan r = false := by
      obtain ⟨d, hd, rfl⟩ := Option.map_eq_some_iff.1 h
      exact write_not_nan d (root_some hd)
    have hf : fsqrt x = r := by with_unfolding_all (show (Ieee.double.sqrt x).getD qnan = r); rw [h]; rfl
    exact ⟨0, 0, by rw [hf, raw_of_not hn]; rfl⟩
  | none =>
    have hf : fsqrt x = qnan := by with_unfolding_all (show (Ieee.double.sqrt x).getD qnan = qnan); rw [h]; rfl
    refine ⟨w.tape w.drawn (.nanBits .f64 x x), 1, ?_⟩
    have hr : raw (fsqrt x) (w.tape w.drawn (.nanBits .f64 x x)) = nanW (w.tape w.drawn (.nanBits .f64 x x)) := by
      rw [hf]
      with_unfolding_all (show (if isnan qnan then _ else _) = _)
      rw [isnan_qnan]; rfl
    rw [hr]
    with_unfolding_all rfl
theorem SqrtF (x s : Nat) (w : World) : Calls Try.prog 95 #[.float .f64 (raw x s)] w fun e w' => FR e (fsqrt x) ∧ Below w.heap.size w w' := by
  obtain ⟨t, n, hr⟩ := run_sqrt (raw x s) w
  rw [fsqrt_raw] at hr
  go_enter Try.func95, Try.ntmps95
  go_wp2
  go_ret
  exact ⟨⟨t, rfl⟩, below_drewN n (Below.refl _ _)⟩
theorem AbsF (x s : Nat) (hx : x < 18446744073709551616) (w : World) : Calls Try.prog 48 #[.float .f64 (raw x s)] w fun e w' => FR e (fabs x) ∧ w = w' := by
  refine (Abs_any (raw x s) (raw_lt hx s) w).mono ?_
  rintro e w' ⟨rfl, rfl⟩
  obtain ⟨t, ht⟩ := fabs_raw x s
  exact ⟨⟨t, by rw [ht]⟩, rfl⟩
set_option maxHeartbeats 4000000 in
theorem HypotF (x s y t : Nat) (hx : x < 18446744073709551616) (hy : y < 18446744073709551616) (w : World) :
    Calls Try.prog 90 #[.float .f64 (raw x s), .float .f64 (raw y t)] w fun e w' => FR e (hypW x y) ∧ Below w.heap.size w w' := by
  have HX := Lib.hid (fun w => AbsF x s hx w)
  have HY := Lib.hid (fun w => AbsF y t hy w)
  have HS := Lib.hid (fun x s w => SqrtF x s w)
  obtain ⟨R, hR⟩ : ∃ R, R = hypW x y := ⟨_, rfl⟩
  unfold hypW at hR
  rw [← show R = hypW x y by rw [hR]; rfl]
  generalize fabs x = p at *
  generalize fabs y = q at *
  have HR := Lib.hid hR
  clear hR
  cases hlt : flt p q
  all_goals rw [hlt] at HR
  · rw [if_neg (by simp)] at HR
    cases hz : feq p 0
    · go_enter Try.func90, Try.ntmps90
      go_wp2_with fail
      refine (HX.out _).mono ?_
      rintro e w' ⟨⟨s1, rfl⟩, rfl⟩
      go_wp2_with fail
      refine (HY.out _).mono ?_
      rintro e w' ⟨⟨t1, rfl⟩, rfl⟩
      go_wp2_with (first | (go_at_call 95; refine (HS.out _ _ _).mono ?_; rintro e w2 ⟨⟨s5, rfl⟩, hb⟩) | (refine wpList_flt rfl rfl rfl rfl rfl ?_; intro K hK _ _; go_frame; refine hK _ _ ?_; clear hK K))
      go_ret
      refine ⟨FR.eq ?_, ?_⟩
      · rw [HR.out]; unfold hypP; rw [hz, if_neg (by decide), fmul_rawl, fmul_rawr]
      · exact below_drewN _ ((below_drewN _ (Below.refl _ _)).trans (hb.mono (by simp)))
    · go_enter Try.func90, Try.ntmps90
      go_wp2_with fail
      refine (HX.out _).mono ?_
      rintro e w' ⟨⟨s1, rfl⟩, rfl⟩
      go_wp2_with fail
      refine (HY.out _).mono ?_
      rintro e w' ⟨⟨t1, rfl⟩, rfl⟩
      go_wp2
      go_ret
      refine ⟨FR.eq ?_, Below.refl _ _⟩
      rw [HR.out]; unfold hypP; rw [hz, if_pos rfl]
  · rw [if_pos rfl] at HR
    cases hz : feq q 0
    · go_enter Try.func90, Try.ntmps90
      go_wp2_with fail
      refine (HX.out _).mono ?_
      rintro e w' ⟨⟨s1, rfl⟩, rfl⟩
      go_wp2_with fail
      refine (HY.out _).mono ?_
      rintro e w' ⟨⟨t1, rfl⟩, rfl⟩
      go_wp2_with (first | (go_at_call 95; refine (HS.out _ _ _).mono ?_; rintro e w2 ⟨⟨s5, rfl⟩, hb⟩) | (refine wpList_flt rfl rfl rfl rfl rfl ?_; intro K hK _ _; go_frame; refine hK _ _ ?_; clear hK K))
      go_ret
      refine ⟨FR.eq ?_, ?_⟩
      · rw [HR.out]; unfold hypP; rw [hz, if_neg (by decide), fmul_rawl, fmul_rawr]
      · exact below_drewN _ ((below_drewN _ (Below.refl _ _)).trans (hb.mono (by simp)))
    · go_enter Try.func90, Try.ntmps90
      go_wp2_with fail
      refine (HX.out _).mono ?_
      rintro e w' ⟨⟨s1, rfl⟩, rfl⟩
      go_wp2_with fail
      refine (HY.out _).mono ?_
      rintro e w' ⟨⟨t1, rfl⟩, rfl⟩
      go_wp2
      go_ret
      refine ⟨FR.eq ?_, Below.refl _ _⟩
      rw [HR.out]; unfold hypP; rw [hz, if_pos rfl]
end Go.Proofs.Ytdljnhdhigbefaa

/- The document's sizes, signs and lengths of two; the program's sign. No condition. -/
namespace Go.Proofs.Ytdljnhdhigbefaa
open Go Go.RowKit
set_option maxRecDepth 100000
theorem RAbs_any (x : Nat) (hx : x < 18446744073709551616) (w : World) : Calls Try.prog 25 #[.float .f64 x] w fun e w' => e = .returned (.float .f64 (fabs x)) ∧ w = w' := by
  go_enter Try.func25, Try.ntmps25
  go_wp2
  have e : (IntKind.u64.wrap ((x : Int) * 2) / 2).toNat = fabs x := by rw [IntKind.wrap_u64]; unfold fabs; omega
  rw [e]
  go_ret
  exact ⟨rfl, rfl⟩
theorem or_sgn (x y : Nat) (hy : y < 18446744073709551616) : bits .or .u64 ((fabs x : Nat) : Int) ((y / 9223372036854775808 * 9223372036854775808 : Nat) : Int) = ((fabs x + y / 9223372036854775808 * 9223372036854775808 : Nat) : Int) := by
  have hf := fabs_lt x
  rw [u64_or_nat _ _ (by omega) (by omega)]
  congr 1
  have h01 : y / 9223372036854775808 = 0 ∨ y / 9223372036854775808 = 1 := by omega
  generalize fabs x = n at *
  rcases h01 with h | h <;> rw [h]
  · simp
  · rw [show (1 * 9223372036854775808 : Nat) = 2 ^ 63 * 1 from by decide, Nat.or_comm, ← Nat.two_pow_add_eq_or_of_lt (by simpa using hf)]
    omega
theorem CopysignW (x y : Nat) (hx : x < 18446744073709551616) (hy : y < 18446744073709551616) (w : World) : Calls Try.prog 107 #[.float .f64 x, .float .f64 y] w fun e w' => e = .returned (.float .f64 (fabs x + y / 9223372036854775808 * 9223372036854775808)) ∧ w = w' := by
  have e1 := bits_clear hx
  have e2 := bits_sign hy
  have e3 := or_sgn x y hy
  generalize fabs x + y / 9223372036854775808 * 9223372036854775808 = z at *
  generalize y / 9223372036854775808 * 9223372036854775808 = s at *
  go_enter Try.func107, Try.ntmps107
  go_wp2
  go_ret
  exact ⟨rfl, rfl⟩
theorem RSignW (x y : Nat) (hx : x < 18446744073709551616) (hy : y < 18446744073709551616) (w : World) : Calls Try.prog 64 #[.float .f64 x, .float .f64 y] w fun e w' => e = .returned (.float .f64 (fabs x + y / 9223372036854775808 * 9223372036854775808)) ∧ w = w' := by
  have e1 : IntKind.u64.wrap ((x : Int) * 2) / 2 = ((fabs x : Nat) : Int) := by rw [IntKind.wrap_u64]; unfold fabs; omega
  have e2 : IntKind.u64.wrap ((y : Int) / 9223372036854775808 * 9223372036854775808) = ((y / 9223372036854775808 * 9223372036854775808 : Nat) : Int) := by rw [IntKind.wrap_u64]; omega
  have e3 := or_sgn x y hy
  generalize fabs x + y / 9223372036854775808 * 9223372036854775808 = z at *
  generalize y / 9223372036854775808 * 9223372036854775808 = s at *
  generalize fabs x = fx at *
  go_enter Try.func64, Try.ntmps64
  go_wp2
  go_ret
  exact ⟨rfl, rfl⟩
/-- A size with a sign, on floats up to a NaN's bits. -/
theorem sgn_raw (x s y t : Nat) (hx : x < 18446744073709551616) (hy : y < 18446744073709551616) (h : isnan y = true → isnan x = true) : ∃ u, fabs (raw x s) + raw y t / 9223372036854775808 * 9223372036854775808 = raw (sgnW x y) u := by
  have h1 := raw_lt hx s
  have h2 := raw_lt hy t
  unfold sgnW
  cases hn : isnan x
  · have hny : isnan y = false := by
      cases hy' : isnan y
      · rfl
      · rw [h hy'] at hn; cases hn
    rw [if_neg (by simp), raw_of_not hn, raw_of_not hny]
    refine ⟨0, ?_⟩
    have hn2 : isnan (x % 9223372036854775808 + y / 9223372036854775808 * 9223372036854775808) = false := by
      with_unfolding_all (unfold isnan at hn ⊢)
      rw [decide_eq_false_iff_not] at hn ⊢
      omega
    rw [raw_of_not hn2]
    unfold fabs
    rfl
  · rw [if_pos rfl]
    have hb : fabs (raw x s) + raw y t / 9223372036854775808 * 9223372036854775808 < 18446744073709551616 := by unfold fabs; omega
    have hnb : isnan (fabs (raw x s) + raw y t / 9223372036854775808 * 9223372036854775808) = true := by
      have h3 : isnan (raw x s) = true := by rw [isnan_raw]; exact hn
      unfold fabs
      with_unfolding_all (unfold isnan at h3 ⊢)
      rw [decide_eq_true_eq] at h3 ⊢
      omega
    obtain ⟨u, hu⟩ := raw_nm hb
    rw [nm_of_isnan hnb] at hu
    exact ⟨u, hu⟩
theorem RSignF (x s y t : Nat) (hx : x < 18446744073709551616) (hy : y < 18446744073709551616) (h : isnan y = true → isnan x = true) (w : World) : Calls Try.prog 64 #[.float .f64 (raw x s), .float .f64 (raw y t)] w fun e w' => FR e (sgnW x y) ∧ w = w' := by
  obtain ⟨u, hu⟩ := sgn_raw x s y t hx hy h
  refine (RSignW _ _ (raw_lt hx s) (raw_lt hy t) w).mono ?_
  rintro e w' ⟨rfl, rfl⟩
  exact ⟨⟨u, by rw [hu]⟩, rfl⟩
theorem SignF (x s y t : Nat) (hx : x < 18446744073709551616) (hy : y < 18446744073709551616) (h : isnan y = true → isnan x = true) (w : World) : Calls Try.prog 92 #[.float .f64 (raw x s), .float .f64 (raw y t)] w fun e w' => FR e (sgnW x y) ∧ w = w' := by
  obtain ⟨u, hu⟩ := sgn_raw x s y t hx hy h
  have HC := Lib.hid (CopysignW _ _ (raw_lt hx s) (raw_lt hy t) w)
  rw [hu] at HC
  generalize raw x s = a at *
  generalize raw y t = b at *
  clear hu
  go_enter Try.func92, Try.ntmps92
  go_wp2_with fail
  refine HC.out.mono ?_
  rintro e w' ⟨rfl, rfl⟩
  go_wp2
  go_ret
  exact ⟨⟨u, rfl⟩, rfl⟩
theorem RAbsF (x s : Nat) (hx : x < 18446744073709551616) (w : World) : Calls Try.prog 25 #[.float .f64 (raw x s)] w fun e w' => FR e (fabs x) ∧ w = w' := by
  refine (RAbs_any (raw x s) (raw_lt hx s) w).mono ?_
  rintro e w' ⟨rfl, rfl⟩
  obtain ⟨t, ht⟩ := fabs_raw x s
  exact ⟨⟨t, by rw [ht]⟩, rfl⟩
set_option maxHeartbeats 4000000 in
theorem RHypotF (x s y t : Nat) (hx : x < 18446744073709551616) (hy : y < 18446744073709551616) (w : World) :
    Calls Try.prog 62 #[.float .f64 (raw x s), .float .f64 (raw y t)] w fun e w' => FR e (hypW x y) ∧ Below w.heap.size w w' := by
  have HX := Lib.hid (fun w => RAbsF x s hx w)
  have HY := Lib.hid (fun w => RAbsF y t hy w)
  have HS := Lib.hid (fun x s w => SqrtF x s w)
  obtain ⟨R, hR⟩ : ∃ R, R = hypW x y := ⟨_, rfl⟩
  unfold hypW at hR
  rw [← show R = hypW x y by rw [hR]; rfl]
  generalize fabs x = p at *
  generalize fabs y = q at *
  have HR := Lib.hid hR
  clear hR
  cases hlt : flt p q
  all_goals rw [hlt] at HR
  · rw [if_neg (by simp)] at HR
    cases hz : feq p 0
    · go_enter Try.func62, Try.ntmps62
      go_wp2_with fail
      refine (HX.out _).mono ?_
      rintro e w' ⟨⟨s1, rfl⟩, rfl⟩
      go_wp2_with fail
      refine (HY.out _).mono ?_
      rintro e w' ⟨⟨t1, rfl⟩, rfl⟩
      go_wp2_with (first | (go_at_call 95; refine (HS.out _ _ _).mono ?_; rintro e w2 ⟨⟨s5, rfl⟩, hb⟩) | (refine wpList_flt rfl rfl rfl rfl rfl ?_; intro K hK _ _; go_frame; refine hK _ _ ?_; clear hK K))
      go_ret
      refine ⟨FR.eq ?_, ?_⟩
      · rw [HR.out]; unfold hypP; rw [hz, if_neg (by decide), fmul_rawl, fmul_rawr]
      · exact below_drewN _ ((below_drewN _ (Below.refl _ _)).trans (hb.mono (by simp)))
    · go_enter Try.func62, Try.ntmps62
      go_wp2_with fail
      refine (HX.out _).mono ?_
      rintro e w' ⟨⟨s1, rfl⟩, rfl⟩
      go_wp2_with fail
      refine (HY.out _).mono ?_
      rintro e w' ⟨⟨t1, rfl⟩, rfl⟩
      go_wp2
      go_ret
      refine ⟨FR.eq ?_, Below.refl _ _⟩
      rw [HR.out]; unfold hypP; rw [hz, if_pos rfl]
  · rw [if_pos rfl] at HR
    cases hz : feq q 0
    · go_enter Try.func62, Try.ntmps62
      go_wp2_with fail
      refine (HX.out _).mono ?_
      rintro e w' ⟨⟨s1, rfl⟩, rfl⟩
      go_wp2_with fail
      refine (HY.out _).mono ?_
      rintro e w' ⟨⟨t1, rfl⟩, rfl⟩
      go_wp2_with (first | (go_at_call 95; refine (HS.out _ _ _).mono ?_; rintro e w2 ⟨⟨s5, rfl⟩, hb⟩) | (refine wpList_flt rfl rfl rfl rfl rfl ?_; intro K hK _ _; go_frame; refine hK _ _ ?_; clear hK K))
      go_ret
      refine ⟨FR.eq ?_, ?_⟩
      · rw [HR.out]; unfold hypP; rw [hz, if_neg (by decide), fmul_rawl, fmul_rawr]
      · exact below_drewN _ ((below_drewN _ (Below.refl _ _)).trans (hb.mono (by simp)))
    · go_enter Try.func62, Try.ntmps62
      go_wp2_with fail
      refine (HX.out _).mono ?_
      rintro e w' ⟨⟨s1, rfl⟩, rfl⟩
      go_wp2_with fail
      refine (HY.out _).mono ?_
      rintro e w' ⟨⟨t1, rfl⟩, rfl⟩
      go_wp2
      go_ret
      refine ⟨FR.eq ?_, Below.refl _ _⟩
      rw [HR.out]; unfold hypP; rw [hz, if_pos rfl]
end Go.Proofs.Ytdljnhdhigbefaa

/- A block of floats, up to a NaN's bits, that is read and written; a slice of floats appended to nil. No condition but on lengths. -/
namespace Go.Proofs.Ytdljnhdhigbefaa
open Go Go.RowKit
set_option maxRecDepth 100000

/-- Block n holds the floats l, up to a NaN's bits, and perhaps more. -/
def Flb (W : World) (n : Nat) (l : List Nat) : Prop := ∃ cs : List Value, Box W n cs ∧ ∀ (i v : Nat), l[i]? = some v → ∃ s, cs[i]? = some (.float .f64 (raw v s))
section
variable {W W' : World} {n : Nat} {l : List Nat}
theorem Flb.lt (h : Flb W n l) : n < W.heap.size := by obtain ⟨cs, hb, _⟩ := h; exact hb.lt
theorem Flb.fls (h : Flb W n l) : Fls W (some ⟨n, 0, none⟩) l := fun _ => by
  obtain ⟨cs, hb, hc⟩ := h
  refine ⟨n, 0, rfl, hb.lt, fun i v hi => ?_⟩
  obtain ⟨s, hs⟩ := hc i v hi
  exact ⟨s, by rw [hb.cell, Nat.zero_add]; exact hs⟩
theorem Flb.frozen (h : Flb W n l) (i : Nat) : W.frozen? ⟨n, i, none⟩ = false := by obtain ⟨cs, hb, _⟩ := h; exact hb.frozen i
theorem Flb.at (h : Flb W n l) {i : Nat} (hi : i < l.length) : ∃ s, W.cell? ⟨n, i, none⟩ = some (.float .f64 (raw (l.getD i 0) s)) := by
  obtain ⟨cs, hb, hc⟩ := h
  have hv : l[i]? = some (l.getD i 0) := by rw [List.getD_eq_getElem?_getD, List.getElem?_eq_getElem hi]; rfl
  obtain ⟨s, hs⟩ := hc i _ hv
  exact ⟨s, by rw [hb.cell]; exact hs⟩
theorem Flb.set (h : Flb W n l) (j v s : Nat) : Flb (W.setCell ⟨n, j, none⟩ (.float .f64 (raw v s))) n (l.set j v) := by
  obtain ⟨cs, hb, hc⟩ := h
  refine ⟨_, hb.set j _, fun i u hi => ?_⟩
  by_cases hj : j = i
  · subst hj
    have hlt : j < l.length := by
      have := (List.getElem?_eq_some_iff.1 hi).1
      simpa using this
    rw [List.getElem?_set_self hlt] at hi
    simp only [Option.some.injEq] at hi
    subst hi
    have hv : l[j]? = some (l[j]) := List.getElem?_eq_getElem hlt
    obtain ⟨s', hs'⟩ := hc j _ hv
    exact ⟨s, by rw [List.getElem?_set_self (List.getElem?_eq_some_iff.1 hs').1]⟩
  · rw [List.getElem?_set_ne hj] at hi
    obtain ⟨s', hs'⟩ := hc i u hi
    exact ⟨s', by rw [List.getElem?_set_ne hj]; exact hs'⟩
theorem Flb.below (h : Flb W n l) (hb : Below W.heap.size W W') : Flb W' n l := by
  obtain ⟨cs, h1, hc⟩ := h
  exact ⟨cs, h1.below hb, hc⟩
theorem Flb.bel {s : Nat} (h : Flb W n l) (hs : n ≠ s) (hb : Bel W.heap.size s W W') : Flb W' n l := by
  obtain ⟨cs, h1, hc⟩ := h
  exact ⟨cs, h1.bel hs hb, hc⟩
theorem Flb.other (h : Flb W n l) {m : Nat} (hm : n ≠ m) (j : Nat) (u : Value) : Flb (W.setCell ⟨m, j, none⟩ u) n l :=
  h.bel hm ((Bel.refl _ _ W).set j u)
theorem Flb.ofBox {zs : List Nat} (h : Box W n (zs.map (Value.float .f64))) (hn : ∀ v ∈ zs, isnan v = false) : Flb W n zs :=
  ⟨_, h, fun i v hi => ⟨0, by rw [List.getElem?_map, hi, raw_of_not (hn v (List.mem_of_getElem? hi))]; rfl⟩⟩
end
/-- The words behind floats up to a NaN's bits. -/
theorem Fls.words {w : World} {a : Option Addr} {l : List Nat} (h : Fls w a l) : ∃ ws : List Nat, ws.length = l.length ∧ (∀ (i v : Nat), l[i]? = some v → ∃ s, ws[i]? = some (raw v s)) ∧ Cel w a ws := by
  by_cases hz : l = []
  · subst hz
    exact ⟨[], rfl, fun i v hi => by simp at hi, fun h0 => absurd rfl h0⟩
  · obtain ⟨b, off, e, hlt, hc⟩ := h hz
    refine ⟨(List.range l.length).map fun i => match w.cell? ⟨b, off + i, none⟩ with | some (.float .f64 x) => x | _ => 0, by simp, fun i v hi => ?_, fun _ => ⟨b, off, e, hlt, fun i v hi => ?_⟩⟩
    · obtain ⟨s, hs⟩ := hc i v hi
      have hil := (List.getElem?_eq_some_iff.1 hi).1
      exact ⟨s, by rw [List.getElem?_map, List.getElem?_range hil]; simp only [Option.map_some, hs]⟩
    · have hil : i < l.length := by
        have := (List.getElem?_eq_some_iff.1 hi).1
        simpa using this
      obtain ⟨s, hs⟩ := hc i l[i] (List.getElem?_eq_getElem hil)
      rw [List.getElem?_map, List.getElem?_range hil] at hi
      simp only [Option.map_some, hs, Option.some.injEq] at hi
      rw [hs, hi]
theorem below_of_grownA {w w' : World} (h : w.grownBy w' none) : Below w.heap.size w w' := ⟨h.os, h.tape, h.output, h.size, fun k hk => h.block k hk (by simp)⟩
theorem run_append_fls (w : World) (ty : TypeId) (a : Option Addr) (l : List Nat) (cap : Nat) (hZ : Fls w a l) (hl : l.length ≤ 262144) (h0 : l ≠ []) :
    ∃ g c' w', (Builtin.append_ #[22, 22] ty #[.slice none 0 0, .slice a l.length cap]).run Try.prog w = .ok (.slice (some ⟨g, 0, none⟩) l.length c') w' ∧ w.heap.size ≤ g ∧ Flb w' g l ∧ Below w.heap.size w w' := by
  obtain ⟨i0, hi, hz0, hz1, hz2⟩ := info_parts info_f64
  obtain ⟨ws, hwl, hws, hC⟩ := hZ.words
  have hn : 0 < l.length := List.length_pos_iff.2 h0
  have hw0 : ws ≠ [] := fun h => by rw [h] at hwl; simp at hwl; omega
  obtain ⟨b, off, e, _, hc⟩ := hC hw0
  subst e
  obtain ⟨v', w', hr, h2, h3, _⟩ := run_append_own (P := Try.prog) w w.heap.size 22 ty 40 i0 (.float .f64 0) 1 8 Try.underlying22 hi hz0 hz1 hz2 rfl (by decide) (.slice none 0 0) 0 [] (World.ownsRow_nil _ _ _ _) ⟨b, off, none⟩ l.length cap (ws.map (Value.float .f64)) (by rw [List.length_map, hwl, Nat.mul_one])
    (fun j u hu => by
      simp only [List.getElem?_map, Option.map_eq_some_iff] at hu
      obtain ⟨x, hx, rfl⟩ := hu
      have h2 : (⟨b, off, none⟩ : Addr).add j = ⟨b, off + j, none⟩ := by unfold Addr.add; split <;> simp_all
      rw [h2]
      exact hc j x hx)
    (by simp [Value.oneCell']) (by unfold maxLen; omega) (by omega) (Nat.le_refl _)
  rw [Nat.zero_add, List.nil_append] at h2
  rcases h2.2 with ⟨_, h4⟩ | ⟨g, c', cur, hv, hb, hg, _, _, _, htk⟩
  · omega
  · subst hv
    refine ⟨g, c', w', hr, hb, ⟨cur.toList, ⟨40, by rw [Array.toArray_toList]; exact hg⟩, fun i v hi => ?_⟩, below_of_grownA h3⟩
    obtain ⟨s, hs⟩ := hws i v hi
    have hil := (List.getElem?_eq_some_iff.1 hi).1
    refine ⟨s, ?_⟩
    have h5 : (cur.toList.take (l.length * 1))[i]? = some (.float .f64 (raw v s)) := by rw [htk, List.getElem?_map, hs]; rfl
    rw [List.getElem?_take_of_lt (by omega)] at h5
    exact h5
theorem wpList_append_fls {w : World} {ops : Array Oper} {rest : List Oper} {o : Oper} {a : Act} {Q : Exit → Act → World → Prop} (hgd : o.guard = none) (s x : Operand)
    (ho : o.op = .call { callee := .builtin .append, args := #[s, x], argTypes := #[22, 22] })
    (ad : Option Addr) (l : List Nat) (cap : Nat) (hs : a.eval s = .slice none 0 0) (hx : a.eval x = .slice ad l.length cap) (hZ : Fls w ad l) (hl : l.length ≤ 262144) (h0 : l ≠ [])
    (h : ∀ g c' w', w.heap.size ≤ g → Flb w' g l → Below w.heap.size w w' → wpList Try.prog ops Q rest (a.put o.dst (.slice (some ⟨g, 0, none⟩) l.length c')) w') : wpList Try.prog ops Q (o :: rest) a w :=
  wpList_plain hgd fun _ hK => by
    obtain ⟨g, c', w', hr, h1, h2, h3⟩ := run_append_fls w o.type ad l cap hZ hl h0
    unfold Oper.wp execOp
    simp only [ho, resolve, invoke, builtin, Sem.run_bind, Sem.run_pure, Result.andThen_ok, List.map_toArray, List.map_cons, List.map_nil, hs, hx, hr]
    exact hK _ _ (h g c' w' h1 h2 h3)
end Go.Proofs.Ytdljnhdhigbefaa

/- Layer 12: two columns of the matrix are turned. No condition but on places. -/
namespace Go.Proofs.Ytdljnhdhigbefaa
open Go Go.RowKit
set_option maxRecDepth 100000

end Go.Proofs.Ytdljnhdhigbefaa

/- Drawn regions: what a call gives need not be told ahead: two contracts on one call speak of one end. No condition. -/
namespace Go.Proofs.Ytdljnhdhigbefaa
open Go Go.RowKit
section
variable {P : Program} {C : World → Prop}
theorem calls_one {f : FuncId} {args : Array Value} {w : World} {R R' : World → Prop} {V V' : Value}
    (h : Calls P f args w fun e w' => e = .returned V ∧ R w') (h' : Calls P f args w fun e w' => e = .returned V' ∧ R' w') (hi : P.inits.idxOf? f = none) : V = V' := by
  obtain ⟨n, v, w1, e1, r1⟩ := (h.mono (R' := fun | .returned v, w' => v = V ∧ R w' | _, _ => False) (fun e w' ⟨he, q⟩ => by subst he; exact ⟨rfl, q⟩)).done hi
  obtain ⟨m, v', w2, e2, r2⟩ := (h'.mono (R' := fun | .returned v, w' => v = V' ∧ R' w' | _, _ => False) (fun e w' ⟨he, q⟩ => by subst he; exact ⟨rfl, q⟩)).done hi
  have a := runN_ended e1 m
  have b := runN_ended e2 n
  rw [Nat.add_comm, a] at b
  injection b with ho hw
  injection ho with hv
  rw [← r1.1, ← r2.1, hv]
/-- A value that every contract on the call tells. -/
def FD (P : Program) (C : World → Prop) (f : FuncId) (args : Array Value) (v : Value) : Prop :=
  ∀ V, (∀ w1, C w1 → Calls P f args w1 fun e w2 => e = .returned V ∧ C w2) → v = V
theorem fd_both {f : FuncId} {args : Array Value} {K : Value → Prop} {V : Value} (hi : P.inits.idxOf? f = none)
    (c : ∀ w1, C w1 → Calls P f args w1 fun e w2 => e = .returned V ∧ C w2) (hK : K V) :
    (∀ w1, C w1 → Calls P f args w1 (fun e w2 => ∃ v, e = .returned v ∧ FD P C f args v ∧ C w2)) ∧ ∀ v, FD P C f args v → K v :=
  ⟨fun w1 h1 => (c w1 h1).mono fun _ _ ⟨he, hc⟩ => ⟨V, he, fun _ c' => calls_one (c w1 h1) (c' w1 h1) hi, hc⟩, fun v hv => by rw [hv V c]; exact hK⟩
theorem wp_region_nqd {id : Nat} {Q : Exit → Act → World → Prop} {a : Act} {w : World} {l : List Oper} (n : Nat)
    (hm : P.follows .mixedOrders = true) (hB : nqB l n = true)
    (h : ∀ (C : World → Prop) (R : Act → Prop), (∀ w', Cls C w' → ∀ b o, b < w.heap.size → w'.cell? ⟨b, o, none⟩ = w.cell? ⟨b, o, none⟩) → (∀ w', Cls C w' → Below w.heap.size w w') →
      (∀ w' w'', Cls C w' → Below w'.heap.size w' w'' → Cls C w'') → (∀ w' n, Cls C w' → Cls C (w'.drewN n)) →
      (∀ a', (∀ w', Below w.heap.size w w' → wpList P l.toArray Q (l.drop n) a' w') → R a') → nqW P l.toArray (Cls C) (FD P (Cls C)) R (l.take n) a) : (Code.region id l.toArray true).wp P Q a w :=
  wp_region_nq n (FD P (Cls (Below w.heap.size w))) (Below w.heap.size w) hm hB (below_drewN 1 (Below.refl _ _))
    (h (Below w.heap.size w) (fun a' => ∀ w', Below w.heap.size w w' → wpList P l.toArray Q (l.drop n) a' w') (fun _ hw' => (below_cells hw').1) (fun _ h => h)
      (fun _ _ h1 h2 => h1.trans (h2.mono h1.size)) (fun _ n h => below_drewN n h) (fun _ h => h))
end
section
variable {P : Program} {l0 : Nat} {nf : Nat}
theorem wpIn_region_nqd {id : Nat} {Q : Exit → Act → World → Prop} {a : Act} {w : World} {l : List Oper} (n : Nat)
    (hm : P.follows .mixedOrders = true) (hB : (nqB l n && noDefer l) = true)
    (h : ∀ (C : World → Prop) (R : Act → Prop), (∀ w', Cls C w' → ∀ b o, b < w.heap.size → w'.cell? ⟨b, o, none⟩ = w.cell? ⟨b, o, none⟩) → (∀ w', Cls C w' → Below w.heap.size w w') →
      (∀ w' w'', Cls C w' → Below w'.heap.size w' w'' → Cls C w'') → (∀ w' n, Cls C w' → Cls C (w'.drewN n)) →
      (∀ a', (∀ w', Below w.heap.size w w' → wpListIn (Fence.wide.inRound l0) nf P l.toArray Q (l.drop n) a' w') → R a') → nqW P l.toArray (Cls C) (FD P (Cls C)) R (l.take n) a) : (Code.region id l.toArray true).wpIn (Fence.wide.inRound l0) nf P Q a w :=
  wpIn_region_nq n (FD P (Cls (Below w.heap.size w))) (Below w.heap.size w) hm hB (below_drewN 1 (Below.refl _ _))
    (h (Below w.heap.size w) (fun a' => ∀ w', Below w.heap.size w w' → wpListIn (Fence.wide.inRound l0) nf P l.toArray Q (l.drop n) a' w') (fun _ hw' => (below_cells hw').1) (fun _ h => h)
      (fun _ _ h1 h2 => h1.trans (h2.mono h1.size)) (fun _ n h => below_drewN n h) (fun _ h => h))
end
end Go.Proofs.Ytdljnhdhigbefaa

/- Layer 12: where a block ends. No condition but on lengths. -/
namespace Go.Proofs.Ytdljnhdhigbefaa
open Go Go.RowKit
set_option maxRecDepth 100000

end Go.Proofs.Ytdljnhdhigbefaa

/- Layer 12: blocks that are written, a list of them; the matrix that is turned along, or has no rows. No condition. -/
namespace Go.Proofs.Ytdljnhdhigbefaa
open Go Go.RowKit
set_option maxRecDepth 100000

/-- Below B all blocks but those of L are as they were. -/
structure Bls (L : List Nat) (B : Nat) (w w' : World) : Prop where
  os : w'.os = w.os
  tape : w'.tape = w.tape
  output : w'.output = w.output
  size : w.heap.size ≤ w'.heap.size
  block : ∀ k, k < B → k ∉ L → w'.heap[k]? = w.heap[k]?
section
variable {L : List Nat} {B : Nat} {a b c w w' : World}
theorem Bls.refl (L : List Nat) (B : Nat) (w : World) : Bls L B w w := ⟨rfl, rfl, rfl, Nat.le_refl _, fun _ _ _ => rfl⟩
theorem Bls.of (h : Below B w w') : Bls L B w w' := ⟨h.os, h.tape, h.output, h.size, fun k hk _ => h.block k hk⟩
theorem Bls.ofBel {s : Nat} (h : Bel B s w w') (hs : s ∈ L) : Bls L B w w' := ⟨h.os, h.tape, h.output, h.size, fun k hk hn => h.block k hk (fun e => hn (e ▸ hs))⟩
theorem Bls.trans (h : Bls L B a b) (k : Bls L B b c) : Bls L B a c :=
  ⟨k.os.trans h.os, k.tape.trans h.tape, k.output.trans h.output, Nat.le_trans h.size k.size, fun i hi hn => (k.block i hi hn).trans (h.block i hi hn)⟩
theorem Bls.mono {B' : Nat} (h : Bls L B w w') (hB : B' ≤ B) : Bls L B' w w' := ⟨h.os, h.tape, h.output, h.size, fun k hk => h.block k (Nat.lt_of_lt_of_le hk hB)⟩
theorem Bls.step (h : Bls L B a b) (hB : B ≤ b.heap.size) (k : Bls L b.heap.size b c) : Bls L B a c := h.trans (k.mono hB)
theorem Bls.set {s : Nat} (h : Bls L B a w) (hs : s ∈ L) (o : Nat) (u : Value) : Bls L B a (w.setCell ⟨s, o, none⟩ u) :=
  h.trans (Bls.ofBel ((Bel.refl B s w).set o u) hs)
theorem Bls.sub {L' : List Nat} (h : Bls L B w w') (hL : ∀ k, k ∈ L → k ∈ L') : Bls L' B w w' := ⟨h.os, h.tape, h.output, h.size, fun k hk hn => h.block k hk (fun e => hn (hL k e))⟩
theorem Bls.below (h : Bls L B w w') (hL : ∀ k, k ∈ L → B ≤ k) : Below B w w' := ⟨h.os, h.tape, h.output, h.size, fun k hk => h.block k hk (fun e => absurd (hL k e) (by omega))⟩
theorem Box.bls {n : Nat} {cs : List Value} (h : Box w n cs) (hb : Bls L B w w') (hB : n < B) (hn : n ∉ L) : Box w' n cs := by
  obtain ⟨T, hT⟩ := h
  exact ⟨T, by rw [hb.block n hB hn]; exact hT⟩
theorem Flb.bls {n : Nat} {l : List Nat} (h : Flb w n l) (hb : Bls L B w w') (hB : n < B) (hn : n ∉ L) : Flb w' n l := by
  obtain ⟨cs, h1, hc⟩ := h
  exact ⟨cs, h1.bls hb hB hn, hc⟩
end

/-- A matrix's floats, in block zb; or it has no rows. -/
def Zf (W : World) (rows cols : Nat) (za : Option Addr) (zc zb : Nat) (z : List Nat) : Prop := z.length = rows * cols ∧ (rows = 0 ∨ za = some ⟨zb, 0, none⟩ ∧ Flb W zb z ∧ z.length ≤ zc ∧ zc ≤ maxLen)
section
variable {W W' : World} {rows cols zc zb : Nat} {za : Option Addr} {z : List Nat}
theorem Zf.below (h : Zf W rows cols za zc zb z) (hb : Below W.heap.size W W') : Zf W' rows cols za zc zb z :=
  ⟨h.1, h.2.imp id (fun ⟨h1, h2, h3, h4⟩ => ⟨h1, h2.below hb, h3, h4⟩)⟩
theorem Zf.other (h : Zf W rows cols za zc zb z) {s : Nat} (hs : zb ≠ s) (o : Nat) (u : Value) : Zf (W.setCell ⟨s, o, none⟩ u) rows cols za zc zb z :=
  ⟨h.1, h.2.imp id (fun ⟨h1, h2, h3, h4⟩ => ⟨h1, h2.other hs o u, h3, h4⟩)⟩
theorem turnL_zero (z : List Nat) (n i c s : Nat) : turnL z n i c s 0 = z := rfl
end
end Go.Proofs.Ytdljnhdhigbefaa

/- Layer 12: a sweep. No condition but on lengths and places. -/
namespace Go.Proofs.Ytdljnhdhigbefaa
open Go Go.RowKit
set_option maxRecDepth 1000000

theorem SignX (x s y t u : Nat) (hx : x < 18446744073709551616) (hy : y < 18446744073709551616) (hu : fabs (raw x s) + raw y t / 9223372036854775808 * 9223372036854775808 = raw (sgnW x y) u) (w : World) : Calls Try.prog 92 #[.float .f64 (raw x s), .float .f64 (raw y t)] w fun e w' => e = .returned (.float .f64 (raw (sgnW x y) u)) ∧ w = w' := by
  have HC := Lib.hid (CopysignW _ _ (raw_lt hx s) (raw_lt hy t) w)
  rw [hu] at HC
  generalize raw x s = a at *
  generalize raw y t = b at *
  generalize raw (sgnW x y) u = c at *
  clear hu
  go_enter Try.func92, Try.ntmps92
  go_wp2_with fail
  refine HC.out.mono ?_
  rintro e w' ⟨rfl, rfl⟩
  go_wp2
  go_ret
  exact ⟨rfl, rfl⟩
theorem Hyp1 (x s : Nat) (hx : x < 18446744073709551616) (w : World) : Calls Try.prog 90 #[.float .f64 (raw x s), .float .f64 4607182418800017408] w fun e w' => FR e (hypW x 4607182418800017408) ∧ Below w.heap.size w w' := by
  have := HypotF x s 4607182418800017408 0 hx (by decide) w
  rw [raw_of_not (show isnan 4607182418800017408 = false by kernel_rfl)] at this
  exact this
theorem hyp_nan {g : Nat} (h : isnan g = true) : isnan (hypW g 4607182418800017408) = true := by
  have h1 : isnan (fabs g) = true := by rw [isnan_fabs]; exact h
  unfold hypW
  rw [flt_nan (.inl h1), if_neg (by decide)]
  unfold hypP
  rw [feq_nan (.inl h1), if_neg (by decide)]
  have e : fmul (fabs g) (fsqrt (fadd 4607182418800017408 (fmul (fdiv (fabs 4607182418800017408) (fabs g)) (fdiv (fabs 4607182418800017408) (fabs g))))) = qnan := by
    generalize fsqrt _ = y
    with_unfolding_all (show (Ieee.double.mul (fabs g) y).getD qnan = qnan)
    unfold Ieee.Format.mul
    rw [product_nan_left _ (by rw [read_nan]; exact h1)]
    rfl
  rw [e, isnan_qnan]

end Go.Proofs.Ytdljnhdhigbefaa

/- Layer 12: what may be, what is finite; a slice of floats cloned. No condition but on lengths. -/
namespace Go.Proofs.Ytdljnhdhigbefaa
open Go Go.RowKit
set_option maxRecDepth 100000

/-- May it be a tridiagonal? -/
def mayT (n m : Nat) : Bool := decide (n ≤ 512) && decide (m = n - 1)
/-- May it be a matrix? -/
def szB (r c : Int) : Bool := decide (0 ≤ r) && decide (r ≤ 512) && decide (0 ≤ c) && decide (c ≤ 512)
def mayB (r c : Int) (n : Nat) : Bool := szB r c && decide ((n : Int) = r * c)
theorem mayB_nat {r c : Int} {n : Nat} (h : mayB r c n = true) : ∃ a b : Nat, r = a ∧ c = b ∧ a ≤ 512 ∧ b ≤ 512 ∧ n = a * b := by
  unfold mayB szB at h
  simp only [Bool.and_eq_true, decide_eq_true_eq] at h
  obtain ⟨⟨⟨⟨h1, h2⟩, h3⟩, h4⟩, h5⟩ := h
  obtain ⟨a, rfl⟩ := Int.eq_ofNat_of_zero_le h1
  obtain ⟨b, rfl⟩ := Int.eq_ofNat_of_zero_le h3
  refine ⟨a, b, rfl, rfl, by omega, by omega, ?_⟩
  rw [← Int.natCast_mul] at h5
  omega
theorem mayB_of {a b n : Nat} (ha : a ≤ 512) (hb : b ≤ 512) (hn : n = a * b) : mayB (a : Int) (b : Int) n = true := by
  unfold mayB szB
  simp only [Bool.and_eq_true, decide_eq_true_eq]
  exact ⟨⟨⟨⟨by omega, by omega⟩, by omega⟩, by omega⟩, by rw [hn, Int.natCast_mul]⟩
theorem any_ffin (zs : List Nat) : (!zs.any fun x => !ffin x) = zs.all ffin := by
  induction zs with
  | nil => rfl
  | cons x l ih => rw [List.any_cons, List.all_cons, Bool.not_or, Bool.not_not, ih]
/-- v is a slice of the call's own that holds the floats l, up to a NaN's bits. -/
def OwnF (W : World) (B : Nat) (v : Value) (l : List Nat) : Prop := ∃ ws : List Nat, ws.length = l.length ∧ (∀ (i u : Nat), l[i]? = some u → ∃ s, ws[i]? = some (raw u s)) ∧ W.ownsRow B 40 1 v l.length (ws.map (Value.float .f64))
/-- The floats of a slice, in block b; or there are none. -/
def FS (W : World) (a : Option Addr) (b : Nat) (l : List Nat) : Prop := l = [] ∨ (a = some ⟨b, 0, none⟩ ∧ Flb W b l)
section
variable {W W' : World} {B b : Nat} {a : Option Addr} {v : Value} {l : List Nat}
theorem OwnF.fs (h : OwnF W B v l) : ∃ a b cap, v = .slice a l.length cap ∧ l.length ≤ cap ∧ cap ≤ maxLen ∧ B ≤ b ∧ FS W a b l ∧ (l ≠ [] → b < W.heap.size) := by
  obtain ⟨ws, h1, h2, h3, h4⟩ := h
  rcases h4 with ⟨rfl, h0⟩ | ⟨g, cap, cur, rfl, hb, hg, hn, hm, hs, ht⟩
  · exact ⟨none, B, 0, by rw [h0], by omega, by unfold maxLen; omega, Nat.le_refl _, .inl (List.eq_nil_of_length_eq_zero h0), fun hz => absurd (List.eq_nil_of_length_eq_zero h0) hz⟩
  · refine ⟨_, g, cap, rfl, hn, hm, hb, .inr ⟨rfl, cur.toList, ⟨40, by rw [Array.toArray_toList]; exact hg⟩, fun i u hi => ?_⟩, fun _ => (Array.getElem?_eq_some_iff.1 hg).1⟩
    obtain ⟨s, hs'⟩ := h2 i u hi
    have hil := (List.getElem?_eq_some_iff.1 hi).1
    refine ⟨s, ?_⟩
    have h5 : (cur.toList.take (l.length * 1))[i]? = some (.float .f64 (raw u s)) := by rw [ht, List.getElem?_map, hs']; rfl
    rw [List.getElem?_take_of_lt (by omega)] at h5
    exact h5
theorem OwnF.below (h : OwnF W B v l) (hb : Below W.heap.size W W') : OwnF W' B v l := by
  obtain ⟨ws, h1, h2, h3⟩ := h
  exact ⟨ws, h1, h2, h3.kept (grown_of_below hb) (by rcases h3.2 with ⟨rfl, _⟩ | ⟨g, cap, cur, rfl, _⟩; exact .inl rfl; exact .inr (by simp [Value.ownBlock]))⟩
theorem OwnF.nil (W : World) (B : Nat) : OwnF W B (.slice none 0 0) [] := ⟨[], rfl, fun i u hi => by simp at hi, World.ownsRow_nil _ _ _ _⟩
theorem OwnF.fls (h : OwnF W B v l) : ∃ a cap, v = .slice a l.length cap ∧ Fls W a l := by
  obtain ⟨a, b, cap, hv, _, _, _, h0 | ⟨rfl, hF⟩, _⟩ := h.fs
  · subst h0; exact ⟨a, cap, hv, fun hz => absurd rfl hz⟩
  · exact ⟨_, cap, hv, hF.fls⟩
theorem FS.fls (h : FS W a b l) : Fls W a l := by
  rcases h with h0 | ⟨rfl, hF⟩
  · subst h0; exact fun hz => absurd rfl hz
  · exact hF.fls
theorem FS.flb (h : FS W a b l) (h0 : 0 < l.length) : a = some ⟨b, 0, none⟩ ∧ Flb W b l := by
  rcases h with rfl | h
  · exact absurd h0 (by simp)
  · exact h
theorem FS.below (h : FS W a b l) (hb : Below W.heap.size W W') : FS W' a b l := h.imp id (fun ⟨h1, h2⟩ => ⟨h1, h2.below hb⟩)
end
theorem run_append_ownF (w : World) (ty : TypeId) (B : Nat) (sv : Value) (l1 : List Nat) (hs : OwnF w B sv l1) (ad : Addr) (l2 : List Nat) (cap : Nat) (hZ : Fls w (some ad) l2) (hl : l1.length + l2.length ≤ 262144) (hB : B ≤ w.heap.size) :
    ∃ v' w', (Builtin.append_ #[22, 22] ty #[sv, .slice (some ad) l2.length cap]).run Try.prog w = .ok v' w' ∧ OwnF w' B v' (l1 ++ l2) ∧ Below B w w' := by
  obtain ⟨i0, hi, hz0, hz1, hz2⟩ := info_parts info_f64
  obtain ⟨ws, hwl, hws, hC⟩ := hZ.words
  obtain ⟨us, hul, hus, hO⟩ := hs
  obtain ⟨v', w', hr, h2, h3, _⟩ := run_append_own (P := Try.prog) w B 22 ty 40 i0 (.float .f64 0) 1 8 Try.underlying22 hi hz0 hz1 hz2 rfl (by decide) sv l1.length (us.map (Value.float .f64)) hO ad l2.length cap (ws.map (Value.float .f64)) (by rw [List.length_map, hwl, Nat.mul_one])
    (fun j u hu => by
      simp only [List.getElem?_map, Option.map_eq_some_iff] at hu
      obtain ⟨x, hx, rfl⟩ := hu
      have hw0 : ws ≠ [] := fun h => by rw [h] at hx; simp at hx
      obtain ⟨b, off, e, _, hc⟩ := hC hw0
      obtain rfl : ad = ⟨b, off, none⟩ := by simpa using e
      have h2 : (⟨b, off, none⟩ : Addr).add j = ⟨b, off + j, none⟩ := by unfold Addr.add; split <;> simp_all
      rw [h2]
      exact hc j x hx)
    (by simp [Value.oneCell']) (by unfold maxLen; omega) (by omega) hB
  refine ⟨v', w', hr, ⟨us ++ ws, by rw [List.length_append, List.length_append, hul, hwl], fun i u hi => ?_, by rw [List.length_append, List.map_append]; exact h2⟩,
    ⟨h3.os, h3.tape, h3.output, h3.size, fun k hk => h3.block k (Nat.lt_of_lt_of_le hk hB) (fun e => by have := (hO.lt k e.symm).1; omega)⟩⟩
  by_cases hlt : i < l1.length
  · rw [List.getElem?_append_left hlt] at hi
    obtain ⟨s, hs⟩ := hus i u hi
    exact ⟨s, by rw [List.getElem?_append_left (by omega)]; exact hs⟩
  · rw [List.getElem?_append_right (by omega)] at hi
    obtain ⟨s, hs⟩ := hws _ u hi
    exact ⟨s, by rw [List.getElem?_append_right (by omega), hul]; exact hs⟩
theorem run_append_anyF (w : World) (ty : TypeId) (B : Nat) (sv : Value) (l1 : List Nat) (hs : OwnF w B sv l1) (xa : Option Addr) (l2 : List Nat) (cap : Nat) (hZ : Fls w xa l2) (hn : xa = none → l2 = [] ∧ cap = 0) (hl : l1.length + l2.length ≤ 262144) (hB : B ≤ w.heap.size) :
    ∃ v' w', (Builtin.append_ #[22, 22] ty #[sv, .slice xa l2.length cap]).run Try.prog w = .ok v' w' ∧ OwnF w' B v' (l1 ++ l2) ∧ Below B w w' := by
  cases xa with
  | some ad => exact run_append_ownF w ty B sv l1 hs ad l2 cap hZ hl hB
  | none =>
    obtain ⟨rfl, rfl⟩ := hn rfl
    obtain ⟨i0, hi, hz0, hz1, hz2⟩ := info_parts info_f64
    refine ⟨sv, w, ?_, by rw [List.append_nil]; exact hs, Below.refl _ _⟩
    obtain ⟨us, hul, hus, hO⟩ := hs
    exact run_append_owned_none (P := Try.prog) (w := w) B 22 ty 40 i0 1 Try.underlying22 hi sv _ _ hO
theorem wp_append_ownF {w : World} {o : Oper} {a : Act} {K : Act → World → Prop} {Q : Exit → Act → World → Prop} (s x : Operand)
    (ho : o.op = .call { callee := .builtin .append, args := #[s, x], argTypes := #[22, 22] })
    (B : Nat) (sv : Value) (l1 : List Nat) (hs : a.eval s = sv) (hO : OwnF w B sv l1) (ad : Addr) (l2 : List Nat) (cap : Nat) (hx : a.eval x = .slice (some ad) l2.length cap) (hZ : Fls w (some ad) l2) (hl : l1.length + l2.length ≤ 262144) (hB : B ≤ w.heap.size)
    (h : ∀ v' w', OwnF w' B v' (l1 ++ l2) → Below B w w' → K (a.put o.dst v') w') : Oper.wp Try.prog o a w K Q := by
  obtain ⟨v', w', hr, h1, h2⟩ := run_append_ownF w o.type B sv l1 hO ad l2 cap hZ hl hB
  unfold Oper.wp execOp
  simp only [ho, resolve, invoke, builtin, Sem.run_bind, Sem.run_pure, Result.andThen_ok, List.map_toArray, List.map_cons, List.map_nil, hs, hx, hr]
  exact h _ _ h1 h2
theorem wpList_append_ownF {w : World} {ops : Array Oper} {rest : List Oper} {o : Oper} {a : Act} {Q : Exit → Act → World → Prop} (hgd : o.guard = none) (s x : Operand)
    (ho : o.op = .call { callee := .builtin .append, args := #[s, x], argTypes := #[22, 22] })
    (B : Nat) (sv : Value) (l1 : List Nat) (hs : a.eval s = sv) (hO : OwnF w B sv l1) (ad : Addr) (l2 : List Nat) (cap : Nat) (hx : a.eval x = .slice (some ad) l2.length cap) (hZ : Fls w (some ad) l2) (hl : l1.length + l2.length ≤ 262144) (hB : B ≤ w.heap.size)
    (h : ∀ v' w', OwnF w' B v' (l1 ++ l2) → Below B w w' → wpList Try.prog ops Q rest (a.put o.dst v') w') : wpList Try.prog ops Q (o :: rest) a w :=
  wpList_plain hgd fun _ hK => wp_append_ownF s x ho B sv l1 hs hO ad l2 cap hx hZ hl hB fun v' w' h1 h2 => hK _ _ (h v' w' h1 h2)
theorem wp_append_anyF {w : World} {o : Oper} {a : Act} {K : Act → World → Prop} {Q : Exit → Act → World → Prop} (s x : Operand)
    (ho : o.op = .call { callee := .builtin .append, args := #[s, x], argTypes := #[22, 22] })
    (B : Nat) (sv : Value) (l1 : List Nat) (hs : a.eval s = sv) (hO : OwnF w B sv l1) (xa : Option Addr) (l2 : List Nat) (cap : Nat) (hx : a.eval x = .slice xa l2.length cap) (hZ : Fls w xa l2) (hn : xa = none → l2 = [] ∧ cap = 0) (hl : l1.length + l2.length ≤ 262144) (hB : B ≤ w.heap.size)
    (h : ∀ v' w', OwnF w' B v' (l1 ++ l2) → Below B w w' → K (a.put o.dst v') w') : Oper.wp Try.prog o a w K Q := by
  obtain ⟨v', w', hr, h1, h2⟩ := run_append_anyF w o.type B sv l1 hO xa l2 cap hZ hn hl hB
  unfold Oper.wp execOp
  simp only [ho, resolve, invoke, builtin, Sem.run_bind, Sem.run_pure, Result.andThen_ok, List.map_toArray, List.map_cons, List.map_nil, hs, hx, hr]
  exact h _ _ h1 h2
theorem wpList_append_anyF {w : World} {ops : Array Oper} {rest : List Oper} {o : Oper} {a : Act} {Q : Exit → Act → World → Prop} (hgd : o.guard = none) (s x : Operand)
    (ho : o.op = .call { callee := .builtin .append, args := #[s, x], argTypes := #[22, 22] })
    (B : Nat) (sv : Value) (l1 : List Nat) (hs : a.eval s = sv) (hO : OwnF w B sv l1) (xa : Option Addr) (l2 : List Nat) (cap : Nat) (hx : a.eval x = .slice xa l2.length cap) (hZ : Fls w xa l2) (hn : xa = none → l2 = [] ∧ cap = 0) (hl : l1.length + l2.length ≤ 262144) (hB : B ≤ w.heap.size)
    (h : ∀ v' w', OwnF w' B v' (l1 ++ l2) → Below B w w' → wpList Try.prog ops Q rest (a.put o.dst v') w') : wpList Try.prog ops Q (o :: rest) a w :=
  wpList_plain hgd fun _ hK => wp_append_anyF s x ho B sv l1 hs hO xa l2 cap hx hZ hn hl hB fun v' w' h1 h2 => hK _ _ (h v' w' h1 h2)
/-- A slice made of no part. -/
theorem OwnF.made (w : World) : OwnF (w.alloc (.cells #[] 40)) w.heap.size (.slice (some ⟨w.heap.size, 0, none⟩) 0 0) [] :=
  ⟨[], rfl, fun i u hi => by simp at hi, World.ownsRow_made w #[] 0 (Nat.le_refl _) (Nat.zero_le _) rfl⟩
theorem Fls.alloc {w : World} {a : Option Addr} {l : List Nat} (h : Fls w a l) (o : Obj) : Fls (w.alloc o) a l := h.below ((Below.refl _ _).alloc (Nat.le_refl _) o)
set_option maxHeartbeats 2000000 in
theorem Clone_any (w : World) (a : Option Addr) (l : List Nat) (cap : Nat) (hZ : Fls w a l) (hl : l.length ≤ 262144) (hn : a = none → l = []) :
    Calls Try.prog 54 #[.slice a l.length cap] w fun e w' => (∃ v, e = .returned v ∧ OwnF w' w.heap.size v l) ∧ Below w.heap.size w w' := by
  have qT : ∀ (w : World) (a : Option Addr) (n c : Nat), (binOp .eql 22 (.slice a n c) (.slice none 0 0)).run Try.prog w = .ok (.bool a.isNone) w := fun w a n c => Lib.run_eql_slice_nil w _ _ a n c 0 0 Try.underlying22
  cases a with
  | none =>
    obtain rfl := hn rfl
    clear hn
    go_enter Try.func54, Try.ntmps54
    go_wp2
    go_ret
    exact ⟨⟨_, rfl, OwnF.nil _ _⟩, Below.refl _ _⟩
  | some p =>
    clear hn
    have HM := Lib.hid (OwnF.made w)
    have HZ := Lib.hid (hZ.alloc (.cells #[] 40))
    have hb0 : Below w.heap.size w (w.alloc (.cells #[] 40)) := (Below.refl _ _).alloc (Nat.le_refl _) _
    have hs0 := hb0.size
    clear hZ
    go_enter Try.func54, Try.ntmps54
    go_wp2_with (at_builtin; refine wpList_append_ownF rfl _ _ rfl w.heap.size _ [] rfl HM.out p l cap rfl HZ.out (by simpa using hl) hs0 ?_; rintro v' w' hO hB)
    go_ret
    exact ⟨⟨_, rfl, hO⟩, hb0.trans hB⟩
end Go.Proofs.Ytdljnhdhigbefaa
