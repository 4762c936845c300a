/- Layer 14: the size of a tridiagonal whose floats are finite (printed by gen_ij.py). No condition but on lengths. -/
import Derived.Test.YtdljnhdhigbefaaZz17
import Derived.Test.YtdljnhdhigbefaaChecked
import Derived.Test.YtdljnhdhigbefaaZz2
import Derived.Test.YtdljnhdhigbefaaZz4
import Derived.Test.YtdljnhdhigbefaaZz13
import Derived.Test.YtdljnhdhigbefaaZz3
import Derived.OwnWalkIn
namespace Go.Proofs.Ytdljnhdhigbefaa
open Go Go.RowKit
set_option maxRecDepth 1000000
set_option linter.unusedSimpArgs false
set_option linter.unusedVariables false

theorem order_num {x y : Ieee.Datum} (hx : x.isNaN = false) (hy : y.isNaN = false) : x.order y ≠ none := by
  cases x <;> cases y <;> simp_all [Ieee.Datum.isNaN, Ieee.Datum.order]
theorem run_max_num {P : Program} {x y : Nat} (hx : isnan x = false) (hy : isnan y = false) (hl : x < 9223372036854775808) (w : World) (ts : Array TypeId) (t : TypeId) :
    (Builtin.max_ ts t #[.float .f64 x, .float .f64 y]).run P w = .ok (.float .f64 (mxW x y)) w := by
  have hn : Ieee.double.order x y ≠ none := order_num (by rw [read_nan]; exact hx) (by rw [read_nan]; exact hy)
  have e : Builtin.max2 (.float .f64 x) (.float .f64 y) = (match Ieee.double.order x y with
    | none => do pure (.float .f64 (← choose (.nanMinMax .f64 true x y)))
    | some .lt => pure (.float .f64 y)
    | some .gt => pure (.float .f64 x)
    | some .eq => pure (.float .f64 (if (Ieee.double.read x).neg then y else x))) := rfl
  have hs : (Ieee.double.read x).neg = false := by rw [read_neg]; exact (fsgn_lt (by omega)).2 hl
  have hm : mxW x y = if FloatKind.f64.format.order x y == some .lt then y else x := by rw [cmp_lss]; rfl
  change mxW x y = if Ieee.double.order x y == some .lt then y else x at hm
  simp only [Builtin.max_, List.foldlM]
  rw [e, hm]
  cases h : Ieee.double.order x y with
  | none => exact absurd h hn
  | some o => cases o <;> simp [hs]
theorem mxW_num {x y : Nat} (hx : isnan x = false) (hy : isnan y = false) (hl : x < 9223372036854775808) (hk : y < 9223372036854775808) : isnan (mxW x y) = false ∧ mxW x y < 9223372036854775808 := by
  unfold mxW
  split
  · exact ⟨hy, hk⟩
  · exact ⟨hx, hl⟩
theorem szL_num {l : List Nat} (h : ∀ i, isnan (l.getD i 0) = false) : ∀ i, isnan (szL l i) = false ∧ szL l i < 9223372036854775808
  | 0 => ⟨by kernel_rfl, by show 0 < _; decide⟩
  | i + 1 => mxW_num (szL_num h i).1 (by rw [isnan_fabs]; exact h i) (szL_num h i).2 (fabs_lt _)
theorem fin_numI {l : List Nat} (h : l.all ffin = true) (i : Nat) : isnan (l.getD i 0) = false := by
  by_cases hi : i < l.length
  · have h1 := List.all_eq_true.1 h (l.getD i 0) (by rw [List.getD_eq_getElem?_getD, List.getElem?_eq_getElem hi]; exact List.getElem_mem hi)
    unfold ffin at h1
    unfold isnan
    rw [decide_eq_true_eq] at h1
    rw [decide_eq_false_iff_not]
    omega
  · rw [List.getD_eq_getElem?_getD, List.getElem?_eq_none (by omega)]
    kernel_rfl

set_option maxHeartbeats 8000000 in
theorem isize_any (w : World) (da ea : Option Addr) (ds es : List Nat) (dc ec : Nat) (hD : Fls w da ds) (hE : Fls w ea es) (hda : da = none → ds = [] ∧ dc = 0) (hea : ea = none → es = [] ∧ ec = 0) (hl : ds.length ≤ 1000) (hm : es.length ≤ 1000) (hW : Words (ds ++ es)) (hf : (ds ++ es).all ffin = true) :
    Calls Try.prog 70 #[.agg #[.slice da ds.length dc, .slice ea es.length ec]] w fun e w' => e = .returned (.float .f64 (sizI ds es)) ∧ Below w.heap.size w w' := by
  have x0 : Box (w.alloc (.cells #[.slice da ds.length dc, .slice ea es.length ec] 54)) w.heap.size [.slice da ds.length dc, .slice ea es.length ec] := Box.newA w [.slice da ds.length dc, .slice ea es.length ec] _ rfl
  have hB0 : Below w.heap.size w ((w.alloc (.cells #[.slice da ds.length dc, .slice ea es.length ec] 54)).alloc (.cells #[.slice da ds.length dc, .slice ea es.length ec] 22)) := ((Below.refl _ _).alloc (Nat.le_refl _) _).alloc (by simp) _
  have x1 : Box ((w.alloc (.cells #[.slice da ds.length dc, .slice ea es.length ec] 54)).alloc (.cells #[.slice da ds.length dc, .slice ea es.length ec] 22)) (w.heap.size + 1) [.slice da ds.length dc, .slice ea es.length ec] := Box.newA _ [.slice da ds.length dc, .slice ea es.length ec] _ (by simp)
  have HC := Lib.hid (Concat_any _ (w.heap.size + 1) da ea ds es dc ec x1 (hD.below hB0) (hE.below hB0) hda hea hl hm)
  have HB := Lib.hid hB0
  have HW := Lib.hid (And.intro hW (szL_num (fin_numI hf)))
  have HF := Lib.hid (fin_numI hf)
  have HL := Lib.hid (show (ds ++ es).length ≤ 2000 by rw [List.length_append]; omega)
  clear hD hE hda hea hW hf x1 hB0 hl hm
  obtain ⟨f1, f2, f3⟩ := x0.facts
  obtain ⟨l, hlq⟩ : ∃ l, l = ds ++ es := ⟨_, rfl⟩
  rw [← hlq] at HC HW HF HL
  have hz : sizI ds es = szL l l.length := by rw [hlq]; rfl
  rw [hz]
  clear hz hlq
  go_enter Try.func70, Try.ntmps70
  go_wp2_with fail
  refine HC.out.mono ?_
  rintro e w1 ⟨⟨v, rfl, hO⟩, hb⟩
  obtain ⟨a, cap, rfl, hZ⟩ := hO.fls
  replace HB := Lib.hid (below_step HB.out HB.out.size hb)
  have HZ := Lib.hid hZ
  clear hO hb hZ f1 f2 f3 HC x0
  dsimp only
  go_wp2_with fail
  go_loopw [3, 13] (fun s3 s13 wr => ∃ i : Nat, s3 = .float .f64 (szL l i) ∧ s13 = .int .i64 i ∧ i ≤ l.length ∧ Below w1.heap.size w1 wr) (fun _ s13 _ => l.length - (intOf s13).toNat)
  case atStart => exact ⟨0, rfl, rfl, Nat.zero_le _, Below.refl _ _⟩
  case round =>
    obtain ⟨i, rfl, rfl, hi, hB⟩ := hrel
    by_cases hlt : i < l.length
    case pos =>
      obtain ⟨b, o, s, rfl, hb, hc⟩ := FlsI.at (HZ.out.below hB) hlt
      rw [raw_of_not (HF.out i)] at hc
      have HA := Lib.hid (fun W => Abs_any (l.getD i 0) (HW.out.1.at i) W)
      have hmx := fun W ts t => run_max_num (P := Try.prog) (HW.out.2 i).1 (show isnan (fabs (l.getD i 0)) = false by rw [isnan_fabs]; exact HF.out i) (HW.out.2 i).2 W ts t
      have HN := Lib.hid (show szL l (i + 1) = mxW (szL l i) (fabs (l.getD i 0)) from rfl)
      have HBB := Lib.hid hB
      clear hB hb hi
      have hi9 : i < 2000 := by have := HL.out; omega
      obtain ⟨x, hx⟩ : ∃ x, x = l.getD i 0 := ⟨_, rfl⟩
      rw [← hx] at hc HA hmx HN
      obtain ⟨s, hs⟩ : ∃ s, s = szL l i := ⟨_, rfl⟩
      rw [← hs] at hmx HN ⊢
      clear hx hs
      go_wp2_with fail
      refine (HA.out _).mono ?_
      rintro e w' ⟨rfl, rfl⟩
      go_wp2_with fail
      go_roundw
      case rel => exact ⟨i + 1, by rw [HN.out], by go_num, hlt, HBB.out⟩
      case measure => simp [intOf]; omega
    case neg =>
      have hil : i = l.length := by omega
      subst hil
      have HBB := Lib.hid (HB.out.trans (hB.mono HB.out.size))
      clear hB hi
      go_wp2_with fail
      go_ret
      exact ⟨rfl, HBB.out⟩
end Go.Proofs.Ytdljnhdhigbefaa

/- Package sturm: places of floats, floats of places; what is asked first. -/
namespace Go.Proofs.Ytdljnhdhigbefaa
open Go Go.RowKit
set_option maxRecDepth 100000

/-- A float's place. -/
def plN (x : Nat) : Int := if isnan x then 0 else fkey x
/-- A place's float. -/
def atN (p : Int) : Nat := if 9218868437227405312 < p then 9221120237041090561 else if p < -9218868437227405312 then 9221120237041090561 else if p < 0 then (-p).toNat + 9223372036854775808 else p.toNat

theorem bits_hi {x : Nat} (hx : x < 18446744073709551616) : fkey x = if x < 9223372036854775808 then (x : Int) else -((x - 9223372036854775808 : Nat) : Int) := by
  unfold fkey
  by_cases h : x < 9223372036854775808
  · rw [if_pos h, if_neg (by omega), Nat.mod_eq_of_lt h]
  · have e : x % 9223372036854775808 = x - 9223372036854775808 := by omega
    rw [if_neg h, if_pos (by omega), e]
theorem fabs_hi {x : Nat} (hx : x < 18446744073709551616) (h : ¬x < 9223372036854775808) : fabs x = x - 9223372036854775808 := by unfold fabs; omega
theorem pl_num {x : Nat} (hx : x < 18446744073709551616) (h : isnan x = false) : plN x = if x < 9223372036854775808 then (x : Int) else -((x - 9223372036854775808 : Nat) : Int) := by unfold plN; rw [h]; exact bits_hi hx

set_option maxHeartbeats 1000000 in
theorem Place_any (x : Nat) (hx : x < 18446744073709551616) (w : World) : Calls Try.prog 111 #[.float .f64 x] w fun e w' => e = .returned (.int .i64 (plN x)) ∧ w = w' := by
  cases hn : isnan x
  · have h1 : feq x x = true := by rw [feq_self, hn]; rfl
    rw [pl_num hx hn]
    clear hn
    by_cases h : x < 9223372036854775808
    · rw [if_pos h]
      have h2 : ((x : Int) / 9223372036854775808 == 1) = false := by rw [beq_eq_false_iff_ne]; omega
      go_enter Try.func111, Try.ntmps111
      go_wp2
      go_ret
      exact ⟨rfl, rfl⟩
    · rw [if_neg h]
      have he := bits_clear hx
      have hf := fabs_hi hx h
      have h2 : ((x : Int) / 9223372036854775808 == 1) = true := by rw [beq_iff_eq]; omega
      go_enter Try.func111, Try.ntmps111
      go_wp2
      have e1 : wrap64 (-wrap64 ((x - 9223372036854775808 : Nat) : Int)) = -((x - 9223372036854775808 : Nat) : Int) := by unfold wrap64; omega
      (try rw [hf])
      (try rw [e1])
      go_ret
      exact ⟨rfl, rfl⟩
  · have h1 : feq x x = false := by rw [feq_self, hn]; rfl
    have e0 : plN x = 0 := by unfold plN; rw [hn]; rfl
    rw [e0]
    clear e0 hn
    go_enter Try.func111, Try.ntmps111
    go_wp2
    go_ret
    exact ⟨rfl, rfl⟩

theorem NaN_any (w : World) : Calls Try.prog 124 #[] w fun e w' => e = .returned (.float .f64 9221120237041090561) ∧ w = w' := by
  go_enter Try.func124, Try.ntmps124
  go_wp2
  go_ret
  exact ⟨rfl, rfl⟩
theorem or_sign {n : Nat} (h : n < 9223372036854775808) : bits .or .u64 (n : Int) 9223372036854775808 = ((n + 9223372036854775808 : Nat) : Int) := by
  rw [show (9223372036854775808 : Int) = ((2 ^ 63 : Nat) : Int) from by decide, u64_or_nat n _ (by omega) (by decide)]
  congr 1
  rw [Nat.or_comm, show (2 ^ 63 : Nat) = 2 ^ 63 * 1 from rfl, ← Nat.two_pow_add_eq_or_of_lt (by simpa using h)]
  omega
theorem at_nan {p : Int} (h : 9218868437227405312 < p ∨ p < -9218868437227405312) : atN p = 9221120237041090561 := by
  unfold atN
  by_cases h1 : 9218868437227405312 < p
  · rw [if_pos h1]
  · rw [if_neg h1, if_pos (h.resolve_left h1)]
theorem at_pos {n : Nat} (h : n ≤ 9218868437227405312) : atN (n : Int) = n := by
  unfold atN
  rw [if_neg (by omega), if_neg (by omega), if_neg (by omega), Int.toNat_natCast]
theorem at_neg {n : Nat} (h : n ≤ 9218868437227405312) (h0 : 0 < n) : atN (-(n : Int)) = n + 9223372036854775808 := by
  unfold atN
  rw [if_neg (by omega), if_neg (by omega), if_pos (by omega), Int.neg_neg, Int.toNat_natCast]
theorem at_case (p : Int) : (9218868437227405312 < p ∨ p < -9218868437227405312) ∨ (∃ n : Nat, p = n ∧ n ≤ 9218868437227405312) ∨ ∃ n : Nat, p = -(n : Int) ∧ n ≤ 9218868437227405312 ∧ 0 < n := by
  by_cases h : 9218868437227405312 < p ∨ p < -9218868437227405312
  · exact .inl h
  · by_cases h1 : 0 ≤ p
    · exact .inr (.inl ⟨p.toNat, by omega, by omega⟩)
    · exact .inr (.inr ⟨(-p).toNat, by omega, by omega, by omega⟩)
set_option maxHeartbeats 4000000 in
theorem At13_hi (p : Int) (w : World) (h1 : decide (9218868437227405312 < p) = true) : Calls Try.prog 113 #[.int .i64 p] w fun e w' => e = .returned (.float .f64 9221120237041090561) ∧ w = w' := by
  go_enter Try.func113, Try.ntmps113
  go_wp2_with (go_at_call 124; refine (NaN_any _).mono ?_; rintro e w' ⟨rfl, rfl⟩)
  go_ret
  exact ⟨rfl, rfl⟩
set_option maxHeartbeats 4000000 in
theorem At13_lo (p : Int) (w : World) (h1 : decide (9218868437227405312 < p) = false) (h2 : decide (p < -9218868437227405312) = true) : Calls Try.prog 113 #[.int .i64 p] w fun e w' => e = .returned (.float .f64 9221120237041090561) ∧ w = w' := by
  go_enter Try.func113, Try.ntmps113
  go_wp2_with (go_at_call 124; refine (NaN_any _).mono ?_; rintro e w' ⟨rfl, rfl⟩)
  go_ret
  exact ⟨rfl, rfl⟩
set_option maxHeartbeats 4000000 in
theorem At13_pos (n : Nat) (w : World) (h : n ≤ 9218868437227405312) : Calls Try.prog 113 #[.int .i64 n] w fun e w' => e = .returned (.float .f64 n) ∧ w = w' := by
  have h1 : decide ((9218868437227405312 : Int) < (n : Int)) = false := by rw [decide_eq_false_iff_not]; omega
  have h2 : decide ((n : Int) < (-9218868437227405312 : Int)) = false := by rw [decide_eq_false_iff_not]; omega
  have h3 : decide ((n : Int) < (0 : Int)) = false := by rw [decide_eq_false_iff_not]; omega
  have h4 : n < 18446744073709551616 := by omega
  clear h
  go_enter Try.func113, Try.ntmps113
  go_wp2_with fail
  go_ret
  exact ⟨rfl, rfl⟩
set_option maxHeartbeats 4000000 in
theorem At13_neg (p : Int) (n : Nat) (w : World) (hp : -p = (n : Int)) (h : n ≤ 9218868437227405312) (h0 : 0 < n) : Calls Try.prog 113 #[.int .i64 p] w fun e w' => e = .returned (.float .f64 (n + 9223372036854775808)) ∧ w = w' := by
  have h1 : decide ((9218868437227405312 : Int) < p) = false := by rw [decide_eq_false_iff_not]; omega
  have h2 : decide (p < (-9218868437227405312 : Int)) = false := by rw [decide_eq_false_iff_not]; omega
  have h3 : decide (p < (0 : Int)) = true := by rw [decide_eq_true_iff]; omega
  have h4 : n < 9223372036854775808 := by omega
  have h5 := or_sign h4
  have h6 : wrap64 (n : Int) = (n : Int) := by unfold wrap64; omega
  clear h h0
  go_enter Try.func113, Try.ntmps113
  go_wp2_with fail
  go_ret
  exact ⟨rfl, rfl⟩
theorem At13_any (p : Int) (w : World) : Calls Try.prog 113 #[.int .i64 p] w fun e w' => e = .returned (.float .f64 (atN p)) ∧ w = w' := by
  rcases at_case p with h | ⟨n, rfl, h⟩ | ⟨n, rfl, h, h0⟩
  · rw [at_nan h]
    by_cases h1 : 9218868437227405312 < p
    · exact At13_hi p w (decide_eq_true h1)
    · exact At13_lo p w (decide_eq_false h1) (decide_eq_true (h.resolve_left h1))
  · rw [at_pos h]
    exact At13_pos n w h
  · rw [at_neg h h0]
    exact At13_neg _ n w (Int.neg_neg _) h h0
end Go.Proofs.Ytdljnhdhigbefaa

/- Package sturm: what is asked of a tridiagonal. -/
namespace Go.Proofs.Ytdljnhdhigbefaa
open Go Go.RowKit
set_option maxRecDepth 100000

/-- Is its difference to itself nought? -/
def fnS (x : Nat) : Bool := feq (fsub x x) 0
theorem fnS_raw (v s : Nat) : fnS (raw v s) = fnS v := by
  unfold fnS
  rw [← fsub_nm (raw v s) (raw v s), nm_raw, fsub_nm]

set_option maxHeartbeats 1000000 in
theorem fin1_any (v s : Nat) (w : World) : Calls Try.prog 122 #[.float .f64 (raw v s)] w fun e w' => e = .returned (.bool (!fnS v)) ∧ Below w.heap.size w w' := by
  go_enter Try.func122, Try.ntmps122
  go_wp2_with (first | (refine wpList_flt rfl rfl rfl rfl rfl ?_; intro K hK _ _; go_frame; refine hK _ _ ?_; clear hK K))
  go_ret
  exact ⟨rfl, below_drewN _ (Below.refl _ _)⟩

set_option maxHeartbeats 2000000 in
theorem IndexFuncB_any (f : FuncId) (p : Nat → Bool) (hp : ∀ (x s : Nat) (w : World), Calls Try.prog f #[.float .f64 (raw x s)] w fun e w' => e = .returned (.bool (p x)) ∧ Below w.heap.size w w') (hcf : ∀ x w, (callFunc f #[.float .f64 x]).run Try.prog w = .ok (.enter f #[.float .f64 x]) w)
    (w : World) (za : Option Addr) (zs : List Nat) (zc : Nat) (hZ : Fls w za zs) (hl : zs.length ≤ maxLen) :
    Calls Try.prog 115 #[.slice za zs.length zc, .func (.func f) #[] #[]] w fun e w' => (∃ r : Int, e = .returned (.int .i64 r) ∧ decide (0 ≤ r) = zs.any p) ∧ Below w.heap.size w w' := by
  have hl' := hl
  unfold maxLen at hl'
  have hln : zs.length ≤ 9223372036854775807 := by omega
  go_enter Try.func115, Try.ntmps115
  go_wp2_with fail
  go_loopw [8] (fun i wr => ∃ k : Nat, k ≤ zs.length ∧ i = .int .i64 k ∧ (∀ j, j < k → p (zs.getD j 0) = false) ∧ Below w.heap.size w wr) (fun i _ => zs.length - (intOf i).toNat)
  case atStart => exact ⟨0, Nat.zero_le _, rfl, fun _ h => absurd h (Nat.not_lt_zero _), Below.refl _ _⟩
  case round =>
    obtain ⟨k, hk, rfl, hno, hB⟩ := hrel
    have HNO := Lib.hid hno
    clear hno
    by_cases hlt : k < zs.length
    · obtain ⟨b, o, s1, rfl, hb, hc1⟩ := (hZ.below hB).at hlt
      go_wp2_with fail
      have e0 : zs.getD k 0 = zs[k] := by simp [hlt]
      have HP := hp zs[k] s1 wr
      refine HP.mono ?_
      rintro e w2 ⟨rfl, hb2⟩
      have hB2 := below_step hB hB.size hb2
      clear HP
      cases hpk : p zs[k]
      · go_wp2
        go_roundw
        case rel => exact ⟨k + 1, by omega, by go_num, fun j hj => (by
          by_cases hjk : j = k
          · subst hjk; rw [e0]; exact hpk
          · exact HNO.out j (by omega)), hB2⟩
        case measure => simp [intOf]; omega
      · go_wp2
        go_ret
        refine ⟨⟨k, rfl, ?_⟩, hB2⟩
        rw [decide_eq_true (by omega), eq_comm, List.any_eq_true]
        exact ⟨zs[k], List.getElem_mem hlt, hpk⟩
    · go_wp2
      go_ret
      refine ⟨⟨-1, rfl, ?_⟩, hB⟩
      rw [decide_eq_false (by omega), eq_comm, List.any_eq_false]
      intro x hx
      obtain ⟨j, hj, rfl⟩ := List.getElem_of_mem hx
      have := HNO.out j (by omega)
      simp [hj] at this
      simp [this]
set_option maxHeartbeats 1000000 in
theorem ContainsFuncB_any (f : FuncId) (p : Nat → Bool) (hp : ∀ (x s : Nat) (w : World), Calls Try.prog f #[.float .f64 (raw x s)] w fun e w' => e = .returned (.bool (p x)) ∧ Below w.heap.size w w') (hcf : ∀ x w, (callFunc f #[.float .f64 x]).run Try.prog w = .ok (.enter f #[.float .f64 x]) w)
    (w : World) (za : Option Addr) (zs : List Nat) (zc : Nat) (hZ : Fls w za zs) (hl : zs.length ≤ maxLen) :
    Calls Try.prog 87 #[.slice za zs.length zc, .func (.func f) #[] #[]] w fun e w' => e = .returned (.bool (zs.any p)) ∧ Below w.heap.size w w' := by
  have H := Lib.hid (IndexFuncB_any f p hp hcf w za zs zc hZ hl)
  clear hp hcf
  go_enter Try.func87, Try.ntmps87
  go_wp2_with fail
  refine H.out.mono ?_
  rintro e w2 ⟨⟨r, rfl, hr⟩, hb⟩
  have HR := Lib.hid hr
  clear hr
  go_wp2
  go_ret
  exact ⟨by rw [← HR.out]; rfl, hb⟩
theorem any_fnS (zs : List Nat) : (!zs.any fun x => !fnS x) = zs.all fnS := by
  induction zs with
  | nil => rfl
  | cons x l ih => rw [List.any_cons, List.all_cons, Bool.not_or, Bool.not_not, ih]
set_option maxHeartbeats 1000000 in
theorem fin_any (w : World) (za : Option Addr) (zs : List Nat) (zc : Nat) (hZ : Fls w za zs) (hl : zs.length ≤ maxLen) :
    Calls Try.prog 109 #[.slice za zs.length zc] w fun e w' => e = .returned (.bool (zs.all fnS)) ∧ Below w.heap.size w w' := by
  have H := Lib.hid (ContainsFuncB_any 122 (fun x => !fnS x) (fun x s w => fin1_any x s w) (fun x w => by kernel_rfl) w za zs zc hZ hl)
  rw [← any_fnS]
  go_enter Try.func109, Try.ntmps109
  go_wp2_with fail
  refine H.out.mono ?_
  rintro e w2 ⟨rfl, hb⟩
  go_wp2
  go_ret
  exact ⟨rfl, hb⟩
/-- May it be? -/
def mayS (n m : Nat) : Bool := decide (n ≤ 512) && decide (m = n - 1)
set_option maxHeartbeats 1000000 in
theorem May13_any (w : World) (da ea : Option Addr) (n m dc ec : Nat) (hn : n ≤ maxLen) (hm : m ≤ maxLen) :
    Calls Try.prog 102 #[.agg #[.slice da n dc, .slice ea m ec]] w fun e w' => e = .returned (.bool (mayS n m)) ∧ Below w.heap.size w w' := by
  unfold maxLen at hn hm
  unfold mayS
  have h1 : decide ((n : Int) ≤ 512) = decide (n ≤ 512) := by rw [Bool.eq_iff_iff]; simp; omega
  have h2 : ((m : Int) == max 0 ((n : Int) - 1)) = decide (m = n - 1) := by rw [Bool.eq_iff_iff]; simp; omega
  generalize decide (m = n - 1) = q at *
  generalize decide (n ≤ 512) = q' at *
  have hB0 : Below w.heap.size w (w.alloc (.cells #[.slice da n dc, .slice ea m ec] 54)) := (Below.refl _ _).alloc (Nat.le_refl _) _
  cases q' <;>
  · go_enter Try.func102, Try.ntmps102
    go_wp2
    all_goals
      go_ret
      refine ⟨?_, hB0⟩
      first
        | rfl
        | (rw [← h2, Int.max_eq_left (by omega)]; rfl)
        | (rw [← h2, Int.max_eq_right (by omega)]; rfl)

/-- The error of a tridiagonal, and of some floats more. -/
def askS (ds es ms : List Nat) : Int := if mayS ds.length es.length then (if ds.all fnS && es.all fnS && ms.all fnS then 0 else 10) else 2
set_option maxHeartbeats 2000000 in
theorem ask13_any (w : World) (da ea ma : Option Addr) (ds es ms : List Nat) (dc ec mc : Nat) (hD : Fls w da ds) (hE : Fls w ea es) (hM : Fls w ma ms) (hn : ds.length ≤ maxLen) (hm : es.length ≤ maxLen) (hk : ms.length ≤ maxLen) :
    Calls Try.prog 84 #[.agg #[.slice da ds.length dc, .slice ea es.length ec], .slice ma ms.length mc] w fun e w' => e = .returned (.int .i64 (askS ds es ms)) ∧ Below w.heap.size w w' := by
  have HM := Lib.hid (fun (W : World) => May13_any W da ea ds.length es.length dc ec hn hm)
  have H1 := Lib.hid (fun (W : World) (hW : Below w.heap.size w W) => fin_any W da ds dc (hD.below hW) hn)
  have H2 := Lib.hid (fun (W : World) (hW : Below w.heap.size w W) => fin_any W ea es ec (hE.below hW) hm)
  have H3 := Lib.hid (fun (W : World) (hW : Below w.heap.size w W) => fin_any W ma ms mc (hM.below hW) hk)
  unfold askS
  generalize mayS ds.length es.length = q0 at *
  generalize ds.all fnS = q1 at *
  generalize es.all fnS = q2 at *
  generalize ms.all fnS = q3 at *
  clear hD hE hM hn hm hk
  have x0 : Box (w.alloc (.cells #[.slice da ds.length dc, .slice ea es.length ec] 54)) w.heap.size [.slice da ds.length dc, .slice ea es.length ec] := Box.newA w [_, _] _ rfl
  have hB0 : Below w.heap.size w (w.alloc (.cells #[.slice da ds.length dc, .slice ea es.length ec] 54)) := (Below.refl _ _).alloc (Nat.le_refl _) _
  go_enter Try.func84, Try.ntmps84
  go_wp2_with fail
  refine (HM.out _).mono ?_
  rintro e w1 ⟨rfl, hb1⟩
  have x1 := x0.below hb1
  have hB1 := below_step hB0 hB0.size hb1
  clear x0 hB0 hb1
  obtain ⟨a1, a2, a3⟩ := x1.facts
  cases q0
  case false =>
    go_wp2
    go_ret
    exact ⟨rfl, hB1⟩
  go_wp2_with fail
  refine (H1.out _ hB1).mono ?_
  rintro e w2 ⟨rfl, hb2⟩
  have x2 := x1.below hb2
  have hB2 := below_step hB1 hB1.size hb2
  clear a1 a2 a3 x1 hB1 hb2
  obtain ⟨a1, a2, a3⟩ := x2.facts
  cases q1
  case false =>
    go_wp2
    go_ret
    exact ⟨rfl, hB2⟩
  go_wp2_with fail
  refine (H2.out _ hB2).mono ?_
  rintro e w3 ⟨rfl, hb3⟩
  have hB3 := below_step hB2 hB2.size hb3
  clear a1 a2 a3 hB2 hb3
  cases q2
  case false =>
    go_wp2
    go_ret
    exact ⟨rfl, hB3⟩
  go_wp2_with fail
  refine (H3.out _ hB3).mono ?_
  rintro e w4 ⟨rfl, hb4⟩
  have hB4 := below_step hB3 hB3.size hb4
  cases q3 <;>
  · go_wp2
    go_ret
    exact ⟨rfl, hB4⟩
end Go.Proofs.Ytdljnhdhigbefaa

/- A float's difference to itself is nought just if it is finite. -/
namespace Go.Proofs.Ytdljnhdhigbefaa
open Go Go.RowKit
set_option maxRecDepth 100000
theorem fsub_self_fin {x : Nat} (h : ffin x = true) : fsub x x = 0 := by
  unfold ffin at h
  simp only [decide_eq_true_eq] at h
  obtain ⟨m, i, hr, _, _⟩ := read_fin x h
  unfold fsub Ieee.Format.sub
  rw [hr]
  generalize (x / 9223372036854775808 % 2 == 1) = s
  have e : Ieee.signed (!s) m (i - min i i).toNat = - Ieee.signed s m (i - min i i).toNat := by unfold Ieee.signed; cases s <;> simp
  have hs : (Ieee.Datum.number s m i).sum (Ieee.Datum.number s m i).opposite = some (.number false 0 (min i i)) := by
    show some (Ieee.Datum.number (if Ieee.signed s m (i - min i i).toNat + Ieee.signed (!s) m (i - min i i).toNat = 0 then s && !s else decide (Ieee.signed s m (i - min i i).toNat + Ieee.signed (!s) m (i - min i i).toNat < 0)) (Ieee.signed s m (i - min i i).toNat + Ieee.signed (!s) m (i - min i i).toNat).natAbs (min i i)) = _
    rw [e, Int.add_right_neg, if_pos rfl]
    cases s <;> rfl
  rw [hs]
  show Ieee.double.write (.number false 0 (min i i)) = 0
  show Ieee.double.nearest false 0 (min i i) = 0
  rw [nearest_zero]
  rfl
theorem fnS_ffin (x : Nat) : fnS x = ffin x := by
  cases h : ffin x
  · cases hx : isnan x
    · have hi : x % 9223372036854775808 = 9218868437227405312 := by
        unfold ffin at h
        unfold isnan at hx
        simp only [decide_eq_false_iff_not] at h hx
        omega
      unfold fnS
      have e : fsub x x = qnan := by
        unfold fsub Ieee.Format.sub
        rw [read_inf x hi]
        generalize (x / 9223372036854775808 % 2 == 1) = s
        cases s <;> rfl
      rw [e]
      exact (show feq qnan 0 = false from by kernel_rfl)
    · unfold fnS
      have e : fsub x x = qnan := by
        unfold fsub Ieee.Format.sub
        rw [sum_nan_left _ (by rw [read_nan]; exact hx)]
        rfl
      rw [e]
      exact (show feq qnan 0 = false from by kernel_rfl)
  · unfold fnS
    rw [fsub_self_fin h]
    exact (show feq 0 0 = true from by kernel_rfl)
end Go.Proofs.Ytdljnhdhigbefaa

/- Regions that draw their order, within a fence but no round; floats' operations within a fence. No condition. -/
namespace Go.Proofs.Ytdljnhdhigbefaa
open Go Go.RowKit
section
variable {P : Program} {ops : Array Oper} {Q : Exit → Act → World → Prop} {a : Act} {w : World} {rest : List Oper} {o : Oper} {op : BinOp} {xt yt : TypeId} {ox oy : Operand} {x y v : Nat} {FF : Fence} {nF : Nat}
theorem wpListIn_flt (hg : o.guard = none) (ho : o.op = .binOp op xt ox oy yt) (hx : a.eval ox = .float .f64 x) (hy : a.eval oy = .float .f64 y) (h : fbin op x y = some v)
    (hk : ∀ K : Act → World → Prop, (∀ a w, wpListIn FF nF P ops Q rest a w → K a w) → ∀ s n, K (a.put o.dst (.float .f64 (raw v s))) (w.drewN n)) : wpListIn FF nF P ops Q (o :: rest) a w := by
  refine wpListIn_plain hg fun K' hK' => ?_
  obtain ⟨s, n, hr⟩ := exec_fbin (P := P) w ho hx hy h
  unfold Oper.wpIn
  refine ⟨by simp [Oper.about, ho], ?_⟩
  rw [Oper.semAt_plain FF _ _ (by rw [ho]; intro c hc'; cases hc'), hr]
  exact hk K' hK' s n
end
section
variable {P : Program} {md : Region.Mode} {ops : Array Oper} {C : World → Prop} {F : FuncId → Array Value → Value → Prop} {nf : Nat}
theorem wideW_fn (f : FuncId) : Fence.wide.fn f := trivial
theorem wideW_depth : Fence.wide.depth.isSome = true → 1 ≤ nf := fun h => by cases h

theorem wpOpIn_of_nqOpW {i : Nat} {a : Act} {K : Act → Prop} {K' : Act → World → Prop} {Q' : Exit → Act → World → Prop} {w : World} (hd : ∀ (i : Nat) (o : Oper) c, ops[i]? = some o → o.op ≠ .defer c) (hw : C w) (h : ∀ a w', C w' → K a → K' a w') (hh : nqOp P ops C F i K a) : wpOpIn Fence.wide nf P ops Q' i K' a w := by
  unfold nqOp at hh
  unfold wpOpIn
  split
  · rename_i ho; simp only [ho] at hh; exact h _ _ hw hh
  · rename_i o ho
    simp only [ho] at hh
    split
    · rename_i hwt; simp only [hwt, if_true] at hh
      unfold nq at hh
      have hh := hh w hw
      refine ⟨fun f _ => wideW_fn f, ?_⟩
      have hs : o.semAt Fence.wide.round a.eval = execOp a.eval o := Oper.semAt_plain Fence.wide _ _ (fun c => hd i o c ho)
      rw [hs]
      generalize (execOp a.eval o).run P w = r at *
      cases r with
      | ok n w' =>
        cases n <;> simp only [nqUpon] at hh <;> simp only [Oper.uponIn]
        case value u => exact h _ _ hh.1 hh.2
        case skip => exact h _ _ hh.1 hh.2
        case enter f args =>
          refine ⟨wideW_depth, (callsIn_wide.2 ((hh.2.1 _ hh.1).mono fun e w'' ⟨v, he, hv, hc⟩ => ?_))⟩
          subst he; exact h _ _ hc (hh.2.2 v hv)
      | halt x w' => simp only [nqUpon] at hh
    · rename_i hwt; simp only [hwt] at hh; exact ⟨fun f _ => wideW_fn f, h _ _ hw hh⟩

theorem wpAnyIn_of_nqAnyW {n g : Nat} {L : Array Bool → Act → Prop} {Q' : Exit → Act → World → Prop} (hd : ∀ (i : Nat) (o : Oper) c, ops[i]? = some o → o.op ≠ .defer c) (hL : ∀ listed a w, C w → L listed a → wpAnyIn Fence.wide nf P md ops Q' g listed a w) :
    ∀ (f : Nat) (listed : Array Bool) (a : Act) (w : World), C w → nqAny P md ops C F n L f listed a → wpAnyIn Fence.wide nf P md ops Q' (f + g) listed a w
  | 0, listed, a, w, hw, h => by rw [Nat.zero_add]; exact hL _ _ _ hw h
  | f + 1, listed, a, w, hw, h => by
    rw [show f + 1 + g = (f + g) + 1 by omega]
    exact ⟨fun h0 => absurd h0 h.1, fun i hi => wpOpIn_of_nqOpW hd hw (fun a' w' hw' h' => wpAnyIn_of_nqAnyW hd hL f _ a' w' hw' h') (h.2 i hi).2⟩

theorem wpIn_region_nqW {id : Nat} {Q : Exit → Act → World → Prop} {a : Act} {w : World} {l : List Oper} (n : Nat) (F : FuncId → Array Value → Value → Prop) (C : World → Prop)
    (hm : P.follows .mixedOrders = true) (hB : (nqB l n && noDefer l) = true) (hC : C { w with drawn := w.drawn + 1 })
    (h : nqW P l.toArray C F (fun a' => ∀ w', C w' → wpListIn Fence.wide nf P l.toArray Q (l.drop n) a' w') (l.take n) a) : (Code.region id l.toArray true).wpIn Fence.wide nf P Q a w := by
  rw [Bool.and_eq_true] at hB
  have hd : ∀ (i : Nat) (o : Oper) c, l.toArray[i]? = some o → o.op ≠ .defer c := fun i o c ho => noDefer_at hB.2 ho c
  have hB := hB.1
  simp only [nqB, Bool.and_eq_true, Bool.or_eq_true, decide_eq_true_eq] at hB
  obtain ⟨⟨⟨hsel, hsc⟩, hn⟩, hlex⟩ := hB
  have htl : (l.take n).length = n := by simp; omega
  have hdl : (l.drop n).length = l.toArray.size - n := by simp
  have inv0 : HeadInv .any l.toArray n (Array.replicate l.toArray.size false) :=
    ⟨by simp, fun j oj _ hl => (by rw [getD_replicate_false] at hl; cases hl), fun t _ ht => getD_in (by simpa using ht) (getD_replicate_false _ _)⟩
  have hs : Region.sinkB .any l.toArray n = true ∨ l.toArray.size ≤ n := hsc.elim (fun h => .inr h) (fun h => .inl h.1)
  have hc : Region.chainB .any l.toArray n = true ∨ l.toArray.size ≤ n := hsc.elim (fun h => .inr h) (fun h => .inl h.2)
  have H := nqAny_lex (md := .any) (g := l.toArray.size - n) ⟨_, hC⟩ hsel hs hc (l.take n) 0 _ a (fun j hj => by
    have hj' : j < n := by rw [htl] at hj; exact hj
    simp [hj']) (by simpa using htl) inv0 (by rw [htl]; exact hlex) h
  refine wpIn_region_any hm ?_
  have := wpAnyIn_of_nqAnyW (nf := nf) (Q' := Q) (g := l.toArray.size - n) hd (fun listed a' w' hw' hL => by
    have := wpAnyIn_of_seq (FF := Fence.wide) (nf := nf) (md := .any) (Q' := Q) (l.drop n) n listed a' w' (fun j => by simp [List.getElem?_drop]) (by rw [hdl]; exact hL.1) (hL.2 w' hw')
    rwa [hdl] at this) _ _ _ _ hC H
  rw [htl, show n + (l.toArray.size - n) = l.toArray.size by simp; omega] at this
  exact this

/-- The region that draws, in the class of the worlds that have all that was there. -/
theorem wpIn_region_nqbW {id : Nat} {Q : Exit → Act → World → Prop} {a : Act} {w : World} {l : List Oper} (n : Nat) (F : FuncId → Array Value → Value → Prop)
    (hm : P.follows .mixedOrders = true) (hB : (nqB l n && noDefer l) = true)
    (h : ∀ (C : World → Prop) (R : Act → Prop), (∀ w', Cls C w' → ∀ b o, b < w.heap.size → w'.cell? ⟨b, o, none⟩ = w.cell? ⟨b, o, none⟩) → (∀ w', Cls C w' → Below w.heap.size w w') →
      (∀ w' w'', Cls C w' → Below w'.heap.size w' w'' → Cls C w'') → (∀ w' n, Cls C w' → Cls C (w'.drewN n)) →
      (∀ a', (∀ w', Below w.heap.size w w' → wpListIn Fence.wide nf P l.toArray Q (l.drop n) a' w') → R a') → nqW P l.toArray (Cls C) F R (l.take n) a) : (Code.region id l.toArray true).wpIn Fence.wide nf P Q a w :=
  wpIn_region_nqW n F (Below w.heap.size w) hm hB (below_drewN 1 (Below.refl _ _))
    (h (Below w.heap.size w) (fun a' => ∀ w', Below w.heap.size w w' → wpListIn Fence.wide nf P l.toArray Q (l.drop n) a' w') (fun _ hw' => (below_cells hw').1) (fun _ h => h)
      (fun _ _ h1 h2 => h1.trans (h2.mono h1.size)) (fun _ n h => below_drewN n h) (fun _ h => h))
end
end Go.Proofs.Ytdljnhdhigbefaa
