/- The document's answer on views: floats compared, bit by bit, all NaNs being one. -/
import Derived.Test.YtbcdpibcieadlaaVw3
namespace Go.Proofs.Ytbcdpibcieadlaa
open Go Go.RowKit
set_option maxRecDepth 100000

def clsW (x : Nat) : Int := if x / 4503599627370496 % 2048 = 2047 then (if x % 4503599627370496 = 0 then 4 else 5) else if 0 < x / 4503599627370496 % 2048 then 3 else if 0 < x % 4503599627370496 then 2 else 1
theorem bits_exp {x : Nat} (hx : x < 18446744073709551616) : bits .and .u64 ((x : Int) / 4503599627370496) 2047 = ((x / 4503599627370496 % 2048 : Nat) : Int) := by
  have e : (x : Int) / 4503599627370496 = ((x / 4503599627370496 : Nat) : Int) := by omega
  rw [e]
  have hl : x / 4503599627370496 < 4096 := by omega
  generalize x / 4503599627370496 = y at hl
  have h1 : (y &&& 2047) = y % 2048 := Nat.and_two_pow_sub_one_eq_mod y 11
  rw [show (2047 : Int) = ((2047 : Nat) : Int) from rfl, u64_and_nat y _ (by omega) (by decide), h1]
theorem bits_frac {x : Nat} (hx : x < 18446744073709551616) : bits .and .u64 (x : Int) 4503599627370495 = ((x % 4503599627370496 : Nat) : Int) := by
  have h1 : (x &&& 4503599627370495) = x % 4503599627370496 := Nat.and_two_pow_sub_one_eq_mod x 52
  rw [show (4503599627370495 : Int) = ((4503599627370495 : Nat) : Int) from rfl, u64_and_nat x _ hx (by decide), h1]
set_option maxHeartbeats 2000000 in
theorem Class_any (x : Nat) (hx : x < 18446744073709551616) (w : World) : Calls Try.prog 115 #[.int .u64 x] w fun e w' => e = .returned (.int .i64 (clsW x)) ∧ w = w' := by
  have h1 := bits_exp hx
  have h2 := bits_frac hx
  have e0 : clsW x = if x / 4503599627370496 % 2048 = 2047 then (if x % 4503599627370496 = 0 then 4 else 5) else if 0 < x / 4503599627370496 % 2048 then 3 else if 0 < x % 4503599627370496 then 2 else 1 := rfl
  rw [e0]
  clear e0
  generalize x / 4503599627370496 % 2048 = e at *
  generalize x % 4503599627370496 = f at *
  by_cases k1 : e = 2047
  · subst k1
    by_cases k2 : f = 0
    · subst k2
      go_enter Try.func115, Try.ntmps115
      go_wp2
      go_ret
      exact ⟨rfl, rfl⟩
    · rw [if_pos rfl, if_neg k2]
      have t2 : ((f : Int) == 0) = false := by simp; exact k2
      clear k2
      go_enter Try.func115, Try.ntmps115
      go_wp2
      go_ret
      exact ⟨rfl, rfl⟩
  · rw [if_neg k1]
    have t1 : ((e : Int) == 2047) = false := by simp; omega
    clear k1
    by_cases k3 : 0 < e
    · rw [if_pos k3]
      go_enter Try.func115, Try.ntmps115
      go_wp2
      go_ret
      exact ⟨rfl, rfl⟩
    · rw [if_neg k3]
      obtain rfl : e = 0 := by omega
      by_cases k4 : 0 < f
      · rw [if_pos k4]
        go_enter Try.func115, Try.ntmps115
        go_wp2
        go_ret
        exact ⟨rfl, rfl⟩
      · rw [if_neg k4]
        obtain rfl : f = 0 := by omega
        go_enter Try.func115, Try.ntmps115
        go_wp2
        go_ret
        exact ⟨rfl, rfl⟩
theorem cls_nan {x : Nat} (_hx : x < 18446744073709551616) : (clsW x == 5) = isnan x := by
  unfold clsW isnan
  rw [Bool.eq_iff_iff]
  simp only [beq_iff_eq, decide_eq_true_eq]
  have h1 : x / 4503599627370496 % 2048 = x % 9223372036854775808 / 4503599627370496 := by omega
  have h2 : x % 4503599627370496 = x % 9223372036854775808 % 4503599627370496 := by omega
  rw [h1, h2]
  have h3 : x % 9223372036854775808 < 9223372036854775808 := Nat.mod_lt _ (by decide)
  generalize x % 9223372036854775808 = y at *
  by_cases k1 : y / 4503599627370496 = 2047
  · rw [if_pos k1]
    by_cases k2 : y % 4503599627370496 = 0
    · rw [if_pos k2]; omega
    · rw [if_neg k2]; omega
  · rw [if_neg k1]
    by_cases k3 : 0 < y / 4503599627370496
    · rw [if_pos k3]; omega
    · rw [if_neg k3]
      by_cases k4 : 0 < y % 4503599627370496
      · rw [if_pos k4]; omega
      · rw [if_neg k4]; omega
set_option maxHeartbeats 2000000 in
theorem One_any (x : Nat) (hx : x < 18446744073709551616) (w : World) : Calls Try.prog 106 #[.int .u64 x] w fun e w' => e = .returned (.int .u64 (nm x)) ∧ w = w' := by
  have hc := cls_nan hx
  have e0 : nm x = if isnan x then qnan else x := by unfold nm; rfl
  rw [e0]
  clear e0
  cases hn : isnan x
  all_goals
    rw [hn] at hc
    go_enter Try.func106, Try.ntmps106
    go_wp2_with (go_at_call 115; refine (Class_any x hx _).mono ?_; rintro e w' ⟨rfl, rfl⟩)
    go_ret
    exact ⟨by simp [qnan], rfl⟩
set_option maxHeartbeats 2000000 in
/-- A float's word, all NaNs being one. -/
theorem Bits_any (x : Nat) (hx : x < 18446744073709551616) (w : World) : Calls Try.prog 68 #[.float .f64 x] w fun e w' => e = .returned (.int .u64 (nm x)) ∧ w = w' := by
  go_enter Try.func68, Try.ntmps68
  go_wp2_with (go_at_call 106; refine (One_any x hx _).mono ?_; rintro e w' ⟨rfl, rfl⟩)
  go_ret
  exact ⟨rfl, rfl⟩
theorem nm_same (x y : Nat) : (nm x = nm y) ↔ sameF x y = true := by
  unfold nm sameF
  cases hx : isnan x
  all_goals cases hy : isnan y
  · simp
  · simp only [Bool.false_eq_true, if_false, if_true, Bool.false_and, Bool.or_false, decide_eq_true_eq]
    constructor
    · intro e; rw [e, isnan_qnan] at hx; cases hx
    · intro e; rw [e, hy] at hx; cases hx
  · simp only [Bool.false_eq_true, if_false, if_true, Bool.and_false, Bool.or_false, decide_eq_true_eq]
    constructor
    · intro e; rw [← e, isnan_qnan] at hy; cases hy
    · intro e; rw [← e, hx] at hy; cases hy
  · simp

/-- The first n floats of two lists are the same. -/
def sameN (xs ys : List Nat) : Nat → Bool
  | 0 => true
  | n + 1 => sameN xs ys n && sameF (xs.getD n 0) (ys.getD n 0)
def sameFs (xs ys : List Nat) : Bool := decide (xs.length = ys.length) && sameN xs ys xs.length
def BitsF (f : FuncId) (args : Array Value) (v : Value) : Prop := f = 68 → ∀ x, args = #[.float .f64 x] → v = .int .u64 (nm x)
theorem sameN_false {xs ys : List Nat} {k : Nat} (h : sameF (xs.getD k 0) (ys.getD k 0) = false) : ∀ n, k < n → sameN xs ys n = false
  | 0, hk => absurd hk (Nat.not_lt_zero _)
  | n + 1, hk => by
    unfold sameN
    rcases Nat.lt_or_eq_of_le (Nat.le_of_lt_succ hk) with h1 | h1
    · rw [sameN_false h n h1]; rfl
    · rw [← h1, h]; simp
set_option maxHeartbeats 2000000 in
theorem SameFloats_any (w : World) (a b : Option Addr) (xs ys : List Nat) (ca cb : Nat) (hX : Cel w a xs) (hY : Cel w b ys) (hwx : Words xs) (hwy : Words ys) (hlx : xs.length ≤ maxLen) (_hly : ys.length ≤ maxLen) :
    Calls Try.prog 110 #[.slice a xs.length ca, .slice b ys.length cb] w fun e w' => e = .returned (.bool (sameFs xs ys)) ∧ Below w.heap.size w w' := by
  unfold maxLen at hlx _hly
  by_cases hl : xs.length = ys.length
  case neg =>
    have e0 : sameFs xs ys = false := by unfold sameFs; rw [decide_eq_false hl]; rfl
    have t1 : ((xs.length : Int) != (ys.length : Int)) = true := by simp; omega
    rw [e0]
    clear e0 hl
    go_enter Try.func110, Try.ntmps110
    go_wp2
    go_ret
    exact ⟨rfl, Below.refl _ _⟩
  case pos =>
    have e0 : sameFs xs ys = sameN xs ys xs.length := by unfold sameFs; rw [decide_eq_true hl]; rfl
    have t1 : ((xs.length : Int) != (ys.length : Int)) = false := by simp; omega
    have HL := Lib.hid hl
    rw [e0]
    clear e0 hl
    go_enter Try.func110, Try.ntmps110
    go_wp2
    go_loopw [5] (fun i wr => ∃ k : Nat, k ≤ xs.length ∧ i = .int .i64 k ∧ sameN xs ys k = true ∧ Below w.heap.size w wr) (fun i _ => xs.length - (intOf i).toNat)
    case atStart => exact ⟨0, Nat.zero_le _, rfl, rfl, Below.refl _ _⟩
    case round =>
      obtain ⟨k, hk, rfl, hs, hB⟩ := hrel
      by_cases hlt : k < xs.length
      · have hlt2 : k < ys.length := by have := HL.out; omega
        have nx : xs ≠ [] := by intro e; rw [e] at hlt; exact absurd hlt (Nat.not_lt_zero _)
        have ny : ys ≠ [] := by intro e; rw [e] at hlt2; exact absurd hlt2 (Nat.not_lt_zero _)
        obtain ⟨bx, ox, rfl, hbx, hcx⟩ := (hX.below hB) nx
        obtain ⟨by', oy, rfl, hby, hcy⟩ := (hY.below hB) ny
        have ex : xs[k]? = some (xs.getD k 0) := by simp [hlt]
        have ey : ys[k]? = some (ys.getD k 0) := by simp [hlt2]
        have c1 := hcx k _ ex
        have c2 := hcy k _ ey
        have wx := hwx.at k
        have wy := hwy.at k
        have HS : Hid (sameN xs ys (k + 1) = sameF (xs.getD k 0) (ys.getD k 0)) := by unfold Hid; rw [sameN, hs]; rfl
        have HF := Lib.hid (fun h => sameN_false (xs := xs) (ys := ys) (k := k) h xs.length hlt)
        have HN := Lib.hid (nm_same (xs.getD k 0) (ys.getD k 0))
        generalize xs.getD k 0 = x at *
        generalize ys.getD k 0 = y at *
        clear hs ex ey hcx hcy nx ny
        go_wp2
        refine wp_region_nqb 11 BitsF (by kernel_rfl) (by kernel_rfl) ?_
        intro C R hc hb' hb2 hd hR
        simp only [List.take_succ_cons, List.take_zero]
        repeat (
          first
            | (refine nqW_plain (fun K hK => ?_))
            | (refine nqW_step (fun K hK => ?_); go_simp)
          first
            | (refine nq_move rfl ?_; go_simp; refine hK _ ?_; clear hK K)
            | (refine nq_assign rfl ?_; go_simp; refine hK _ ?_; clear hK K)
            | (refine nq_flt rfl rfl rfl rfl hd ?_; intro _; go_frame; refine hK _ ?_; clear hK K)
            | (refine nq_in ?_; intro w' hw'; go_simp; refine ⟨?_, ?_⟩; (next => (intro w2 hw2; go_at_call 68; refine (Bits_any _ (by assumption) w2).mono ?_; (intro e w3 ⟨he, hb⟩; subst hb; exact ⟨_, he, (fun _ x' hx' => by simp at hx'; subst hx'; rfl), hw2⟩))); intro v hv; obtain rfl := hv rfl _ rfl; go_simp; refine hK _ ?_; clear hv hK K hw' w')
            | (refine nq_same ?_; intro w' hw'; go_simp; (try go_bits); refine hK _ ?_; clear hK K hw' w')
            | (refine nq_same ?_; intro w' hw'; go_simp; rw [if_pos (by omega)]; go_simp; (try go_bits); refine hK _ ?_; clear hK K hw' w')
            | (go_simp; refine hK _ ?_; clear hK K))
        refine nqW_nil (hR _ ?_)
        clear hc hb' hb2 hd hR
        intro w' hw'
        simp only [List.drop]
        cases hsm : sameF x y
        · have hne : ((nm x : Int) != (nm y : Int)) = true := by
            simp
            intro e
            have := HN.out.1 (by omega)
            rw [hsm] at this; cases this
          go_wp2
          go_ret
          exact ⟨by rw [HF.out hsm]; rfl, below_step hB hB.size hw'⟩
        · have hne : ((nm x : Int) != (nm y : Int)) = false := by
            have := HN.out.2 hsm
            simp; omega
          go_wp2
          go_roundw
          case rel => exact ⟨k + 1, by omega, by go_num, by rw [HS.out, hsm], below_step hB hB.size hw'⟩
          case measure => simp [intOf]; omega
      · obtain rfl : k = xs.length := by omega
        have HS := Lib.hid hs
        clear hs
        go_wp2
        go_ret
        exact ⟨by rw [HS.out]; rfl, hB⟩

set_option maxHeartbeats 2000000 in
/-- May it be? -/
theorem May07_any (r c : Int) (a : Option Addr) (n cap : Nat) (w : World) (_hn : n ≤ maxLen) :
    Calls Try.prog 57 #[.agg #[.int .i64 r, .int .i64 c, .slice a n cap]] w fun e w' => e = .returned (.bool (mayM r c n)) ∧ Below w.heap.size w w' := by
  unfold maxLen at _hn
  have e0 : mayM r c n = (okSz r && okSz c && decide ((n : Int) = r * c)) := rfl
  rw [e0, okSz_bits, okSz_bits]
  clear e0
  have g1 : decide (0 ≤ r) = !decide (r < 0) := by rw [Bool.eq_iff_iff]; simp
  have g2 : decide (r ≤ 512) = !decide (512 < r) := by rw [Bool.eq_iff_iff]; simp
  have g3 : decide (0 ≤ c) = !decide (c < 0) := by rw [Bool.eq_iff_iff]; simp
  have g4 : decide (c ≤ 512) = !decide (512 < c) := by rw [Bool.eq_iff_iff]; simp
  rw [← g1, ← g2, ← g3, ← g4]
  clear g1 g2 g3 g4
  cases h1 : decide (0 ≤ r)
  case false =>
    go_enter Try.func57, Try.ntmps57
    go_wp2
    go_ret
    exact ⟨rfl, (Below.refl _ _).alloc (Nat.le_refl _) _⟩
  case true =>
  cases h2 : decide (r ≤ 512)
  case false =>
    go_enter Try.func57, Try.ntmps57
    go_wp2
    go_ret
    exact ⟨rfl, (Below.refl _ _).alloc (Nat.le_refl _) _⟩
  case true =>
  cases h3 : decide (0 ≤ c)
  case false =>
    go_enter Try.func57, Try.ntmps57
    go_wp2
    go_ret
    exact ⟨rfl, (Below.refl _ _).alloc (Nat.le_refl _) _⟩
  case true =>
  cases h4 : decide (c ≤ 512)
  case false =>
    go_enter Try.func57, Try.ntmps57
    go_wp2
    go_ret
    exact ⟨rfl, (Below.refl _ _).alloc (Nat.le_refl _) _⟩
  case true =>
    simp only [decide_eq_true_eq] at h1 h2 h3 h4
    obtain ⟨R, rfl⟩ := Int.eq_ofNat_of_zero_le h1
    obtain ⟨C, rfl⟩ := Int.eq_ofNat_of_zero_le h3
    have h0 : R * C ≤ 512 * 512 := Nat.mul_le_mul (by omega) (by omega)
    have e0 : ((R * C : Nat) : Int) = (R : Int) * (C : Int) := Int.natCast_mul _ _
    have k1 : (R : Int) * (C : Int) ≤ 9223372036854775807 := by rw [← e0]; omega
    have k2 : (0 : Int) ≤ (R : Int) * (C : Int) := Int.mul_nonneg (Int.natCast_nonneg _) (Int.natCast_nonneg _)
    have k3 : ((n : Int) == (R : Int) * (C : Int)) = decide ((n : Int) = (R : Int) * (C : Int)) := by rw [Bool.eq_iff_iff]; simp
    have d1 : decide ((0 : Int) ≤ (R : Int)) = true := by simp
    have d2 : decide ((R : Int) ≤ 512) = true := by simp; omega
    have d3 : decide ((0 : Int) ≤ (C : Int)) = true := by simp
    have d4 : decide ((C : Int) ≤ 512) = true := by simp; omega
    clear e0 h0
    cases hd : decide ((n : Int) = (R : Int) * (C : Int))
    all_goals
      rw [hd] at k3
      clear hd
      go_enter Try.func57, Try.ntmps57
      go_wp2
      go_ret
      exact ⟨rfl, (Below.refl _ _).alloc (Nat.le_refl _) _⟩

/-- Are two matrices the same? -/
def sameM (r c : Int) (xs : List Nat) (r' c' : Int) (ys : List Nat) : Bool := decide (r = r') && decide (c = c') && sameFs xs ys
set_option maxHeartbeats 2000000 in
theorem SameMatrix_any (w : World) (r c r' c' : Int) (a b : Option Addr) (xs ys : List Nat) (ca cb : Nat) (hX : Cel w a xs) (hY : Cel w b ys) (hwx : Words xs) (hwy : Words ys) (hlx : xs.length ≤ maxLen) (hly : ys.length ≤ maxLen) :
    Calls Try.prog 75 #[.agg #[.int .i64 r, .int .i64 c, .slice a xs.length ca], .agg #[.int .i64 r', .int .i64 c', .slice b ys.length cb]] w fun e w' => e = .returned (.bool (sameM r c xs r' c' ys)) ∧ Below w.heap.size w w' := by
  have HS := Lib.hid (fun (W : World) (hB : Below w.heap.size w W) => SameFloats_any W a b xs ys ca cb (hX.below hB) (hY.below hB) hwx hwy hlx hly)
  have e0 : sameM r c xs r' c' ys = (decide (r = r') && decide (c = c') && sameFs xs ys) := rfl
  have t1 : (r == r') = decide (r = r') := by rw [Bool.eq_iff_iff]; simp
  have t2 : (c == c') = decide (c = c') := by rw [Bool.eq_iff_iff]; simp
  have hB0 : Below w.heap.size w ((w.alloc (.cells #[.int .i64 r, .int .i64 c, .slice a xs.length ca] 24)).alloc (.cells #[.int .i64 r', .int .i64 c', .slice b ys.length cb] 24)) := ((Below.refl _ _).alloc (Nat.le_refl _) _).alloc (by simp) _
  rw [e0]
  clear e0 hX hY
  cases d1 : decide (r = r')
  case false =>
    rw [d1] at t1
    clear d1 t2
    go_enter Try.func75, Try.ntmps75
    go_wp2
    go_ret
    exact ⟨rfl, hB0⟩
  case true =>
  cases d2 : decide (c = c')
  case false =>
    rw [d1] at t1
    rw [d2] at t2
    clear d1 d2
    go_enter Try.func75, Try.ntmps75
    go_wp2
    go_ret
    exact ⟨rfl, hB0⟩
  case true =>
    rw [d1] at t1
    rw [d2] at t2
    clear d1 d2
    go_enter Try.func75, Try.ntmps75
    go_wp2_with fail
    refine (HS.out _ hB0).mono ?_
    rintro e w1 ⟨rfl, hb1⟩
    go_wp2
    go_ret
    exact ⟨by simp, below_step hB0 hB0.size hb1⟩

theorem Cel.ofBox {w : World} {n : Nat} {zs : List Nat} (h : Box w n (zs.map (Value.float .f64))) : Cel w (some ⟨n, 0, none⟩) zs := fun _ => by
  refine ⟨n, 0, rfl, h.lt, fun i v hv => ?_⟩
  rw [h.cell]
  simp [hv]
end Go.Proofs.Ytbcdpibcieadlaa
