/- The document's answer on views: floats compared, bit by bit, all NaNs being one. -/
import Derived.Test.YtbcdpibcieadlaaVw3Z
import Derived.Test.YtbcdpibcieadlaaVw7Z
import Derived.Shelf.Abstract
import Derived.OrdersHeld
import Derived.StillTail
import Derived.Tactics
import Derived.Deep.RegionHeld3
import Derived.Test.YtbcdpibcieadlaaZz2
namespace Go.Proofs.Ytbcdpibcieadlaa
open Go Go.RowKit
set_option maxRecDepth 100000

def clsW (x : Nat) : Int := if x / 4503599627370496 % 2048 = 2047 then (if x % 4503599627370496 = 0 then 4 else 5) else if 0 < x / 4503599627370496 % 2048 then 3 else if 0 < x % 4503599627370496 then 2 else 1
theorem bits_exp {x : Nat} (hx : x < 18446744073709551616) : bits .and .u64 ((x : Int) / 4503599627370496) 2047 = ((x / 4503599627370496 % 2048 : Nat) : Int) := by
  have e : (x : Int) / 4503599627370496 = ((x / 4503599627370496 : Nat) : Int) := by omega
  rw [e]
  have hl : x / 4503599627370496 < 4096 := by omega
  generalize x / 4503599627370496 = y at hl
  have h1 : (y &&& 2047) = y % 2048 := Nat.and_two_pow_sub_one_eq_mod y 11
  rw [show (2047 : Int) = ((2047 : Nat) : Int) from rfl, u64_and_nat y _ (by omega) (by decide), h1]
theorem bits_frac {x : Nat} (hx : x < 18446744073709551616) : bits .and .u64 (x : Int) 4503599627370495 = ((x % 4503599627370496 : Nat) : Int) := by
  have h1 : (x &&& 4503599627370495) = x % 4503599627370496 := Nat.and_two_pow_sub_one_eq_mod x 52
  rw [show (4503599627370495 : Int) = ((4503599627370495 : Nat) : Int) from rfl, u64_and_nat x _ hx (by decide), h1]
set_option maxHeartbeats 2000000 in
theorem Class_any (x : Nat) (hx : x < 18446744073709551616) (w : World) : Calls Try.prog 115 #[.int .u64 x] w fun e w' => e = .returned (.int .i64 (clsW x)) ∧ w = w' := by
  have h1 := bits_exp hx
  have h2 := bits_frac hx
  have e0 : clsW x = if x / 4503599627370496 % 2048 = 2047 then (if x % 4503599627370496 = 0 then 4 else 5) else if 0 < x / 4503599627370496 % 2048 then 3 else if 0 < x % 4503599627370496 then 2 else 1 := rfl
  rw [e0]
  clear e0
  generalize x / 4503599627370496 % 2048 = e at *
  generalize x % 4503599627370496 = f at *
  by_cases k1 : e = 2047
  · subst k1
    by_cases k2 : f = 0
    · subst k2
      go_enter Try.func115, Try.ntmps115
      go_wp2
      go_ret
      exact ⟨rfl, rfl⟩
    · rw [if_pos rfl, if_neg k2]
      have t2 : ((f : Int) == 0) = false := by simp; exact k2
      clear k2
      go_enter Try.func115, Try.ntmps115
      go_wp2
      go_ret
      exact ⟨rfl, rfl⟩
  · rw [if_neg k1]
    have t1 : ((e : Int) == 2047) = false := by simp; omega
    clear k1
    by_cases k3 : 0 < e
    · rw [if_pos k3]
      go_enter Try.func115, Try.ntmps115
      go_wp2
      go_ret
      exact ⟨rfl, rfl⟩
    · rw [if_neg k3]
      obtain rfl : e = 0 := by omega
      by_cases k4 : 0 < f
      · rw [if_pos k4]
        go_enter Try.func115, Try.ntmps115
        go_wp2
        go_ret
        exact ⟨rfl, rfl⟩
      · rw [if_neg k4]
        obtain rfl : f = 0 := by omega
        go_enter Try.func115, Try.ntmps115
        go_wp2
        go_ret
        exact ⟨rfl, rfl⟩
theorem cls_nan {x : Nat} (_hx : x < 18446744073709551616) : (clsW x == 5) = isnan x := by
  unfold clsW isnan
  rw [Bool.eq_iff_iff]
  simp only [beq_iff_eq, decide_eq_true_eq]
  have h1 : x / 4503599627370496 % 2048 = x % 9223372036854775808 / 4503599627370496 := by omega
  have h2 : x % 4503599627370496 = x % 9223372036854775808 % 4503599627370496 := by omega
  rw [h1, h2]
  have h3 : x % 9223372036854775808 < 9223372036854775808 := Nat.mod_lt _ (by decide)
  generalize x % 9223372036854775808 = y at *
  by_cases k1 : y / 4503599627370496 = 2047
  · rw [if_pos k1]
    by_cases k2 : y % 4503599627370496 = 0
    · rw [if_pos k2]; omega
    · rw [if_neg k2]; omega
  · rw [if_neg k1]
    by_cases k3 : 0 < y / 4503599627370496
    · rw [if_pos k3]; omega
    · rw [if_neg k3]
      by_cases k4 : 0 < y % 4503599627370496
      · rw [if_pos k4]; omega
      · rw [if_neg k4]; omega
set_option maxHeartbeats 2000000 in
theorem One_any (x : Nat) (hx : x < 18446744073709551616) (w : World) : Calls Try.prog 106 #[.int .u64 x] w fun e w' => e = .returned (.int .u64 (nm x)) ∧ w = w' := by
  have hc := cls_nan hx
  have e0 : nm x = if isnan x then qnan else x := by unfold nm; rfl
  rw [e0]
  clear e0
  cases hn : isnan x
  all_goals
    rw [hn] at hc
    go_enter Try.func106, Try.ntmps106
    go_wp2_with (go_at_call 115; refine (Class_any x hx _).mono ?_; rintro e w' ⟨rfl, rfl⟩)
    go_ret
    exact ⟨by simp [qnan], rfl⟩
set_option maxHeartbeats 2000000 in
/-- A float's word, all NaNs being one. -/
theorem Bits_any (x : Nat) (hx : x < 18446744073709551616) (w : World) : Calls Try.prog 68 #[.float .f64 x] w fun e w' => e = .returned (.int .u64 (nm x)) ∧ w = w' := by
  go_enter Try.func68, Try.ntmps68
  go_wp2_with (go_at_call 106; refine (One_any x hx _).mono ?_; rintro e w' ⟨rfl, rfl⟩)
  go_ret
  exact ⟨rfl, rfl⟩
theorem nm_same (x y : Nat) : (nm x = nm y) ↔ sameF x y = true := by
  unfold nm sameF
  cases hx : isnan x
  all_goals cases hy : isnan y
  · simp
  · simp only [Bool.false_eq_true, if_false, if_true, Bool.false_and, Bool.or_false, decide_eq_true_eq]
    constructor
    · intro e; rw [e, isnan_qnan] at hx; cases hx
    · intro e; rw [e, hy] at hx; cases hx
  · simp only [Bool.false_eq_true, if_false, if_true, Bool.and_false, Bool.or_false, decide_eq_true_eq]
    constructor
    · intro e; rw [← e, isnan_qnan] at hy; cases hy
    · intro e; rw [← e, hx] at hy; cases hy
  · simp

/-- The first n floats of two lists are the same. -/
def sameN (xs ys : List Nat) : Nat → Bool
  | 0 => true
  | n + 1 => sameN xs ys n && sameF (xs.getD n 0) (ys.getD n 0)
def sameFs (xs ys : List Nat) : Bool := decide (xs.length = ys.length) && sameN xs ys xs.length
def BitsF (f : FuncId) (args : Array Value) (v : Value) : Prop := f = 68 → ∀ x, args = #[.float .f64 x] → v = .int .u64 (nm x)
theorem sameN_false {xs ys : List Nat} {k : Nat} (h : sameF (xs.getD k 0) (ys.getD k 0) = false) : ∀ n, k < n → sameN xs ys n = false
  | 0, hk => absurd hk (Nat.not_lt_zero _)
  | n + 1, hk => by
    unfold sameN
    rcases Nat.lt_or_eq_of_le (Nat.le_of_lt_succ hk) with h1 | h1
    · rw [sameN_false h n h1]; rfl
    · rw [← h1, h]; simp
set_option maxHeartbeats 2000000 in
theorem SameFloats_any (w : World) (a b : Option Addr) (xs ys : List Nat) (ca cb : Nat) (hX : Cel w a xs) (hY : Cel w b ys) (hwx : Words xs) (hwy : Words ys) (hlx : xs.length ≤ maxLen) (_hly : ys.length ≤ maxLen) :
    Calls Try.prog 110 #[.slice a xs.length ca, .slice b ys.length cb] w fun e w' => e = .returned (.bool (sameFs xs ys)) ∧ Below w.heap.size w w' := by
  unfold maxLen at hlx _hly
  by_cases hl : xs.length = ys.length
  case neg =>
    have e0 : sameFs xs ys = false := by unfold sameFs; rw [decide_eq_false hl]; rfl
    have t1 : ((xs.length : Int) != (ys.length : Int)) = true := by simp; omega
    rw [e0]
    clear e0 hl
    go_enter Try.func110, Try.ntmps110
    go_wp2
    go_ret
    exact ⟨rfl, Below.refl _ _⟩
  case pos =>
    have e0 : sameFs xs ys = sameN xs ys xs.length := by unfold sameFs; rw [decide_eq_true hl]; rfl
    have t1 : ((xs.length : Int) != (ys.length : Int)) = false := by simp; omega
    have HL := Lib.hid hl
    rw [e0]
    clear e0 hl
    go_enter Try.func110, Try.ntmps110
    go_wp2
    go_loopw [5] (fun i wr => ∃ k : Nat, k ≤ xs.length ∧ i = .int .i64 k ∧ sameN xs ys k = true ∧ Below w.heap.size w wr) (fun i _ => xs.length - (intOf i).toNat)
    case atStart => exact ⟨0, Nat.zero_le _, rfl, rfl, Below.refl _ _⟩
    case round =>
      obtain ⟨k, hk, rfl, hs, hB⟩ := hrel
      by_cases hlt : k < xs.length
      · have hlt2 : k < ys.length := by have := HL.out; omega
        have nx : xs ≠ [] := by intro e; rw [e] at hlt; exact absurd hlt (Nat.not_lt_zero _)
        have ny : ys ≠ [] := by intro e; rw [e] at hlt2; exact absurd hlt2 (Nat.not_lt_zero _)
        obtain ⟨bx, ox, rfl, hbx, hcx⟩ := (hX.below hB) nx
        obtain ⟨by', oy, rfl, hby, hcy⟩ := (hY.below hB) ny
        have ex : xs[k]? = some (xs.getD k 0) := by simp [hlt]
        have ey : ys[k]? = some (ys.getD k 0) := by simp [hlt2]
        have c1 := hcx k _ ex
        have c2 := hcy k _ ey
        have wx := hwx.at k
        have wy := hwy.at k
        have HS : Hid (sameN xs ys (k + 1) = sameF (xs.getD k 0) (ys.getD k 0)) := by unfold Hid; rw [sameN, hs]; rfl
        have HF := Lib.hid (fun h => sameN_false (xs := xs) (ys := ys) (k := k) h xs.length hlt)
        have HN := Lib.hid (nm_same (xs.getD k 0) (ys.getD k 0))
        generalize xs.getD k 0 = x at *
        generalize ys.getD k 0 = y at *
        clear hs ex ey hcx hcy nx ny
        go_wp2
        refine wp_region_nqb 11 BitsF (by kernel_rfl) (by kernel_rfl) ?_
        intro C R hc hb' hb2 hd hR
        simp only [List.take_succ_cons, List.take_zero]
        repeat (
          first
            | (refine nqW_plain (fun K hK => ?_))
            | (refine nqW_step (fun K hK => ?_); go_simp)
          first
            | (refine nq_move rfl ?_; go_simp; refine hK _ ?_; clear hK K)
            | (refine nq_assign rfl ?_; go_simp; refine hK _ ?_; clear hK K)
            | (refine nq_flt rfl rfl rfl rfl hd ?_; intro _; go_frame; refine hK _ ?_; clear hK K)
            | (refine nq_in ?_; intro w' hw'; go_simp; refine ⟨?_, ?_⟩; (next => (intro w2 hw2; go_at_call 68; refine (Bits_any _ (by assumption) w2).mono ?_; (intro e w3 ⟨he, hb⟩; subst hb; exact ⟨_, he, (fun _ x' hx' => by simp at hx'; subst hx'; rfl), hw2⟩))); intro v hv; obtain rfl := hv rfl _ rfl; go_simp; refine hK _ ?_; clear hv hK K hw' w')
            | (refine nq_same ?_; intro w' hw'; go_simp; (try go_bits); refine hK _ ?_; clear hK K hw' w')
            | (refine nq_same ?_; intro w' hw'; go_simp; rw [if_pos (by omega)]; go_simp; (try go_bits); refine hK _ ?_; clear hK K hw' w')
            | (go_simp; refine hK _ ?_; clear hK K))
        refine nqW_nil (hR _ ?_)
        clear hc hb' hb2 hd hR
        intro w' hw'
        simp only [List.drop]
        cases hsm : sameF x y
        · have hne : ((nm x : Int) != (nm y : Int)) = true := by
            simp
            intro e
            have := HN.out.1 (by omega)
            rw [hsm] at this; cases this
          go_wp2
          go_ret
          exact ⟨by rw [HF.out hsm]; rfl, below_step hB hB.size hw'⟩
        · have hne : ((nm x : Int) != (nm y : Int)) = false := by
            have := HN.out.2 hsm
            simp; omega
          go_wp2
          go_roundw
          case rel => exact ⟨k + 1, by omega, by go_num, by rw [HS.out, hsm], below_step hB hB.size hw'⟩
          case measure => simp [intOf]; omega
      · obtain rfl : k = xs.length := by omega
        have HS := Lib.hid hs
        clear hs
        go_wp2
        go_ret
        exact ⟨by rw [HS.out]; rfl, hB⟩

set_option maxHeartbeats 2000000 in
/-- May it be? -/
theorem May07_any (r c : Int) (a : Option Addr) (n cap : Nat) (w : World) (_hn : n ≤ maxLen) :
    Calls Try.prog 57 #[.agg #[.int .i64 r, .int .i64 c, .slice a n cap]] w fun e w' => e = .returned (.bool (mayM r c n)) ∧ Below w.heap.size w w' := by
  unfold maxLen at _hn
  have e0 : mayM r c n = (okSz r && okSz c && decide ((n : Int) = r * c)) := rfl
  rw [e0, okSz_bits, okSz_bits]
  clear e0
  have g1 : decide (0 ≤ r) = !decide (r < 0) := by rw [Bool.eq_iff_iff]; simp
  have g2 : decide (r ≤ 512) = !decide (512 < r) := by rw [Bool.eq_iff_iff]; simp
  have g3 : decide (0 ≤ c) = !decide (c < 0) := by rw [Bool.eq_iff_iff]; simp
  have g4 : decide (c ≤ 512) = !decide (512 < c) := by rw [Bool.eq_iff_iff]; simp
  rw [← g1, ← g2, ← g3, ← g4]
  clear g1 g2 g3 g4
  cases h1 : decide (0 ≤ r)
  case false =>
    go_enter Try.func57, Try.ntmps57
    go_wp2
    go_ret
    exact ⟨rfl, (Below.refl _ _).alloc (Nat.le_refl _) _⟩
  case true =>
  cases h2 : decide (r ≤ 512)
  case false =>
    go_enter Try.func57, Try.ntmps57
    go_wp2
    go_ret
    exact ⟨rfl, (Below.refl _ _).alloc (Nat.le_refl _) _⟩
  case true =>
  cases h3 : decide (0 ≤ c)
  case false =>
    go_enter Try.func57, Try.ntmps57
    go_wp2
    go_ret
    exact ⟨rfl, (Below.refl _ _).alloc (Nat.le_refl _) _⟩
  case true =>
  cases h4 : decide (c ≤ 512)
  case false =>
    go_enter Try.func57, Try.ntmps57
    go_wp2
    go_ret
    exact ⟨rfl, (Below.refl _ _).alloc (Nat.le_refl _) _⟩
  case true =>
    simp only [decide_eq_true_eq] at h1 h2 h3 h4
    obtain ⟨R, rfl⟩ := Int.eq_ofNat_of_zero_le h1
    obtain ⟨C, rfl⟩ := Int.eq_ofNat_of_zero_le h3
    have h0 : R * C ≤ 512 * 512 := Nat.mul_le_mul (by omega) (by omega)
    have e0 : ((R * C : Nat) : Int) = (R : Int) * (C : Int) := Int.natCast_mul _ _
    have k1 : (R : Int) * (C : Int) ≤ 9223372036854775807 := by rw [← e0]; omega
    have k2 : (0 : Int) ≤ (R : Int) * (C : Int) := Int.mul_nonneg (Int.natCast_nonneg _) (Int.natCast_nonneg _)
    have k3 : ((n : Int) == (R : Int) * (C : Int)) = decide ((n : Int) = (R : Int) * (C : Int)) := by rw [Bool.eq_iff_iff]; simp
    have d1 : decide ((0 : Int) ≤ (R : Int)) = true := by simp
    have d2 : decide ((R : Int) ≤ 512) = true := by simp; omega
    have d3 : decide ((0 : Int) ≤ (C : Int)) = true := by simp
    have d4 : decide ((C : Int) ≤ 512) = true := by simp; omega
    clear e0 h0
    cases hd : decide ((n : Int) = (R : Int) * (C : Int))
    all_goals
      rw [hd] at k3
      clear hd
      go_enter Try.func57, Try.ntmps57
      go_wp2
      go_ret
      exact ⟨rfl, (Below.refl _ _).alloc (Nat.le_refl _) _⟩

/-- Are two matrices the same? -/
def sameM (r c : Int) (xs : List Nat) (r' c' : Int) (ys : List Nat) : Bool := decide (r = r') && decide (c = c') && sameFs xs ys
set_option maxHeartbeats 2000000 in
theorem SameMatrix_any (w : World) (r c r' c' : Int) (a b : Option Addr) (xs ys : List Nat) (ca cb : Nat) (hX : Cel w a xs) (hY : Cel w b ys) (hwx : Words xs) (hwy : Words ys) (hlx : xs.length ≤ maxLen) (hly : ys.length ≤ maxLen) :
    Calls Try.prog 75 #[.agg #[.int .i64 r, .int .i64 c, .slice a xs.length ca], .agg #[.int .i64 r', .int .i64 c', .slice b ys.length cb]] w fun e w' => e = .returned (.bool (sameM r c xs r' c' ys)) ∧ Below w.heap.size w w' := by
  have HS := Lib.hid (fun (W : World) (hB : Below w.heap.size w W) => SameFloats_any W a b xs ys ca cb (hX.below hB) (hY.below hB) hwx hwy hlx hly)
  have e0 : sameM r c xs r' c' ys = (decide (r = r') && decide (c = c') && sameFs xs ys) := rfl
  have t1 : (r == r') = decide (r = r') := by rw [Bool.eq_iff_iff]; simp
  have t2 : (c == c') = decide (c = c') := by rw [Bool.eq_iff_iff]; simp
  have hB0 : Below w.heap.size w ((w.alloc (.cells #[.int .i64 r, .int .i64 c, .slice a xs.length ca] 24)).alloc (.cells #[.int .i64 r', .int .i64 c', .slice b ys.length cb] 24)) := ((Below.refl _ _).alloc (Nat.le_refl _) _).alloc (by simp) _
  rw [e0]
  clear e0 hX hY
  cases d1 : decide (r = r')
  case false =>
    rw [d1] at t1
    clear d1 t2
    go_enter Try.func75, Try.ntmps75
    go_wp2
    go_ret
    exact ⟨rfl, hB0⟩
  case true =>
  cases d2 : decide (c = c')
  case false =>
    rw [d1] at t1
    rw [d2] at t2
    clear d1 d2
    go_enter Try.func75, Try.ntmps75
    go_wp2
    go_ret
    exact ⟨rfl, hB0⟩
  case true =>
    rw [d1] at t1
    rw [d2] at t2
    clear d1 d2
    go_enter Try.func75, Try.ntmps75
    go_wp2_with fail
    refine (HS.out _ hB0).mono ?_
    rintro e w1 ⟨rfl, hb1⟩
    go_wp2
    go_ret
    exact ⟨by simp, below_step hB0 hB0.size hb1⟩

theorem Cel.ofBox {w : World} {n : Nat} {zs : List Nat} (h : Box w n (zs.map (Value.float .f64))) : Cel w (some ⟨n, 0, none⟩) zs := fun _ => by
  refine ⟨n, 0, rfl, h.lt, fun i v hv => ?_⟩
  rw [h.cell]
  simp [hv]
end Go.Proofs.Ytbcdpibcieadlaa

/- Layer 8: sums of products over function values. No condition but on lengths. -/
namespace Go.Proofs.Ytbcdpibcieadlaa
open Go Go.RowKit
set_option maxRecDepth 100000

/-- A function value that tells floats, in every world grown from w. -/
def Fnk (w : World) (v : Value) (lo hi : Nat) (g : Nat → Nat) : Prop :=
  ∃ f first cap, v = .func (.func f) first cap ∧ Enters Try.prog f ∧ ∀ (k : Nat) W, lo ≤ k → k < hi → Below w.heap.size w W → Calls Try.prog f (first.push (.int .i64 k) ++ cap) W fun e w' => (∃ s, e = .returned (.float .f64 (raw (g k) s))) ∧ Below W.heap.size W w'
/-- Products, added up from one place on. -/
def sumG (x y : Nat → Nat) (lo : Nat) : Nat → Nat
  | 0 => 0
  | n + 1 => fadd (sumG x y lo n) (fmul (x (lo + n)) (y (lo + n)))
set_option maxHeartbeats 4000000 in
theorem sum_any (w : World) (lo hi : Nat) (fx fy : Value) (x y : Nat → Nat) (hx : Fnk w fx lo hi x) (hy : Fnk w fy lo hi y) (hh : hi ≤ 1000000) :
    Calls Try.prog 66 #[.int .i64 lo, .int .i64 hi, fx, fy] w fun e w' => (∃ s, e = .returned (.float .f64 (raw (sumG x y lo (hi - lo)) s))) ∧ Below w.heap.size w w' := by
  obtain ⟨f1, a1, c1, rfl, E1, h1⟩ := hx
  obtain ⟨f2, a2, c2, rfl, E2, h2⟩ := hy
  have HE := Lib.hid (And.intro E1 E2)
  have H1 := Lib.hid h1
  have H2 := Lib.hid h2
  clear h1 h2 E1 E2
  go_enter Try.func66, Try.ntmps66
  go_wp2_with fail
  go_loopw [9, 10] (fun s9 s10 wr => ∃ k s : Nat, (k ≤ hi ∨ k = lo) ∧ lo ≤ k ∧ s9 = .float .f64 (raw (sumG x y lo (k - lo)) s) ∧ s10 = .int .i64 k ∧ Below w.heap.size w wr) (fun _ s10 _ => hi - (intOf s10).toNat)
  case atStart => exact ⟨lo, 0, .inr rfl, Nat.le_refl _, by rw [Nat.sub_self, sumG, raw_of_not (by kernel_rfl)], rfl, Below.refl _ _⟩
  case round =>
    obtain ⟨k, s, hk, hlo, rfl, rfl, hB⟩ := hrel
    by_cases hlt : k < hi
    · have HB := Lib.hid (show _ ∧ _ ∧ _ from ⟨hB, hlt, hlo⟩)
      clear hB hk hlo
      go_wp2_with fail
      rw [HE.out.1 _ _]
      go_simp
      refine (H1.out k wr HB.out.2.2 HB.out.2.1 HB.out.1).mono ?_
      rintro e w1 ⟨⟨s1, rfl⟩, hb1⟩
      have hB1 := below_step HB.out.1 HB.out.1.size hb1
      dsimp only
      go_wp2_with fail
      rw [HE.out.2 _ _]
      go_simp
      refine (H2.out k w1 HB.out.2.2 HB.out.2.1 hB1).mono ?_
      rintro e w2 ⟨⟨s2, rfl⟩, hb2⟩
      have hB2 := below_step hB1 hB1.size hb2
      dsimp only
      go_wp2_with (first | (fail) | (refine wpList_flt rfl rfl rfl rfl rfl ?_; intro K hK _ _; go_frame; refine hK _ _ ?_; clear hK K))
      go_roundw
      case rel => exact ⟨k + 1, _, .inl HB.out.2.1, by have := HB.out.2.2; omega, by rw [show k + 1 - lo = (k - lo) + 1 from by have := HB.out.2.2; omega, sumG, show lo + (k - lo) = k from by have := HB.out.2.2; omega]; simp only [fadd_rawl, fadd_rawr, fmul_rawl, fmul_rawr]; rfl, by go_num, below_drewN _ (below_step hB1 hB1.size hb2)⟩
      case measure => have := HB.out.2.1; simp [intOf]; omega
    · have e : k - lo = hi - lo := by omega
      rw [e]
      have HB := Lib.hid hB
      clear hB hk hlo e
      go_wp2_with fail
      go_ret
      exact ⟨⟨s, rfl⟩, HB.out⟩
end Go.Proofs.Ytbcdpibcieadlaa

/- Layer 8: views that are some, that are vectors. No condition but on lengths. -/
namespace Go.Proofs.Ytbcdpibcieadlaa
open Go Go.RowKit
set_option maxRecDepth 100000

/-- A view's cells. -/
def Vw.cs (v : Vw) : List Value := [.pointer v.p, .int .i64 v.r, .int .i64 v.c, .int .i64 v.o, .int .i64 v.d, .int .i64 v.u]
theorem cs_at (vs : List Vw) : ∀ (i : Nat) (v : Vw), vs[i]? = some v → ∀ k, k < 6 → (vs.flatMap Vw.cs)[i * 6 + k]? = v.cs[k]? := by
  induction vs with
  | nil => intro i v h; simp at h
  | cons u vs ih =>
    intro i v h k hk
    have hl : u.cs.length = 6 := rfl
    rw [List.flatMap_cons]
    cases i with
    | zero =>
      simp only [List.getElem?_cons_zero, Option.some.injEq] at h
      subst h
      rw [Nat.zero_mul, Nat.zero_add, List.getElem?_append_left (by rw [hl]; exact hk)]
    | succ i =>
      rw [List.getElem?_cons_succ] at h
      rw [List.getElem?_append_right (by rw [hl]; omega), hl, show (i + 1) * 6 + k - 6 = i * 6 + k by omega]
      exact ih i v h k hk
theorem same_none (v : Vw) {w : World} {sb : Nat} {ws : List Nat} (h : v.Ok w sb ws) : sameV v Vw.none ws [] = v.p.isNone := by
  rcases h with h | ⟨⟨st, h, _⟩, _⟩
  · subst h; rfl
  · unfold sameV; rw [h]; rfl
set_option maxHeartbeats 4000000 in
theorem there_any (w : World) (b : Nat) (vs : List Vw) (hb : Box w b (vs.flatMap Vw.cs)) (hok : ∀ v ∈ vs, ∃ sb ws, v.Ok w sb ws) (hl : vs.length ≤ 100) :
    Calls Try.prog 103 #[.slice (some ⟨b, 0, none⟩) vs.length vs.length] w fun e w' => e = .returned (.bool (vs.all fun v => v.p.isSome)) ∧ Below w.heap.size w w' := by
  obtain ⟨R, hR⟩ : ∃ R, R = (vs.all fun v => v.p.isSome) := ⟨_, rfl⟩
  rw [← hR]
  have HR := Lib.hid hR
  have HB := Lib.hid (And.intro hb hok)
  have hbl := hb.lt
  clear hR hb hok
  go_enter Try.func103, Try.ntmps103
  go_wp2_with fail
  go_loopw [7] (fun s7 wr => ∃ i : Nat, i ≤ vs.length ∧ s7 = .int .i64 i ∧ (∀ v ∈ vs.take i, v.p.isSome = true) ∧ Below w.heap.size w wr) (fun s7 _ => vs.length - (intOf s7).toNat)
  case atStart => exact ⟨0, Nat.zero_le _, rfl, fun v hv => by simp at hv, Below.refl _ _⟩
  case round =>
    obtain ⟨i, hi, rfl, hall, hBr⟩ := hrel
    by_cases hlt : i < vs.length
    · obtain ⟨v, hv⟩ : ∃ v, vs[i]? = some v := ⟨vs[i], List.getElem?_eq_getElem hlt⟩
      have hc := fun k hk => (((HB.out.1.below hBr).cell (i * 6 + k)).trans (cs_at vs i v hv k hk))
      have c0 : wr.cell? ⟨b, i * 6, none⟩ = some (.pointer v.p) := hc 0 (by decide)
      have c1 : wr.cell? ⟨b, i * 6 + 1, none⟩ = some (.int .i64 v.r) := hc 1 (by decide)
      have c2 : wr.cell? ⟨b, i * 6 + 2, none⟩ = some (.int .i64 v.c) := hc 2 (by decide)
      have c3 : wr.cell? ⟨b, i * 6 + 3, none⟩ = some (.int .i64 v.o) := hc 3 (by decide)
      have c4 : wr.cell? ⟨b, i * 6 + 4, none⟩ = some (.int .i64 v.d) := hc 4 (by decide)
      have c5 : wr.cell? ⟨b, i * 6 + 5, none⟩ = some (.int .i64 v.u) := hc 5 (by decide)
      have HBr := Lib.hid (show _ ∧ _ ∧ _ ∧ _ from ⟨hBr, hall, hlt, hv⟩)
      have hbr := Nat.lt_of_lt_of_le hbl hBr.size
      clear hc hall hv hi hBr
      obtain ⟨sb, ws, hok⟩ := HB.out.2 v (List.mem_of_getElem? HBr.out.2.2.2)
      have hbA : Below wr.heap.size wr (wr.alloc (.cells #[.pointer v.p, .int .i64 v.r, .int .i64 v.c, .int .i64 v.o, .int .i64 v.d, .int .i64 v.u] 29)) := (Below.refl _ _).alloc (Nat.le_refl _) _
      have hB1 := below_step HBr.out.1 HBr.out.1.size hbA
      have HS := Lib.hid (same_none v hok ▸ Same_any _ v Vw.none sb 0 ws [] (hok.below hB1) (.inl rfl))
      have HB1 := Lib.hid hB1
      clear hok hbA hB1
      go_wp2_with fail
      refine HS.out.mono ?_
      rintro e w1 ⟨rfl, hb1⟩
      have HB2 := Lib.hid (below_step HB1.out HB1.out.size hb1)
      clear HS hb1 HB1 c0 c1 c2 c3 c4 c5
      cases hp : v.p with
      | none =>
        have hf : R = false := by
          rw [HR.out, List.all_eq_false]
          exact ⟨v, List.mem_of_getElem? HBr.out.2.2.2, by rw [hp]; decide⟩
        subst hf
        simp only [Option.isNone_none, Option.isNone_some]
        go_wp2_with fail
        go_ret
        exact ⟨rfl, HB2.out⟩
      | some q =>
        have HP := Lib.hid hp
        simp only [Option.isNone_none, Option.isNone_some]
        clear hp
        go_wp2_with fail
        go_roundw
        case rel => exact ⟨i + 1, HBr.out.2.2.1, by go_num, fun u hu => by
          rw [List.take_succ_eq_append_getElem HBr.out.2.2.1, List.mem_append, List.mem_singleton] at hu
          rcases hu with hu | hu
          · exact HBr.out.2.1 u hu
          · have h1 := HBr.out.2.2.2
            rw [List.getElem?_eq_getElem HBr.out.2.2.1, Option.some.injEq] at h1
            rw [hu, h1, HP.out]; rfl, HB2.out⟩
        case measure => have := HBr.out.2.2.1; simp [intOf]; omega
    · obtain rfl : i = vs.length := by omega
      have ht : R = true := by
        rw [HR.out, List.all_eq_true]
        intro v hv
        exact hall v (by rw [List.take_length]; exact hv)
      subst ht
      have HBr := Lib.hid hBr
      clear hall hBr
      go_wp2_with fail
      go_ret
      exact ⟨rfl, HBr.out⟩
set_option maxHeartbeats 4000000 in
theorem vectors_any (w : World) (n : Int) (b : Nat) (vs : List Vw) (hb : Box w b (vs.flatMap Vw.cs)) (hok : ∀ v ∈ vs, v.r ≤ 512 ∧ v.c ≤ 512) (hl : vs.length ≤ 100) :
    Calls Try.prog 64 #[.int .i64 n, .slice (some ⟨b, 0, none⟩) vs.length vs.length] w fun e w' => e = .returned (.bool (vs.all fun v => vecV v.p v.r v.c && decide ((lenV v.p v.r v.c : Int) = n))) ∧ Below w.heap.size w w' := by
  obtain ⟨R, hR⟩ : ∃ R, R = (vs.all fun v => vecV v.p v.r v.c && decide ((lenV v.p v.r v.c : Int) = n)) := ⟨_, rfl⟩
  rw [← hR]
  have HR := Lib.hid hR
  have HB := Lib.hid (And.intro hb hok)
  have hbl := hb.lt
  clear hR hb hok
  go_enter Try.func64, Try.ntmps64
  go_wp2_with fail
  go_loopw [9] (fun s9 wr => ∃ i : Nat, i ≤ vs.length ∧ s9 = .int .i64 i ∧ (∀ v ∈ vs.take i, (vecV v.p v.r v.c && decide ((lenV v.p v.r v.c : Int) = n)) = true) ∧ Below w.heap.size w wr) (fun s9 _ => vs.length - (intOf s9).toNat)
  case atStart => exact ⟨0, Nat.zero_le _, rfl, fun v hv => by simp at hv, Below.refl _ _⟩
  case round =>
    obtain ⟨i, hi, rfl, hall, hBr⟩ := hrel
    by_cases hlt : i < vs.length
    · obtain ⟨v, hv⟩ : ∃ v, vs[i]? = some v := ⟨vs[i], List.getElem?_eq_getElem hlt⟩
      have hc := fun k hk => (((HB.out.1.below hBr).cell (i * 6 + k)).trans (cs_at vs i v hv k hk))
      have c0 : wr.cell? ⟨b, i * 6, none⟩ = some (.pointer v.p) := hc 0 (by decide)
      have c1 : wr.cell? ⟨b, i * 6 + 1, none⟩ = some (.int .i64 v.r) := hc 1 (by decide)
      have c2 : wr.cell? ⟨b, i * 6 + 2, none⟩ = some (.int .i64 v.c) := hc 2 (by decide)
      have c3 : wr.cell? ⟨b, i * 6 + 3, none⟩ = some (.int .i64 v.o) := hc 3 (by decide)
      have c4 : wr.cell? ⟨b, i * 6 + 4, none⟩ = some (.int .i64 v.d) := hc 4 (by decide)
      have c5 : wr.cell? ⟨b, i * 6 + 5, none⟩ = some (.int .i64 v.u) := hc 5 (by decide)
      have HBr := Lib.hid (show _ ∧ _ ∧ _ ∧ _ from ⟨hBr, hall, hlt, hv⟩)
      have hbr := Nat.lt_of_lt_of_le hbl hBr.size
      have hsm := HB.out.2 v (List.mem_of_getElem? hv)
      have hbA : Below wr.heap.size wr (wr.alloc (.cells #[.pointer v.p, .int .i64 v.r, .int .i64 v.c, .int .i64 v.o, .int .i64 v.d, .int .i64 v.u] 29)) := (Below.refl _ _).alloc (Nat.le_refl _) _
      have hB1 := below_step hBr hBr.size hbA
      have hbx := Box.newA wr [.pointer v.p, .int .i64 v.r, .int .i64 v.c, .int .i64 v.o, .int .i64 v.d, .int .i64 v.u] 29 rfl
      have HV := Lib.hid (Vector_any v.p v.r v.c v.o v.d v.u (wr.alloc (.cells #[.pointer v.p, .int .i64 v.r, .int .i64 v.c, .int .i64 v.o, .int .i64 v.d, .int .i64 v.u] 29)))
      have HL := Lib.hid (fun W => Len_any v.p v.r v.c v.o v.d v.u W hsm.1 hsm.2)
      have HB1 := Lib.hid (And.intro hB1 hbx)
      have hd : ((lenV v.p v.r v.c : Int) != n) = !decide ((lenV v.p v.r v.c : Int) = n) := by rw [Bool.eq_iff_iff]; simp
      clear hc hall hv hi hBr hbA hB1 hbx hsm
      go_wp2_with fail
      refine HV.out.mono ?_
      rintro e w1 ⟨rfl, hb1⟩
      have hB2 := below_step HB1.out.1 HB1.out.1.size hb1
      have hx2 := HB1.out.2.below hb1
      obtain ⟨q1, q2, q3⟩ := hx2.facts
      have HB2 := Lib.hid hB2
      clear HV hb1 HB1 c0 c1 c2 c3 c4 c5 hB2 hx2
      cases hv : vecV v.p v.r v.c with
      | false =>
        have hf : R = false := by
          rw [HR.out, List.all_eq_false]
          exact ⟨v, List.mem_of_getElem? HBr.out.2.2.2, by rw [hv]; simp⟩
        subst hf
        go_wp2_with fail
        go_ret
        exact ⟨rfl, HB2.out⟩
      | true =>
        have HP := Lib.hid hv
        clear hv
        go_wp2_with fail
        refine (HL.out _).mono ?_
        rintro e w3 ⟨rfl, hb3⟩
        have HB3 := Lib.hid (below_step HB2.out HB2.out.size hb3)
        clear hb3 HB2 q1 q2 q3 HL
        cases hn : decide ((lenV v.p v.r v.c : Int) = n) with
        | false =>
          rw [hn] at hd
          have hf : R = false := by
            rw [HR.out, List.all_eq_false]
            exact ⟨v, List.mem_of_getElem? HBr.out.2.2.2, by rw [hn, HP.out]; decide⟩
          subst hf
          clear hn
          go_wp2_with fail
          go_ret
          exact ⟨rfl, HB3.out⟩
        | true =>
          rw [hn] at hd
          have HQ := Lib.hid hn
          clear hn
          go_wp2_with fail
          go_roundw
          case rel => exact ⟨i + 1, HBr.out.2.2.1, by go_num, fun u hu => by
            rw [List.take_succ_eq_append_getElem HBr.out.2.2.1, List.mem_append, List.mem_singleton] at hu
            rcases hu with hu | hu
            · exact HBr.out.2.1 u hu
            · have h1 := HBr.out.2.2.2
              rw [List.getElem?_eq_getElem HBr.out.2.2.1, Option.some.injEq] at h1
              rw [hu, h1, HP.out, HQ.out]; rfl, HB3.out⟩
          case measure => have := HBr.out.2.2.1; simp [intOf]; omega
    · obtain rfl : i = vs.length := by omega
      have ht : R = true := by
        rw [HR.out, List.all_eq_true]
        intro v hv
        exact hall v (by rw [List.take_length]; exact hv)
      subst ht
      have HBr := Lib.hid hBr
      clear hall hBr
      go_wp2_with fail
      go_ret
      exact ⟨rfl, HBr.out⟩
/-- Why views don't do. -/
def openE (vs : List Vw) (fits : Bool) : Int := if (vs.all fun v => v.p.isSome) then (if fits then 0 else 8) else 1
set_option maxHeartbeats 4000000 in
theorem open_any (w : World) (f : FuncId) (cap : Array Value) (b : Nat) (vs : List Vw) (fits : Bool) (hb : Box w b (vs.flatMap Vw.cs)) (hok : ∀ v ∈ vs, ∃ sb ws, v.Ok w sb ws) (hl : vs.length ≤ 100) (hE : Enters Try.prog f)
    (hf : (vs.all fun v => v.p.isSome) = true → ∀ W, Below w.heap.size w W → Calls Try.prog f cap W fun e w' => e = .returned (.bool fits) ∧ Below W.heap.size W w') :
    Calls Try.prog 61 #[.func (.func f) #[] cap, .slice (some ⟨b, 0, none⟩) vs.length vs.length] w fun e w' => e = .returned (.int .i64 (openE vs fits)) ∧ Below w.heap.size w w' := by
  have HT := Lib.hid (there_any w b vs hb hok hl)
  have HE := Lib.hid hE
  unfold openE
  generalize (vs.all fun v => v.p.isSome) = R at *
  clear hb hok hE hl
  cases R
  · clear hf
    go_enter Try.func61, Try.ntmps61
    go_wp2_with fail
    refine HT.out.mono ?_
    rintro e w1 ⟨rfl, hb1⟩
    dsimp only
    go_wp2_with fail
    go_ret
    exact ⟨rfl, hb1⟩
  · have HF := Lib.hid (hf rfl)
    clear hf
    go_enter Try.func61, Try.ntmps61
    go_wp2_with fail
    refine HT.out.mono ?_
    rintro e w1 ⟨rfl, hb1⟩
    have HB1 := Lib.hid hb1
    clear hb1
    dsimp only
    go_wp2_with fail
    rw [HE.out _ _]
    go_simp
    refine (HF.out w1 HB1.out).mono ?_
    rintro e w2 ⟨rfl, hb2⟩
    have HB2 := Lib.hid (below_step HB1.out HB1.out.size hb2)
    clear hb2
    dsimp only
    cases fits
    all_goals
      go_wp2_with fail
      go_ret
      exact ⟨rfl, HB2.out⟩
set_option maxHeartbeats 4000000 in
theorem open_anyM (w : World) (f : FuncId) (first : Array Value) (b : Nat) (vs : List Vw) (fits : Bool) (hb : Box w b (vs.flatMap Vw.cs)) (hok : ∀ v ∈ vs, ∃ sb ws, v.Ok w sb ws) (hl : vs.length ≤ 100) (hE : Enters Try.prog f)
    (hf : (vs.all fun v => v.p.isSome) = true → ∀ W, Below w.heap.size w W → Calls Try.prog f first W fun e w' => e = .returned (.bool fits) ∧ Below W.heap.size W w') :
    Calls Try.prog 61 #[.func (.func f) first #[], .slice (some ⟨b, 0, none⟩) vs.length vs.length] w fun e w' => e = .returned (.int .i64 (openE vs fits)) ∧ Below w.heap.size w w' := by
  have HT := Lib.hid (there_any w b vs hb hok hl)
  have HE := Lib.hid hE
  unfold openE
  generalize (vs.all fun v => v.p.isSome) = R at *
  clear hb hok hE hl
  cases R
  · clear hf
    go_enter Try.func61, Try.ntmps61
    go_wp2_with fail
    refine HT.out.mono ?_
    rintro e w1 ⟨rfl, hb1⟩
    dsimp only
    go_wp2_with fail
    go_ret
    exact ⟨rfl, hb1⟩
  · have HF := Lib.hid (hf rfl)
    clear hf
    go_enter Try.func61, Try.ntmps61
    go_wp2_with fail
    refine HT.out.mono ?_
    rintro e w1 ⟨rfl, hb1⟩
    have HB1 := Lib.hid hb1
    clear hb1
    dsimp only
    go_wp2_with fail
    rw [HE.out _ _]
    go_simp
    refine (HF.out w1 HB1.out).mono ?_
    rintro e w2 ⟨rfl, hb2⟩
    have HB2 := Lib.hid (below_step HB1.out HB1.out.size hb2)
    clear hb2
    dsimp only
    cases fits
    all_goals
      go_wp2_with fail
      go_ret
      exact ⟨rfl, HB2.out⟩
end Go.Proofs.Ytbcdpibcieadlaa

/- Regions that draw their order: operations that yield the same in every world of a class are taken first, in an order told; then others, one by one, that may change the world within the class; then a tail in one order. Conditions: none of the region's own; the class is kept by the operations that are carried out ahead of the tail. -/
namespace Go.Proofs.Ytbcdpibcieadlaa
open Go Go.RowKit
section
variable {P : Program} {ops : Array Oper} {Q : Exit → Act → World → Prop} {md : Region.Mode} {S : World → Prop} {n : Nat} {L : Array Bool → Act → World → Prop}

def wpAnyS (P : Program) (md : Region.Mode) (ops : Array Oper) (Q : Exit → Act → World → Prop) (S : World → Prop) (n : Nat) (L : Array Bool → Act → World → Prop) : Nat → Array Bool → Act → World → Prop
  | 0, listed, a, w => L listed a w
  | f + 1, listed, a, w =>
    Region.ready md ops listed ≠ [] ∧ ∀ i ∈ Region.ready md ops listed, i < n ∧ wpOp P ops Q i (fun a' w' => S w' ∧ wpAnyS P md ops Q S n L f (listed.setIfInBounds i true) a' w') a w

theorem wpAny_of_S {g : Nat} (hL : ∀ listed a w, L listed a w → wpAny P md ops Q g listed a w) :
    ∀ (f : Nat) (listed : Array Bool) (a : Act) (w : World), wpAnyS P md ops Q S n L f listed a w → wpAny P md ops Q (f + g) listed a w
  | 0, listed, a, w, h => by rw [Nat.zero_add]; exact hL _ _ _ h
  | f + 1, listed, a, w, h => by
    rw [show f + 1 + g = (f + g) + 1 by omega]
    exact ⟨fun h0 => absurd h0 h.1, fun i hi => wpOp_mono (fun a' w' h' => wpAny_of_S hL f _ a' w' h'.2) (h.2 i hi).2⟩

theorem wpAnyS_first {i : Nat} {oi : Oper} {v : Value} (hi : ops[i]? = some oi) (hsel : ∀ (j : Nat) (o : Oper) cs b, ops[j]? = some o → o.op ≠ .select cs b)
    (hQ : ∀ c a w, Q (.panic c) (a.put oi.dst v) w → Q (.panic c) a w)
    (hs : Region.sinkB md ops n = true) (hc : Region.chainB md ops n = true) (hn : n < ops.size) (hin : i < n)
    (hdone : ∀ listed a w, L listed a w → ∀ j ∈ Region.ready md ops listed, n ≤ j) :
    ∀ (f : Nat) (listed : Array Bool) (a : Act) (w : World), HeadInv md ops n listed →
      (∀ j oj, ops[j]? = some oj → j ≠ i → listed.getD j true = false → (∀ e ∈ oj.after, Region.binds md e = true → e.on ≠ i) → oi.apart ops oj = true) →
      i ∈ Region.ready md ops listed → YieldsIf P ops S oi v a → S w →
      wpAnyS P md ops Q S n L f (listed.setIfInBounds i true) (a.put oi.dst v) w → wpAnyS P md ops Q S n L (f + 1) listed a w := by
  intro f
  induction f with
  | zero =>
    intro listed a w inv _ hr hy hS H
    have hun := (mem_ready.1 hr).1
    refine ⟨fun h => (by rw [h] at hr; cases hr), fun j hj => ?_⟩
    have hjn : j < n := by
      rcases Nat.lt_or_ge j n with h | h
      · exact h
      · exact absurd hj (tail_waits hs hc hn inv _ i rfl hin hun j h)
    refine ⟨hjn, ?_⟩
    by_cases hji : j = i
    · subst hji; exact hy.wpOp hi hS ⟨hS, H⟩
    · have := hdone _ _ _ H j (ready_mono hj hji)
      omega
  | succ f ih =>
    intro listed a w inv hfree hr hy hS H
    have hun := (mem_ready.1 hr).1
    refine ⟨fun h => (by rw [h] at hr; cases hr), fun j hj => ?_⟩
    have hjn : j < n := by
      rcases Nat.lt_or_ge j n with h | h
      · exact h
      · exact absurd hj (tail_waits hs hc hn inv _ i rfl hin hun j h)
    refine ⟨hjn, ?_⟩
    by_cases hji : j = i
    · subst hji; exact hy.wpOp hi hS ⟨hS, H⟩
    · have h1 := (H.2 j (ready_mono hj hji)).2
      obtain ⟨hjun, oj, hoj, hall⟩ := mem_ready.1 hj
      have hnot : ∀ e ∈ oj.after, Region.binds md e = true → e.on ≠ i := fun e he hb heq => by
        have h1 := hall e he hb
        rw [heq, getD_both hun] at h1
        cases h1
      have h2 := wpOp_putIf hoj (hfree j oj hoj hji hjun hnot) (fun cs b => hsel i oi cs b hi) (fun cs b => hsel j oj cs b hoj) hQ hy h1
      have hfree' : ∀ k ok, ops[k]? = some ok → k ≠ i → (listed.setIfInBounds j true).getD k true = false →
          (∀ e ∈ ok.after, Region.binds md e = true → e.on ≠ i) → oi.apart ops ok = true := fun k ok hk hki hun hno => by
        refine hfree k ok hk hki ?_ hno
        by_cases hjk : j = k
        · subst hjk; exact hjun
        · rw [getD_set_ne true hjk] at hun; exact hun
      refine wpOp_mono (fun a' w' h3 => ⟨h3.2.1, ih (listed.setIfInBounds j true) a' w' (inv.set hj hjn) hfree' (ready_mono hr (Ne.symm hji)) h3.1 h3.2.1 ?_⟩) h2
      rw [Array.setIfInBounds_comm _ _ hji]
      exact h3.2.2

/-- The operations taken first; those that follow one by one; the tail. -/
def midB (md : Region.Mode) (ops : Array Oper) (n : Nat) : List Nat → Array Bool → Bool
  | [], listed => Region.seqB md ops (ops.size - n) n listed
  | m :: ms, listed => decide (Region.ready md ops listed = [m]) && decide (m < n) && midB md ops n ms (listed.setIfInBounds m true)
def headB (md : Region.Mode) (ops : Array Oper) (n : Nat) (ms : List Nat) : List Nat → Array Bool → Bool
  | [], listed => midB md ops n ms listed
  | p :: ps, listed => (Region.ready md ops listed).contains p && Region.free md ops listed p && decide (p < n) && headB md ops n ms ps (listed.setIfInBounds p true)

def pW (P : Program) (ops : Array Oper) (S : World → Prop) (K : Act → Prop) : List Nat → Act → Prop
  | [], a => K a
  | i :: l, a => ∃ o, ops.toList[i]? = some o ∧ ∃ v, YieldsIf P ops S o v a ∧ pW P ops S K l (a.put o.dst v)
def mW (P : Program) (ops : Array Oper) (Q : Exit → Act → World → Prop) (S : World → Prop) (K : Act → World → Prop) : List Nat → Act → World → Prop
  | [], a, w => K a w
  | i :: l, a, w => ∃ o, ops.toList[i]? = some o ∧ Region.wanted o (yielded ops a.tmps) = true ∧ Oper.wp P o a w (fun a' w' => S w' ∧ mW P ops Q S K l a' w') Q

theorem pW_take {K : Act → Prop} {i : Nat} {l : List Nat} {a : Act} {o : Oper} {v : Value} (ho : ops.toList[i]? = some o) (hw : Region.wanted o (yielded ops a.tmps) = true) (hv : ∀ w, S w → (execOp a.eval o).run P w = .ok (.value v) w)
    (h : pW P ops S K l (a.put o.dst v)) : pW P ops S K (i :: l) a := ⟨o, ho, v, .inl ⟨hw, hv⟩, h⟩
theorem pW_skip {K : Act → Prop} {i : Nat} {l : List Nat} {a : Act} {o : Oper} (ho : ops.toList[i]? = some o) (hw : Region.wanted o (yielded ops a.tmps) = false) (h : pW P ops S K l (a.put o.dst undef)) : pW P ops S K (i :: l) a := ⟨o, ho, undef, .inr ⟨hw, rfl⟩, h⟩
theorem pW_nil {K : Act → Prop} {a : Act} (h : K a) : pW P ops S K [] a := h
theorem mW_take {K : Act → World → Prop} {i : Nat} {l : List Nat} {a : Act} {w : World} {o : Oper} (ho : ops.toList[i]? = some o) (hg : Region.wanted o (yielded ops a.tmps) = true) (h : Oper.wp P o a w (fun a' w' => S w' ∧ mW P ops Q S K l a' w') Q) : mW P ops Q S K (i :: l) a w := ⟨o, ho, hg, h⟩
theorem mW_nil {K : Act → World → Prop} {a : Act} {w : World} (h : K a w) : mW P ops Q S K [] a w := h
theorem wpAnyS_mid {K : Act → World → Prop} : ∀ (ms : List Nat) (listed : Array Bool) (a : Act) (w : World), midB md ops n ms listed = true →
    mW P ops Q S K ms a w → wpAnyS P md ops Q S n (fun listed a w => Region.seqB md ops (ops.size - n) n listed = true ∧ K a w) ms.length listed a w
  | [], listed, a, w, hB, h => ⟨by simpa only [midB] using hB, h⟩
  | m :: ms, listed, a, w, hB, h => by
    simp only [midB, Bool.and_eq_true, decide_eq_true_eq] at hB
    obtain ⟨⟨hr, hmn⟩, hB⟩ := hB
    obtain ⟨o, ho', hg, hw⟩ := h
    have ho : ops[m]? = some o := by simpa using ho'
    refine ⟨by rw [hr]; simp, fun i hi => ?_⟩
    rw [hr] at hi
    obtain rfl : i = m := by simpa using hi
    refine ⟨hmn, ?_⟩
    unfold wpOp
    simp only [ho]
    rw [if_pos hg]
    exact .inl (Oper.wp_mono (fun a' w' h' => ⟨h'.1, wpAnyS_mid ms _ a' w' hB h'.2⟩) hw)

theorem wpAnyS_walk {K : Act → World → Prop} {w : World} (hsel : Region.noSelect ops = true) (hQ : ∀ c a d v w, Q (.panic c) (Act.put a d v) w → Q (.panic c) a w)
    (hs : Region.sinkB md ops n = true) (hc : Region.chainB md ops n = true) (hn : n < ops.size) (hS : S w) (ms : List Nat) :
    ∀ (ps : List Nat) (listed : Array Bool) (a : Act), HeadInv md ops n listed → headB md ops n ms ps listed = true →
    pW P ops S (fun a' => mW P ops Q S K ms a' w) ps a → wpAnyS P md ops Q S n (fun listed a w => Region.seqB md ops (ops.size - n) n listed = true ∧ K a w) (ps.length + ms.length) listed a w
  | [], listed, a, inv, hB, h => by
    rw [List.length_nil, Nat.zero_add]
    exact wpAnyS_mid ms listed a w hB h
  | p :: ps, listed, a, inv, hB, h => by
    simp only [headB, Bool.and_eq_true, decide_eq_true_eq] at hB
    obtain ⟨⟨⟨hr, hf⟩, hpn⟩, hB⟩ := hB
    obtain ⟨o, ho', v, hy, hK⟩ := h
    have ho : ops[p]? = some o := by simpa using ho'
    have hr' : p ∈ Region.ready md ops listed := by simpa using hr
    rw [show (p :: ps).length + ms.length = (ps.length + ms.length) + 1 by simp; omega]
    exact wpAnyS_first ho (Region.noSelect_spec hsel) (fun c a w => hQ c a _ _ w) hs hc hn hpn (fun listed' a' w' hL => seqB_ready hL.1) _ listed a w inv (Region.free_spec ho hf) hr' hy hS
      (wpAnyS_walk hsel hQ hs hc hn hS ms ps _ _ (inv.set hr' hpn) hB hK)

def firstB (l : List Oper) (n : Nat) (ps ms : List Nat) : Bool :=
  Region.noSelect l.toArray && decide (n < l.toArray.size) && decide (n = ps.length + ms.length) && Region.sinkB .any l.toArray n && Region.chainB .any l.toArray n && headB .any l.toArray n ms ps (Array.replicate l.toArray.size false)

theorem wp_region_first0 {id : Nat} {a : Act} {w : World} {l : List Oper} (n : Nat) (ps ms : List Nat) (S : World → Prop) (hm : P.follows .mixedOrders = true) (hB : firstB l n ps ms = true)
    (hQ : ∀ c a d v w, Q (.panic c) (Act.put a d v) w → Q (.panic c) a w) (hS : S w.drew)
    (h : pW P l.toArray S (fun a' => mW P l.toArray Q S (fun a'' w'' => wpList P l.toArray Q (l.drop n) a'' w'') ms a' w.drew) ps a) : (Code.region id l.toArray true).wp P Q a w := by
  simp only [firstB, Bool.and_eq_true, decide_eq_true_eq] at hB
  obtain ⟨⟨⟨⟨⟨hsel, hn⟩, hlen⟩, hs⟩, hc⟩, hH⟩ := hB
  refine wp_region_any hm ?_
  have hsz : l.toArray.size = (ps.length + ms.length) + (l.toArray.size - n) := by omega
  have inv : HeadInv .any l.toArray n (Array.replicate l.toArray.size false) :=
    ⟨by simp, fun j oj _ hl => (by rw [getD_replicate_false] at hl; cases hl), fun t _ ht => getD_in (by rw [Array.size_replicate]; exact ht) (getD_replicate_false _ _)⟩
  have hW := wpAnyS_walk hsel hQ hs hc hn hS ms ps _ a inv hH h
  refine (congrArg (fun k => wpAny P .any l.toArray Q k (Array.replicate l.toArray.size false) a w.drew) hsz).mpr ?_
  refine wpAny_of_S (fun listed a w hL => ?_) _ _ _ _ hW
  have hd : (l.drop n).length = l.toArray.size - n := by simp
  have := wpAny_of_seq (Q' := Q) (l.drop n) n listed a w (fun j => by simp) (by rw [hd]; exact hL.1) hL.2
  rw [hd] at this
  exact this
/-- **THE REGION.** -/
theorem wp_region_first {id : Nat} {a : Act} {w : World} {l : List Oper} (n : Nat) (ps ms : List Nat) (S : World → Prop) (hm : P.follows .mixedOrders = true) (hB : firstB l n ps ms = true) (hS : S w.drew)
    (h : pW P l.toArray S (fun a' => mW P l.toArray (NoPanic Q) S (fun a'' w'' => wpList P l.toArray (NoPanic Q) (l.drop n) a'' w'') ms a' w.drew) ps a) : (Code.region id l.toArray true).wp P Q a w :=
  wp_region_noPanic (wp_region_first0 n ps ms S hm hB (fun _ _ _ _ _ h => h) hS h)
end
end Go.Proofs.Ytbcdpibcieadlaa
