/- Floats of 64 bits, all NaNs being one: what the operations of the model come to, as plain functions on canonical words. No condition. -/
import Derived.Laws.FloatArith
import Derived.Laws.FloatBits
import Derived.WalkKit
import Derived.WalkLawsBesides
import Derived.Deep.Draws
import Derived.Laws.EntriesVeiled
namespace Go.Proofs.Ytbcdpibcieadlaa
open Go Go.RowKit

/-- The one NaN. -/
def qnan : Nat := 9221120237041090560
def isnan (b : Nat) : Bool := decide (9218868437227405312 < b % 9223372036854775808)
def nm (b : Nat) : Nat := if isnan b then qnan else b
def nanW (s : Nat) : Nat := (s % 2) * 9223372036854775808 + 9218868437227405312 + 1 + (s / 2) % 4503599627370495
/-- A float that is v, the NaN's bits by s. -/
def raw (v s : Nat) : Nat := if isnan v then nanW s else v

theorem isnan_qnan : isnan qnan = true := by decide
theorem isnan_nanW (s : Nat) : isnan (nanW s) = true := by
  unfold isnan nanW
  simp only [decide_eq_true_eq]
  have ha : s % 2 < 2 := Nat.mod_lt _ (by decide)
  have hb : (s / 2) % 4503599627370495 < 4503599627370495 := Nat.mod_lt _ (by decide)
  generalize s % 2 = a at *
  generalize (s / 2) % 4503599627370495 = b at *
  omega
theorem nanW_lt (s : Nat) : nanW s < 18446744073709551616 := by unfold nanW; omega
theorem isnan_nm (b : Nat) : isnan (nm b) = isnan b := by
  unfold nm
  cases h : isnan b <;> simp [h, isnan_qnan]
theorem nm_nm (b : Nat) : nm (nm b) = nm b := by
  unfold nm
  cases h : isnan b <;> simp [h, isnan_qnan]
theorem nm_of_isnan {b : Nat} (h : isnan b = true) : nm b = qnan := by simp [nm, h]
theorem nm_of_not {b : Nat} (h : isnan b = false) : nm b = b := by simp [nm, h]
theorem nm_lt {b : Nat} (h : b < 18446744073709551616) : nm b < 18446744073709551616 := by
  unfold nm; split
  · decide
  · exact h
theorem raw_lt {v : Nat} (h : v < 18446744073709551616) (s : Nat) : raw v s < 18446744073709551616 := by
  unfold raw; split
  · exact nanW_lt s
  · exact h
theorem nm_raw (v s : Nat) : nm (raw v s) = nm v := by
  unfold raw
  cases h : isnan v
  · simp
  · simp [nm, isnan_nanW, h]
theorem raw_of_not {v : Nat} (h : isnan v = false) (s : Nat) : raw v s = v := by simp [raw, h]
/-- Every word is one. -/
theorem raw_nm {b : Nat} (h : b < 18446744073709551616) : ∃ s, b = raw (nm b) s := by
  cases hn : isnan b
  · exact ⟨0, by simp [nm, raw, hn]⟩
  · refine ⟨b / 9223372036854775808 + 2 * (b % 9223372036854775808 - 9218868437227405313), ?_⟩
    have h1 : 9218868437227405312 < b % 9223372036854775808 := by simpa [isnan] using hn
    have h2 : b % 9223372036854775808 < 9223372036854775808 := Nat.mod_lt _ (by decide)
    have h3 : b = 9223372036854775808 * (b / 9223372036854775808) + b % 9223372036854775808 := (Nat.div_add_mod _ _).symm
    have h4 : b / 9223372036854775808 < 2 := by omega
    simp only [nm, raw, hn, if_true, isnan_qnan, nanW]
    generalize b / 9223372036854775808 = q at *
    generalize b % 9223372036854775808 = r at *
    have e1 : (q + 2 * (r - 9218868437227405313)) % 2 = q := by omega
    have e2 : (q + 2 * (r - 9218868437227405313)) / 2 = r - 9218868437227405313 := by omega
    rw [e1, e2, Nat.mod_eq_of_lt (by omega)]
    omega

/-! ### The model's reading of a word -/
theorem width64 : Ieee.double.signWeight = 9223372036854775808 := by decide
theorem binade64 : Ieee.double.binade = 4503599627370496 := by decide
theorem inf64 : Ieee.double.infRung = 9218868437227405312 := by decide
theorem read_nan (b : Nat) : (Ieee.double.read b).isNaN = isnan b := by
  unfold Ieee.Format.read isnan
  simp only [width64, binade64, inf64]
  split
  · simp [Ieee.Datum.isNaN]; omega
  · split
    · simp [Ieee.Datum.isNaN]; omega
    · split
      · simp [Ieee.Datum.isNaN]; omega
      · simp [Ieee.Datum.isNaN]; omega
theorem word_mod (neg : Bool) (r : Nat) (h : r ≤ 9218868437227405312) : isnan (Ieee.double.word neg r) = false := by
  unfold Ieee.Format.word isnan
  rw [width64]
  cases neg <;> simp <;> omega
theorem write_not_nan (d : Ieee.Datum) (h : d.isNaN = false) : isnan (Ieee.double.write d) = false := by
  cases d with
  | number s m e =>
    show isnan (Ieee.double.nearest s m e) = false
    unfold Ieee.Format.nearest
    dsimp only
    split
    · exact word_mod _ _ (by decide)
    · exact word_mod _ _ (by rw [inf64]; exact Nat.min_le_right ..)
  | infinity s => exact word_mod _ _ (by rw [inf64]; exact Nat.le_refl _)
  | nan s t => simp [Ieee.Datum.isNaN] at h

theorem sum_nan_left {x : Ieee.Datum} (y : Ieee.Datum) (h : x.isNaN = true) : x.sum y = none := by cases x <;> simp_all [Ieee.Datum.isNaN, Ieee.Datum.sum]
theorem sum_nan_right (x : Ieee.Datum) {y : Ieee.Datum} (h : y.isNaN = true) : x.sum y = none := by cases y <;> simp_all [Ieee.Datum.isNaN] <;> cases x <;> simp [Ieee.Datum.sum]
theorem product_nan_left {x : Ieee.Datum} (y : Ieee.Datum) (h : x.isNaN = true) : x.product y = none := by cases x <;> simp_all [Ieee.Datum.isNaN, Ieee.Datum.product]
theorem product_nan_right (x : Ieee.Datum) {y : Ieee.Datum} (h : y.isNaN = true) : x.product y = none := by cases y <;> simp_all [Ieee.Datum.isNaN] <;> cases x <;> simp [Ieee.Datum.product]
theorem quotient_nan_left {k : Nat} {x : Ieee.Datum} (y : Ieee.Datum) (h : x.isNaN = true) : x.quotient k y = none := by cases x <;> simp_all [Ieee.Datum.isNaN, Ieee.Datum.quotient]
theorem quotient_nan_right {k : Nat} (x : Ieee.Datum) {y : Ieee.Datum} (h : y.isNaN = true) : x.quotient k y = none := by cases y <;> simp_all [Ieee.Datum.isNaN] <;> cases x <;> simp [Ieee.Datum.quotient]
theorem root_nan {k : Nat} {x : Ieee.Datum} (h : x.isNaN = true) : x.root k = none := by cases x <;> simp_all [Ieee.Datum.isNaN, Ieee.Datum.root]
theorem order_nan_left {x : Ieee.Datum} (y : Ieee.Datum) (h : x.isNaN = true) : x.order y = none := by cases x <;> simp_all [Ieee.Datum.isNaN, Ieee.Datum.order]
theorem order_nan_right (x : Ieee.Datum) {y : Ieee.Datum} (h : y.isNaN = true) : x.order y = none := by cases y <;> simp_all [Ieee.Datum.isNaN] <;> cases x <;> simp [Ieee.Datum.order]
theorem opposite_nan (x : Ieee.Datum) : x.opposite.isNaN = x.isNaN := by cases x <;> rfl
theorem sum_some {x y d : Ieee.Datum} (h : x.sum y = some d) : d.isNaN = false := by
  cases x <;> cases y <;> simp only [Ieee.Datum.sum] at h <;> (try split at h) <;> cases h <;> rfl
theorem product_some {x y d : Ieee.Datum} (h : x.product y = some d) : d.isNaN = false := by
  cases x <;> cases y <;> simp only [Ieee.Datum.product] at h <;> (try split at h) <;> cases h <;> rfl
theorem quotient_some {k : Nat} {x y d : Ieee.Datum} (h : x.quotient k y = some d) : d.isNaN = false := by
  cases x <;> cases y <;> simp only [Ieee.Datum.quotient] at h <;> (repeat' split at h) <;> cases h <;> rfl
theorem root_some {k : Nat} {x d : Ieee.Datum} (h : x.root k = some d) : d.isNaN = false := by
  cases x <;> simp only [Ieee.Datum.root] at h <;> (repeat' split at h) <;> cases h <;> rfl

/-! ### The operations on canonical words -/
def fadd (x y : Nat) : Nat := (Ieee.double.add x y).getD qnan
def fsub (x y : Nat) : Nat := (Ieee.double.sub x y).getD qnan
def fmul (x y : Nat) : Nat := (Ieee.double.mul x y).getD qnan
def fdiv (x y : Nat) : Nat := (Ieee.double.div x y).getD qnan
def fsqrt (x : Nat) : Nat := (Ieee.double.sqrt x).getD qnan
def fneg (x : Nat) : Nat := nm (x ^^^ 9223372036854775808)
def flt (x y : Nat) : Bool := Ieee.double.order x y == some .lt
def fle (x y : Nat) : Bool := Ieee.double.order x y == some .lt || Ieee.double.order x y == some .eq
def feq (x y : Nat) : Bool := Ieee.double.order x y == some .eq

theorem map_write_can {o : Option Ieee.Datum} (h : ∀ d, o = some d → d.isNaN = false) : (o.map Ieee.double.write).getD qnan < 18446744073709551616 ∧ nm ((o.map Ieee.double.write).getD qnan) = (o.map Ieee.double.write).getD qnan := by
  cases o with
  | none => exact ⟨by decide, by decide⟩
  | some d => exact ⟨Ieee.Format.write_lt Ieee.double d, nm_of_not (write_not_nan d (h d rfl))⟩
theorem nm_fadd (x y : Nat) : nm (fadd x y) = fadd x y := (map_write_can (fun _ h => sum_some h)).2
theorem nm_fsub (x y : Nat) : nm (fsub x y) = fsub x y := (map_write_can (fun _ h => sum_some h)).2
theorem nm_fmul (x y : Nat) : nm (fmul x y) = fmul x y := (map_write_can (fun _ h => product_some h)).2
theorem nm_fdiv (x y : Nat) : nm (fdiv x y) = fdiv x y := (map_write_can (fun _ h => quotient_some h)).2
theorem nm_fsqrt (x : Nat) : nm (fsqrt x) = fsqrt x := (map_write_can (fun _ h => root_some h)).2
theorem nm_fneg (x : Nat) : nm (fneg x) = fneg x := nm_nm _
theorem fadd_lt (x y : Nat) : fadd x y < 18446744073709551616 := (map_write_can (fun _ h => sum_some h)).1
theorem fsub_lt (x y : Nat) : fsub x y < 18446744073709551616 := (map_write_can (fun _ h => sum_some h)).1
theorem fmul_lt (x y : Nat) : fmul x y < 18446744073709551616 := (map_write_can (fun _ h => product_some h)).1
theorem fdiv_lt (x y : Nat) : fdiv x y < 18446744073709551616 := (map_write_can (fun _ h => quotient_some h)).1
theorem fsqrt_lt (x : Nat) : fsqrt x < 18446744073709551616 := (map_write_can (fun _ h => root_some h)).1

theorem read_nm (b : Nat) : Ieee.double.read (nm b) = Ieee.double.read b ∨ ((Ieee.double.read (nm b)).isNaN = true ∧ (Ieee.double.read b).isNaN = true) := by
  cases h : isnan b
  · left; rw [nm_of_not h]
  · right; exact ⟨by rw [read_nan, isnan_nm]; exact h, by rw [read_nan]; exact h⟩

theorem fadd_nm (x y : Nat) : fadd (nm x) (nm y) = fadd x y := by
  unfold fadd Ieee.Format.add
  rcases read_nm x with hx | ⟨hx, hx'⟩
  · rcases read_nm y with hy | ⟨hy, hy'⟩
    · rw [hx, hy]
    · rw [sum_nan_right _ hy, sum_nan_right _ hy']
  · rw [sum_nan_left _ hx, sum_nan_left _ hx']
theorem fsub_nm (x y : Nat) : fsub (nm x) (nm y) = fsub x y := by
  unfold fsub Ieee.Format.sub
  rcases read_nm x with hx | ⟨hx, hx'⟩
  · rcases read_nm y with hy | ⟨hy, hy'⟩
    · rw [hx, hy]
    · rw [sum_nan_right _ (by rw [opposite_nan]; exact hy), sum_nan_right _ (by rw [opposite_nan]; exact hy')]
  · rw [sum_nan_left _ hx, sum_nan_left _ hx']
theorem fmul_nm (x y : Nat) : fmul (nm x) (nm y) = fmul x y := by
  unfold fmul Ieee.Format.mul
  rcases read_nm x with hx | ⟨hx, hx'⟩
  · rcases read_nm y with hy | ⟨hy, hy'⟩
    · rw [hx, hy]
    · rw [product_nan_right _ hy, product_nan_right _ hy']
  · rw [product_nan_left _ hx, product_nan_left _ hx']
theorem fdiv_nm (x y : Nat) : fdiv (nm x) (nm y) = fdiv x y := by
  unfold fdiv Ieee.Format.div
  rcases read_nm x with hx | ⟨hx, hx'⟩
  · rcases read_nm y with hy | ⟨hy, hy'⟩
    · rw [hx, hy]
    · rw [quotient_nan_right _ hy, quotient_nan_right _ hy']
  · rw [quotient_nan_left _ hx, quotient_nan_left _ hx']
theorem fsqrt_nm (x : Nat) : fsqrt (nm x) = fsqrt x := by
  unfold fsqrt Ieee.Format.sqrt
  rcases read_nm x with hx | ⟨hx, hx'⟩
  · rw [hx]
  · rw [root_nan hx, root_nan hx']
theorem order_nm (x y : Nat) : Ieee.double.order (nm x) (nm y) = Ieee.double.order x y := by
  unfold Ieee.Format.order
  rcases read_nm x with hx | ⟨hx, hx'⟩
  · rcases read_nm y with hy | ⟨hy, hy'⟩
    · rw [hx, hy]
    · rw [order_nan_right _ hy, order_nan_right _ hy']
  · rw [order_nan_left _ hx, order_nan_left _ hx']

theorem isnan_xor (b : Nat) : isnan (b ^^^ 9223372036854775808) = isnan b := by
  unfold isnan
  have : (b ^^^ 9223372036854775808) % 9223372036854775808 = b % 9223372036854775808 := by
    have h2 : (9223372036854775808 : Nat) = 2 ^ 63 := by decide
    rw [h2]
    apply Nat.eq_of_testBit_eq
    intro i
    simp only [Nat.testBit_mod_two_pow, Nat.testBit_xor, Nat.testBit_two_pow]
    by_cases hi : i < 63
    · have : ¬ 63 = i := by omega
      simp [hi, this]
    · simp [hi]
  rw [this]

/-! ### A float's NaN bits do not count -/
theorem nm_congr_raw (v s : Nat) : nm (raw v s) = nm v := nm_raw v s
@[go_sem] theorem fadd_rawl (v s y : Nat) : fadd (raw v s) y = fadd v y := by rw [← fadd_nm, nm_raw, fadd_nm]
@[go_sem] theorem fadd_rawr (x v s : Nat) : fadd x (raw v s) = fadd x v := by rw [← fadd_nm, nm_raw, fadd_nm]
@[go_sem] theorem fsub_rawl (v s y : Nat) : fsub (raw v s) y = fsub v y := by rw [← fsub_nm, nm_raw, fsub_nm]
@[go_sem] theorem fsub_rawr (x v s : Nat) : fsub x (raw v s) = fsub x v := by rw [← fsub_nm, nm_raw, fsub_nm]
@[go_sem] theorem fmul_rawl (v s y : Nat) : fmul (raw v s) y = fmul v y := by rw [← fmul_nm, nm_raw, fmul_nm]
@[go_sem] theorem fmul_rawr (x v s : Nat) : fmul x (raw v s) = fmul x v := by rw [← fmul_nm, nm_raw, fmul_nm]
@[go_sem] theorem fdiv_rawl (v s y : Nat) : fdiv (raw v s) y = fdiv v y := by rw [← fdiv_nm, nm_raw, fdiv_nm]
@[go_sem] theorem fdiv_rawr (x v s : Nat) : fdiv x (raw v s) = fdiv x v := by rw [← fdiv_nm, nm_raw, fdiv_nm]
@[go_sem] theorem fsqrt_raw (v s : Nat) : fsqrt (raw v s) = fsqrt v := by rw [← fsqrt_nm, nm_raw, fsqrt_nm]
theorem order_raw (v s y : Nat) : Ieee.double.order (raw v s) y = Ieee.double.order v y := by rw [← order_nm, nm_raw, order_nm]
theorem order_rawr (x v s : Nat) : Ieee.double.order x (raw v s) = Ieee.double.order x v := by rw [← order_nm, nm_raw, order_nm]
@[go_sem] theorem flt_rawl (v s y : Nat) : flt (raw v s) y = flt v y := by unfold flt; rw [order_raw]
@[go_sem] theorem flt_rawr (x v s : Nat) : flt x (raw v s) = flt x v := by unfold flt; rw [order_rawr]
@[go_sem] theorem fle_rawl (v s y : Nat) : fle (raw v s) y = fle v y := by unfold fle; rw [order_raw]
@[go_sem] theorem fle_rawr (x v s : Nat) : fle x (raw v s) = fle x v := by unfold fle; rw [order_rawr]
@[go_sem] theorem feq_rawl (v s y : Nat) : feq (raw v s) y = feq v y := by unfold feq; rw [order_raw]
@[go_sem] theorem feq_rawr (x v s : Nat) : feq x (raw v s) = feq x v := by unfold feq; rw [order_rawr]
@[go_sem] theorem isnan_raw (v s : Nat) : isnan (raw v s) = isnan v := by
  unfold raw
  cases h : isnan v
  · simp [h]
  · simp [isnan_nanW]
theorem raw_raw (v s t : Nat) : ∃ u, raw (raw v s) t = raw v u := by
  cases h : isnan v
  · exact ⟨0, by simp [raw, h]⟩
  · exact ⟨t, by simp [raw, h, isnan_nanW]⟩
/-- Every word is itself, its NaN's bits by some number. -/
theorem raw_self {b : Nat} (h : b < 18446744073709551616) : ∃ s, b = raw b s := by
  obtain ⟨s, hs⟩ := raw_nm h
  refine ⟨s, ?_⟩
  have : raw (nm b) s = raw b s := by
    unfold raw; rw [isnan_nm]
    cases hn : isnan b
    · simp [nm, hn]
    · simp
  rw [← this]; exact hs

/-! ### Comparisons -/
theorem order_flip (x y : Ieee.Datum) : y.order x = (x.order y).map Ordering.swap := by
  cases x <;> cases y <;> simp only [Ieee.Datum.order, Option.map_none, Option.map_some]
  case number.number s m i t n j =>
    rw [Int.min_comm]
    congr 1
    exact Std.OrientedCmp.eq_swap
  case infinity.infinity s t => cases s <;> cases t <;> rfl
  case number.infinity s m e t => cases t <;> rfl
  case infinity.number s t m e => cases s <;> rfl
theorem order_gt (a b : Nat) : (Ieee.double.order a b == some .gt) = flt b a := by
  unfold flt Ieee.Format.order
  rw [order_flip (Ieee.double.read a)]
  cases (Ieee.double.read a).order (Ieee.double.read b) with
  | none => rfl
  | some o => cases o <;> rfl
theorem feq_comm (a b : Nat) : feq a b = feq b a := by
  unfold feq Ieee.Format.order
  rw [order_flip (Ieee.double.read a)]
  cases (Ieee.double.read a).order (Ieee.double.read b) with
  | none => rfl
  | some o => cases o <;> rfl
@[go_sem] theorem cmp_lss (a b : Nat) : (FloatKind.f64.format.order a b == some .lt) = flt a b := rfl
@[go_sem] theorem cmp_eql (a b : Nat) : (FloatKind.f64.format.order a b == some .eq) = feq a b := rfl
@[go_sem] theorem cmp_neq (a b : Nat) : (FloatKind.f64.format.order a b != some .eq) = !feq a b := rfl
@[go_sem] theorem cmp_gtr (a b : Nat) : (FloatKind.f64.format.order a b == some .gt) = flt b a := order_gt a b
@[go_sem] theorem cmp_leq (a b : Nat) : (flt a b || feq a b) = fle a b := rfl
@[go_sem] theorem cmp_geq (a b : Nat) : (flt b a || feq a b) = fle b a := by rw [feq_comm]; rfl
theorem feq_self (x : Nat) : feq x x = !isnan x := by
  unfold feq Ieee.Format.order
  rw [← read_nan]
  cases Ieee.double.read x with
  | number s m e => simp [Ieee.Datum.order, Ieee.Datum.isNaN]
  | infinity s => simp [Ieee.Datum.order, Ieee.Datum.isNaN]
  | nan s t => rfl

/-! ### What the model's operations come to -/
section
variable {P : Program} (w : World)

@[go_sem] theorem run_store_float (a : Addr) (m : Mode) (k : FloatKind) (b : Nat) : (store a (.float k b) m).run P w = stored P w a (.float k b) m := run_store P w a _ m rfl

theorem cut_nan (x y t : Nat) : ∃ s, (Question.nanBits .f64 x y).cut t = nanW s := ⟨t, rfl⟩

theorem run_arith_of {op : BinOp} {t : TypeId} {x y v : Nat} {g : Option Nat} (hg : (binOp op t (.float .f64 x) (.float .f64 y)) = (match g with | some r => pure (.float .f64 r) | none => do pure (.float .f64 (← choose (.nanBits .f64 x y)))))
    (hv : g.getD qnan = v) (hn : ∀ r, g = some r → isnan r = false) : ∃ s n, (binOp op t (.float .f64 x) (.float .f64 y)).run P w = .ok (.float .f64 (raw v s)) (w.drewN n) := by
  rw [hg]
  cases g with
  | some r => exact ⟨0, 0, by subst hv; simp only [Option.getD_some]; rw [raw_of_not (hn r rfl)]; rfl⟩
  | none =>
    refine ⟨w.tape w.drawn (.nanBits .f64 x y), 1, ?_⟩
    subst hv
    simp only [Option.getD_none, raw, isnan_qnan, if_true]
    rfl

theorem run_fadd (t : TypeId) (x y : Nat) : ∃ s n, (binOp .add t (.float .f64 x) (.float .f64 y)).run P w = .ok (.float .f64 (raw (fadd x y) s)) (w.drewN n) :=
  run_arith_of (g := Ieee.double.add x y) w rfl rfl fun r h => by
    obtain ⟨d, hd, rfl⟩ := Option.map_eq_some_iff.1 h
    exact write_not_nan d (sum_some hd)
theorem run_fsub (t : TypeId) (x y : Nat) : ∃ s n, (binOp .sub t (.float .f64 x) (.float .f64 y)).run P w = .ok (.float .f64 (raw (fsub x y) s)) (w.drewN n) :=
  run_arith_of (g := Ieee.double.sub x y) w rfl rfl fun r h => by
    obtain ⟨d, hd, rfl⟩ := Option.map_eq_some_iff.1 h
    exact write_not_nan d (sum_some hd)
theorem run_fmul (t : TypeId) (x y : Nat) : ∃ s n, (binOp .mul t (.float .f64 x) (.float .f64 y)).run P w = .ok (.float .f64 (raw (fmul x y) s)) (w.drewN n) :=
  run_arith_of (g := Ieee.double.mul x y) w rfl rfl fun r h => by
    obtain ⟨d, hd, rfl⟩ := Option.map_eq_some_iff.1 h
    exact write_not_nan d (product_some hd)
theorem run_fdiv (t : TypeId) (x y : Nat) : ∃ s n, (binOp .quo t (.float .f64 x) (.float .f64 y)).run P w = .ok (.float .f64 (raw (fdiv x y) s)) (w.drewN n) :=
  run_arith_of (g := Ieee.double.div x y) w rfl rfl fun r h => by
    obtain ⟨d, hd, rfl⟩ := Option.map_eq_some_iff.1 h
    exact write_not_nan d (quotient_some hd)
end
attribute [irreducible] isnan nm raw nanW qnan fadd fsub fmul fdiv fsqrt fneg flt fle feq
end Go.Proofs.Ytbcdpibcieadlaa
