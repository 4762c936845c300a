/- Floats of 64 bits, all NaNs being one: what the operations of the model come to, as plain functions on canonical words. No condition. -/
import Derived.Laws.FloatArith
import Derived.Laws.FloatBits
import Derived.WalkKit
import Derived.WalkLawsBesides
import Derived.Deep.Draws
import Derived.Laws.EntriesVeiled
import Derived.Still
import Derived.StillTail
import Derived.Tactics
import Derived.Below
import Derived.KernelRfl
namespace Go.Proofs.Ytdljnhdhigbefaa
open Go Go.RowKit

/-- The one NaN. -/
def qnan : Nat := 9221120237041090560
def isnan (b : Nat) : Bool := decide (9218868437227405312 < b % 9223372036854775808)
def nm (b : Nat) : Nat := if isnan b then qnan else b
def nanW (s : Nat) : Nat := (s % 2) * 9223372036854775808 + 9218868437227405312 + 1 + (s / 2) % 4503599627370495
/-- A float that is v, the NaN's bits by s. -/
def raw (v s : Nat) : Nat := if isnan v then nanW s else v

theorem isnan_qnan : isnan qnan = true := by decide
theorem isnan_nanW (s : Nat) : isnan (nanW s) = true := by
  unfold isnan nanW
  simp only [decide_eq_true_eq]
  have ha : s % 2 < 2 := Nat.mod_lt _ (by decide)
  have hb : (s / 2) % 4503599627370495 < 4503599627370495 := Nat.mod_lt _ (by decide)
  generalize s % 2 = a at *
  generalize (s / 2) % 4503599627370495 = b at *
  omega
theorem nanW_lt (s : Nat) : nanW s < 18446744073709551616 := by unfold nanW; omega
theorem isnan_nm (b : Nat) : isnan (nm b) = isnan b := by
  unfold nm
  cases h : isnan b <;> simp [h, isnan_qnan]
theorem nm_nm (b : Nat) : nm (nm b) = nm b := by
  unfold nm
  cases h : isnan b <;> simp [h, isnan_qnan]
theorem nm_of_isnan {b : Nat} (h : isnan b = true) : nm b = qnan := by simp [nm, h]
theorem nm_of_not {b : Nat} (h : isnan b = false) : nm b = b := by simp [nm, h]
theorem nm_lt {b : Nat} (h : b < 18446744073709551616) : nm b < 18446744073709551616 := by
  unfold nm; split
  · decide
  · exact h
theorem raw_lt {v : Nat} (h : v < 18446744073709551616) (s : Nat) : raw v s < 18446744073709551616 := by
  unfold raw; split
  · exact nanW_lt s
  · exact h
theorem nm_raw (v s : Nat) : nm (raw v s) = nm v := by
  unfold raw
  cases h : isnan v
  · simp
  · simp [nm, isnan_nanW, h]
theorem raw_of_not {v : Nat} (h : isnan v = false) (s : Nat) : raw v s = v := by simp [raw, h]
/-- Every word is one. -/
theorem raw_nm {b : Nat} (h : b < 18446744073709551616) : ∃ s, b = raw (nm b) s := by
  cases hn : isnan b
  · exact ⟨0, by simp [nm, raw, hn]⟩
  · refine ⟨b / 9223372036854775808 + 2 * (b % 9223372036854775808 - 9218868437227405313), ?_⟩
    have h1 : 9218868437227405312 < b % 9223372036854775808 := by simpa [isnan] using hn
    have h2 : b % 9223372036854775808 < 9223372036854775808 := Nat.mod_lt _ (by decide)
    have h3 : b = 9223372036854775808 * (b / 9223372036854775808) + b % 9223372036854775808 := (Nat.div_add_mod _ _).symm
    have h4 : b / 9223372036854775808 < 2 := by omega
    simp only [nm, raw, hn, if_true, isnan_qnan, nanW]
    generalize b / 9223372036854775808 = q at *
    generalize b % 9223372036854775808 = r at *
    have e1 : (q + 2 * (r - 9218868437227405313)) % 2 = q := by omega
    have e2 : (q + 2 * (r - 9218868437227405313)) / 2 = r - 9218868437227405313 := by omega
    rw [e1, e2, Nat.mod_eq_of_lt (by omega)]
    omega

/-! ### The model's reading of a word -/
theorem width64 : Ieee.double.signWeight = 9223372036854775808 := by decide
theorem binade64 : Ieee.double.binade = 4503599627370496 := by decide
theorem inf64 : Ieee.double.infRung = 9218868437227405312 := by decide
theorem read_nan (b : Nat) : (Ieee.double.read b).isNaN = isnan b := by
  unfold Ieee.Format.read isnan
  simp only [width64, binade64, inf64]
  split
  · simp [Ieee.Datum.isNaN]; omega
  · split
    · simp [Ieee.Datum.isNaN]; omega
    · split
      · simp [Ieee.Datum.isNaN]; omega
      · simp [Ieee.Datum.isNaN]; omega
theorem word_mod (neg : Bool) (r : Nat) (h : r ≤ 9218868437227405312) : isnan (Ieee.double.word neg r) = false := by
  unfold Ieee.Format.word isnan
  rw [width64]
  cases neg <;> simp <;> omega
theorem write_not_nan (d : Ieee.Datum) (h : d.isNaN = false) : isnan (Ieee.double.write d) = false := by
  cases d with
  | number s m e =>
    show isnan (Ieee.double.nearest s m e) = false
    unfold Ieee.Format.nearest
    dsimp only
    split
    · exact word_mod _ _ (by decide)
    · exact word_mod _ _ (by rw [inf64]; exact Nat.min_le_right ..)
  | infinity s => exact word_mod _ _ (by rw [inf64]; exact Nat.le_refl _)
  | nan s t => simp [Ieee.Datum.isNaN] at h

theorem sum_nan_left {x : Ieee.Datum} (y : Ieee.Datum) (h : x.isNaN = true) : x.sum y = none := by cases x <;> simp_all [Ieee.Datum.isNaN, Ieee.Datum.sum]
theorem sum_nan_right (x : Ieee.Datum) {y : Ieee.Datum} (h : y.isNaN = true) : x.sum y = none := by cases y <;> simp_all [Ieee.Datum.isNaN] <;> cases x <;> simp [Ieee.Datum.sum]
theorem product_nan_left {x : Ieee.Datum} (y : Ieee.Datum) (h : x.isNaN = true) : x.product y = none := by cases x <;> simp_all [Ieee.Datum.isNaN, Ieee.Datum.product]
theorem product_nan_right (x : Ieee.Datum) {y : Ieee.Datum} (h : y.isNaN = true) : x.product y = none := by cases y <;> simp_all [Ieee.Datum.isNaN] <;> cases x <;> simp [Ieee.Datum.product]
theorem quotient_nan_left {k : Nat} {x : Ieee.Datum} (y : Ieee.Datum) (h : x.isNaN = true) : x.quotient k y = none := by cases x <;> simp_all [Ieee.Datum.isNaN, Ieee.Datum.quotient]
theorem quotient_nan_right {k : Nat} (x : Ieee.Datum) {y : Ieee.Datum} (h : y.isNaN = true) : x.quotient k y = none := by cases y <;> simp_all [Ieee.Datum.isNaN] <;> cases x <;> simp [Ieee.Datum.quotient]
theorem root_nan {k : Nat} {x : Ieee.Datum} (h : x.isNaN = true) : x.root k = none := by cases x <;> simp_all [Ieee.Datum.isNaN, Ieee.Datum.root]
theorem order_nan_left {x : Ieee.Datum} (y : Ieee.Datum) (h : x.isNaN = true) : x.order y = none := by cases x <;> simp_all [Ieee.Datum.isNaN, Ieee.Datum.order]
theorem order_nan_right (x : Ieee.Datum) {y : Ieee.Datum} (h : y.isNaN = true) : x.order y = none := by cases y <;> simp_all [Ieee.Datum.isNaN] <;> cases x <;> simp [Ieee.Datum.order]
theorem opposite_nan (x : Ieee.Datum) : x.opposite.isNaN = x.isNaN := by cases x <;> rfl
theorem sum_some {x y d : Ieee.Datum} (h : x.sum y = some d) : d.isNaN = false := by
  cases x <;> cases y <;> simp only [Ieee.Datum.sum] at h <;> (try split at h) <;> cases h <;> rfl
theorem product_some {x y d : Ieee.Datum} (h : x.product y = some d) : d.isNaN = false := by
  cases x <;> cases y <;> simp only [Ieee.Datum.product] at h <;> (try split at h) <;> cases h <;> rfl
theorem quotient_some {k : Nat} {x y d : Ieee.Datum} (h : x.quotient k y = some d) : d.isNaN = false := by
  cases x <;> cases y <;> simp only [Ieee.Datum.quotient] at h <;> (repeat' split at h) <;> cases h <;> rfl
theorem root_some {k : Nat} {x d : Ieee.Datum} (h : x.root k = some d) : d.isNaN = false := by
  cases x <;> simp only [Ieee.Datum.root] at h <;> (repeat' split at h) <;> cases h <;> rfl

/-! ### The operations on canonical words -/
def fadd (x y : Nat) : Nat := (Ieee.double.add x y).getD qnan
def fsub (x y : Nat) : Nat := (Ieee.double.sub x y).getD qnan
def fmul (x y : Nat) : Nat := (Ieee.double.mul x y).getD qnan
def fdiv (x y : Nat) : Nat := (Ieee.double.div x y).getD qnan
def fsqrt (x : Nat) : Nat := (Ieee.double.sqrt x).getD qnan
def fneg (x : Nat) : Nat := nm (x ^^^ 9223372036854775808)
def flt (x y : Nat) : Bool := Ieee.double.order x y == some .lt
def fle (x y : Nat) : Bool := Ieee.double.order x y == some .lt || Ieee.double.order x y == some .eq
def feq (x y : Nat) : Bool := Ieee.double.order x y == some .eq

theorem map_write_can {o : Option Ieee.Datum} (h : ∀ d, o = some d → d.isNaN = false) : (o.map Ieee.double.write).getD qnan < 18446744073709551616 ∧ nm ((o.map Ieee.double.write).getD qnan) = (o.map Ieee.double.write).getD qnan := by
  cases o with
  | none => exact ⟨by decide, by decide⟩
  | some d => exact ⟨Ieee.Format.write_lt Ieee.double d, nm_of_not (write_not_nan d (h d rfl))⟩
theorem nm_fadd (x y : Nat) : nm (fadd x y) = fadd x y := (map_write_can (fun _ h => sum_some h)).2
theorem nm_fsub (x y : Nat) : nm (fsub x y) = fsub x y := (map_write_can (fun _ h => sum_some h)).2
theorem nm_fmul (x y : Nat) : nm (fmul x y) = fmul x y := (map_write_can (fun _ h => product_some h)).2
theorem nm_fdiv (x y : Nat) : nm (fdiv x y) = fdiv x y := (map_write_can (fun _ h => quotient_some h)).2
theorem nm_fsqrt (x : Nat) : nm (fsqrt x) = fsqrt x := (map_write_can (fun _ h => root_some h)).2
theorem nm_fneg (x : Nat) : nm (fneg x) = fneg x := nm_nm _
theorem fadd_lt (x y : Nat) : fadd x y < 18446744073709551616 := (map_write_can (fun _ h => sum_some h)).1
theorem fsub_lt (x y : Nat) : fsub x y < 18446744073709551616 := (map_write_can (fun _ h => sum_some h)).1
theorem fmul_lt (x y : Nat) : fmul x y < 18446744073709551616 := (map_write_can (fun _ h => product_some h)).1
theorem fdiv_lt (x y : Nat) : fdiv x y < 18446744073709551616 := (map_write_can (fun _ h => quotient_some h)).1
theorem fsqrt_lt (x : Nat) : fsqrt x < 18446744073709551616 := (map_write_can (fun _ h => root_some h)).1

theorem read_nm (b : Nat) : Ieee.double.read (nm b) = Ieee.double.read b ∨ ((Ieee.double.read (nm b)).isNaN = true ∧ (Ieee.double.read b).isNaN = true) := by
  cases h : isnan b
  · left; rw [nm_of_not h]
  · right; exact ⟨by rw [read_nan, isnan_nm]; exact h, by rw [read_nan]; exact h⟩

theorem fadd_nm (x y : Nat) : fadd (nm x) (nm y) = fadd x y := by
  unfold fadd Ieee.Format.add
  rcases read_nm x with hx | ⟨hx, hx'⟩
  · rcases read_nm y with hy | ⟨hy, hy'⟩
    · rw [hx, hy]
    · rw [sum_nan_right _ hy, sum_nan_right _ hy']
  · rw [sum_nan_left _ hx, sum_nan_left _ hx']
theorem fsub_nm (x y : Nat) : fsub (nm x) (nm y) = fsub x y := by
  unfold fsub Ieee.Format.sub
  rcases read_nm x with hx | ⟨hx, hx'⟩
  · rcases read_nm y with hy | ⟨hy, hy'⟩
    · rw [hx, hy]
    · rw [sum_nan_right _ (by rw [opposite_nan]; exact hy), sum_nan_right _ (by rw [opposite_nan]; exact hy')]
  · rw [sum_nan_left _ hx, sum_nan_left _ hx']
theorem fmul_nm (x y : Nat) : fmul (nm x) (nm y) = fmul x y := by
  unfold fmul Ieee.Format.mul
  rcases read_nm x with hx | ⟨hx, hx'⟩
  · rcases read_nm y with hy | ⟨hy, hy'⟩
    · rw [hx, hy]
    · rw [product_nan_right _ hy, product_nan_right _ hy']
  · rw [product_nan_left _ hx, product_nan_left _ hx']
theorem fdiv_nm (x y : Nat) : fdiv (nm x) (nm y) = fdiv x y := by
  unfold fdiv Ieee.Format.div
  rcases read_nm x with hx | ⟨hx, hx'⟩
  · rcases read_nm y with hy | ⟨hy, hy'⟩
    · rw [hx, hy]
    · rw [quotient_nan_right _ hy, quotient_nan_right _ hy']
  · rw [quotient_nan_left _ hx, quotient_nan_left _ hx']
theorem fsqrt_nm (x : Nat) : fsqrt (nm x) = fsqrt x := by
  unfold fsqrt Ieee.Format.sqrt
  rcases read_nm x with hx | ⟨hx, hx'⟩
  · rw [hx]
  · rw [root_nan hx, root_nan hx']
theorem order_nm (x y : Nat) : Ieee.double.order (nm x) (nm y) = Ieee.double.order x y := by
  unfold Ieee.Format.order
  rcases read_nm x with hx | ⟨hx, hx'⟩
  · rcases read_nm y with hy | ⟨hy, hy'⟩
    · rw [hx, hy]
    · rw [order_nan_right _ hy, order_nan_right _ hy']
  · rw [order_nan_left _ hx, order_nan_left _ hx']

theorem isnan_xor (b : Nat) : isnan (b ^^^ 9223372036854775808) = isnan b := by
  unfold isnan
  have : (b ^^^ 9223372036854775808) % 9223372036854775808 = b % 9223372036854775808 := by
    have h2 : (9223372036854775808 : Nat) = 2 ^ 63 := by decide
    rw [h2]
    apply Nat.eq_of_testBit_eq
    intro i
    simp only [Nat.testBit_mod_two_pow, Nat.testBit_xor, Nat.testBit_two_pow]
    by_cases hi : i < 63
    · have : ¬ 63 = i := by omega
      simp [hi, this]
    · simp [hi]
  rw [this]

/-! ### A float's NaN bits do not count -/
theorem nm_congr_raw (v s : Nat) : nm (raw v s) = nm v := nm_raw v s
@[go_sem] theorem fadd_rawl (v s y : Nat) : fadd (raw v s) y = fadd v y := by rw [← fadd_nm, nm_raw, fadd_nm]
@[go_sem] theorem fadd_rawr (x v s : Nat) : fadd x (raw v s) = fadd x v := by rw [← fadd_nm, nm_raw, fadd_nm]
@[go_sem] theorem fsub_rawl (v s y : Nat) : fsub (raw v s) y = fsub v y := by rw [← fsub_nm, nm_raw, fsub_nm]
@[go_sem] theorem fsub_rawr (x v s : Nat) : fsub x (raw v s) = fsub x v := by rw [← fsub_nm, nm_raw, fsub_nm]
@[go_sem] theorem fmul_rawl (v s y : Nat) : fmul (raw v s) y = fmul v y := by rw [← fmul_nm, nm_raw, fmul_nm]
@[go_sem] theorem fmul_rawr (x v s : Nat) : fmul x (raw v s) = fmul x v := by rw [← fmul_nm, nm_raw, fmul_nm]
@[go_sem] theorem fdiv_rawl (v s y : Nat) : fdiv (raw v s) y = fdiv v y := by rw [← fdiv_nm, nm_raw, fdiv_nm]
@[go_sem] theorem fdiv_rawr (x v s : Nat) : fdiv x (raw v s) = fdiv x v := by rw [← fdiv_nm, nm_raw, fdiv_nm]
@[go_sem] theorem fsqrt_raw (v s : Nat) : fsqrt (raw v s) = fsqrt v := by rw [← fsqrt_nm, nm_raw, fsqrt_nm]
theorem order_raw (v s y : Nat) : Ieee.double.order (raw v s) y = Ieee.double.order v y := by rw [← order_nm, nm_raw, order_nm]
theorem order_rawr (x v s : Nat) : Ieee.double.order x (raw v s) = Ieee.double.order x v := by rw [← order_nm, nm_raw, order_nm]
@[go_sem] theorem flt_rawl (v s y : Nat) : flt (raw v s) y = flt v y := by unfold flt; rw [order_raw]
@[go_sem] theorem flt_rawr (x v s : Nat) : flt x (raw v s) = flt x v := by unfold flt; rw [order_rawr]
@[go_sem] theorem fle_rawl (v s y : Nat) : fle (raw v s) y = fle v y := by unfold fle; rw [order_raw]
@[go_sem] theorem fle_rawr (x v s : Nat) : fle x (raw v s) = fle x v := by unfold fle; rw [order_rawr]
@[go_sem] theorem feq_rawl (v s y : Nat) : feq (raw v s) y = feq v y := by unfold feq; rw [order_raw]
@[go_sem] theorem feq_rawr (x v s : Nat) : feq x (raw v s) = feq x v := by unfold feq; rw [order_rawr]
@[go_sem] theorem isnan_raw (v s : Nat) : isnan (raw v s) = isnan v := by
  unfold raw
  cases h : isnan v
  · simp [h]
  · simp [isnan_nanW]
theorem raw_raw (v s t : Nat) : ∃ u, raw (raw v s) t = raw v u := by
  cases h : isnan v
  · exact ⟨0, by simp [raw, h]⟩
  · exact ⟨t, by simp [raw, h, isnan_nanW]⟩
/-- Every word is itself, its NaN's bits by some number. -/
theorem raw_self {b : Nat} (h : b < 18446744073709551616) : ∃ s, b = raw b s := by
  obtain ⟨s, hs⟩ := raw_nm h
  refine ⟨s, ?_⟩
  have : raw (nm b) s = raw b s := by
    unfold raw; rw [isnan_nm]
    cases hn : isnan b
    · simp [nm, hn]
    · simp
  rw [← this]; exact hs

/-! ### Comparisons -/
theorem order_flip (x y : Ieee.Datum) : y.order x = (x.order y).map Ordering.swap := by
  cases x <;> cases y <;> simp only [Ieee.Datum.order, Option.map_none, Option.map_some]
  case number.number s m i t n j =>
    rw [Int.min_comm]
    congr 1
    exact Std.OrientedCmp.eq_swap
  case infinity.infinity s t => cases s <;> cases t <;> rfl
  case number.infinity s m e t => cases t <;> rfl
  case infinity.number s t m e => cases s <;> rfl
theorem order_gt (a b : Nat) : (Ieee.double.order a b == some .gt) = flt b a := by
  unfold flt Ieee.Format.order
  rw [order_flip (Ieee.double.read a)]
  cases (Ieee.double.read a).order (Ieee.double.read b) with
  | none => rfl
  | some o => cases o <;> rfl
theorem feq_comm (a b : Nat) : feq a b = feq b a := by
  unfold feq Ieee.Format.order
  rw [order_flip (Ieee.double.read a)]
  cases (Ieee.double.read a).order (Ieee.double.read b) with
  | none => rfl
  | some o => cases o <;> rfl
@[go_sem] theorem cmp_lss (a b : Nat) : (FloatKind.f64.format.order a b == some .lt) = flt a b := rfl
@[go_sem] theorem cmp_eql (a b : Nat) : (FloatKind.f64.format.order a b == some .eq) = feq a b := rfl
@[go_sem] theorem cmp_neq (a b : Nat) : (FloatKind.f64.format.order a b != some .eq) = !feq a b := rfl
@[go_sem] theorem cmp_gtr (a b : Nat) : (FloatKind.f64.format.order a b == some .gt) = flt b a := order_gt a b
@[go_sem] theorem cmp_leq (a b : Nat) : (flt a b || feq a b) = fle a b := rfl
@[go_sem] theorem cmp_geq (a b : Nat) : (flt b a || feq a b) = fle b a := by rw [feq_comm]; rfl
theorem feq_self (x : Nat) : feq x x = !isnan x := by
  unfold feq Ieee.Format.order
  rw [← read_nan]
  cases Ieee.double.read x with
  | number s m e => simp [Ieee.Datum.order, Ieee.Datum.isNaN]
  | infinity s => simp [Ieee.Datum.order, Ieee.Datum.isNaN]
  | nan s t => rfl

/-! ### What the model's operations come to -/
section
variable {P : Program} (w : World)

@[go_sem] theorem run_store_float (a : Addr) (m : Mode) (k : FloatKind) (b : Nat) : (store a (.float k b) m).run P w = stored P w a (.float k b) m := run_store P w a _ m rfl

theorem cut_nan (x y t : Nat) : ∃ s, (Question.nanBits .f64 x y).cut t = nanW s := ⟨t, rfl⟩

theorem run_arith_of {op : BinOp} {t : TypeId} {x y v : Nat} {g : Option Nat} (hg : (binOp op t (.float .f64 x) (.float .f64 y)) = (match g with | some r => pure (.float .f64 r) | none => do pure (.float .f64 (← choose (.nanBits .f64 x y)))))
    (hv : g.getD qnan = v) (hn : ∀ r, g = some r → isnan r = false) : ∃ s n, (binOp op t (.float .f64 x) (.float .f64 y)).run P w = .ok (.float .f64 (raw v s)) (w.drewN n) := by
  rw [hg]
  cases g with
  | some r => exact ⟨0, 0, by subst hv; simp only [Option.getD_some]; rw [raw_of_not (hn r rfl)]; rfl⟩
  | none =>
    refine ⟨w.tape w.drawn (.nanBits .f64 x y), 1, ?_⟩
    subst hv
    simp only [Option.getD_none, raw, isnan_qnan, if_true]
    rfl

theorem run_fadd (t : TypeId) (x y : Nat) : ∃ s n, (binOp .add t (.float .f64 x) (.float .f64 y)).run P w = .ok (.float .f64 (raw (fadd x y) s)) (w.drewN n) :=
  run_arith_of (g := Ieee.double.add x y) w rfl rfl fun r h => by
    obtain ⟨d, hd, rfl⟩ := Option.map_eq_some_iff.1 h
    exact write_not_nan d (sum_some hd)
theorem run_fsub (t : TypeId) (x y : Nat) : ∃ s n, (binOp .sub t (.float .f64 x) (.float .f64 y)).run P w = .ok (.float .f64 (raw (fsub x y) s)) (w.drewN n) :=
  run_arith_of (g := Ieee.double.sub x y) w rfl rfl fun r h => by
    obtain ⟨d, hd, rfl⟩ := Option.map_eq_some_iff.1 h
    exact write_not_nan d (sum_some hd)
theorem run_fmul (t : TypeId) (x y : Nat) : ∃ s n, (binOp .mul t (.float .f64 x) (.float .f64 y)).run P w = .ok (.float .f64 (raw (fmul x y) s)) (w.drewN n) :=
  run_arith_of (g := Ieee.double.mul x y) w rfl rfl fun r h => by
    obtain ⟨d, hd, rfl⟩ := Option.map_eq_some_iff.1 h
    exact write_not_nan d (product_some hd)
theorem run_fdiv (t : TypeId) (x y : Nat) : ∃ s n, (binOp .quo t (.float .f64 x) (.float .f64 y)).run P w = .ok (.float .f64 (raw (fdiv x y) s)) (w.drewN n) :=
  run_arith_of (g := Ieee.double.div x y) w rfl rfl fun r h => by
    obtain ⟨d, hd, rfl⟩ := Option.map_eq_some_iff.1 h
    exact write_not_nan d (quotient_some hd)
end
attribute [irreducible] isnan nm raw nanW qnan fadd fsub fmul fdiv fsqrt fneg flt fle feq
end Go.Proofs.Ytdljnhdhigbefaa

/- Regions that draw their order, whose operations may each yield one of several values (a NaN's bits, say), in a class of worlds: one walk in the order of the text serves every order. A tail of operations that write may follow, in one order. Conditions: the class holds a world; each call meets a contract that is fixed ahead. -/
namespace Go.Proofs.Ytdljnhdhigbefaa
open Go Go.RowKit

section
variable {P : Program} {ops : Array Oper} {md : Region.Mode} {C : World → Prop} {F : FuncId → Array Value → Value → Prop}

/-- What an operation may have come to. -/
def nqUpon (P : Program) (C : World → Prop) (F : FuncId → Array Value → Value → Prop) (K : Value → Prop) : Result Next → Prop
  | .ok (.value u) w' => C w' ∧ K u
  | .ok .skip w' => C w' ∧ K undef
  | .ok (.enter f args) w' => C w' ∧ (∀ w1, C w1 → Calls P f args w1 (fun e w2 => ∃ v, e = .returned v ∧ F f args v ∧ C w2)) ∧ ∀ v, F f args v → K v
  | _ => False

@[go_sem] theorem nqUpon_value {K : Value → Prop} {u : Value} {w : World} : nqUpon P C F K (.ok (.value u) w) = (C w ∧ K u) := rfl
@[go_sem] theorem nqUpon_skip {K : Value → Prop} {w : World} : nqUpon P C F K (.ok .skip w) = (C w ∧ K undef) := rfl
@[go_sem] theorem nqUpon_enter {K : Value → Prop} {f : FuncId} {args : Array Value} {w : World} : nqUpon P C F K (.ok (.enter f args) w) = (C w ∧ (∀ w1, C w1 → Calls P f args w1 (fun e w2 => ∃ v, e = .returned v ∧ F f args v ∧ C w2)) ∧ ∀ v, F f args v → K v) := rfl

/-- One operation, in whatever world of the class. -/
def nq (P : Program) (C : World → Prop) (F : FuncId → Array Value → Value → Prop) (o : Oper) (a : Act) (K : Act → Prop) : Prop :=
  ∀ w, C w → nqUpon P C F (fun v => K (a.put o.dst v)) ((execOp a.eval o).run P w)

theorem nqUpon_mono {K K' : Value → Prop} (h : ∀ v, K v → K' v) {r : Result Next} (hr : nqUpon P C F K r) : nqUpon P C F K' r := by
  cases r with
  | ok n w' =>
    cases n <;> simp only [nqUpon] at hr ⊢
    case value u => exact ⟨hr.1, h _ hr.2⟩
    case skip => exact ⟨hr.1, h _ hr.2⟩
    case enter f args => exact ⟨hr.1, hr.2.1, fun v hv => h v (hr.2.2 v hv)⟩
  | halt x w' => simp only [nqUpon] at hr

theorem nqUpon_and {K K' : Value → Prop} {r : Result Next} (h : nqUpon P C F K r) (h' : nqUpon P C F K' r) : nqUpon P C F (fun v => K v ∧ K' v) r := by
  cases r with
  | ok n w' =>
    cases n <;> simp only [nqUpon] at h h' ⊢
    case value u => exact ⟨h.1, h.2, h'.2⟩
    case skip => exact ⟨h.1, h.2, h'.2⟩
    case enter f args => exact ⟨h.1, h.2.1, fun v hv => ⟨h.2.2 v hv, h'.2.2 v hv⟩⟩
  | halt x w' => simp only [nqUpon] at h

/-- For each v that may come, all. -/
theorem nqUpon_all {ι : Type} {V : ι → Prop} (i0 : ι) (h0 : V i0) {K : ι → Value → Prop} {r : Result Next} (h : ∀ i, V i → nqUpon P C F (K i) r) : nqUpon P C F (fun v => ∀ i, V i → K i v) r := by
  cases r with
  | ok n w' =>
    cases n <;> simp only [nqUpon] at h ⊢
    case value u => exact ⟨(h i0 h0).1, fun i hi => (h i hi).2⟩
    case skip => exact ⟨(h i0 h0).1, fun i hi => (h i hi).2⟩
    case enter f args => exact ⟨(h i0 h0).1, (h i0 h0).2.1, fun v hv i hi => (h i hi).2.2 v hv⟩
    all_goals exact (h i0 h0).elim
  | halt x w' => simp only [nqUpon] at h; exact (h i0 h0).elim

theorem nq_mono {o : Oper} {a : Act} {K K' : Act → Prop} (h : ∀ a, K a → K' a) (hh : nq P C F o a K) : nq P C F o a K' :=
  fun w hw => nqUpon_mono (fun _ hv => h _ hv) (hh w hw)

/-- THE WALK IN THE TEXT's ORDER. -/
def nqW (P : Program) (ops : Array Oper) (C : World → Prop) (F : FuncId → Array Value → Value → Prop) (Q : Act → Prop) : List Oper → Act → Prop
  | [], a => Q a
  | o :: rest, a => if Region.wanted o (yielded ops a.tmps) then nq P C F o a (nqW P ops C F Q rest) else nqW P ops C F Q rest (a.put o.dst undef)

theorem nqW_nil {Q : Act → Prop} {a : Act} (h : Q a) : nqW P ops C F Q [] a := h
theorem nqW_step {Q : Act → Prop} {a : Act} {o : Oper} {rest : List Oper}
    (h : ∀ K : Act → Prop, (∀ a, nqW P ops C F Q rest a → K a) → if Region.wanted o (yielded ops a.tmps) then nq P C F o a K else K (a.put o.dst undef)) : nqW P ops C F Q (o :: rest) a :=
  h _ (fun _ h => h)

def nqOp (P : Program) (ops : Array Oper) (C : World → Prop) (F : FuncId → Array Value → Value → Prop) (i : Nat) (K : Act → Prop) (a : Act) : Prop :=
  match ops[i]? with
  | none => K a
  | some o => if Region.wanted o (yielded ops a.tmps) then nq P C F o a K else K (a.put o.dst undef)

theorem nqOp_mono {i : Nat} {a : Act} {K K' : Act → Prop} (h : ∀ a, K a → K' a) (hh : nqOp P ops C F i K a) : nqOp P ops C F i K' a := by
  unfold nqOp at *
  split
  · exact h _ (by simpa [*] using hh)
  · rename_i o ho
    simp only [ho] at hh
    split
    · rename_i hw; simp only [hw, if_true] at hh; exact nq_mono h hh
    · rename_i hw; simp only [hw] at hh; exact h _ hh

/-- Two operations that are apart may be exchanged. -/
theorem nq_swap {oi oj : Oper} (hC : ∃ w, C w) (hap : oi.apart ops oj = true) (hsi : ∀ cs b, oi.op ≠ .select cs b) (hsj : ∀ cs b, oj.op ≠ .select cs b)
    {i j : Nat} (hi : ops[i]? = some oi) (hj : ops[j]? = some oj) {K : Act → Prop} {a : Act}
    (h : nqOp P ops C F i (nqOp P ops C F j K) a) : nqOp P ops C F j (nqOp P ops C F i K) a := by
  obtain ⟨h1, h2, h3⟩ := Oper.apart_spec hap
  obtain ⟨w0, hw0⟩ := hC
  have ej : ∀ v, execOp (a.put oi.dst v).eval oj = execOp a.eval oj := fun v => execOp_put oj hsj a oi.dst v h1
  have wj : ∀ v, Region.wanted oj (yielded ops (a.put oi.dst v).tmps) = Region.wanted oj (yielded ops a.tmps) := fun v => wanted_put oj a oi.dst v h1
  have ei : ∀ v, execOp (a.put oj.dst v).eval oi = execOp a.eval oi := fun v => execOp_put oi hsi a oj.dst v h3
  have wi : ∀ v, Region.wanted oi (yielded ops (a.put oj.dst v).tmps) = Region.wanted oi (yielded ops a.tmps) := fun v => wanted_put oi a oj.dst v h3
  have pc : ∀ v u, (a.put oi.dst v).put oj.dst u = (a.put oj.dst u).put oi.dst v := fun v u => Act.put_comm a v u h2
  unfold nqOp at *
  simp only [hi, hj] at *
  simp only [ei, wi, ej, wj, nq] at *
  by_cases Wi : Region.wanted oi (yielded ops a.tmps) = true
  · by_cases Wj : Region.wanted oj (yielded ops a.tmps) = true
    · simp only [Wi, Wj, if_true] at h ⊢
      intro w hw
      -- at the world w: what j comes to
      have hi0 := h w0 hw0
      -- a value that i may come to there
      have key : ∀ w2, C w2 → nqUpon P C F (fun v => nqUpon P C F (fun u => K ((a.put oj.dst u).put oi.dst v)) ((execOp a.eval oj).run P w)) ((execOp a.eval oi).run P w2) := fun w2 hw2 =>
        nqUpon_mono (fun v hv => nqUpon_mono (fun u hu => by rw [pc] at hu; exact hu) (hv w hw)) (h w2 hw2)
      -- by what i comes to
      have flip : ∀ w2, C w2 → nqUpon P C F (fun u => nqUpon P C F (fun v => K ((a.put oj.dst u).put oi.dst v)) ((execOp a.eval oi).run P w2)) ((execOp a.eval oj).run P w) := by
        intro w2 hw2
        have hk := key w2 hw2
        generalize (execOp a.eval oi).run P w2 = r at hk
        cases r with
        | ok n w' =>
          cases n <;> first | simp only [nqUpon_value, nqUpon_skip, nqUpon_enter] at hk ⊢ | exact False.elim hk
          case value v => exact nqUpon_mono (fun u hu => ⟨hk.1, hu⟩) hk.2
          case skip => exact nqUpon_mono (fun u hu => ⟨hk.1, hu⟩) hk.2
          case enter f args =>
            obtain ⟨hc, hcall, hv⟩ := hk
            obtain ⟨e, w3, fr, ⟨v0, _, hv0, _⟩, _⟩ := hcall w0 hw0 []
            exact nqUpon_mono (fun u hu => ⟨hc, hcall, hu⟩) (nqUpon_all v0 hv0 hv)
        | halt x w' => simp only [nqUpon] at hk
      exact nqUpon_mono (fun u hu w2 hw2 => hu ⟨w2, hw2⟩ trivial) (nqUpon_all (V := fun _ : { w2 // C w2 } => True) ⟨w0, hw0⟩ trivial (fun i _ => flip i.1 i.2))
    · simp only [Wi, Wj, if_true, if_false, Bool.false_eq_true] at h ⊢
      intro w hw
      exact nqUpon_mono (fun v hv => by rw [pc] at hv; exact hv) (h w hw)
  · by_cases Wj : Region.wanted oj (yielded ops a.tmps) = true
    · simp only [Wi, Wj, if_true, if_false, Bool.false_eq_true] at h ⊢
      intro w hw
      exact nqUpon_mono (fun u hu => by rw [pc] at hu; exact hu) (h w hw)
    · simp only [Wi, Wj, if_false, Bool.false_eq_true] at h ⊢
      rw [pc] at h; exact h

/-- Whatever order is picked, the first n operations ahead of L. -/
def nqAny (P : Program) (md : Region.Mode) (ops : Array Oper) (C : World → Prop) (F : FuncId → Array Value → Value → Prop) (n : Nat) (L : Array Bool → Act → Prop) : Nat → Array Bool → Act → Prop
  | 0, listed, a => L listed a
  | f + 1, listed, a =>
    Region.ready md ops listed ≠ [] ∧ ∀ i ∈ Region.ready md ops listed, i < n ∧ nqOp P ops C F i (nqAny P md ops C F n L f (listed.setIfInBounds i true)) a

theorem wpOp_of_nqOp {i : Nat} {a : Act} {K : Act → Prop} {K' : Act → World → Prop} {Q' : Exit → Act → World → Prop} {w : World} (hw : C w) (h : ∀ a w', C w' → K a → K' a w') (hh : nqOp P ops C F i K a) : wpOp P ops Q' i K' a w := by
  unfold nqOp at hh
  unfold wpOp
  split
  · rename_i ho; simp only [ho] at hh; exact h _ _ hw hh
  · rename_i o ho
    simp only [ho] at hh
    split
    · rename_i hwt; simp only [hwt, if_true] at hh
      refine .inl ?_
      have hh := hh w hw
      unfold Oper.wp
      generalize (execOp a.eval o).run P w = r at *
      cases r with
      | ok n w' =>
        cases n <;> simp only [nqUpon] at hh <;> simp only [Oper.upon]
        case value u => exact h _ _ hh.1 hh.2
        case skip => exact h _ _ hh.1 hh.2
        case enter f args =>
          exact (hh.2.1 _ hh.1).mono fun e w'' ⟨v, he, hv, hc⟩ => by subst he; exact h _ _ hc (hh.2.2 v hv)
      | halt x w' => simp only [nqUpon] at hh
    · rename_i hwt; simp only [hwt] at hh; exact h _ _ hw hh

theorem wpAny_of_nqAny {n g : Nat} {L : Array Bool → Act → Prop} {Q' : Exit → Act → World → Prop} (hL : ∀ listed a w, C w → L listed a → wpAny P md ops Q' g listed a w) :
    ∀ (f : Nat) (listed : Array Bool) (a : Act) (w : World), C w → nqAny P md ops C F n L f listed a → wpAny P md ops Q' (f + g) listed a w
  | 0, listed, a, w, hw, h => by rw [Nat.zero_add]; exact hL _ _ _ hw h
  | f + 1, listed, a, w, hw, h => by
    rw [show f + 1 + g = (f + g) + 1 by omega]
    exact ⟨fun h0 => absurd h0 h.1, fun i hi => wpOp_of_nqOp hw (fun a' w' hw' h' => wpAny_of_nqAny hL f _ a' w' hw' h') (h.2 i hi).2⟩

theorem nqAny_first {n i : Nat} {oi : Oper} {L : Array Bool → Act → Prop} (hC : ∃ w, C w) (hi : ops[i]? = some oi) (hsel : ∀ (j : Nat) (o : Oper) cs b, ops[j]? = some o → o.op ≠ .select cs b)
    (hs : Region.sinkB md ops n = true ∨ ops.size ≤ n) (hc : Region.chainB md ops n = true ∨ ops.size ≤ n) (hin : i < n)
    (hdone : ∀ listed a, L listed a → ∀ j ∈ Region.ready md ops listed, n ≤ j) :
    ∀ (f : Nat) (listed : Array Bool) (a : Act), HeadInv md ops n listed →
      (∀ j oj, ops[j]? = some oj → j ≠ i → listed.getD j true = false → (∀ e ∈ oj.after, Region.binds md e = true → e.on ≠ i) → oi.apart ops oj = true) →
      i ∈ Region.ready md ops listed →
      nqOp P ops C F i (nqAny P md ops C F n L f (listed.setIfInBounds i true)) a → nqAny P md ops C F n L (f + 1) listed a := by
  have early : ∀ (listed : Array Bool), HeadInv md ops n listed → i ∈ Region.ready md ops listed → ∀ j ∈ Region.ready md ops listed, j < n := by
    intro listed inv hr j hj
    have hun := (mem_ready.1 hr).1
    rcases Nat.lt_or_ge j n with h | h
    · exact h
    · have hjs : j < ops.size := by
        obtain ⟨_, oj, hoj, _⟩ := mem_ready.1 hj
        exact (Array.getElem?_eq_some_iff.1 hoj).1
      have hn : n < ops.size := by omega
      exact absurd hj (tail_waits (hs.resolve_right (by omega)) (hc.resolve_right (by omega)) hn inv _ i rfl hin hun j h)
  intro f
  induction f with
  | zero =>
    intro listed a inv _ hr H
    refine ⟨fun h => (by rw [h] at hr; cases hr), fun j hj => ?_⟩
    have hjn := early listed inv hr j hj
    refine ⟨hjn, ?_⟩
    by_cases hji : j = i
    · subst hji; exact H
    · exfalso
      have hready := ready_mono hj hji
      -- L holds of some frame
      obtain ⟨w0, hw0⟩ := hC
      unfold nqOp at H
      simp only [hi] at H
      split at H
      · have H := H w0 hw0
        generalize (execOp a.eval oi).run P w0 = r at H
        cases r with
        | ok n' w' =>
          cases n' <;> simp only [nqUpon] at H
          case value u => have := hdone _ _ H.2 j hready; omega
          case skip => have := hdone _ _ H.2 j hready; omega
          case enter f args =>
            obtain ⟨e, w3, fr, ⟨v0, _, hv0, _⟩, _⟩ := H.2.1 w0 hw0 []
            have := hdone _ _ (H.2.2 v0 hv0) j hready; omega
        | halt x w' => simp only [nqUpon] at H
      · have := hdone _ _ H j hready; omega
  | succ f ih =>
    intro listed a inv hfree hr H
    have hun := (mem_ready.1 hr).1
    refine ⟨fun h => (by rw [h] at hr; cases hr), fun j hj => ?_⟩
    have hjn := early listed inv hr j hj
    refine ⟨hjn, ?_⟩
    by_cases hji : j = i
    · subst hji; exact H
    · obtain ⟨hjun, oj, hoj, hall⟩ := mem_ready.1 hj
      have hnot : ∀ e ∈ oj.after, Region.binds md e = true → e.on ≠ i := fun e he hb heq => by
        have h1 := hall e he hb
        rw [heq, getD_both hun] at h1
        cases h1
      have H' : nqOp P ops C F i (nqOp P ops C F j (nqAny P md ops C F n L f ((listed.setIfInBounds i true).setIfInBounds j true))) a :=
        nqOp_mono (fun a' h' => (h'.2 j (ready_mono hj hji)).2) H
      have h2 := nq_swap hC (hfree j oj hoj hji hjun hnot) (fun cs b => hsel i oi cs b hi) (fun cs b => hsel j oj cs b hoj) hi hoj H'
      have hfree' : ∀ k ok, ops[k]? = some ok → k ≠ i → (listed.setIfInBounds j true).getD k true = false →
          (∀ e ∈ ok.after, Region.binds md e = true → e.on ≠ i) → oi.apart ops ok = true := fun k ok hk hki hun' hno => by
        refine hfree k ok hk hki ?_ hno
        by_cases hjk : j = k
        · subst hjk; exact hjun
        · rw [getD_set_ne true hjk] at hun'; exact hun'
      refine nqOp_mono (fun a' h3 => ih (listed.setIfInBounds j true) a' (inv.set hj hjn) hfree' (ready_mono hr (Ne.symm hji)) ?_) h2
      rw [Array.setIfInBounds_comm _ _ hji]
      exact h3

theorem nqAny_lex {n g : Nat} {Lq : Act → Prop} (hC : ∃ w, C w) (hsel : Region.noSelect ops = true) (hs : Region.sinkB md ops n = true ∨ ops.size ≤ n) (hc : Region.chainB md ops n = true ∨ ops.size ≤ n) :
    ∀ (l : List Oper) (k : Nat) (listed : Array Bool) (a : Act), (∀ j, j < l.length → l[j]? = ops[k + j]?) → k + l.length = n → HeadInv md ops n listed →
    Region.lexHead md ops g l.length k listed = true → nqW P ops C F Lq l a →
    nqAny P md ops C F n (fun listed' a' => Region.seqB md ops g n listed' = true ∧ Lq a') l.length listed a
  | [], k, listed, a, _, hk, _, hB, h => by
    have : k = n := by simpa using hk
    subst this
    exact ⟨by simpa [Region.lexHead] using hB, h⟩
  | o :: l, k, listed, a, hl, hk, inv, hB, h => by
    have h0 : ops[k]? = some o := by simpa using (hl 0 (by simp)).symm
    simp only [List.length_cons, Region.lexHead, Bool.and_eq_true] at hB
    obtain ⟨⟨hr, hf⟩, hB'⟩ := hB
    have hkn : k < n := by simp only [List.length_cons] at hk; omega
    have hr' : k ∈ Region.ready md ops listed := by simpa using hr
    have hst : nqOp P ops C F k (nqW P ops C F Lq l) a := by unfold nqOp; simp only [h0]; exact h
    exact nqAny_first hC h0 (Region.noSelect_spec hsel) hs hc hkn (fun listed' a' hL => seqB_ready hL.1) l.length listed a inv (Region.free_spec h0 hf) hr'
      (nqOp_mono (fun a' h' => nqAny_lex hC hsel hs hc l (k + 1) _ _ (fun j hj => by have := hl (j + 1) (by simp; omega); simpa [Nat.add_assoc, Nat.add_comm 1 j] using this) (by simp only [List.length_cons] at hk; omega) (inv.set hr' hkn) hB' h') hst)

/-- Does the Bool hold: the first n in any order, the others one by one? -/
def nqB (l : List Oper) (n : Nat) : Bool :=
  Region.noSelect l.toArray && (decide (l.toArray.size ≤ n) || (Region.sinkB .any l.toArray n && Region.chainB .any l.toArray n)) && decide (n ≤ l.length) &&
    Region.lexHead .any l.toArray (l.toArray.size - n) n 0 (Array.replicate l.toArray.size false)

/-- **THE REGION.** -/
theorem wp_region_nq {id : Nat} {Q : Exit → Act → World → Prop} {a : Act} {w : World} {l : List Oper} (n : Nat) (F : FuncId → Array Value → Value → Prop) (C : World → Prop)
    (hm : P.follows .mixedOrders = true) (hB : nqB l n = true) (hC : C { w with drawn := w.drawn + 1 })
    (h : nqW P l.toArray C F (fun a' => ∀ w', C w' → wpList P l.toArray Q (l.drop n) a' w') (l.take n) a) : (Code.region id l.toArray true).wp P Q a w := by
  simp only [nqB, Bool.and_eq_true, Bool.or_eq_true, decide_eq_true_eq] at hB
  obtain ⟨⟨⟨hsel, hsc⟩, hn⟩, hlex⟩ := hB
  have htl : (l.take n).length = n := by simp; omega
  have hdl : (l.drop n).length = l.toArray.size - n := by simp
  have inv0 : HeadInv .any l.toArray n (Array.replicate l.toArray.size false) :=
    ⟨by simp, fun j oj _ hl => (by rw [getD_replicate_false] at hl; cases hl), fun t _ ht => getD_in (by simpa using ht) (getD_replicate_false _ _)⟩
  have hs : Region.sinkB .any l.toArray n = true ∨ l.toArray.size ≤ n := hsc.elim (fun h => .inr h) (fun h => .inl h.1)
  have hc : Region.chainB .any l.toArray n = true ∨ l.toArray.size ≤ n := hsc.elim (fun h => .inr h) (fun h => .inl h.2)
  have H := nqAny_lex (md := .any) (g := l.toArray.size - n) ⟨_, hC⟩ hsel hs hc (l.take n) 0 _ a (fun j hj => by
    have hj' : j < n := by rw [htl] at hj; exact hj
    simp [hj']) (by simpa using htl) inv0 (by rw [htl]; exact hlex) h
  refine wp_region_any hm ?_
  have := wpAny_of_nqAny (Q' := Q) (g := l.toArray.size - n) (fun listed a' w' hw' hL => by
    have := wpAny_of_seq (md := .any) (Q' := Q) (l.drop n) n listed a' w' (fun j => by simp [List.getElem?_drop]) (by rw [hdl]; exact hL.1) (hL.2 w' hw')
    rwa [hdl] at this) _ _ _ _ hC H
  rw [htl, show n + (l.toArray.size - n) = l.toArray.size by simp; omega] at this
  exact this
end
attribute [irreducible] nqW nq
end Go.Proofs.Ytdljnhdhigbefaa
