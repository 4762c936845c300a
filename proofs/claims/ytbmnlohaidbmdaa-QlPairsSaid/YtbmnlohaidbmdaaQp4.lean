/- Layer 12, plainly: with nothing beside the diagonal there is no sweep. No condition. -/
import Derived.Test.YtbmnlohaidbmdaaQp3
import Derived.Test.YtbmnlohaidbmdaaExa
namespace Go.Proofs.Ytbmnlohaidbmdaa
open Go Go.RowKit
set_option maxRecDepth 100000

theorem sum_comm (x y : Ieee.Datum) : x.sum y = y.sum x := by
  cases x <;> cases y <;> simp only [Ieee.Datum.sum]
  case number.number s m i t n j => rw [Int.min_comm, Int.add_comm, Bool.and_comm]
  case infinity.infinity s t => cases s <;> cases t <;> rfl
theorem fadd_comm (x y : Nat) : fadd x y = fadd y x := by unfold fadd Ieee.Format.add; rw [sum_comm]
theorem isnan_ffinq {x : Nat} (h : ffin x = true) : isnan x = false := by
  unfold ffin at h
  unfold isnan
  simp only [decide_eq_true_eq] at h
  rw [decide_eq_false_iff_not]
  omega
/-- Of a size nought more is that size. -/
theorem fadd_zero_abs {x : Nat} (hx : x < 9223372036854775808) (hn : isnan x = false) : feq (fadd 0 x) x = true := by
  have hr : x ≤ 9218868437227405312 := by
    unfold isnan at hn
    rw [decide_eq_false_iff_not] at hn
    omega
  by_cases hi : x = 9218868437227405312
  · subst hi
    have e : fadd 0 9218868437227405312 = 9218868437227405312 := by kernel_rfl
    rw [e, feq_self, hn]
    rfl
  · have hf : x % 9223372036854775808 < 9218868437227405312 := by omega
    have hm : x % 9223372036854775808 = x := by omega
    obtain ⟨m, i, e1, hi', hv⟩ := read_fin x hf
    rw [hm] at hv
    have hs : (x / 9223372036854775808 % 2 == 1) = false := by
      rw [show x / 9223372036854775808 = 0 by omega]; rfl
    rw [hs] at e1
    have e0 : Ieee.double.read 0 = .number false 0 (-1074) := by kernel_rfl
    have e : fadd 0 x = x := by
      rw [fadd_comm]
      unfold fadd Ieee.Format.add
      rw [e1, e0]
      simp only [Ieee.Datum.sum]
      have hmin : min i (-1074) = -1074 := by omega
      have hto : (i - -1074).toNat = (i + 1074).toNat := by omega
      rw [hmin, hto]
      have hsg : Ieee.signed false m (i + 1074).toNat + Ieee.signed false 0 ((-1074 : Int) - -1074).toNat = (fval x : Int) := by
        unfold Ieee.signed
        simp [hv]
      rw [hsg]
      simp only [Option.map_some, Option.getD_some]
      show Ieee.double.nearest _ _ _ = x
      rcases Nat.eq_zero_or_pos x with h0 | h0
      · subst h0
        rw [fval_zero]
        kernel_rfl
      · have hp := fval_lt h0
        rw [fval_zero] at hp
        rw [if_neg (by omega), show decide ((fval x : Int) < 0) = false from decide_eq_false (by omega), Int.natAbs_natCast,
          nearest_exact false (fval x) (-1074) x 0 0 hp (by omega) rfl (by decide), word_val]
        rfl
    rw [e, feq_self, hn]
    rfl
theorem both_num {a b : Nat} (ha : ffin a = true) (hb : ffin b = true) : isnan (fadd (fabs a) (fabs b)) = false ∧ fadd (fabs a) (fabs b) < 9223372036854775808 := by
  have h1 : fabs a % 9223372036854775808 < 9218868437227405312 := by
    unfold ffin at ha; rw [decide_eq_true_eq] at ha; unfold fabs; omega
  have h2 : fabs b % 9223372036854775808 < 9218868437227405312 := by
    unfold ffin at hb; rw [decide_eq_true_eq] at hb; unfold fabs; omega
  have hn : isnan (fadd (fabs a) (fabs b)) = false := by
    obtain ⟨m, i, e1, _⟩ := read_fin _ h1
    obtain ⟨n, j, e2, _⟩ := read_fin _ h2
    unfold fadd Ieee.Format.add
    rw [e1, e2]
    simp only [Ieee.Datum.sum, Option.map_some, Option.getD_some]
    exact write_not_nan _ rfl
  have hs : ∀ x, fsgn (fabs x) = false := fun x => (fsgn_lt (fabs_ltq x)).2 (by unfold fabs; omega)
  exact ⟨hn, (fsgn_lt (fadd_lt _ _)).1 (fadd_sgn (hs a) (hs b) hn)⟩
theorem endB_zero {d e : List Nat} {m : Nat} (hd : ∀ i, i < d.length → ffin (d.getD i 0) = true) (he : fabs (e.getD m 0) = 0) (hm : m + 1 < d.length) : endB d e m = true := by
  unfold endB
  rw [he]
  obtain ⟨h1, h2⟩ := both_num (hd m (by omega)) (hd (m + 1) hm)
  exact fadd_zero_abs h2 h1
theorem endL_zero {d e : List Nat} {l : Nat} (hd : ∀ i, i < d.length → ffin (d.getD i 0) = true) (he : ∀ i, fabs (e.getD i 0) = 0) : endL d e d.length l = l := by
  rw [endL_step]
  split
  · rename_i h
    rw [endB_zero hd (he l) h, if_pos rfl]
  · rfl
theorem solQ_zero {n rows : Nat} {x : QlS} (hd : ∀ i, i < x.d.length → ffin (x.d.getD i 0) = true) (he : ∀ i, fabs (x.e.getD i 0) = 0) : ∀ (k s : Nat), solQ n rows k x s = (x, s, true)
  | 0, s => rfl
  | k + 1, s => by
    have h : valQ n rows (n - (k + 1)) 30 x = (x, 0, true) := by rw [valQ, if_pos (endL_zero hd he)]
    rw [solQ, h]
    exact solQ_zero hd he k s
end Go.Proofs.Ytbmnlohaidbmdaa
