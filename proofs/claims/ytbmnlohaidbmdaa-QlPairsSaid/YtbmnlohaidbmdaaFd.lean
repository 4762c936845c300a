/- A float's difference to itself is nought just if it is finite. -/
import Derived.Test.YtbmnlohaidbmdaaExa
import Derived.Test.YtbmnlohaidbmdaaMath
namespace Go.Proofs.Ytbmnlohaidbmdaa
open Go Go.RowKit
set_option maxRecDepth 100000
/-- Is its difference to itself nought? -/
def fnS (x : Nat) : Bool := feq (fsub x x) 0
theorem fnS_raw (v s : Nat) : fnS (raw v s) = fnS v := by
  unfold fnS
  rw [← fsub_nm (raw v s) (raw v s), nm_raw, fsub_nm]
theorem fsub_self_fin {x : Nat} (h : ffin x = true) : fsub x x = 0 := by
  unfold ffin at h
  simp only [decide_eq_true_eq] at h
  obtain ⟨m, i, hr, _, _⟩ := read_fin x h
  unfold fsub Ieee.Format.sub
  rw [hr]
  generalize (x / 9223372036854775808 % 2 == 1) = s
  have e : Ieee.signed (!s) m (i - min i i).toNat = - Ieee.signed s m (i - min i i).toNat := by unfold Ieee.signed; cases s <;> simp
  have hs : (Ieee.Datum.number s m i).sum (Ieee.Datum.number s m i).opposite = some (.number false 0 (min i i)) := by
    show some (Ieee.Datum.number (if Ieee.signed s m (i - min i i).toNat + Ieee.signed (!s) m (i - min i i).toNat = 0 then s && !s else decide (Ieee.signed s m (i - min i i).toNat + Ieee.signed (!s) m (i - min i i).toNat < 0)) (Ieee.signed s m (i - min i i).toNat + Ieee.signed (!s) m (i - min i i).toNat).natAbs (min i i)) = _
    rw [e, Int.add_right_neg, if_pos rfl]
    cases s <;> rfl
  rw [hs]
  show Ieee.double.write (.number false 0 (min i i)) = 0
  show Ieee.double.nearest false 0 (min i i) = 0
  rw [nearest_zero]
  rfl
theorem fnS_ffin (x : Nat) : fnS x = ffin x := by
  cases h : ffin x
  · cases hx : isnan x
    · have hi : x % 9223372036854775808 = 9218868437227405312 := by
        unfold ffin at h
        unfold isnan at hx
        simp only [decide_eq_false_iff_not] at h hx
        omega
      unfold fnS
      have e : fsub x x = qnan := by
        unfold fsub Ieee.Format.sub
        rw [read_inf x hi]
        generalize (x / 9223372036854775808 % 2 == 1) = s
        cases s <;> rfl
      rw [e]
      exact (show feq qnan 0 = false from by kernel_rfl)
    · unfold fnS
      have e : fsub x x = qnan := by
        unfold fsub Ieee.Format.sub
        rw [sum_nan_left _ (by rw [read_nan]; exact hx)]
        rfl
      rw [e]
      exact (show feq qnan 0 = false from by kernel_rfl)
  · unfold fnS
    rw [fsub_self_fin h]
    exact (show feq 0 0 = true from by kernel_rfl)
end Go.Proofs.Ytbmnlohaidbmdaa
