/- The equation's roots, as plain functions of words. -/
import Derived.Test.YtpjdibanjmmbkaaSec
namespace Go.Proofs.Ytpjdibanjmmbkaa
open Go Go.RowKit

/-- The sum of the squares of the first k. -/
def sqSum (zs : List Nat) : Nat → Nat
  | 0 => 0
  | k + 1 => fadd (sqSum zs k) (fmul (zs.getD k 0) (zs.getD k 0))
/-- The greatest size of root k. -/
def greatS (ds zs : List Nat) (rho k : Nat) : Nat := if k + 1 = ds.length then fmul rho (sqSum zs zs.length) else fmul (fsub (ds.getD (k + 1) 0) (ds.getD k 0)) 4602678819172646912
/-- Is the root taken from the next pole? -/
def negS (ds zs : List Nat) (rho k : Nat) : Bool := decide (k + 1 ≠ ds.length) && ffin (greatS ds zs rho k) && !fle 0 (sideS ds zs rho k (greatS ds zs rho k))
def atS (ds zs : List Nat) (rho k : Nat) : Nat := if negS ds zs rho k then k + 1 else k
def sgnS (neg : Bool) : Nat := if neg then 13830554455654793216 else 4607182418800017408
/-- Is the root no further off? -/
def aboveS (neg : Bool) (x : Nat) : Bool := if neg then fle x 0 else fle 0 x
/-- The test of a size. -/
def testS (ds zs : List Nat) (rho k : Nat) (mid : Nat) : Bool := aboveS (negS ds zs rho k) (sideS ds zs rho (atS ds zs rho k) (fmul (sgnS (negS ds zs rho k)) mid))
/-- Halvings. -/
def bisF (t : Nat → Bool) : Nat → Nat → Nat → Nat → Nat × Nat
  | 0, _, high, many => (high, many)
  | f + 1, low, high, many => if low + 1 < high then (if t (low + (high - low) / 2) then bisF t f low (low + (high - low) / 2) (many + 1) else bisF t f (low + (high - low) / 2) high (many + 1)) else (high, many)
theorem bisF_fuel (t : Nat → Bool) : ∀ (f g low high many : Nat), high - low ≤ f → high - low ≤ g → bisF t f low high many = bisF t g low high many := by
  intro f
  induction f with
  | zero =>
    intro g low high many hf hg
    cases g with
    | zero => rfl
    | succ g => unfold bisF; rw [if_neg (by omega)]
  | succ f ih =>
    intro g low high many hf hg
    cases g with
    | zero => unfold bisF; rw [if_neg (by omega)]
    | succ g =>
      unfold bisF
      by_cases h : low + 1 < high
      · rw [if_pos h, if_pos h]
        split
        · exact ih g _ _ _ (by omega) (by omega)
        · exact ih g _ _ _ (by omega) (by omega)
      · rw [if_neg h, if_neg h]
/-- The halvings from low and high on, with enough steps. -/
def bis (t : Nat → Bool) (low high many : Nat) : Nat × Nat := bisF t (high - low) low high many
theorem bis_end (t : Nat → Bool) {low high many : Nat} (h : ¬ low + 1 < high) : bis t low high many = (high, many) := by
  unfold bis
  cases e : high - low with
  | zero => rfl
  | succ f => unfold bisF; rw [if_neg h]
theorem bis_high (t : Nat → Bool) {low high many : Nat} (h : low + 1 < high) (ht : t (low + (high - low) / 2) = true) : bis t low high many = bis t low (low + (high - low) / 2) (many + 1) := by
  unfold bis
  obtain ⟨f, hf⟩ : ∃ f, high - low = f + 1 := ⟨high - low - 1, by omega⟩
  rw [bisF_fuel t (high - low) (f + 1) low high many (Nat.le_refl _) (by omega)]
  conv => lhs; unfold bisF
  rw [if_pos h, if_pos ht]
  exact bisF_fuel t f _ low (low + (high - low) / 2) (many + 1) (by omega) (Nat.le_refl _)
theorem bis_low (t : Nat → Bool) {low high many : Nat} (h : low + 1 < high) (ht : t (low + (high - low) / 2) = false) : bis t low high many = bis t (low + (high - low) / 2) high (many + 1) := by
  unfold bis
  obtain ⟨f, hf⟩ : ∃ f, high - low = f + 1 := ⟨high - low - 1, by omega⟩
  rw [bisF_fuel t (high - low) (f + 1) low high many (Nat.le_refl _) (by omega)]
  conv => lhs; unfold bisF
  rw [if_pos h, if_neg (by rw [ht]; exact Bool.false_ne_true)]
  exact bisF_fuel t f _ (low + (high - low) / 2) high (many + 1) (by omega) (Nat.le_refl _)
/-- What the halvings end at: the test holds there, or it is where they began; and not just below, or that is where they began. -/
theorem bisF_spec (t : Nat → Bool) : ∀ (f low high many : Nat), high - low ≤ f → ∃ l, (bisF t f low high many).1 ≤ l + 1 ∧ low ≤ l ∧ (bisF t f low high many).1 ≤ max low high ∧ (l < (bisF t f low high many).1 ∨ high ≤ low ∧ l = low) ∧ ((bisF t f low high many).1 = high ∨ t (bisF t f low high many).1 = true) ∧ (l = low ∨ t l = false) := by
  intro f
  induction f with
  | zero => intro low high many hf; exact ⟨low, by show high ≤ _; omega, by omega, by show high ≤ _; omega, .inr ⟨by omega, rfl⟩, .inl rfl, .inl rfl⟩
  | succ f ih =>
    intro low high many hf
    unfold bisF
    by_cases h : low + 1 < high
    · rw [if_pos h]
      cases ht : t (low + (high - low) / 2) with
      | true =>
        rw [if_pos rfl]
        obtain ⟨l, h1, h2, h3, h4, h5, h6⟩ := ih low (low + (high - low) / 2) (many + 1) (by omega)
        refine ⟨l, h1, h2, by omega, h4.imp_right (fun h => by omega), ?_, h6⟩
        rcases h5 with h5 | h5
        · right; rw [h5]; exact ht
        · exact .inr h5
      | false =>
        rw [if_neg (by decide)]
        obtain ⟨l, h1, h2, h3, h4, h5, h6⟩ := ih (low + (high - low) / 2) high (many + 1) (by omega)
        refine ⟨l, h1, by omega, by omega, h4.imp_right (fun h => by omega), h5, ?_⟩
        rcases h6 with h6 | h6
        · right; rw [h6]; exact ht
        · exact .inr h6
    · rw [if_neg h]
      by_cases hl : high ≤ low
      · exact ⟨low, by show high ≤ _; omega, by omega, by show high ≤ _; omega, .inr ⟨hl, rfl⟩, .inl rfl, .inl rfl⟩
      · exact ⟨low, by show high ≤ _; omega, by omega, by show high ≤ _; omega, .inl (by show low < high; omega), .inl rfl, .inl rfl⟩

theorem sideAcc_raw (ds zs : List Nat) (q v s k : Nat) : sideAcc ds zs q (raw v s) k = sideAcc ds zs q v k := by
  induction k with
  | zero => rfl
  | succ k ih => unfold sideAcc; rw [ih, fsub_rawr]
@[go_sem] theorem sideS_raw (ds zs : List Nat) (rho q v s : Nat) : sideS ds zs rho q (raw v s) = sideS ds zs rho q v := by unfold sideS; rw [sideAcc_raw]
theorem gap_high {low high many X : Nat} (h : low + 1 < high) (hm : (high - low - 1) * 2 ^ many < X) : (low + (high - low) / 2 - low - 1) * 2 ^ (many + 1) < X := by
  rw [Nat.pow_succ, Nat.mul_comm (2 ^ many) 2, ← Nat.mul_assoc]
  exact Nat.lt_of_le_of_lt (Nat.mul_le_mul_right _ (by omega)) hm
theorem gap_low {low high many X : Nat} (h : low + 1 < high) (hm : (high - low - 1) * 2 ^ many < X) : (high - (low + (high - low) / 2) - 1) * 2 ^ (many + 1) < X := by
  rw [Nat.pow_succ, Nat.mul_comm (2 ^ many) 2, ← Nat.mul_assoc]
  exact Nat.lt_of_le_of_lt (Nat.mul_le_mul_right _ (by omega)) hm
theorem gap_many {low high many : Nat} (h : low + 1 < high) (hm : (high - low - 1) * 2 ^ many < 18446744073709551616) : many < 64 := by
  have h1 : 2 ^ many < 2 ^ 64 := by
    have h2 : 1 * 2 ^ many ≤ (high - low - 1) * 2 ^ many := Nat.mul_le_mul_right _ (by omega)
    have h3 : (2 : Nat) ^ 64 = 18446744073709551616 := by decide
    omega
  exact (Nat.pow_lt_pow_iff_right (by decide)).1 h1
theorem greatS_lt (ds zs : List Nat) (rho k : Nat) : greatS ds zs rho k < 18446744073709551616 := by
  unfold greatS; split <;> exact fmul_lt _ _
end Go.Proofs.Ytpjdibanjmmbkaa
