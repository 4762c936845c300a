/- Layer 12, plainly: lengths, bounds, what hangs on what. No condition. -/
import Derived.Test.YtbmnlohaidbmdaaQp
namespace Go.Proofs.Ytbmnlohaidbmdaa
open Go Go.RowKit
set_option maxRecDepth 100000

theorem hypP_lt {p q : Nat} (hp : p < 18446744073709551616) : hypP p q < 18446744073709551616 := by unfold hypP; split; exact hp; exact fmul_lt _ _
theorem fabs_ltq (x : Nat) : fabs x < 18446744073709551616 := by unfold fabs; omega
theorem hypW_lt (x y : Nat) : hypW x y < 18446744073709551616 := by unfold hypW; split <;> exact hypP_lt (fabs_ltq _)
theorem turnR_len (z : List Nat) (n i c s r : Nat) : (turnR z n i c s r).length = z.length := by unfold turnR; simp
theorem turnL_len (z : List Nat) (n i c s : Nat) : ∀ k, (turnL z n i c s k).length = z.length
  | 0 => rfl
  | k + 1 => by rw [turnL, turnR_len, turnL_len z n i c s k]
theorem endL_bnd (d e : List Nat) : ∀ (f m : Nat), m ≤ endL d e f m ∧ (m < d.length → endL d e f m < d.length)
  | 0, m => ⟨Nat.le_refl _, fun h => h⟩
  | f + 1, m => by
    rw [endL]
    split
    · rename_i h
      split
      · exact ⟨Nat.le_refl _, fun h => h⟩
      · obtain ⟨h1, h2⟩ := endL_bnd d e f (m + 1)
        exact ⟨by omega, fun _ => h2 h⟩
    · exact ⟨Nat.le_refl _, fun h => h⟩
/-- More fuel does not matter. -/
theorem endL_more (d e : List Nat) : ∀ (f m : Nat), d.length ≤ m + f + 1 → ∀ g, endL d e (f + g) m = endL d e f m
  | 0, m, h, g => by
    rw [Nat.zero_add]
    cases g with
    | zero => rfl
    | succ g =>
      show (if m + 1 < d.length then _ else m) = m
      rw [if_neg (by omega)]
  | f + 1, m, h, g => by
    rw [show f + 1 + g = (f + g) + 1 by omega, endL, endL]
    rw [endL_more d e f (m + 1) (by omega) g]
/-- One step of the search for a block's end. -/
theorem endL_step (d e : List Nat) {m : Nat} : endL d e d.length m = if m + 1 < d.length then (if endB d e m then m else endL d e d.length (m + 1)) else m := by
  cases hn : d.length with
  | zero => rw [endL, if_neg (by omega)]
  | succ n =>
    rw [endL, hn]
    have := endL_more d e n (m + 1) (by omega) 1
    rw [this]
theorem swN_len (n rows : Nat) (x : SwS) (i : Nat) : (swN n rows x i).d.length = x.d.length ∧ (swN n rows x i).e.length = x.e.length ∧ (swN n rows x i).z.length = x.z.length := by
  unfold swN
  exact ⟨by simp, by simp, turnL_len _ _ _ _ _ _⟩
theorem swL_len (n rows l m : Nat) : ∀ (k : Nat) (x : SwS), (swL n rows l m k x).1.d.length = x.d.length ∧ (swL n rows l m k x).1.e.length = x.e.length ∧ (swL n rows l m k x).1.z.length = x.z.length
  | 0, x => ⟨rfl, rfl, rfl⟩
  | k + 1, x => by
    rw [swL]
    split
    · unfold swX; exact ⟨by simp, by simp, rfl⟩
    · obtain ⟨h1, h2, h3⟩ := swL_len n rows l m k (swN n rows x (l + k))
      obtain ⟨j1, j2, j3⟩ := swN_len n rows x (l + k)
      exact ⟨h1.trans j1, h2.trans j2, h3.trans j3⟩
theorem sweepL_len (n rows : Nat) (x : QlS) (l m : Nat) : (sweepL n rows x l m).d.length = x.d.length ∧ (sweepL n rows x l m).e.length = x.e.length ∧ (sweepL n rows x l m).z.length = x.z.length := by
  obtain ⟨h1, h2, h3⟩ := swL_len n rows l m (m - l) (sw0 x.d x.e x.z l m)
  unfold sweepL swE
  split
  · exact ⟨h1, h2, h3⟩
  · exact ⟨by simp; exact h1, by simp; exact h2, h3⟩
theorem valQ_len (n rows l : Nat) : ∀ (f : Nat) (x : QlS), (valQ n rows l f x).1.d.length = x.d.length ∧ (valQ n rows l f x).1.e.length = x.e.length ∧ (valQ n rows l f x).1.z.length = x.z.length
  | 0, x => by
    rw [valQ]
    split <;> exact ⟨rfl, rfl, rfl⟩
  | f + 1, x => by
    rw [valQ]
    split
    · exact ⟨rfl, rfl, rfl⟩
    · obtain ⟨h1, h2, h3⟩ := valQ_len n rows l f (sweepL n rows x l (endL x.d x.e x.d.length l))
      obtain ⟨j1, j2, j3⟩ := sweepL_len n rows x l (endL x.d x.e x.d.length l)
      exact ⟨h1.trans j1, h2.trans j2, h3.trans j3⟩
theorem valQ_many (n rows l : Nat) : ∀ (f : Nat) (x : QlS), (valQ n rows l f x).2.1 ≤ f
  | 0, x => by
    rw [valQ]
    split <;> exact Nat.le_refl _
  | f + 1, x => by
    rw [valQ]
    split
    · exact Nat.zero_le _
    · exact Nat.succ_le_succ (valQ_many n rows l f _)
theorem solQ_len (n rows : Nat) : ∀ (k : Nat) (x : QlS) (s : Nat), (solQ n rows k x s).1.d.length = x.d.length ∧ (solQ n rows k x s).1.e.length = x.e.length ∧ (solQ n rows k x s).1.z.length = x.z.length ∧ (solQ n rows k x s).2.1 ≤ s + 30 * k
  | 0, x, s => ⟨rfl, rfl, rfl, Nat.le_refl _⟩
  | k + 1, x, s => by
    rw [solQ]
    obtain ⟨j1, j2, j3⟩ := valQ_len n rows (n - (k + 1)) 30 x
    have j4 := valQ_many n rows (n - (k + 1)) 30 x
    split
    · obtain ⟨h1, h2, h3, h4⟩ := solQ_len n rows k (valQ n rows (n - (k + 1)) 30 x).1 (s + (valQ n rows (n - (k + 1)) 30 x).2.1)
      exact ⟨h1.trans j1, h2.trans j2, h3.trans j3, by omega⟩
    · exact ⟨j1, j2, j3, by show _ + _ ≤ _; omega⟩
theorem place_ltq {n r R c : Nat} (hr : r < R) (hc : c < n) : r * n + c < R * n := by
  have : (r + 1) * n ≤ R * n := Nat.mul_le_mul_right _ hr
  rw [Nat.succ_mul] at this
  omega
theorem minL_bnd (w : List Nat) : ∀ (f j k : Nat), k < w.length → minL w f j k < w.length
  | 0, _, _, h => h
  | f + 1, j, k, h => by
    rw [minL]
    split
    · rename_i hj
      refine minL_bnd w f (j + 1) _ ?_
      split
      · exact hj
      · exact h
    · exact h
theorem swapL_len (l : List Nat) (i k : Nat) : (swapL l i k).length = l.length := by unfold swapL; simp
theorem swapC_len (z : List Nat) (n i k : Nat) : ∀ r, (swapC z n i k r).length = z.length
  | 0 => rfl
  | r + 1 => by rw [swapC, swapL_len, swapC_len z n i k r]
theorem sortQ_len (n rows : Nat) (w z : List Nat) : ∀ i, (sortQ n rows w z i).1.length = w.length ∧ (sortQ n rows w z i).2.length = z.length
  | 0 => ⟨rfl, rfl⟩
  | i + 1 => by
    obtain ⟨h1, h2⟩ := sortQ_len n rows w z i
    rw [sortQ]
    exact ⟨(swapL_len _ _ _).trans h1, (swapC_len _ _ _ _ _).trans h2⟩

/-! ### Values and sweeps do not hang on the matrix -/
def same2 (x y : SwS) : Prop := x.d = y.d ∧ x.e = y.e ∧ x.g = y.g ∧ x.s = y.s ∧ x.c = y.c ∧ x.p = y.p
theorem swN_same {n rows n' rows' : Nat} {x y : SwS} (h : same2 x y) (i : Nat) : same2 (swN n rows x i) (swN n' rows' y i) := by
  obtain ⟨h1, h2, h3, h4, h5, h6⟩ := h
  unfold swN swR swF swB
  rw [h1, h2, h3, h4, h5, h6]
  exact ⟨rfl, rfl, rfl, rfl, rfl, rfl⟩
theorem swL_same {n rows n' rows' l m : Nat} : ∀ (k : Nat) {x y : SwS}, same2 x y → same2 (swL n rows l m k x).1 (swL n' rows' l m k y).1 ∧ (swL n rows l m k x).2 = (swL n' rows' l m k y).2
  | 0, x, y, h => ⟨h, rfl⟩
  | k + 1, x, y, h => by
    have hr : swR x (l + k) = swR y (l + k) := by
      obtain ⟨h1, h2, h3, h4, h5, h6⟩ := h
      unfold swR swF
      rw [h2, h3, h4]
    rw [swL, swL, hr]
    split
    · refine ⟨?_, rfl⟩
      obtain ⟨h1, h2, h3, h4, h5, h6⟩ := h
      unfold swX
      rw [hr, h1, h2, h6]
      exact ⟨rfl, rfl, h3, h4, h5, rfl⟩
    · exact swL_same k (swN_same h (l + k))
def sameQ (x y : QlS) : Prop := x.d = y.d ∧ x.e = y.e
theorem sweepL_same {n rows n' rows' : Nat} {x y : QlS} (h : sameQ x y) (l m : Nat) : sameQ (sweepL n rows x l m) (sweepL n' rows' y l m) := by
  obtain ⟨hd, he⟩ := h
  have h0 : same2 (sw0 x.d x.e x.z l m) (sw0 y.d y.e y.z l m) := by
    unfold sw0
    rw [hd, he]
    exact ⟨rfl, rfl, rfl, rfl, rfl, rfl⟩
  obtain ⟨⟨h1, h2, h3, h4, h5, h6⟩, h7⟩ := swL_same (n := n) (rows := rows) (n' := n') (rows' := rows') (l := l) (m := m) (m - l) h0
  unfold sweepL swE
  rw [← h7]
  split
  · exact ⟨h1, h2⟩
  · exact ⟨by simp only; rw [h1, h6], by simp only; rw [h2, h3]⟩
theorem valQ_same {n rows n' rows' l : Nat} : ∀ (f : Nat) {x y : QlS}, sameQ x y → sameQ (valQ n rows l f x).1 (valQ n' rows' l f y).1 ∧ (valQ n rows l f x).2 = (valQ n' rows' l f y).2
  | 0, x, y, h => by
    rw [valQ, valQ, h.1, h.2]
    split
    · exact ⟨h, rfl⟩
    · exact ⟨h, rfl⟩
  | f + 1, x, y, h => by
    rw [valQ, valQ, h.1, h.2]
    split
    · exact ⟨h, rfl⟩
    · obtain ⟨h1, h2⟩ := valQ_same f (sweepL_same (n := n) (rows := rows) (n' := n') (rows' := rows') h l (endL y.d y.e y.d.length l))
      exact ⟨h1, by dsimp only; rw [h2]⟩
theorem solQ_same {n rows rows' : Nat} : ∀ (k : Nat) {x y : QlS} (s : Nat), sameQ x y → sameQ (solQ n rows k x s).1 (solQ n rows' k y s).1 ∧ (solQ n rows k x s).2 = (solQ n rows' k y s).2
  | 0, x, y, s, h => ⟨h, rfl⟩
  | k + 1, x, y, s, h => by
    obtain ⟨h1, h2⟩ := valQ_same (n := n) (rows := rows) (n' := n) (rows' := rows') (l := n - (k + 1)) 30 h
    rw [solQ, solQ, ← h2]
    split
    · exact solQ_same k _ h1
    · exact ⟨h1, rfl⟩
theorem sortQ_same (n rows n' rows' : Nat) (w z z' : List Nat) : ∀ i, (sortQ n rows w z i).1 = (sortQ n' rows' w z' i).1
  | 0 => rfl
  | i + 1 => by
    rw [sortQ, sortQ]
    dsimp only
    rw [sortQ_same n rows n' rows' w z z' i]
end Go.Proofs.Ytbmnlohaidbmdaa
