/- 'QlValues': the law's call. No condition but on lengths. -/
import Derived.Test.YtbmnlohaidbmdaaQz
namespace Go.Proofs.Ytbmnlohaidbmdaa
open Go Go.RowKit
set_option maxRecDepth 1000000

theorem wrongV_zero {d e z : List Nat} {r c : Int} (h : wrongQ d e r c z = 0) : d.length ≤ 512 ∧ e.length = d.length - 1 ∧ d.all ffin = true ∧ e.all ffin = true ∧ z.all ffin = true := by
  unfold wrongQ at h
  by_cases h1 : mayT d.length e.length = false
  · rw [if_pos h1] at h; exact absurd h (by decide)
  rw [if_neg h1] at h
  by_cases h2 : mayB r c z.length = false
  · rw [if_pos h2] at h; exact absurd h (by decide)
  rw [if_neg h2] at h
  by_cases h3 : decide (c = (d.length : Int)) = false
  · rw [if_pos h3] at h; exact absurd h (by decide)
  rw [if_neg h3] at h
  by_cases h4 : d.all ffin = false
  · rw [if_pos h4] at h; exact absurd h (by decide)
  rw [if_neg h4] at h
  by_cases h5 : e.all ffin = false
  · rw [if_pos h5] at h; exact absurd h (by decide)
  rw [if_neg h5] at h
  by_cases h6 : z.all ffin = false
  · rw [if_pos h6] at h; exact absurd h (by decide)
  rw [Bool.not_eq_false] at h1 h2 h3 h4 h5 h6
  unfold mayT at h1
  simp only [Bool.and_eq_true, decide_eq_true_eq] at h1
  exact ⟨h1.1, h1.2, h4, h5, h6⟩
theorem oneL_mem (n : Nat) : ∀ k x, x ∈ oneL n k → x = 0 ∨ x = 4607182418800017408
  | 0, x, h => by unfold oneL at h; exact .inl (List.eq_of_mem_replicate h)
  | k + 1, x, h => by
    unfold oneL at h
    rcases List.mem_or_eq_of_mem_set h with h | h
    · exact oneL_mem n k x h
    · exact .inr h
theorem oneL_fin (n k : Nat) : (oneL n k).all ffin = true := by
  rw [List.all_eq_true]
  intro x hx
  rcases oneL_mem n k x hx with h | h <;> rw [h] <;> kernel_rfl
theorem oneL_words (n k : Nat) : Words (oneL n k) := fun x hx => by
  rcases oneL_mem n k x hx with h | h <;> rw [h] <;> decide
theorem wrong_one {d e : List Nat} (h : mayT d.length e.length = true) : wrongQ d e (d.length : Nat) (d.length : Nat) (oneL d.length d.length) = wrongQ d e 0 (d.length : Nat) [] := by
  have hn : d.length ≤ 512 := by unfold mayT at h; simp at h; exact h.1
  have h1 : mayB (d.length : Nat) (d.length : Nat) (oneL d.length d.length).length = true := mayB_of hn hn (oneL_len _ _)
  have h2 : mayB 0 (d.length : Nat) ([] : List Nat).length = true := mayB_of (a := 0) (Nat.zero_le _) hn (by simp)
  unfold wrongQ
  rw [h1, h2, oneL_fin]
  rfl
/-- The values' solving. -/
def valY (d e : List Nat) : QlS × Nat × Bool := solQ d.length 0 d.length ⟨d, e ++ [0], []⟩ 0
def valD (d e : List Nat) : Prop := (valY d e).2.2 = true ∧ (valY d e).1.d.all ffin = true
instance (d e : List Nat) : Decidable (valD d e) := inferInstanceAs (Decidable (_ ∧ _))
def valS (d e : List Nat) : List Nat := if wrongQ d e 0 (d.length : Nat) [] = 0 ∧ valD d e then (sortQ d.length 0 (valY d e).1.d (valY d e).1.z d.length).1 else []
def valM (d e : List Nat) : Nat := if wrongQ d e 0 (d.length : Nat) [] = 0 then (valY d e).2.1 else 0
def valC (d e : List Nat) : Int := if wrongQ d e 0 (d.length : Nat) [] = 0 then (if valD d e then 0 else 7) else wrongQ d e 0 (d.length : Nat) []
theorem valY_len (d e : List Nat) : (valY d e).1.d.length = d.length ∧ (valY d e).1.z.length = 0 ∧ (valY d e).2.1 ≤ 30 * d.length := by
  have h := solQ_len d.length 0 d.length ⟨d, e ++ [0], []⟩ 0
  exact ⟨h.1, h.2.2.1, by have := h.2.2.2; unfold valY; omega⟩
theorem valS_ok {d e : List Nat} (h : wrongQ d e 0 (d.length : Nat) [] = 0) (hq : valD d e) : valS d e = (sortQ d.length 0 (valY d e).1.d (valY d e).1.z d.length).1 := by unfold valS; rw [if_pos ⟨h, hq⟩]
theorem valS_len (d e : List Nat) : (valS d e).length ≤ d.length := by
  unfold valS
  split
  · rw [(sortQ_len _ _ _ _ _).1, (valY_len d e).1]; exact Nat.le_refl _
  · exact Nat.zero_le _
theorem valM_len (d e : List Nat) : valM d e ≤ 30 * d.length := by
  unfold valM
  split
  · exact (valY_len d e).2.2
  · exact Nat.zero_le _
theorem valS_rise (d e : List Nat) {k : Nat} (h1 : 0 < k) (h2 : k < (valS d e).length) : flt ((valS d e).getD k 0) ((valS d e).getD (k - 1) 0) = false := by
  have hl := valS_len d e
  by_cases h : wrongQ d e 0 (d.length : Nat) [] = 0 ∧ valD d e
  · rw [valS_ok h.1 h.2]
    have hd := (valY_len d e).1
    have hf := h.2.2
    refine sort_rise hd (by rw [(valY_len d e).2.1]; simp) (fun j hj => ?_) h1 (by omega)
    rw [List.all_eq_true] at hf
    refine hf _ ?_
    rw [List.getD_eq_getElem?_getD, List.getElem?_eq_getElem (by omega)]
    exact List.getElem_mem _
  · unfold valS at h2
    rw [if_neg h] at h2
    exact absurd h2 (by simp)
theorem vals_any (w : World) (da ea : Option Addr) (d e : List Nat) (dc ec : Nat) (hd : Fls w da d) (he : Fls w ea e) (hda : da = none → d = []) (hea : ea = none → e = []) (hWd : Words d) (hWe : Words e) (hld : d.length ≤ 262144) (hle : e.length ≤ 262144) :
    Calls Try.prog 15 #[.agg #[.slice da d.length dc, .slice ea e.length ec]] w fun x w' => ∃ a cap, x = .returned (.tuple #[.slice a (valS d e).length cap, .int .i64 (valM d e), .int .i64 (valC d e)]) ∧ Fls w' a (valS d e) ∧ Below w.heap.size w w' := by
  by_cases h0 : wrongQ d e 0 (d.length : Nat) [] = 0
  · obtain ⟨h2, h3, f1, f2, _⟩ := wrongV_zero h0
    refine (Values_ok w da ea d e dc ec hd he hda hea hWd hWe h2 h3 f1 f2).mono ?_
    intro x w' h
    have hM : valM d e = (valY d e).2.1 := by unfold valM; rw [if_pos h0]
    change ValQ w d.length (valY d e) x w' at h
    unfold ValQ at h
    by_cases hq : valD d e
    · have hC : valC d e = 0 := by unfold valC; rw [if_pos h0, if_pos hq]
      rw [if_pos (show (valY d e).2.2 = true ∧ (valY d e).1.d.all ffin = true from hq)] at h
      obtain ⟨a, cap, rfl, hF, hb⟩ := h
      have hS := valS_ok h0 hq
      have hl : (valS d e).length = d.length := by rw [hS, (sortQ_len _ _ _ _ _).1, (valY_len d e).1]
      rw [hl, hM, hC, hS]
      exact ⟨a, cap, rfl, hF, hb⟩
    · have hC : valC d e = 7 := by unfold valC; rw [if_pos h0, if_neg hq]
      have hS : valS d e = [] := by unfold valS; rw [if_neg (fun k => hq k.2)]
      rw [if_neg (show ¬ ((valY d e).2.2 = true ∧ (valY d e).1.d.all ffin = true) from hq)] at h
      obtain ⟨rfl, hb⟩ := h
      rw [hM, hC, hS]
      exact ⟨none, 0, rfl, Fls.none0 _ _, hb⟩
  · have hM : valM d e = 0 := by unfold valM; rw [if_neg h0]
    have hC : valC d e = wrongQ d e 0 (d.length : Nat) [] := by unfold valC; rw [if_neg h0]
    have hS : valS d e = [] := by unfold valS; rw [if_neg (fun k => h0 k.1)]
    refine (Values_err w da ea d e dc ec hd he hWd hWe hld hle h0).mono ?_
    rintro x w' ⟨rfl, hb⟩
    rw [hM, hC, hS]
    exact ⟨none, 0, rfl, Fls.none0 _ _, hb⟩
theorem sols_any (w : World) (da ea za : Option Addr) (d e : List Nat) (dc ec zc : Nat) (hd : Fls w da d) (he : Fls w ea e) (hz : Fls w za (oneL d.length d.length)) (hda : da = none → d = []) (hea : ea = none → e = []) (hza : za ≠ none) (hWd : Words d) (hWe : Words e) (hld : d.length ≤ 512) (hle : e.length ≤ 512) (hm : mayT d.length e.length = true) :
    Calls Try.prog 10 #[.agg #[.slice da d.length dc, .slice ea e.length ec], .agg #[.int .i64 (d.length : Nat), .int .i64 (d.length : Nat), .slice za (d.length * d.length) zc]] w fun x w' => ∃ a cap r' c' za' nz zc', x = .returned (.tuple #[.slice a (valS d e).length cap, .agg #[.int .i64 r', .int .i64 c', .slice za' nz zc'], .int .i64 (valM d e), .int .i64 (valC d e)]) ∧ Fls w' a (valS d e) ∧ Below w.heap.size w w' := by
  have hol := oneL_len d.length d.length
  rw [← hol]
  by_cases h0 : wrongQ d e 0 (d.length : Nat) [] = 0
  · obtain ⟨h2, h3, f1, f2, _⟩ := wrongV_zero h0
    refine (Solve_ok w da ea za d e (oneL d.length d.length) dc ec zc d.length hd he hz hda hea (fun h => absurd h hza) hWd hWe (oneL_words _ _) h2 h2 h3 hol f1 f2 (oneL_fin _ _)).mono ?_
    intro x w' h
    have hM : valM d e = (valY d e).2.1 := by unfold valM; rw [if_pos h0]
    have hsame := solQ_same (n := d.length) (rows := d.length) (rows' := 0) d.length (x := ⟨d, e ++ [0], oneL d.length d.length⟩) (y := ⟨d, e ++ [0], []⟩) 0 ⟨rfl, rfl⟩
    obtain ⟨⟨e1, _⟩, e2⟩ := hsame
    unfold SolveP at h
    generalize solQ d.length d.length d.length ⟨d, e ++ [0], oneL d.length d.length⟩ 0 = y at *
    change y.1.d = (valY d e).1.d at e1
    change y.2 = (valY d e).2 at e2
    have hdd : (y.2.2 = true ∧ y.1.d.all ffin = true) = valD d e := by unfold valD; rw [e1, e2]
    unfold SolveQ at h
    by_cases hq : valD d e
    · have hC : valC d e = 0 := by unfold valC; rw [if_pos h0, if_pos hq]
      rw [if_pos (show y.2.2 = true ∧ y.1.d.all ffin = true from hdd.symm ▸ hq)] at h
      obtain ⟨a, cap, za', zc', rfl, hF, _, hb⟩ := h
      have hS := valS_ok h0 hq
      have hl : (valS d e).length = d.length := by rw [hS, (sortQ_len _ _ _ _ _).1, (valY_len d e).1]
      rw [hl, hM, hC, e2]
      refine ⟨a, cap, _, _, za', _, zc', rfl, ?_, hb⟩
      rw [hS, ← e1, sortQ_same d.length 0 d.length d.length y.1.d (valY d e).1.z y.1.z]
      exact hF
    · have hC : valC d e = 7 := by unfold valC; rw [if_pos h0, if_neg hq]
      have hS : valS d e = [] := by unfold valS; rw [if_neg (fun k => hq k.2)]
      rw [if_neg (show ¬ (y.2.2 = true ∧ y.1.d.all ffin = true) from hdd.symm ▸ hq)] at h
      obtain ⟨rfl, hb⟩ := h
      rw [hM, hC, hS, e2]
      exact ⟨none, 0, 0, 0, none, 0, 0, rfl, Fls.none0 _ _, hb⟩
  · have hM : valM d e = 0 := by unfold valM; rw [if_neg h0]
    have hC : valC d e = wrongQ d e 0 (d.length : Nat) [] := by unfold valC; rw [if_neg h0]
    have hS : valS d e = [] := by unfold valS; rw [if_neg (fun k => h0 k.1)]
    have hnn : d.length * d.length ≤ 262144 := Nat.mul_le_mul hld hld
    refine (Solve_err w da ea za d e (oneL d.length d.length) dc ec zc _ _ hd he hz hWd hWe (oneL_words _ _) (by unfold maxLen; omega) (by unfold maxLen; omega) (by unfold maxLen; omega) (by rw [wrong_one hm]; exact h0)).mono ?_
    rintro x w' ⟨rfl, hb⟩
    rw [hM, hC, hS, wrong_one hm]
    exact ⟨none, 0, 0, 0, none, 0, 0, rfl, Fls.none0 _ _, hb⟩
end Go.Proofs.Ytbmnlohaidbmdaa
