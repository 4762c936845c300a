/- Layer 12: Values; the law's few. No condition but on lengths. -/
import Derived.Test.YtbmnlohaidbmdaaQm
namespace Go.Proofs.Ytbmnlohaidbmdaa
open Go Go.RowKit
set_option maxRecDepth 1000000

/-- The values alone. -/
def ValQ (w : World) (n : Nat) (y : QlS × Nat × Bool) (r : Ending) (w' : World) : Prop :=
  if y.2.2 = true ∧ y.1.d.all ffin = true then ∃ a cap, r = .returned (.tuple #[.slice a n cap, .int .i64 (y.2.1 : Nat), .int .i64 0]) ∧ Fls w' a (sortQ n 0 y.1.d y.1.z n).1 ∧ Below w.heap.size w w'
  else r = .returned (.tuple #[.slice none 0 0, .int .i64 (y.2.1 : Nat), .int .i64 7]) ∧ Below w.heap.size w w'
set_option maxHeartbeats 4000000 in
theorem Values_err (w : World) (da ea : Option Addr) (d e : List Nat) (dc ec : Nat) (hd : Fls w da d) (he : Fls w ea e) (hWd : Words d) (hWe : Words e) (hld : d.length ≤ 262144) (hle : e.length ≤ 262144) (hE : wrongQ d e 0 d.length [] ≠ 0) :
    Calls Try.prog 15 #[.agg #[.slice da d.length dc, .slice ea e.length ec]] w fun r w' => r = .returned (.tuple #[.slice none 0 0, .int .i64 0, .int .i64 (wrongQ d e 0 d.length [])]) ∧ Below w.heap.size w w' := by
  have hB0 : Below w.heap.size w (w.alloc (.cells #[.slice da d.length dc, .slice ea e.length ec] 24)) := (Below.refl _ _).alloc (Nat.le_refl _) _
  have HS := Lib.hid (Solve_err _ da ea none d e [] dc ec 0 0 d.length (hd.below hB0) (he.below hB0) (fun h => absurd rfl h) hWd hWe (fun _ h => by cases h) (by unfold maxLen; omega) (by unfold maxLen; omega) (Nat.zero_le _) hE)
  have HB := Lib.hid hB0
  generalize wrongQ d e 0 d.length [] = code at *
  have hld' : d.length ≤ 9223372036854775807 := by omega
  clear hd he hWd hWe hB0 hE
  go_enter Try.func15, Try.ntmps15
  go_wp2_with fail
  refine HS.out.mono ?_
  rintro r w1 ⟨rfl, hb⟩
  have hBw := below_step HB.out HB.out.size hb
  clear hb
  go_wp2
  exact bodyPost_ret (results_three rfl (rv_tmp rfl) (rv_tmp rfl) (rv_tmp rfl)) rfl ⟨rfl, hBw.alloc (Nat.le_trans hBw.size (Nat.le_refl _)) _⟩
set_option maxHeartbeats 4000000 in
theorem Values_ok (w : World) (da ea : Option Addr) (d e : List Nat) (dc ec : Nat) (hd : Fls w da d) (he : Fls w ea e) (hda : da = none → d = []) (hea : ea = none → e = []) (hWd : Words d) (hWe : Words e) (hn : d.length ≤ 512) (hel : e.length = d.length - 1) (fd : d.all ffin = true) (fe : e.all ffin = true) :
    Calls Try.prog 15 #[.agg #[.slice da d.length dc, .slice ea e.length ec]] w (ValQ w d.length (solQ d.length 0 d.length ⟨d, e ++ [0], []⟩ 0)) := by
  have hB0 : Below w.heap.size w (w.alloc (.cells #[.slice da d.length dc, .slice ea e.length ec] 24)) := (Below.refl _ _).alloc (Nat.le_refl _) _
  have HS := Lib.hid (Solve_ok _ da ea none d e [] dc ec 0 0 (hd.below hB0) (he.below hB0) (fun h => absurd rfl h) hda hea (fun _ => rfl) hWd hWe (fun _ h => by cases h) hn (Nat.zero_le _) hel (by simp) fd fe rfl)
  have HB := Lib.hid hB0
  have hld' : d.length ≤ 9223372036854775807 := by omega
  obtain ⟨y, hy⟩ : ∃ y, y = solQ d.length 0 d.length ⟨d, e ++ [0], []⟩ 0 := ⟨_, rfl⟩
  unfold SolveP at HS
  rw [← hy] at HS ⊢
  unfold SolveQ at HS
  unfold ValQ
  clear hd he hWd hWe hB0 hda hea hel fd fe hy
  rw [show ((0 : Nat) : Int) = 0 from rfl] at HS
  by_cases hq : y.2.2 = true ∧ y.1.d.all ffin = true
  · simp only [if_pos hq] at HS ⊢
    have HS2 := HS
    clear HS hq
    go_enter Try.func15, Try.ntmps15
    go_wp2_with fail
    refine HS2.out.mono ?_
    rintro r w1 ⟨a, cap, za, zc, rfl, hF, _, hb⟩
    have hBw := below_step HB.out HB.out.size hb
    have HF := Lib.hid hF
    clear hb hF
    go_wp2
    exact bodyPost_ret (results_three rfl (rv_tmp rfl) (rv_tmp rfl) (rv_tmp rfl)) rfl ⟨_, _, rfl, HF.out.alloc _, hBw.alloc (Nat.le_trans hBw.size (Nat.le_refl _)) _⟩
  · simp only [if_neg hq] at HS ⊢
    have HS2 := HS
    clear HS hq
    go_enter Try.func15, Try.ntmps15
    go_wp2_with fail
    refine HS2.out.mono ?_
    rintro r w1 ⟨rfl, hb⟩
    have hBw := below_step HB.out HB.out.size hb
    clear hb
    go_wp2
    exact bodyPost_ret (results_three rfl (rv_tmp rfl) (rv_tmp rfl) (rv_tmp rfl)) rfl ⟨rfl, hBw.alloc (Nat.le_trans hBw.size (Nat.le_refl _)) _⟩
theorem few_any (w : World) (da ea za : Option Addr) (n m k dc ec zc : Nat) (r c : Int) (hn : n ≤ maxLen) (hm : m ≤ maxLen) (hk : k ≤ maxLen) :
    Calls Try.prog 7 #[.agg #[.slice da n dc, .slice ea m ec], .agg #[.int .i64 r, .int .i64 c, .slice za k zc]] w fun e w' => e = .returned (.bool (decide (n ≤ 24) && decide (m ≤ 24) && decide (k ≤ 300))) ∧ Below w.heap.size w w' := by
  unfold maxLen at hn hm hk
  have hB0 : Below w.heap.size w ((w.alloc (.cells #[.slice da n dc, .slice ea m ec] 24)).alloc (.cells #[.int .i64 r, .int .i64 c, .slice za k zc] 26)) := ((Below.refl _ _).alloc (Nat.le_refl _) _).alloc (by simp) _
  have h1 : decide ((n : Int) ≤ 24) = decide (n ≤ 24) := by rw [Bool.eq_iff_iff]; simp; omega
  have h2 : decide ((m : Int) ≤ 24) = decide (m ≤ 24) := by rw [Bool.eq_iff_iff]; simp; omega
  have h3 : decide ((k : Int) ≤ 300) = decide (k ≤ 300) := by rw [Bool.eq_iff_iff]; simp; omega
  generalize decide (n ≤ 24) = b1 at *
  generalize decide (m ≤ 24) = b2 at *
  generalize decide (k ≤ 300) = b3 at *
  cases b1
  · go_enter Try.func7, Try.ntmps7
    go_wp2
    go_ret
    exact ⟨rfl, hB0⟩
  · cases b2
    · go_enter Try.func7, Try.ntmps7
      go_wp2
      go_ret
      exact ⟨rfl, hB0⟩
    · cases b3
      all_goals
        go_enter Try.func7, Try.ntmps7
        go_wp2
        go_ret
        exact ⟨rfl, hB0⟩
end Go.Proofs.Ytbmnlohaidbmdaa
