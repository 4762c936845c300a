/- Package guard: what may be a matrix; floats times powers of two. -/
import Derived.Test.YtogkmddhgfenkaaGe
namespace Go.Proofs.Ytogkmddhgfenkaa
open Go Go.RowKit
set_option maxRecDepth 100000
theorem Cel.at {w : World} {a : Option Addr} {zs : List Nat} (h : Cel w a zs) {i : Nat} (hi : i < zs.length) : ∃ b off, a = some ⟨b, off, none⟩ ∧ b < w.heap.size ∧ w.cell? ⟨b, off + i, none⟩ = some (.float .f64 (zs.getD i 0)) := by
  obtain ⟨b, off, ha, hlt, hc⟩ := h (by intro e; subst e; simp at hi)
  exact ⟨b, off, ha, hlt, hc i (zs.getD i 0) (by simp [hi])⟩
theorem all_of {zs : List Nat} {p : Nat → Bool} (h : ∀ j, j < zs.length → p (zs.getD j 0) = true) : zs.all p = true := by
  rw [List.all_eq_true]
  intro x hx
  obtain ⟨j, hj, rfl⟩ := List.getElem_of_mem hx
  have := h j hj
  simpa [hj] using this
theorem all_not' {zs : List Nat} {p : Nat → Bool} {j : Nat} (hj : j < zs.length) (h : p (zs.getD j 0) = false) : zs.all p = false := by
  rw [List.all_eq_false]
  exact ⟨zs.getD j 0, by simp [hj], by rw [h]; decide⟩
set_option maxHeartbeats 2000000 in
theorem gFinite_any (w : World) (za : Option Addr) (zs : List Nat) (zc : Nat) (hZ : Cel w za zs) (hW : Words zs) (hl : zs.length ≤ maxLen) :
    Calls Try.prog 23 #[.slice za zs.length zc] w fun e w' => e = .returned (.bool (zs.all ffin)) ∧ w = w' := by
  have hl' := hl
  unfold maxLen at hl'
  have hln : zs.length ≤ 9223372036854775807 := by omega
  obtain ⟨R, hR⟩ : ∃ R, R = zs.all ffin := ⟨_, rfl⟩
  rw [← hR]
  have HR := Lib.hid hR
  clear hR
  go_enter Try.func23, Try.ntmps23
  go_wp2_with fail
  go_loop [7] (fun i => ∃ k : Nat, k ≤ zs.length ∧ i = .int .i64 k ∧ ∀ j, j < k → ffin (zs.getD j 0) = true) (fun i => zs.length - (intOf i).toNat)
  case atStart => exact ⟨0, Nat.zero_le _, rfl, fun _ h => absurd h (Nat.not_lt_zero _)⟩
  case round =>
    obtain ⟨k, hk, rfl, hno⟩ := hrel
    have HNO := Lib.hid hno
    clear hno
    by_cases hlt : k < zs.length
    · obtain ⟨b, o, rfl, hb, hc1⟩ := hZ.at hlt
      have HF := Lib.hid (fun W => gfin_any (zs.getD k 0) (hW.at k) W)
      cases hf : ffin (zs.getD k 0)
      · rw [hf] at HF
        have HRf := Lib.hid (HR.out.trans (all_not' hlt hf))
        clear hf hZ hW
        generalize zs.getD k 0 = z at *
        go_wp2_with (go_at_call 65; refine (HF.out _).mono ?_; rintro e w' ⟨rfl, rfl⟩)
        go_ret
        exact ⟨by rw [HRf.out]; rfl, rfl⟩
      · rw [hf] at HF
        have HFk := Lib.hid hf
        clear hf hZ hW
        generalize hz : zs.getD k 0 = z at *
        have HZk := Lib.hid hz
        clear hz
        go_wp2_with (go_at_call 65; refine (HF.out _).mono ?_; rintro e w' ⟨rfl, rfl⟩)
        go_round
        case rel => exact ⟨k + 1, by omega, by go_num, fun j hj => (by
          by_cases hjk : j = k
          · subst hjk; rw [HZk.out]; exact HFk.out
          · exact HNO.out j (by omega))⟩
        case measure => simp [intOf]; omega
    · obtain rfl : k = zs.length := by omega
      have HRf := Lib.hid (HR.out.trans (all_of HNO.out))
      go_wp2
      go_ret
      exact ⟨by rw [HRf.out]; rfl, rfl⟩
def szB (r c : Int) : Bool := decide (0 ≤ r) && decide (r ≤ 512) && decide (0 ≤ c) && decide (c ≤ 512)
def mayB (r c : Int) (n : Nat) : Bool := szB r c && decide ((n : Int) = r * c)
set_option maxHeartbeats 2000000 in
theorem sizes_any (w : World) (r c : Int) (a : Option Addr) (n ac : Nat) :
    Calls Try.prog 69 #[.agg #[.int .i64 r, .int .i64 c, .slice a n ac]] w fun e w' => e = .returned (.bool (szB r c)) ∧ Below w.heap.size w w' := by
  have hB0 : Below w.heap.size w (w.alloc (.cells #[.int .i64 r, .int .i64 c, .slice a n ac] 26)) := (Below.refl _ _).alloc (Nat.le_refl _) _
  unfold szB
  cases d1 : decide (0 ≤ r)
  · go_enter Try.func69, Try.ntmps69
    go_wp2
    go_ret
    exact ⟨rfl, hB0⟩
  · cases d2 : decide (r ≤ 512)
    · go_enter Try.func69, Try.ntmps69
      go_wp2
      go_ret
      exact ⟨rfl, hB0⟩
    · cases d3 : decide (0 ≤ c)
      · go_enter Try.func69, Try.ntmps69
        go_wp2
        go_ret
        exact ⟨rfl, hB0⟩
      · cases d4 : decide (c ≤ 512)
        all_goals
          go_enter Try.func69, Try.ntmps69
          go_wp2
          go_ret
          exact ⟨rfl, hB0⟩
theorem sz_nat {r c : Int} (h : szB r c = true) : ∃ a b : Nat, r = a ∧ c = b ∧ a ≤ 512 ∧ b ≤ 512 := by
  unfold szB at h
  simp only [Bool.and_eq_true, decide_eq_true_eq] at h
  exact ⟨r.toNat, c.toNat, by omega, by omega, by omega, by omega⟩
set_option maxHeartbeats 2000000 in
theorem gMay_any (w : World) (r c : Int) (a : Option Addr) (n ac : Nat) (hn : n ≤ maxLen) :
    Calls Try.prog 27 #[.agg #[.int .i64 r, .int .i64 c, .slice a n ac]] w fun e w' => e = .returned (.bool (mayB r c n)) ∧ Below w.heap.size w w' := by
  unfold maxLen at hn
  have hB0 : Below w.heap.size w (w.alloc (.cells #[.int .i64 r, .int .i64 c, .slice a n ac] 26)) := (Below.refl _ _).alloc (Nat.le_refl _) _
  have x0 : Box (w.alloc (.cells #[.int .i64 r, .int .i64 c, .slice a n ac] 26)) w.heap.size [.int .i64 r, .int .i64 c, .slice a n ac] := Box.newA w [_, _, _] _ rfl
  have HS := Lib.hid (fun W => sizes_any W r c a n ac)
  unfold mayB
  cases hs : szB r c
  · rw [hs] at HS
    go_enter Try.func27, Try.ntmps27
    go_wp2_with fail
    refine (HS.out _).mono ?_
    rintro e w1 ⟨rfl, hb1⟩
    go_wp2
    go_ret
    exact ⟨rfl, below_step hB0 hB0.size hb1⟩
  · rw [hs] at HS
    obtain ⟨p, q, rfl, rfl, hp, hq⟩ := sz_nat hs
    have hpq : p * q ≤ 512 * 512 := Nat.mul_le_mul hp hq
    have e1 : (p : Int) * (q : Int) = ((p * q : Nat) : Int) := (Int.natCast_mul _ _).symm
    generalize p * q = z at *
    have e2 : ((n : Int) == (z : Int)) = decide ((n : Int) = (p : Int) * (q : Int)) := by rw [Bool.eq_iff_iff, e1]; simp
    clear hs
    have HE := Lib.hid e2
    clear e2
    go_enter Try.func27, Try.ntmps27
    go_wp2_with fail
    refine (HS.out _).mono ?_
    rintro e w1 ⟨rfl, hb1⟩
    have x1 := x0.below hb1
    obtain ⟨q1, q2, q3⟩ := x1.facts
    clear x0 x1
    go_wp2
    go_ret
    refine ⟨?_, below_step hB0 hB0.size hb1⟩
    rw [← HE.out]
    rfl
/-- Why a matrix may not be. -/
def wrongC (r c : Int) (zs : List Nat) : Int := if szB r c = false then 2 else if mayB r c zs.length = false then 8 else if zs.all ffin = false then 10 else 0
set_option maxHeartbeats 2000000 in
theorem wrong_any (w : World) (r c : Int) (a : Option Addr) (zs : List Nat) (ac : Nat) (hZ : Cel w a zs) (hW : Words zs) (hn : zs.length ≤ maxLen) :
    Calls Try.prog 67 #[.agg #[.int .i64 r, .int .i64 c, .slice a zs.length ac]] w fun e w' => e = .returned (.int .i64 (wrongC r c zs)) ∧ Below w.heap.size w w' := by
  have hB0 : Below w.heap.size w (w.alloc (.cells #[.int .i64 r, .int .i64 c, .slice a zs.length ac] 26)) := (Below.refl _ _).alloc (Nat.le_refl _) _
  have x0 : Box (w.alloc (.cells #[.int .i64 r, .int .i64 c, .slice a zs.length ac] 26)) w.heap.size [.int .i64 r, .int .i64 c, .slice a zs.length ac] := Box.newA w [_, _, _] _ rfl
  have HS := Lib.hid (fun W => sizes_any W r c a zs.length ac)
  have HM := Lib.hid (fun W => gMay_any W r c a zs.length ac hn)
  have HF := Lib.hid (fun W (hW' : Below w.heap.size w W) => gFinite_any W a zs ac (hZ.below hW') hW hn)
  unfold wrongC
  clear hZ hW hn
  generalize szB r c = s1 at *
  generalize mayB r c zs.length = s2 at *
  generalize zs.all ffin = s3 at *
  go_enter Try.func67, Try.ntmps67
  go_wp2_with fail
  refine (HS.out _).mono ?_
  rintro e w1 ⟨rfl, hb1⟩
  have x1 := x0.below hb1
  have hB1 := below_step hB0 hB0.size hb1
  obtain ⟨q1, q2, q3⟩ := x1.facts
  clear x0 hB0 hb1
  cases s1
  case false =>
    go_wp2
    go_ret
    exact ⟨rfl, hB1⟩
  go_wp2_with fail
  refine (HM.out _).mono ?_
  rintro e w2 ⟨rfl, hb2⟩
  have x2 := x1.below hb2
  have hB2 := below_step hB1 hB1.size hb2
  clear q1 q2 q3 x1 hB1 hb2
  obtain ⟨q1, q2, q3⟩ := x2.facts
  cases s2
  case false =>
    go_wp2
    go_ret
    exact ⟨rfl, hB2⟩
  go_wp2_with fail
  refine (HF.out _ hB2).mono ?_
  rintro e w' ⟨rfl, rfl⟩
  cases s3 <;>
  · go_wp2
    go_ret
    exact ⟨rfl, hB2⟩
set_option maxHeartbeats 8000000 in
theorem RWrong_in (w : World) (r c : Nat) (a : Option Addr) (zs : List Nat) (ac : Nat) (hZ : Cel w a zs) (hW : Words zs) (hr : r ≤ 512) (hc : c ≤ 512) (hn : zs.length = r * c) :
    Calls Try.prog 26 #[.agg #[.int .i64 r, .int .i64 c, .slice a zs.length ac]] w fun e w' => e = .returned (.int .i64 (if zs.all ffin = false then 10 else 0)) ∧ Below w.heap.size w w' := by
  obtain ⟨R, hR⟩ : ∃ R : Int, R = if zs.all ffin = false then 10 else 0 := ⟨_, rfl⟩
  rw [← hR]
  have HR := Lib.hid hR
  have hB0 : Below w.heap.size w (w.alloc (.cells #[.int .i64 r, .int .i64 c, .slice a zs.length ac] 26)) := (Below.refl _ _).alloc (Nat.le_refl _) _
  have x0 : Box (w.alloc (.cells #[.int .i64 r, .int .i64 c, .slice a zs.length ac] 26)) w.heap.size [.int .i64 r, .int .i64 c, .slice a zs.length ac] := Box.newA w [_, _, _] _ rfl
  have hrc : r * c ≤ 512 * 512 := Nat.mul_le_mul hr hc
  have e1 : (r : Int) * (c : Int) = (zs.length : Int) := by rw [hn]; exact (Int.natCast_mul _ _).symm
  have hlb : zs.length ≤ 262144 := by omega
  have t1 : decide ((r : Int) < 0) = false := decide_eq_false (by omega)
  have t2 : decide ((512 : Int) < (r : Int)) = false := decide_eq_false (by omega)
  have t3 : decide ((c : Int) < 0) = false := decide_eq_false (by omega)
  have t4 : decide ((512 : Int) < (c : Int)) = false := decide_eq_false (by omega)
  have HZ := Lib.hid hZ
  have HW := Lib.hid hW
  clear hZ hW hn hrc hR
  go_enter Try.func26, Try.ntmps26
  go_wp2
  clear t1 t2 t3 t4 e1
  have HW0 := Lib.hid (show _ ∧ _ from ⟨hB0, x0⟩)
  clear hB0 x0
  go_loop [3] (fun i => ∃ k : Nat, k ≤ zs.length ∧ i = .int .i64 k ∧ ∀ j, j < k → ffin (zs.getD j 0) = true) (fun i => zs.length - (intOf i).toNat)
  case atStart => exact ⟨0, Nat.zero_le _, rfl, fun _ h => absurd h (Nat.not_lt_zero _)⟩
  case round =>
    obtain ⟨k, hk, rfl, hno⟩ := hrel
    have HNO := Lib.hid hno
    clear hno
    by_cases hlt : k < zs.length
    · obtain ⟨b, o, rfl, hb, hc1⟩ := (HZ.out.below HW0.out.1).at hlt
      have HF := Lib.hid (fun W => rfin_any (zs.getD k 0) (HW.out.at k) W)
      cases hf : ffin (zs.getD k 0)
      · rw [hf] at HF
        have HRf : Hid (R = 10) := by unfold Hid; rw [HR.out, all_not' hlt hf, if_pos rfl]
        clear hf
        generalize zs.getD k 0 = z at *
        go_wp2_with (go_at_call 24; refine (HF.out _).mono ?_; rintro e w' ⟨rfl, rfl⟩)
        go_ret
        exact ⟨by rw [HRf.out]; rfl, HW0.out.1⟩
      · rw [hf] at HF
        have HFk := Lib.hid hf
        clear hf
        generalize hz : zs.getD k 0 = z at *
        have HZk := Lib.hid hz
        clear hz
        go_wp2_with (go_at_call 24; refine (HF.out _).mono ?_; rintro e w' ⟨rfl, rfl⟩)
        go_round
        case rel => exact ⟨k + 1, by omega, by go_num, fun j hj => (by
          by_cases hjk : j = k
          · subst hjk; rw [HZk.out]; exact HFk.out
          · exact HNO.out j (by omega))⟩
        case measure => simp [intOf]; omega
    · obtain rfl : k = zs.length := by omega
      have HRf : Hid (R = 0) := by unfold Hid; rw [HR.out, all_of HNO.out, if_neg (by decide)]
      go_wp2
      go_ret
      exact ⟨by rw [HRf.out]; rfl, HW0.out.1⟩
set_option maxHeartbeats 4000000 in
theorem RWrong_any (w : World) (r c : Int) (a : Option Addr) (zs : List Nat) (ac : Nat) (hZ : Cel w a zs) (hW : Words zs) (hn : zs.length ≤ maxLen) :
    Calls Try.prog 26 #[.agg #[.int .i64 r, .int .i64 c, .slice a zs.length ac]] w fun e w' => e = .returned (.int .i64 (wrongC r c zs)) ∧ Below w.heap.size w w' := by
  have hB0 : Below w.heap.size w (w.alloc (.cells #[.int .i64 r, .int .i64 c, .slice a zs.length ac] 26)) := (Below.refl _ _).alloc (Nat.le_refl _) _
  have hln : zs.length ≤ 9223372036854775807 := by unfold maxLen at hn; omega
  cases hs : szB r c
  · have e0 : wrongC r c zs = 2 := by unfold wrongC; rw [hs, if_pos rfl]
    rw [e0]
    have h1 : r < 0 ∨ (¬ r < 0 ∧ 512 < r) ∨ (¬ r < 0 ∧ ¬ 512 < r ∧ c < 0) ∨ (¬ r < 0 ∧ ¬ 512 < r ∧ ¬ c < 0 ∧ 512 < c) := by
      unfold szB at hs
      simp only [Bool.and_eq_false_iff, decide_eq_false_iff_not] at hs
      omega
    clear hs e0 hn hZ hW
    rcases h1 with h1 | ⟨h1, h2⟩ | ⟨h1, h2, h3⟩ | ⟨h1, h2, h3, h4⟩
    · have t1 := decide_eq_true h1
      clear h1
      go_enter Try.func26, Try.ntmps26
      go_wp2
      go_ret
      exact ⟨rfl, hB0⟩
    · have t1 := decide_eq_false h1
      have t2 := decide_eq_true h2
      clear h1 h2
      go_enter Try.func26, Try.ntmps26
      go_wp2
      go_ret
      exact ⟨rfl, hB0⟩
    · have t1 := decide_eq_false h1
      have t2 := decide_eq_false h2
      have t3 := decide_eq_true h3
      clear h1 h2 h3
      go_enter Try.func26, Try.ntmps26
      go_wp2
      go_ret
      exact ⟨rfl, hB0⟩
    · have t1 := decide_eq_false h1
      have t2 := decide_eq_false h2
      have t3 := decide_eq_false h3
      have t4 := decide_eq_true h4
      clear h1 h2 h3 h4
      go_enter Try.func26, Try.ntmps26
      go_wp2
      go_ret
      exact ⟨rfl, hB0⟩
  · obtain ⟨p, q, rfl, rfl, hp, hq⟩ := sz_nat hs
    by_cases hl : zs.length = p * q
    · have e0 : wrongC p q zs = if zs.all ffin = false then 10 else 0 := by
        have hm : mayB p q zs.length = true := by unfold mayB; rw [hs, hl, Int.natCast_mul, decide_eq_true rfl]; rfl
        unfold wrongC
        rw [hs, hm]
        simp
      rw [e0]
      exact RWrong_in w p q a zs ac hZ hW hp hq hl
    · have e0 : wrongC p q zs = 8 := by
        have hm : mayB p q zs.length = false := by unfold mayB; rw [hs, decide_eq_false (by rw [← Int.natCast_mul]; omega)]; rfl
        unfold wrongC
        rw [hs, hm]
        simp
      rw [e0]
      have hpq : p * q ≤ 512 * 512 := Nat.mul_le_mul hp hq
      have e1 : (p : Int) * (q : Int) = ((p * q : Nat) : Int) := (Int.natCast_mul _ _).symm
      clear hs e0 hn hZ hW
      generalize p * q = z at *
      generalize zs.length = len at *
      have t1 : decide ((p : Int) < 0) = false := decide_eq_false (by omega)
      have t2 : decide ((512 : Int) < (p : Int)) = false := decide_eq_false (by omega)
      have t3 : decide ((q : Int) < 0) = false := decide_eq_false (by omega)
      have t4 : decide ((512 : Int) < (q : Int)) = false := decide_eq_false (by omega)
      have t5 : ((len : Int) != (z : Int)) = true := by simp; omega
      clear hl hp hq
      go_enter Try.func26, Try.ntmps26
      go_wp2
      go_ret
      exact ⟨rfl, hB0⟩
end Go.Proofs.Ytogkmddhgfenkaa
