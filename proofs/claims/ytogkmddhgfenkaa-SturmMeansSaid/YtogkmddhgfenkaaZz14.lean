/- Package guard: what may be a matrix; floats times powers of two. -/
import Derived.Test.YtogkmddhgfenkaaZz13
import Derived.Test.YtogkmddhgfenkaaZz8
import Derived.Test.YtogkmddhgfenkaaZz10
namespace Go.Proofs.Ytogkmddhgfenkaa
open Go Go.RowKit
set_option maxRecDepth 100000
theorem Cel.at {w : World} {a : Option Addr} {zs : List Nat} (h : Cel w a zs) {i : Nat} (hi : i < zs.length) : ∃ b off, a = some ⟨b, off, none⟩ ∧ b < w.heap.size ∧ w.cell? ⟨b, off + i, none⟩ = some (.float .f64 (zs.getD i 0)) := by
  obtain ⟨b, off, ha, hlt, hc⟩ := h (by intro e; subst e; simp at hi)
  exact ⟨b, off, ha, hlt, hc i (zs.getD i 0) (by simp [hi])⟩
theorem all_of {zs : List Nat} {p : Nat → Bool} (h : ∀ j, j < zs.length → p (zs.getD j 0) = true) : zs.all p = true := by
  rw [List.all_eq_true]
  intro x hx
  obtain ⟨j, hj, rfl⟩ := List.getElem_of_mem hx
  have := h j hj
  simpa [hj] using this
theorem all_not' {zs : List Nat} {p : Nat → Bool} {j : Nat} (hj : j < zs.length) (h : p (zs.getD j 0) = false) : zs.all p = false := by
  rw [List.all_eq_false]
  exact ⟨zs.getD j 0, by simp [hj], by rw [h]; decide⟩
set_option maxHeartbeats 2000000 in
theorem gFinite_any (w : World) (za : Option Addr) (zs : List Nat) (zc : Nat) (hZ : Cel w za zs) (hW : Words zs) (hl : zs.length ≤ maxLen) :
    Calls Try.prog 23 #[.slice za zs.length zc] w fun e w' => e = .returned (.bool (zs.all ffin)) ∧ w = w' := by
  have hl' := hl
  unfold maxLen at hl'
  have hln : zs.length ≤ 9223372036854775807 := by omega
  obtain ⟨R, hR⟩ : ∃ R, R = zs.all ffin := ⟨_, rfl⟩
  rw [← hR]
  have HR := Lib.hid hR
  clear hR
  go_enter Try.func23, Try.ntmps23
  go_wp2_with fail
  go_loop [7] (fun i => ∃ k : Nat, k ≤ zs.length ∧ i = .int .i64 k ∧ ∀ j, j < k → ffin (zs.getD j 0) = true) (fun i => zs.length - (intOf i).toNat)
  case atStart => exact ⟨0, Nat.zero_le _, rfl, fun _ h => absurd h (Nat.not_lt_zero _)⟩
  case round =>
    obtain ⟨k, hk, rfl, hno⟩ := hrel
    have HNO := Lib.hid hno
    clear hno
    by_cases hlt : k < zs.length
    · obtain ⟨b, o, rfl, hb, hc1⟩ := hZ.at hlt
      have HF := Lib.hid (fun W => gfin_any (zs.getD k 0) (hW.at k) W)
      cases hf : ffin (zs.getD k 0)
      · rw [hf] at HF
        have HRf := Lib.hid (HR.out.trans (all_not' hlt hf))
        clear hf hZ hW
        generalize zs.getD k 0 = z at *
        go_wp2_with (go_at_call 65; refine (HF.out _).mono ?_; rintro e w' ⟨rfl, rfl⟩)
        go_ret
        exact ⟨by rw [HRf.out]; rfl, rfl⟩
      · rw [hf] at HF
        have HFk := Lib.hid hf
        clear hf hZ hW
        generalize hz : zs.getD k 0 = z at *
        have HZk := Lib.hid hz
        clear hz
        go_wp2_with (go_at_call 65; refine (HF.out _).mono ?_; rintro e w' ⟨rfl, rfl⟩)
        go_round
        case rel => exact ⟨k + 1, by omega, by go_num, fun j hj => (by
          by_cases hjk : j = k
          · subst hjk; rw [HZk.out]; exact HFk.out
          · exact HNO.out j (by omega))⟩
        case measure => simp [intOf]; omega
    · obtain rfl : k = zs.length := by omega
      have HRf := Lib.hid (HR.out.trans (all_of HNO.out))
      go_wp2
      go_ret
      exact ⟨by rw [HRf.out]; rfl, rfl⟩
def szB (r c : Int) : Bool := decide (0 ≤ r) && decide (r ≤ 512) && decide (0 ≤ c) && decide (c ≤ 512)
def mayB (r c : Int) (n : Nat) : Bool := szB r c && decide ((n : Int) = r * c)
set_option maxHeartbeats 2000000 in
theorem sizes_any (w : World) (r c : Int) (a : Option Addr) (n ac : Nat) :
    Calls Try.prog 69 #[.agg #[.int .i64 r, .int .i64 c, .slice a n ac]] w fun e w' => e = .returned (.bool (szB r c)) ∧ Below w.heap.size w w' := by
  have hB0 : Below w.heap.size w (w.alloc (.cells #[.int .i64 r, .int .i64 c, .slice a n ac] 26)) := (Below.refl _ _).alloc (Nat.le_refl _) _
  unfold szB
  cases d1 : decide (0 ≤ r)
  · go_enter Try.func69, Try.ntmps69
    go_wp2
    go_ret
    exact ⟨rfl, hB0⟩
  · cases d2 : decide (r ≤ 512)
    · go_enter Try.func69, Try.ntmps69
      go_wp2
      go_ret
      exact ⟨rfl, hB0⟩
    · cases d3 : decide (0 ≤ c)
      · go_enter Try.func69, Try.ntmps69
        go_wp2
        go_ret
        exact ⟨rfl, hB0⟩
      · cases d4 : decide (c ≤ 512)
        all_goals
          go_enter Try.func69, Try.ntmps69
          go_wp2
          go_ret
          exact ⟨rfl, hB0⟩
theorem sz_nat {r c : Int} (h : szB r c = true) : ∃ a b : Nat, r = a ∧ c = b ∧ a ≤ 512 ∧ b ≤ 512 := by
  unfold szB at h
  simp only [Bool.and_eq_true, decide_eq_true_eq] at h
  exact ⟨r.toNat, c.toNat, by omega, by omega, by omega, by omega⟩
set_option maxHeartbeats 2000000 in
theorem gMay_any (w : World) (r c : Int) (a : Option Addr) (n ac : Nat) (hn : n ≤ maxLen) :
    Calls Try.prog 27 #[.agg #[.int .i64 r, .int .i64 c, .slice a n ac]] w fun e w' => e = .returned (.bool (mayB r c n)) ∧ Below w.heap.size w w' := by
  unfold maxLen at hn
  have hB0 : Below w.heap.size w (w.alloc (.cells #[.int .i64 r, .int .i64 c, .slice a n ac] 26)) := (Below.refl _ _).alloc (Nat.le_refl _) _
  have x0 : Box (w.alloc (.cells #[.int .i64 r, .int .i64 c, .slice a n ac] 26)) w.heap.size [.int .i64 r, .int .i64 c, .slice a n ac] := Box.newA w [_, _, _] _ rfl
  have HS := Lib.hid (fun W => sizes_any W r c a n ac)
  unfold mayB
  cases hs : szB r c
  · rw [hs] at HS
    go_enter Try.func27, Try.ntmps27
    go_wp2_with fail
    refine (HS.out _).mono ?_
    rintro e w1 ⟨rfl, hb1⟩
    go_wp2
    go_ret
    exact ⟨rfl, below_step hB0 hB0.size hb1⟩
  · rw [hs] at HS
    obtain ⟨p, q, rfl, rfl, hp, hq⟩ := sz_nat hs
    have hpq : p * q ≤ 512 * 512 := Nat.mul_le_mul hp hq
    have e1 : (p : Int) * (q : Int) = ((p * q : Nat) : Int) := (Int.natCast_mul _ _).symm
    generalize p * q = z at *
    have e2 : ((n : Int) == (z : Int)) = decide ((n : Int) = (p : Int) * (q : Int)) := by rw [Bool.eq_iff_iff, e1]; simp
    clear hs
    have HE := Lib.hid e2
    clear e2
    go_enter Try.func27, Try.ntmps27
    go_wp2_with fail
    refine (HS.out _).mono ?_
    rintro e w1 ⟨rfl, hb1⟩
    have x1 := x0.below hb1
    obtain ⟨q1, q2, q3⟩ := x1.facts
    clear x0 x1
    go_wp2
    go_ret
    refine ⟨?_, below_step hB0 hB0.size hb1⟩
    rw [← HE.out]
    rfl
/-- Why a matrix may not be. -/
def wrongC (r c : Int) (zs : List Nat) : Int := if szB r c = false then 2 else if mayB r c zs.length = false then 8 else if zs.all ffin = false then 10 else 0
set_option maxHeartbeats 2000000 in
theorem wrong_any (w : World) (r c : Int) (a : Option Addr) (zs : List Nat) (ac : Nat) (hZ : Cel w a zs) (hW : Words zs) (hn : zs.length ≤ maxLen) :
    Calls Try.prog 67 #[.agg #[.int .i64 r, .int .i64 c, .slice a zs.length ac]] w fun e w' => e = .returned (.int .i64 (wrongC r c zs)) ∧ Below w.heap.size w w' := by
  have hB0 : Below w.heap.size w (w.alloc (.cells #[.int .i64 r, .int .i64 c, .slice a zs.length ac] 26)) := (Below.refl _ _).alloc (Nat.le_refl _) _
  have x0 : Box (w.alloc (.cells #[.int .i64 r, .int .i64 c, .slice a zs.length ac] 26)) w.heap.size [.int .i64 r, .int .i64 c, .slice a zs.length ac] := Box.newA w [_, _, _] _ rfl
  have HS := Lib.hid (fun W => sizes_any W r c a zs.length ac)
  have HM := Lib.hid (fun W => gMay_any W r c a zs.length ac hn)
  have HF := Lib.hid (fun W (hW' : Below w.heap.size w W) => gFinite_any W a zs ac (hZ.below hW') hW hn)
  unfold wrongC
  clear hZ hW hn
  generalize szB r c = s1 at *
  generalize mayB r c zs.length = s2 at *
  generalize zs.all ffin = s3 at *
  go_enter Try.func67, Try.ntmps67
  go_wp2_with fail
  refine (HS.out _).mono ?_
  rintro e w1 ⟨rfl, hb1⟩
  have x1 := x0.below hb1
  have hB1 := below_step hB0 hB0.size hb1
  obtain ⟨q1, q2, q3⟩ := x1.facts
  clear x0 hB0 hb1
  cases s1
  case false =>
    go_wp2
    go_ret
    exact ⟨rfl, hB1⟩
  go_wp2_with fail
  refine (HM.out _).mono ?_
  rintro e w2 ⟨rfl, hb2⟩
  have x2 := x1.below hb2
  have hB2 := below_step hB1 hB1.size hb2
  clear q1 q2 q3 x1 hB1 hb2
  obtain ⟨q1, q2, q3⟩ := x2.facts
  cases s2
  case false =>
    go_wp2
    go_ret
    exact ⟨rfl, hB2⟩
  go_wp2_with fail
  refine (HF.out _ hB2).mono ?_
  rintro e w' ⟨rfl, rfl⟩
  cases s3 <;>
  · go_wp2
    go_ret
    exact ⟨rfl, hB2⟩
set_option maxHeartbeats 8000000 in
theorem RWrong_in (w : World) (r c : Nat) (a : Option Addr) (zs : List Nat) (ac : Nat) (hZ : Cel w a zs) (hW : Words zs) (hr : r ≤ 512) (hc : c ≤ 512) (hn : zs.length = r * c) :
    Calls Try.prog 26 #[.agg #[.int .i64 r, .int .i64 c, .slice a zs.length ac]] w fun e w' => e = .returned (.int .i64 (if zs.all ffin = false then 10 else 0)) ∧ Below w.heap.size w w' := by
  obtain ⟨R, hR⟩ : ∃ R : Int, R = if zs.all ffin = false then 10 else 0 := ⟨_, rfl⟩
  rw [← hR]
  have HR := Lib.hid hR
  have hB0 : Below w.heap.size w (w.alloc (.cells #[.int .i64 r, .int .i64 c, .slice a zs.length ac] 26)) := (Below.refl _ _).alloc (Nat.le_refl _) _
  have x0 : Box (w.alloc (.cells #[.int .i64 r, .int .i64 c, .slice a zs.length ac] 26)) w.heap.size [.int .i64 r, .int .i64 c, .slice a zs.length ac] := Box.newA w [_, _, _] _ rfl
  have hrc : r * c ≤ 512 * 512 := Nat.mul_le_mul hr hc
  have e1 : (r : Int) * (c : Int) = (zs.length : Int) := by rw [hn]; exact (Int.natCast_mul _ _).symm
  have hlb : zs.length ≤ 262144 := by omega
  have t1 : decide ((r : Int) < 0) = false := decide_eq_false (by omega)
  have t2 : decide ((512 : Int) < (r : Int)) = false := decide_eq_false (by omega)
  have t3 : decide ((c : Int) < 0) = false := decide_eq_false (by omega)
  have t4 : decide ((512 : Int) < (c : Int)) = false := decide_eq_false (by omega)
  have HZ := Lib.hid hZ
  have HW := Lib.hid hW
  clear hZ hW hn hrc hR
  go_enter Try.func26, Try.ntmps26
  go_wp2
  clear t1 t2 t3 t4 e1
  have HW0 := Lib.hid (show _ ∧ _ from ⟨hB0, x0⟩)
  clear hB0 x0
  go_loop [3] (fun i => ∃ k : Nat, k ≤ zs.length ∧ i = .int .i64 k ∧ ∀ j, j < k → ffin (zs.getD j 0) = true) (fun i => zs.length - (intOf i).toNat)
  case atStart => exact ⟨0, Nat.zero_le _, rfl, fun _ h => absurd h (Nat.not_lt_zero _)⟩
  case round =>
    obtain ⟨k, hk, rfl, hno⟩ := hrel
    have HNO := Lib.hid hno
    clear hno
    by_cases hlt : k < zs.length
    · obtain ⟨b, o, rfl, hb, hc1⟩ := (HZ.out.below HW0.out.1).at hlt
      have HF := Lib.hid (fun W => rfin_any (zs.getD k 0) (HW.out.at k) W)
      cases hf : ffin (zs.getD k 0)
      · rw [hf] at HF
        have HRf : Hid (R = 10) := by unfold Hid; rw [HR.out, all_not' hlt hf, if_pos rfl]
        clear hf
        generalize zs.getD k 0 = z at *
        go_wp2_with (go_at_call 24; refine (HF.out _).mono ?_; rintro e w' ⟨rfl, rfl⟩)
        go_ret
        exact ⟨by rw [HRf.out]; rfl, HW0.out.1⟩
      · rw [hf] at HF
        have HFk := Lib.hid hf
        clear hf
        generalize hz : zs.getD k 0 = z at *
        have HZk := Lib.hid hz
        clear hz
        go_wp2_with (go_at_call 24; refine (HF.out _).mono ?_; rintro e w' ⟨rfl, rfl⟩)
        go_round
        case rel => exact ⟨k + 1, by omega, by go_num, fun j hj => (by
          by_cases hjk : j = k
          · subst hjk; rw [HZk.out]; exact HFk.out
          · exact HNO.out j (by omega))⟩
        case measure => simp [intOf]; omega
    · obtain rfl : k = zs.length := by omega
      have HRf : Hid (R = 0) := by unfold Hid; rw [HR.out, all_of HNO.out, if_neg (by decide)]
      go_wp2
      go_ret
      exact ⟨by rw [HRf.out]; rfl, HW0.out.1⟩
set_option maxHeartbeats 4000000 in
theorem RWrong_any (w : World) (r c : Int) (a : Option Addr) (zs : List Nat) (ac : Nat) (hZ : Cel w a zs) (hW : Words zs) (hn : zs.length ≤ maxLen) :
    Calls Try.prog 26 #[.agg #[.int .i64 r, .int .i64 c, .slice a zs.length ac]] w fun e w' => e = .returned (.int .i64 (wrongC r c zs)) ∧ Below w.heap.size w w' := by
  have hB0 : Below w.heap.size w (w.alloc (.cells #[.int .i64 r, .int .i64 c, .slice a zs.length ac] 26)) := (Below.refl _ _).alloc (Nat.le_refl _) _
  have hln : zs.length ≤ 9223372036854775807 := by unfold maxLen at hn; omega
  cases hs : szB r c
  · have e0 : wrongC r c zs = 2 := by unfold wrongC; rw [hs, if_pos rfl]
    rw [e0]
    have h1 : r < 0 ∨ (¬ r < 0 ∧ 512 < r) ∨ (¬ r < 0 ∧ ¬ 512 < r ∧ c < 0) ∨ (¬ r < 0 ∧ ¬ 512 < r ∧ ¬ c < 0 ∧ 512 < c) := by
      unfold szB at hs
      simp only [Bool.and_eq_false_iff, decide_eq_false_iff_not] at hs
      omega
    clear hs e0 hn hZ hW
    rcases h1 with h1 | ⟨h1, h2⟩ | ⟨h1, h2, h3⟩ | ⟨h1, h2, h3, h4⟩
    · have t1 := decide_eq_true h1
      clear h1
      go_enter Try.func26, Try.ntmps26
      go_wp2
      go_ret
      exact ⟨rfl, hB0⟩
    · have t1 := decide_eq_false h1
      have t2 := decide_eq_true h2
      clear h1 h2
      go_enter Try.func26, Try.ntmps26
      go_wp2
      go_ret
      exact ⟨rfl, hB0⟩
    · have t1 := decide_eq_false h1
      have t2 := decide_eq_false h2
      have t3 := decide_eq_true h3
      clear h1 h2 h3
      go_enter Try.func26, Try.ntmps26
      go_wp2
      go_ret
      exact ⟨rfl, hB0⟩
    · have t1 := decide_eq_false h1
      have t2 := decide_eq_false h2
      have t3 := decide_eq_false h3
      have t4 := decide_eq_true h4
      clear h1 h2 h3 h4
      go_enter Try.func26, Try.ntmps26
      go_wp2
      go_ret
      exact ⟨rfl, hB0⟩
  · obtain ⟨p, q, rfl, rfl, hp, hq⟩ := sz_nat hs
    by_cases hl : zs.length = p * q
    · have e0 : wrongC p q zs = if zs.all ffin = false then 10 else 0 := by
        have hm : mayB p q zs.length = true := by unfold mayB; rw [hs, hl, Int.natCast_mul, decide_eq_true rfl]; rfl
        unfold wrongC
        rw [hs, hm]
        simp
      rw [e0]
      exact RWrong_in w p q a zs ac hZ hW hp hq hl
    · have e0 : wrongC p q zs = 8 := by
        have hm : mayB p q zs.length = false := by unfold mayB; rw [hs, decide_eq_false (by rw [← Int.natCast_mul]; omega)]; rfl
        unfold wrongC
        rw [hs, hm]
        simp
      rw [e0]
      have hpq : p * q ≤ 512 * 512 := Nat.mul_le_mul hp hq
      have e1 : (p : Int) * (q : Int) = ((p * q : Nat) : Int) := (Int.natCast_mul _ _).symm
      clear hs e0 hn hZ hW
      generalize p * q = z at *
      generalize zs.length = len at *
      have t1 : decide ((p : Int) < 0) = false := decide_eq_false (by omega)
      have t2 : decide ((512 : Int) < (p : Int)) = false := decide_eq_false (by omega)
      have t3 : decide ((q : Int) < 0) = false := decide_eq_false (by omega)
      have t4 : decide ((512 : Int) < (q : Int)) = false := decide_eq_false (by omega)
      have t5 : ((len : Int) != (z : Int)) = true := by simp; omega
      clear hl hp hq
      go_enter Try.func26, Try.ntmps26
      go_wp2
      go_ret
      exact ⟨rfl, hB0⟩
end Go.Proofs.Ytogkmddhgfenkaa

/- Package guard: a float times a power of two; the document's. -/
namespace Go.Proofs.Ytogkmddhgfenkaa
open Go Go.RowKit
set_option maxRecDepth 100000
theorem timesW_out {x : Nat} {p : Int} (h : ¬ x % 9223372036854775808 < 9218868437227405312 ∨ x % 9223372036854775808 = 0) : timesW x p = x := by
  unfold timesW timesW.ffinW
  rw [if_pos]
  rcases h with h | h
  · exact .inl (decide_eq_false h)
  · exact .inr h
theorem timesW_lt {x : Nat} (hx : x < 18446744073709551616) (p : Int) : timesW x p < 18446744073709551616 := by
  by_cases h : x % 9223372036854775808 < 9218868437227405312 ∧ 0 < x % 9223372036854775808
  · rw [timesW_fin h.1 h.2]
    exact (word_parts _ (Nat.lt_of_le_of_lt (roundR_le _ _ (sig_bnd h.2).2) (by decide))).2.2
  · rw [timesW_out (by omega)]; exact hx
theorem timesW_zero {x : Nat} (hx : x < 18446744073709551616) : timesW x 0 = x := by
  by_cases h : x % 9223372036854775808 < 9218868437227405312 ∧ 0 < x % 9223372036854775808
  · rw [timesW_fin h.1 h.2, Int.add_zero, round_self h.2 h.1, word_self hx]
  · rw [timesW_out (by omega)]
/-- Beyond 5000 nothing changes. -/
theorem timesW_clamp (x : Nat) (p : Int) : timesW x (max (-5000) (min p 5000)) = timesW x p := by
  by_cases h : x % 9223372036854775808 < 9218868437227405312 ∧ 0 < x % 9223372036854775808
  · have hx := exp_bnd h.2 h.1
    rw [timesW_fin h.1 h.2, timesW_fin h.1 h.2]
    congr 1
    by_cases h1 : 5000 < p
    · have e : max (-5000) (min p 5000) = 5000 := by omega
      rw [e]
      unfold roundR
      rw [if_pos (by omega), if_pos (by omega)]
    · by_cases h2 : p < -5000
      · have e : max (-5000) (min p 5000) = -5000 := by omega
        rw [e]
        unfold roundR
        rw [if_neg (by omega), if_neg (by omega), if_pos (by omega), if_neg (by omega), if_neg (by omega), if_pos (by omega)]
      · have e : max (-5000) (min p 5000) = p := by omega
        rw [e]
  · rw [timesW_out (by omega), timesW_out (by omega)]
set_option maxHeartbeats 4000000 in
theorem ldexp_any (x : Nat) (p : Int) (hx : x < 18446744073709551616) (hp1 : -5000 ≤ p) (hp2 : p ≤ 5000) (w : World) :
    Calls Try.prog 88 #[.float .f64 x, .int .i64 p] w fun e w' => e = .returned (.float .f64 (timesW x p)) ∧ Below w.heap.size w w' := by
  by_cases h : x % 9223372036854775808 < 9218868437227405312 ∧ 0 < x % 9223372036854775808
  · exact ldexp_fin x p hx h.1 h.2 hp1 hp2 w
  · rw [timesW_out (by omega)]
    cases hn : isnan x
    · have hz := feq_zero hn
      by_cases h0 : x % 9223372036854775808 = 0
      · rw [decide_eq_true h0] at hz
        clear h h0 hn
        go_enter Try.func88, Try.ntmps88
        go_wp2
        go_ret
        exact ⟨rfl, Below.refl _ _⟩
      · rw [decide_eq_false h0] at hz
        have HI := Lib.hid (fun W => IsInf0_any x hx W)
        rw [decide_eq_true (by unfold isnan at hn; rw [decide_eq_false_iff_not] at hn; omega)] at HI
        clear h h0 hn
        go_enter Try.func88, Try.ntmps88
        go_wp2_with fail
        refine (HI.out _).mono ?_
        rintro e w' ⟨rfl, rfl⟩
        go_wp2
        go_ret
        exact ⟨rfl, Below.refl _ _⟩
    · have hz := feq_nan (x := x) (y := 0) (.inl hn)
      have HI := Lib.hid (fun W => IsInf0_any x hx W)
      rw [decide_eq_false (by unfold isnan at hn; rw [decide_eq_true_iff] at hn; omega)] at HI
      have HN := Lib.hid (fun W => IsNaN_any x W)
      rw [hn] at HN
      clear h hn
      go_enter Try.func88, Try.ntmps88
      go_wp2_with fail
      refine (HI.out _).mono ?_
      rintro e w' ⟨rfl, rfl⟩
      go_wp2_with fail
      refine (HN.out _).mono ?_
      rintro e w' ⟨rfl, rfl⟩
      go_wp2
      go_ret
      exact ⟨rfl, Below.refl _ _⟩
theorem Ldexp_any (x : Nat) (p : Int) (hx : x < 18446744073709551616) (hp1 : -5000 ≤ p) (hp2 : p ≤ 5000) (w : World) :
    Calls Try.prog 57 #[.float .f64 x, .int .i64 p] w fun e w' => e = .returned (.float .f64 (timesW x p)) ∧ Below w.heap.size w w' := by
  have H := Lib.hid (ldexp_any x p hx hp1 hp2 w)
  go_enter Try.func57, Try.ntmps57
  go_wp2_with fail
  refine H.out.mono ?_
  rintro e w1 ⟨rfl, hb1⟩
  go_wp2
  go_ret
  exact ⟨rfl, hb1⟩
set_option maxHeartbeats 2000000 in
theorem Times_any (x : Nat) (p : Int) (hx : x < 18446744073709551616) (w : World) :
    Calls Try.prog 30 #[.float .f64 x, .int .i64 p] w fun e w' => e = .returned (.float .f64 (timesW x p)) ∧ Below w.heap.size w w' := by
  have hc := timesW_clamp x p
  by_cases h1 : 5000 < p
  · rw [show max (-5000) (min p 5000) = 5000 by omega] at hc
    rw [← hc]
    have HL := Lib.hid (fun W => Ldexp_any x 5000 hx (by omega) (by omega) W)
    clear hc
    go_enter Try.func30, Try.ntmps30
    go_wp2_with fail
    refine (HL.out _).mono ?_
    rintro e w1 ⟨rfl, hb1⟩
    go_wp2
    go_ret
    exact ⟨rfl, hb1⟩
  · by_cases h2 : p ≤ -5000
    · rw [show max (-5000) (min p 5000) = -5000 by omega] at hc
      rw [← hc]
      have HL := Lib.hid (fun W => Ldexp_any x (-5000) hx (by omega) (by omega) W)
      clear hc
      go_enter Try.func30, Try.ntmps30
      go_wp2_with fail
      refine (HL.out _).mono ?_
      rintro e w1 ⟨rfl, hb1⟩
      go_wp2
      go_ret
      exact ⟨rfl, hb1⟩
    · have h3 : p ≤ 5000 := by omega
      have h4 : -5000 < p := by omega
      have HL := Lib.hid (fun W => Ldexp_any x p hx (Int.le_of_lt h4) h3 W)
      clear hc h1 h2
      go_enter Try.func30, Try.ntmps30
      go_wp2_with fail
      refine (HL.out _).mono ?_
      rintro e w1 ⟨rfl, hb1⟩
      go_wp2
      go_ret
      exact ⟨rfl, hb1⟩
end Go.Proofs.Ytogkmddhgfenkaa

/- The document's sturm: pivots, and how many are below nought. -/
namespace Go.Proofs.Ytogkmddhgfenkaa
open Go Go.RowKit
set_option maxRecDepth 100000

theorem grd_times : timesW 4607182418800017408 (-1000) = 103582791429521408 := by kernel_rfl
set_option maxHeartbeats 1000000 in
theorem RGuard_any (q s : Nat) (w : World) :
    Calls Try.prog 84 #[.float .f64 (raw q s)] w fun e w' => FR e (grd q) ∧ Below w.heap.size w w' := by
  have HL := Lib.hid (Ldexp_any 4607182418800017408 (-1000) (by decide) (by decide) (by decide) w)
  rw [grd_times] at HL
  cases hz : feq q 0
  · have hg : grd q = q := by unfold grd; rw [hz]; rfl
    rw [hg]
    clear HL hg
    go_enter Try.func84, Try.ntmps84
    go_wp2
    go_ret
    exact ⟨⟨s, rfl⟩, Below.refl _ _⟩
  · have hg : grd q = 103582791429521408 := by unfold grd; rw [hz]; rfl
    rw [hg]
    clear hg
    go_enter Try.func84, Try.ntmps84
    go_wp2_with fail
    refine HL.out.mono ?_
    rintro e w1 ⟨rfl, hb1⟩
    go_wp2
    go_ret
    refine ⟨⟨0, ?_⟩, hb1⟩
    rw [raw_of_not (v := 103582791429521408) (by kernel_rfl) 0]
    rfl

/-- The pivots, with their NaNs' bits. -/
def pRow (ds es : List Nat) (x : Nat) (σ : Nat → Nat) (k : Nat) : List Value := (List.range k).map fun i => .float .f64 (raw (pivQ ds es x (i + 1)) (σ i))
def pivL (ds es : List Nat) (x : Nat) : List Nat := (List.range ds.length).map fun i => pivQ ds es x (i + 1)
theorem pRow_snoc (ds es : List Nat) (x : Nat) (σ : Nat → Nat) (k s : Nat) :
    pRow ds es x (fun i => if i = k then s else σ i) (k + 1) = pRow ds es x σ k ++ [.float .f64 (raw (pivQ ds es x (k + 1)) s)] := by
  unfold pRow
  rw [List.range_succ, List.map_append]
  congr 1
  · refine List.map_congr_left fun i hi => ?_
    have hi' := List.mem_range.1 hi
    dsimp only
    rw [if_neg (by omega)]
  · simp
theorem pRow_get {ds es : List Nat} {x : Nat} {σ : Nat → Nat} {k i : Nat} (h : i < k) : (pRow ds es x σ k)[i]? = some (.float .f64 (raw (pivQ ds es x (i + 1)) (σ i))) := by
  unfold pRow
  rw [List.getElem?_map, List.getElem?_range h]
  rfl
theorem pRow_fls {W : World} {base : Nat} {v : Value} {ds es : List Nat} {x : Nat} {σ : Nat → Nat} (h : W.ownsRow base 35 1 v ds.length (pRow ds es x σ ds.length)) : ∃ a c, v = .slice a ds.length c ∧ Fls W a (pivL ds es x) := by
  obtain ⟨a, c, rfl⟩ := ownsRow_slice h
  refine ⟨a, c, rfl, fun hz => ?_⟩
  have hn : 0 < ds.length := by
    rcases Nat.eq_zero_or_pos ds.length with h0 | h0
    · exfalso; apply hz; unfold pivL; rw [h0]; rfl
    · exact h0
  obtain ⟨g, cap, he, _, hg⟩ := ownsRow_atS h hn
  injection he with h1 h2 h3
  subst h1; subst h3
  refine ⟨g, 0, rfl, hg, fun i z hi => ?_⟩
  unfold pivL at hi
  have hil : i < ds.length := by
    have := (List.getElem?_eq_some_iff.1 hi).1
    simpa using this
  obtain ⟨g', cap', he', hc, _⟩ := ownsRow_atS h hil
  injection he' with h4 h5 h6
  injection h4 with h7
  injection h7 with h8
  subst h8
  rw [List.getElem?_map, List.getElem?_range hil] at hi
  injection hi with hi
  subst hi
  refine ⟨σ i, ?_⟩
  rw [Nat.zero_add, hc, pRow_get hil]
set_option maxHeartbeats 8000000 in
theorem RPivots_any (w : World) (da ea : Option Addr) (ds es : List Nat) (dc ec x sx : Nat) (hD : Fls w da ds) (hE : Fls w ea es) (hl : ds.length ≤ 1000) (hlen : es.length = ds.length - 1) :
    Calls Try.prog 53 #[.agg #[.slice da ds.length dc, .slice ea es.length ec], .float .f64 (raw x sx)] w fun e w' => (∃ a c, e = .returned (.slice a ds.length c) ∧ Fls w' a (pivL ds es x)) ∧ Below w.heap.size w w' := by
  obtain ⟨i0, hi0, hz0, hz1, hz2⟩ := info_parts info_f64
  have x0 : Box (w.alloc (.cells #[.slice da ds.length dc, .slice ea es.length ec] 51)) w.heap.size [.slice da ds.length dc, .slice ea es.length ec] := Box.newA w [_, _] _ rfl
  have hB0 : Below w.heap.size w (w.alloc (.cells #[.slice da ds.length dc, .slice ea es.length ec] 51)) := (Below.refl _ _).alloc (Nat.le_refl _) _
  have HGrd := Lib.hid (fun q s W => RGuard_any q s W)
  have HLen := Lib.hid hlen
  have hD0 := hD.below hB0
  have hE0 := hE.below hB0
  have hl1 : ds.length ≤ 9223372036854775807 := by omega
  clear hD hE hlen
  go_enter Try.func53, Try.ntmps53
  go_wp2_with fail
  generalize w.alloc (.cells #[.slice da ds.length dc, .slice ea es.length ec] 51) = w0 at *
  have HW0 := Lib.hid x0.lt
  have HB0 := Lib.hid hB0
  clear hB0
  go_loopw [5, 6] (fun s5 s6 wr => ∃ (k : Nat) (σ : Nat → Nat), k ≤ ds.length ∧ s6 = .int .i64 k ∧ wr.ownsRow w0.heap.size 35 1 s5 k (pRow ds es x σ k) ∧ Below w0.heap.size w0 wr) (fun _ s6 _ => ds.length - (intOf s6).toNat)
  case atStart => exact ⟨0, fun _ => 0, Nat.zero_le _, rfl, World.ownsRow_nil _ _ _ _, Below.refl _ _⟩
  case round =>
    obtain ⟨k, σ, hk, rfl, hrow, hB⟩ := hrel
    have x1 := x0.below hB
    obtain ⟨a1, a2, a3⟩ := x1.facts
    have hsz := hB.size
    have hD1 := hD0.below hB
    have hE1 := hE0.below hB
    by_cases hlt : k < ds.length
    · obtain ⟨db, do', sd, rfl, hdb, c1⟩ := hD1.at hlt
      have hkb : k + 1 ≤ 1000 := by omega
      have HK : Hid (k + 1 ≤ ds.length) := hlt
      rcases Nat.eq_zero_or_pos k with h0 | h0
      · have t0 : decide ((0 : Int) < (k : Int)) = false := by simp; omega
        have t0' : decide (0 < k) = false := by simp; omega
        have hp : pivQ ds es x (k + 1) = grd (fsub (ds.getD k 0) x) := by rw [h0]; rfl
        have HP := Lib.hid hp
        have HS := Lib.hid (show _ ∧ _ ∧ _ from ⟨hB, hrow, hsz⟩)
        generalize ds.getD k 0 = d at *
        clear hB hrow hsz x1 hD1 hE1 hp h0 hk
        go_wp2_with (refine wpList_flt rfl rfl rfl rfl rfl ?_; intro K hK s1 n1; go_frame; refine hK _ _ ?_; clear hK K)
        have hb1 : Below wr.heap.size wr (wr.drewN n1) := below_drewN n1 (Below.refl _ _)
        refine (HGrd.out _ _ _).mono ?_
        rintro e w4 ⟨⟨s4, rfl⟩, hb4⟩
        have hb4' := below_step hb1 hb1.size hb4
        have row4 := ownsRow_bel HS.out.2.1 (Bel.of hb4') HW0.out
        have hbel4 := below_step HS.out.1 HS.out.2.2 hb4'
        have hsz4 := hbel4.size
        have HX := Lib.hid (show _ ∧ _ from ⟨row4, hbel4⟩)
        clear hb1 hb4 hb4' hbel4 row4
        go_wp2_with (at_builtin; refine wpList_append_lies _ rfl (.tmp 47) (.tmp 50) 24 rfl w0.heap.size 35 i0 (.float .f64 0) 1 8 Try.underlying24 hi0 hz0 hz1 hz2 rfl (by decide) _ (k) _ rfl (HX.out.1.alloc _) _ 1 1 [.float .f64 _] rfl rfl (cell_one_new _ _ _) (by simp [Value.oneCell']) (by decide) (by unfold maxLen; omega) (by omega) (by simp; omega) _ rfl ?_; intro g' cap' w5 hown hgrow hat hlt')
        go_roundw
        case rel =>
          obtain ⟨row4, hbel4⟩ := HX.out
          have hbA : Below w0.heap.size w4 (w4.alloc (.cells #[.float .f64 (raw (grd (fsub d x)) s4)] 35)) := (Below.refl _ _).alloc hsz4 _
          have hb5 : Below w0.heap.size w4 w5 := hbA.grown hgrow (by simp; omega) (fun r e => (row4.lt r e).1)
          refine ⟨k + 1, fun i => if i = k then s4 else σ i, HK.out, by go_num, ?_, hbel4.trans hb5⟩
          rw [pRow_snoc, HP.out]; exact hown
        case measure => simp [intOf]; omega
      · obtain ⟨j, rfl⟩ : ∃ j, k = j + 1 := ⟨k - 1, by omega⟩
        have hj : j < es.length := by rw [HLen.out]; omega
        obtain ⟨eb, eo, s2, rfl, heb, c2⟩ := hE1.at hj
        have t0 : decide ((0 : Int) < ((j + 1 : Nat) : Int)) = true := decide_eq_true (by omega)
        have t0' : decide (0 < j + 1) = true := by simp
        have hp : pivQ ds es x (j + 1 + 1) = grd (fsub (fsub (ds.getD (j + 1) 0) x) (fdiv (fmul (es.getD j 0) (es.getD j 0)) (pivQ ds es x (j + 1)))) := rfl
        have HP := Lib.hid hp
        obtain ⟨g, cap, rfl, hc, hgl⟩ := ownsRow_atS hrow (k := j) (by omega)
        rw [pRow_get (by omega)] at hc
        have HS := Lib.hid (show _ ∧ _ ∧ _ from ⟨hB, hrow, hsz⟩)
        generalize ds.getD (j + 1) 0 = d at *
        generalize es.getD j 0 = y0 at *
        generalize pivQ ds es x (j + 1) = q0 at *
        clear hB hrow hsz hD1 hE1 hp h0 hk
        go_upto_region 7 with (refine wpList_flt rfl rfl rfl rfl rfl ?_; intro K hK s1 n1; go_frame; refine hK _ _ ?_; clear hK K)
        have hb1 : Below wr.heap.size wr (wr.drewN n1) := below_drewN n1 (Below.refl _ _)
        obtain ⟨f1, f2, f3⟩ := (x1.below hb1).facts
        have c3 := ((below_cells hb1).1 _ (eo + j) heb).trans c2
        have c4 := ((below_cells hb1).1 _ j hgl).trans hc
        have heb' : eb < (wr.drewN n1).heap.size := Nat.lt_of_lt_of_le heb hb1.size
        have hgl' : g < (wr.drewN n1).heap.size := Nat.lt_of_lt_of_le hgl hb1.size
        clear a1 a2 a3 c1 c2 hc heb hgl hdb x1
        generalize wr.drewN n1 = W1 at *
        refine wp_region_nqb 14 (fun _ _ _ => False) (by kernel_rfl) (by kernel_rfl) ?_
        intro C R hc hb' hb2 hd hR
        simp only [List.take_succ_cons, List.take_zero]
        repeat (
          first
            | (refine nqW_plain (fun K hK => ?_))
            | (refine nqW_step (fun K hK => ?_); go_simp)
          first
            | (refine nq_move rfl ?_; go_simp; refine hK _ ?_; clear hK K)
            | (refine nq_assign rfl ?_; go_simp; refine hK _ ?_; clear hK K)
            | (refine nq_flt rfl rfl rfl rfl hd ?_; intro _; go_frame; refine hK _ ?_; clear hK K)
            | (refine nq_same ?_; intro w' hw'; go_simp; (try go_bits); refine hK _ ?_; clear hK K hw' w')
            | (refine nq_same ?_; intro w' hw'; go_simp; rw [if_pos (by omega)]; go_simp; (try go_bits); refine hK _ ?_; clear hK K hw' w')
            | (go_simp; refine hK _ ?_; clear hK K))
        refine nqW_nil (hR _ ?_)
        clear hc hb' hb2 hd hR
        intro w' hw'
        simp only [List.drop]
        have c5 := ((below_cells hw').1 _ j hgl').trans c4
        have hb2 := below_step hb1 hb1.size hw'
        clear c3 c4 f1 f2 f3 hw' hb1
        go_wp2_with (first | (refine wpList_flt (op := .quo) rfl rfl rfl rfl rfl ?_; intro K hK _ n2; go_frame; refine hK _ _ ?_; clear hK K) | (refine wpList_flt (op := .sub) rfl rfl rfl rfl rfl ?_; intro K hK _ n3; go_frame; refine hK _ _ ?_; clear hK K))
        have hb3 : Below wr.heap.size wr (w'.drewN (n2 + n3)) := below_drewN (n2 + n3) hb2
        clear c5 hgl'
        refine (HGrd.out _ _ _).mono ?_
        rintro e w4 ⟨⟨s4, rfl⟩, hb4⟩
        have hb4' := below_step hb3 hb3.size hb4
        have row4 := ownsRow_bel HS.out.2.1 (Bel.of hb4') HW0.out
        have hbel4 := below_step HS.out.1 HS.out.2.2 hb4'
        have hsz4 := hbel4.size
        have HX := Lib.hid (show _ ∧ _ from ⟨row4, hbel4⟩)
        clear hb2 hb3 hb4 hb4' hbel4 row4
        go_wp2_with (at_builtin; refine wpList_append_lies _ rfl (.tmp 47) (.tmp 50) 24 rfl w0.heap.size 35 i0 (.float .f64 0) 1 8 Try.underlying24 hi0 hz0 hz1 hz2 rfl (by decide) _ (j + 1) _ rfl (HX.out.1.alloc _) _ 1 1 [.float .f64 _] rfl rfl (cell_one_new _ _ _) (by simp [Value.oneCell']) (by decide) (by unfold maxLen; omega) (by omega) (by simp; omega) _ rfl ?_; intro g' cap' w5 hown hgrow hat hlt')
        go_roundw
        case rel =>
          obtain ⟨row4, hbel4⟩ := HX.out
          have hbA : Below w0.heap.size w4 (w4.alloc (.cells #[.float .f64 (raw (grd (fsub (fsub d x) (fdiv (fmul y0 y0) q0))) s4)] 35)) := (Below.refl _ _).alloc hsz4 _
          have hb5 : Below w0.heap.size w4 w5 := hbA.grown hgrow (by simp; omega) (fun r e => (row4.lt r e).1)
          refine ⟨j + 1 + 1, fun i => if i = j + 1 then s4 else σ i, HK.out, by go_num, ?_, hbel4.trans hb5⟩
          rw [pRow_snoc, HP.out]; exact hown
        case measure => simp [intOf]; omega
    · obtain rfl : k = ds.length := by omega
      have HS := Lib.hid (show _ ∧ _ from ⟨hB, hrow⟩)
      clear hB hrow hD1 hE1
      go_wp2_with fail
      go_ret
      obtain ⟨a, c, he, hF⟩ := pRow_fls HS.out.2
      exact ⟨⟨a, c, by rw [← he]; rfl, hF⟩, below_step HB0.out HB0.out.size HS.out.1⟩
end Go.Proofs.Ytogkmddhgfenkaa

/- The document's sturm: how many pivots are below nought. -/
namespace Go.Proofs.Ytogkmddhgfenkaa
open Go Go.RowKit
set_option maxRecDepth 100000

theorem cntK_le (ds es : List Nat) (x k : Nat) : cntK ds es x k ≤ k := by
  unfold cntK
  exact Nat.le_trans (List.length_filter_le _ _) (by simp)
theorem cntK_succ (ds es : List Nat) (x k : Nat) : cntK ds es x (k + 1) = cntK ds es x k + (if flt (pivQ ds es x (k + 1)) 0 then 1 else 0) := by
  unfold cntK
  rw [List.range_succ, List.filter_append, List.length_append]
  congr 1
  rw [List.filter_cons]
  cases flt (pivQ ds es x (k + 1)) 0 <;> rfl
theorem pivL_length (ds es : List Nat) (x : Nat) : (pivL ds es x).length = ds.length := by unfold pivL; simp
theorem pivL_getD {ds es : List Nat} {x k : Nat} (h : k < ds.length) : (pivL ds es x).getD k 0 = pivQ ds es x (k + 1) := by
  unfold pivL
  rw [List.getD_eq_getElem?_getD, List.getElem?_map, List.getElem?_range h]
  rfl
set_option maxHeartbeats 8000000 in
theorem RCount_any (w : World) (da ea : Option Addr) (ds es : List Nat) (dc ec x sx : Nat) (hD : Fls w da ds) (hE : Fls w ea es) (hl : ds.length ≤ 1000) (hlen : es.length = ds.length - 1) :
    Calls Try.prog 54 #[.agg #[.slice da ds.length dc, .slice ea es.length ec], .float .f64 (raw x sx)] w fun e w' => e = .returned (.int .i64 (cntK ds es x ds.length : Nat)) ∧ Below w.heap.size w w' := by
  have x0 : Box (w.alloc (.cells #[.slice da ds.length dc, .slice ea es.length ec] 51)) w.heap.size [.slice da ds.length dc, .slice ea es.length ec] := Box.newA w [_, _] _ rfl
  have hB0 : Below w.heap.size w (w.alloc (.cells #[.slice da ds.length dc, .slice ea es.length ec] 51)) := (Below.refl _ _).alloc (Nat.le_refl _) _
  have HP := Lib.hid (RPivots_any _ da ea ds es dc ec x sx (hD.below hB0) (hE.below hB0) hl hlen)
  obtain ⟨q1, q2, q3⟩ := x0.facts
  have hl1 : ds.length ≤ 9223372036854775807 := by omega
  clear hD hE hlen
  go_enter Try.func54, Try.ntmps54
  go_wp2_with fail
  refine HP.out.mono ?_
  rintro e w1 ⟨⟨a, c, rfl, hF⟩, hb1⟩
  have hB1 := Lib.hid (below_step hB0 hB0.size hb1)
  clear q1 q2 q3 x0 hB0 hb1 HP
  go_wp2_with fail
  go_loopw [6, 7] (fun s6 s7 wr => ∃ k : Nat, k ≤ ds.length ∧ s7 = .int .i64 k ∧ s6 = .int .i64 (cntK ds es x k : Nat) ∧ w1 = wr) (fun _ s7 _ => ds.length - (intOf s7).toNat)
  case atStart => exact ⟨0, Nat.zero_le _, rfl, rfl, rfl⟩
  case round =>
    obtain ⟨k, hk, rfl, rfl, rfl⟩ := hrel
    by_cases hlt : k < ds.length
    · obtain ⟨b, o, s1, rfl, hb, hc1⟩ := hF.at (i := k) (by rw [pivL_length]; exact hlt)
      rw [pivL_getD hlt] at hc1
      have hcb : cntK ds es x k ≤ k := cntK_le ds es x k
      have hstep := cntK_succ ds es x k
      have hkb : k + 1 ≤ 1000 := by omega
      generalize cntK ds es x k = cc at *
      generalize pivQ ds es x (k + 1) = q at *
      cases hf : flt q 0
      · rw [hf] at hstep
        have HS := Lib.hid hstep
        clear hstep
        go_wp2
        go_roundw
        case rel => exact ⟨k + 1, by omega, by go_num, by rw [HS.out]; rfl, trivial⟩
        case measure => simp [intOf]; omega
      · rw [hf] at hstep
        have HS := Lib.hid hstep
        have e1 : wrap64 ((cc : Int) + 1) = (cc : Int) + 1 := by unfold wrap64; omega
        clear hstep
        go_wp2
        go_roundw
        case rel => exact ⟨k + 1, by omega, by go_num, by rw [HS.out, if_pos rfl]; go_num, trivial⟩
        case measure => simp [intOf]; omega
    · obtain rfl : k = ds.length := by omega
      go_wp2
      go_ret
      exact ⟨rfl, hB1.out⟩
end Go.Proofs.Ytogkmddhgfenkaa

/- Package sturm: closed facts on known rows. -/
namespace Go.Proofs.Ytogkmddhgfenkaa
open Go Go.RowKit Go.Shelf
set_option maxRecDepth 100000
theorem kn1 : cntN [4611686018427387904, 4607182418800017408] [0] 4609434218613702656 = 1 := by kernel_rfl
theorem kn1e : askS [4611686018427387904, 4607182418800017408] [0] [4609434218613702656] = 0 := by kernel_rfl
theorem kn2 : cntN [4611686018427387904] [] 4611686018427387904 = 0 := by kernel_rfl
theorem kn2e : askS [4611686018427387904] [] [4611686018427387904] = 0 := by kernel_rfl
theorem kn3 : cntN [4611686018427387904] [] 4612811918334230528 = 1 := by kernel_rfl
theorem kn3e : askS [4611686018427387904] [] [4612811918334230528] = 0 := by kernel_rfl
theorem kn4 : bndL [0, 0] [4607182418800017408] 2 = (13830554455654793216, 4607182418800017408) := by kernel_rfl
theorem kn4e : bndE [0, 0] [4607182418800017408] = 0 := by kernel_rfl
theorem kn5 : findX [4611686018427387904] [] 0 = 4611686018427387904 := by kernel_rfl
theorem kn5e : findE [4611686018427387904] [] 0 = 0 := by kernel_rfl
theorem kn6e : bndE [4613937818241073152, 4607182418800017408, 4611686018427387904] [0, 0] = 0 := by kernel_rfl
theorem kn8 : findE [4611686018427387904] [] 1 = 2 := by kernel_rfl
theorem kn6 : allL [4613937818241073152, 4607182418800017408, 4611686018427387904] [0, 0] 3 = [4607182418800017408, 4611686018427387904, 4613937818241073152] := by kernel_rfl
theorem kn7 : allL [0, 0] [4607182418800017408] 2 = [13830554455654793216, 4607182418800017408] := by kernel_rfl

set_option maxHeartbeats 1000000 in
theorem Tri_any (w : World) (da ea : Option Addr) (n dc m ec : Nat) :
    Calls Try.prog 56 #[.slice da n dc, .slice ea m ec] w fun e w' => e = .returned (.agg #[.slice da n dc, .slice ea m ec]) ∧ Below w.heap.size w w' := by
  have x0 : Box (w.alloc (.cells #[.slice none 0 0, .slice none 0 0] 51)) w.heap.size [.slice none 0 0, .slice none 0 0] := Box.newA w [_, _] _ rfl
  have hB0 : Below w.heap.size w (w.alloc (.cells #[.slice none 0 0, .slice none 0 0] 51)) := (Below.refl _ _).alloc (Nat.le_refl _) _
  obtain ⟨a1, a2, a3⟩ := x0.facts
  go_enter Try.func56, Try.ntmps56
  go_wp2
  exact bodyPost_ret (results_one rfl (rv_cell (g := w.heap.size) rfl (Box.newA w [_, _] _ rfl) rfl Try.underlying51 (by kernel_rfl))) rfl ⟨rfl, (Below.refl _ _).alloc (Nat.le_refl _) _⟩
theorem fls_box {W : World} {b : Nat} {xs : List Nat} (hb : Box W b (xs.map (Value.float .f64))) (hn : xs.all (fun x => !isnan x) = true) : Fls W (some ⟨b, 0, none⟩) xs := fun _ => ⟨b, 0, rfl, hb.lt, fun i v hi => ⟨0, by
  have hv : isnan v = false := by
    have := List.all_eq_true.1 hn v (List.mem_of_getElem? hi)
    simpa using this
  rw [hb.cell, Nat.zero_add, List.getElem?_map, hi, raw_of_not hv]
  rfl⟩⟩
set_option maxHeartbeats 1000000 in
theorem near_any (w : World) (x y : Nat) (hx : x < 18446744073709551616) : Calls Try.prog 71 #[.float .f64 x, .float .f64 y] w fun e w' => e = .returned (.bool (flt (fabs (fsub x y)) 4382569440205035030)) ∧ Below w.heap.size w w' := by
  have HA := Lib.hid (fun (s : Nat) (W : World) => Abs_any (raw (fsub x y) s) (raw_lt (fsub_lt x y) s) W)
  have HR := Lib.hid (fun s => fabs_raw (fsub x y) s)
  go_enter Try.func71, Try.ntmps71
  go_wp2_with (first | (go_at_call 75; refine (HA.out _ _).mono ?_; rintro e w' ⟨rfl, rfl⟩; obtain ⟨t, ht⟩ := HR.out _; rw [ht]) | (refine wpList_flt rfl rfl rfl rfl rfl ?_; intro K hK _ _; go_frame; refine hK _ _ ?_; clear hK K))
  go_ret
  exact ⟨by simp [go_sem], below_drewN _ (Below.refl _ _)⟩
theorem Copysign_c (w : World) : Calls Try.prog 72 #[.float .f64 0, .float .f64 13830554455654793216] w fun e w' => e = .returned (.float .f64 9223372036854775808) ∧ w = w' := by
  have e1 : bits .andNot .u64 0 9223372036854775808 = 0 := by kernel_rfl
  have e2 : bits .and .u64 13830554455654793216 9223372036854775808 = 9223372036854775808 := by kernel_rfl
  have e3 : bits .or .u64 0 9223372036854775808 = 9223372036854775808 := by kernel_rfl
  go_enter Try.func72, Try.ntmps72
  go_wp2
  go_ret
  exact ⟨rfl, rfl⟩
set_option maxHeartbeats 2000000 in
theorem All_nil (w : World) : Calls Try.prog 41 #[.agg #[.slice none 0 0, .slice none 0 0]] w fun e w' => e = .returned (.tuple #[.slice none 0 0, .int .i64 0, .int .i64 0]) ∧ Below w.heap.size w w' := by
  have x0 : Box (w.alloc (.cells #[.slice none 0 0, .slice none 0 0] 51)) w.heap.size [.slice none 0 0, .slice none 0 0] := Box.newA w [_, _] _ rfl
  have hB0 : Below w.heap.size w (w.alloc (.cells #[.slice none 0 0, .slice none 0 0] 51)) := (Below.refl _ _).alloc (Nat.le_refl _) _
  have HA := Lib.hid (fun (W : World) => ask13_any W none none none [] [] [] 0 0 0 (fun h => absurd rfl h) (fun h => absurd rfl h) (fun h => absurd rfl h) (by decide) (by decide) (by decide))
  rw [show askS [] [] [] = 0 from by kernel_rfl] at HA
  go_enter Try.func41, Try.ntmps41
  go_wp2_with fail
  refine (HA.out _).mono ?_
  rintro e w1 ⟨rfl, hb1⟩
  obtain ⟨a1, a2, a3⟩ := (x0.below hb1).facts
  have hB1 := below_step hB0 hB0.size hb1
  go_wp2
  exact bodyPost_ret (results_tmp3 rfl _ _ _) rfl ⟨rfl, hB1⟩
end Go.Proofs.Ytogkmddhgfenkaa
