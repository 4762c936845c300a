/- The document's layers 10, 12: what may be, what is finite, why not; ones on a diagonal. No condition but on lengths. -/
import Derived.Test.YtbmnlohaidbmdaaQm
import Derived.Test.YtbmnlohaidbmdaaQp5
namespace Go.Proofs.Ytbmnlohaidbmdaa
open Go Go.RowKit
set_option maxRecDepth 1000000

theorem all_ofQ {zs : List Nat} {p : Nat → Bool} (h : ∀ j, j < zs.length → p (zs.getD j 0) = true) : zs.all p = true := by
  rw [List.all_eq_true]
  intro x hx
  obtain ⟨j, hj, rfl⟩ := List.getElem_of_mem hx
  have := h j hj
  simpa [hj] using this
theorem all_notQ {zs : List Nat} {p : Nat → Bool} {j : Nat} (hj : j < zs.length) (h : p (zs.getD j 0) = false) : zs.all p = false := by
  rw [List.all_eq_false]
  exact ⟨zs.getD j 0, by simp [hj], by rw [h]; decide⟩
set_option maxHeartbeats 2000000 in
theorem RFin12 (w : World) (za : Option Addr) (zs : List Nat) (zc : Nat) (hZ : Fls w za zs) (hl : zs.length ≤ maxLen) :
    Calls Try.prog 20 #[.slice za zs.length zc] w fun e w' => e = .returned (.bool (zs.all ffin)) ∧ Below w.heap.size w w' := by
  have hl' := hl
  unfold maxLen at hl'
  have hln : zs.length ≤ 9223372036854775807 := by omega
  obtain ⟨R, hR⟩ : ∃ R, R = zs.all ffin := ⟨_, rfl⟩
  rw [← hR]
  have HR := Lib.hid hR
  clear hR hl
  go_enter Try.func20, Try.ntmps20
  go_wp2_with fail
  go_loopw [3] (fun i wr => ∃ k : Nat, k ≤ zs.length ∧ i = .int .i64 k ∧ (∀ j, j < k → ffin (zs.getD j 0) = true) ∧ Below w.heap.size w wr) (fun i _ => zs.length - (intOf i).toNat)
  case atStart => exact ⟨0, Nat.zero_le _, rfl, fun _ h => absurd h (Nat.not_lt_zero _), Below.refl _ _⟩
  case round =>
    obtain ⟨k, hk, rfl, hno, hB⟩ := hrel
    have HNO := Lib.hid hno
    clear hno
    by_cases hlt : k < zs.length
    · obtain ⟨b, o, s1, rfl, hb, hc1⟩ := (hZ.below hB).at hlt
      have hf0 := fnS_ffin (zs.getD k 0)
      unfold fnS at hf0
      cases hf : ffin (zs.getD k 0)
      · rw [hf] at hf0
        have HRf := Lib.hid (HR.out.trans (all_notQ hlt hf))
        clear hf hZ
        generalize zs.getD k 0 = z at *
        go_wp2_with fail
        refine wp_region_nqb 9 (fun _ _ _ => False) (by kernel_rfl) (by kernel_rfl) ?_
        intro C R hc hb' hb2 hd hR
        simp only [List.take_succ_cons, List.take_zero]
        repeat (
          first
            | (refine nqW_plain (fun K hK => ?_))
            | (refine nqW_step (fun K hK => ?_); go_simp)
          first
            | (refine nq_move rfl ?_; go_simp; refine hK _ ?_; clear hK K)
            | (refine nq_assign rfl ?_; go_simp; refine hK _ ?_; clear hK K)
            | (refine nq_flt rfl rfl rfl rfl hd ?_; intro _; go_frame; refine hK _ ?_; clear hK K)
            | (refine nq_same ?_; intro w' hw'; go_simp; (try go_bits); refine hK _ ?_; clear hK K hw' w')
            | (refine nq_same ?_; intro w' hw'; go_simp; rw [if_pos (by omega)]; go_simp; (try go_bits); refine hK _ ?_; clear hK K hw' w')
            | (go_simp; refine hK _ ?_; clear hK K))
        refine nqW_nil (hR _ ?_)
        clear hc hb' hb2 hd hR
        intro w' hw'
        simp only [List.drop]
        have hw := below_step hB hB.size hw'
        clear hw' hc1
        go_wp2
        go_ret
        exact ⟨by rw [HRf.out]; rfl, hw⟩
      · rw [hf] at hf0
        have HFk := Lib.hid hf
        clear hf
        generalize hz : zs.getD k 0 = z at *
        have HZk := Lib.hid hz
        clear hz
        go_wp2_with fail
        refine wp_region_nqb 9 (fun _ _ _ => False) (by kernel_rfl) (by kernel_rfl) ?_
        intro C R hc hb' hb2 hd hR
        simp only [List.take_succ_cons, List.take_zero]
        repeat (
          first
            | (refine nqW_plain (fun K hK => ?_))
            | (refine nqW_step (fun K hK => ?_); go_simp)
          first
            | (refine nq_move rfl ?_; go_simp; refine hK _ ?_; clear hK K)
            | (refine nq_assign rfl ?_; go_simp; refine hK _ ?_; clear hK K)
            | (refine nq_flt rfl rfl rfl rfl hd ?_; intro _; go_frame; refine hK _ ?_; clear hK K)
            | (refine nq_same ?_; intro w' hw'; go_simp; (try go_bits); refine hK _ ?_; clear hK K hw' w')
            | (refine nq_same ?_; intro w' hw'; go_simp; rw [if_pos (by omega)]; go_simp; (try go_bits); refine hK _ ?_; clear hK K hw' w')
            | (go_simp; refine hK _ ?_; clear hK K))
        refine nqW_nil (hR _ ?_)
        clear hc hb' hb2 hd hR
        intro w' hw'
        simp only [List.drop]
        have hw := below_step hB hB.size hw'
        clear hw' hc1
        go_wp2
        go_roundw
        case rel => exact ⟨k + 1, by omega, by go_num, fun j hj => (by
          by_cases hjk : j = k
          · subst hjk; rw [HZk.out]; exact HFk.out
          · exact HNO.out j (by omega)), hw⟩
        case measure => simp [intOf]; omega
    · obtain rfl : k = zs.length := by omega
      have HRf := Lib.hid (HR.out.trans (all_ofQ HNO.out))
      go_wp2
      go_ret
      exact ⟨by rw [HRf.out]; rfl, hB⟩
set_option maxHeartbeats 2000000 in
theorem RMay10 (w : World) (da ea : Option Addr) (n m dc ec : Nat) (hn : n ≤ maxLen) (hm : m ≤ maxLen) :
    Calls Try.prog 16 #[.agg #[.slice da n dc, .slice ea m ec]] w fun e w' => e = .returned (.bool (mayT n m)) ∧ Below w.heap.size w w' := by
  unfold maxLen at hn hm
  unfold mayT
  have hB0 : Below w.heap.size w (w.alloc (.cells #[.slice da n dc, .slice ea m ec] 24)) := (Below.refl _ _).alloc (Nat.le_refl _) _
  by_cases h1 : n ≤ 512
  · have d1 : decide ((n : Int) ≤ 512) = true := decide_eq_true (by omega)
    rw [decide_eq_true h1]
    cases n with
    | zero =>
      by_cases hm0 : m = 0
      · subst hm0
        go_enter Try.func16, Try.ntmps16
        go_wp2
        go_ret
        exact ⟨rfl, hB0⟩
      · have e2 : ((m : Int) == 0) = false := by simp; omega
        have e3 : decide (m = 0 - 1) = false := decide_eq_false (by omega)
        rw [e3]
        go_enter Try.func16, Try.ntmps16
        go_wp2
        go_ret
        exact ⟨rfl, hB0⟩
    | succ n =>
      have e2 : ((m : Int) == (n : Int)) = decide (m = n + 1 - 1) := by rw [Bool.eq_iff_iff]; simp only [beq_iff_eq, decide_eq_true_eq]; omega
      have e3 : (((n + 1 : Nat) : Int) == 0) = false := by simp; omega
      have e4 : decide (0 < ((n + 1 : Nat) : Int)) = true := decide_eq_true (by omega)
      have e5 : ((n + 1 : Nat) : Int) - 1 = n := by omega
      have HE := Lib.hid e2
      clear e2
      go_enter Try.func16, Try.ntmps16
      go_wp2
      all_goals
        go_ret
        refine ⟨?_, hB0⟩
        rw [← HE.out]
        simp_all
  · have d1 : decide ((n : Int) ≤ 512) = false := decide_eq_false (by omega)
    rw [decide_eq_false h1]
    go_enter Try.func16, Try.ntmps16
    go_wp2
    go_ret
    exact ⟨rfl, hB0⟩
set_option maxHeartbeats 8000000 in
theorem RWrong12 (w : World) (da ea za : Option Addr) (d e z : List Nat) (dc ec zc : Nat) (r c : Int) (hd : Fls w da d) (he : Fls w ea e) (hz : Fls w za z) (hld : d.length ≤ maxLen) (hle : e.length ≤ maxLen) (hlz : z.length ≤ maxLen) :
    Calls Try.prog 13 #[.agg #[.slice da d.length dc, .slice ea e.length ec], .agg #[.int .i64 r, .int .i64 c, .slice za z.length zc]] w fun x w' => x = .returned (.int .i64 (wrongQ d e r c z)) ∧ Below w.heap.size w w' := by
  have HM := Lib.hid (fun W => RMay9_any W r c za z.length zc hlz)
  have HT := Lib.hid (fun W => RMay10 W da ea d.length e.length dc ec hld hle)
  have HFd := Lib.hid (fun W (h : Below w.heap.size w W) => RFin12 W da d dc (hd.below h) hld)
  have HFe := Lib.hid (fun W (h : Below w.heap.size w W) => RFin12 W ea e ec (he.below h) hle)
  have HFz := Lib.hid (fun W (h : Below w.heap.size w W) => RFin12 W za z zc (hz.below h) hlz)
  have t1 : (c != (d.length : Int)) = !decide (c = (d.length : Int)) := by rw [Bool.eq_iff_iff]; simp
  unfold wrongQ
  obtain ⟨W0, hW0⟩ : ∃ W0, W0 = ((w.alloc (.cells #[.slice da d.length dc, .slice ea e.length ec] 24)).alloc (.cells #[.int .i64 r, .int .i64 c, .slice za z.length zc] 26)) := ⟨_, rfl⟩
  have hB0 : Below w.heap.size w W0 := hW0 ▸ ((Below.refl _ _).alloc (Nat.le_refl _) _).alloc (by simp) _
  have x2 : Box W0 w.heap.size [.slice da d.length dc, .slice ea e.length ec] := hW0 ▸ (Box.newA w [_, _] _ rfl).alloc _
  have x3 : Box W0 (w.heap.size + 1) [.int .i64 r, .int .i64 c, .slice za z.length zc] := hW0 ▸ Box.newA _ [_, _, _] _ (by simp)
  have HX := Lib.hid (show _ ∧ _ ∧ _ from ⟨hB0, x2, x3⟩)
  have hld' := hld
  unfold maxLen at hld'
  clear hd he hz hB0 x2 x3 hld hle hlz
  generalize mayT d.length e.length = b1 at *
  generalize mayB r c z.length = b2 at *
  generalize decide (c = (d.length : Int)) = b3 at *
  generalize d.all ffin = b4 at *
  generalize e.all ffin = b5 at *
  generalize z.all ffin = b6 at *
  go_enter Try.func13, Try.ntmps13
  go_wp2_with fail
  rw [← hW0]
  clear hW0
  obtain ⟨hB0, x2, x3⟩ := HX.out
  refine (HT.out _).mono ?_
  rintro e W1 ⟨rfl, hb1⟩
  have hB1 := below_step hB0 hB0.size hb1
  have y2 := x2.below hb1
  have y3 := x3.below hb1
  obtain ⟨q1, q2, q3⟩ := y2.facts
  obtain ⟨p1, p2, p3⟩ := y3.facts
  have HY := Lib.hid (show _ ∧ _ ∧ _ from ⟨hB1, y2, y3⟩)
  clear HX hB0 x2 x3 y2 y3 hb1 hB1
  cases b1
  · go_wp2
    go_ret
    exact ⟨rfl, HY.out.1⟩
  go_wp2_with fail
  refine (HM.out _).mono ?_
  rintro e W2 ⟨rfl, hb2⟩
  obtain ⟨hB1, y2, y3⟩ := HY.out
  have hB2 := below_step hB1 hB1.size hb2
  replace y2 := y2.below hb2
  replace y3 := y3.below hb2
  clear q1 q2 q3 p1 p2 p3
  obtain ⟨q1, q2, q3⟩ := y2.facts
  obtain ⟨p1, p2, p3⟩ := y3.facts
  have HY2 := Lib.hid (show _ ∧ _ ∧ _ from ⟨hB2, y2, y3⟩)
  clear HY y2 y3 hb2 hB1 hB2
  cases b2
  · go_wp2
    go_ret
    exact ⟨rfl, HY2.out.1⟩
  cases b3
  · go_wp2
    go_ret
    exact ⟨rfl, HY2.out.1⟩
  go_wp2_with fail
  refine (HFd.out _ HY2.out.1).mono ?_
  rintro e W3 ⟨rfl, hb3⟩
  obtain ⟨hB2, y2, y3⟩ := HY2.out
  have hB3 := below_step hB2 hB2.size hb3
  replace y2 := y2.below hb3
  replace y3 := y3.below hb3
  clear q1 q2 q3 p1 p2 p3
  obtain ⟨q1, q2, q3⟩ := y2.facts
  obtain ⟨p1, p2, p3⟩ := y3.facts
  have HY3 := Lib.hid (show _ ∧ _ ∧ _ from ⟨hB3, y2, y3⟩)
  clear HY2 y2 y3 hb3 hB2 hB3
  cases b4
  · go_wp2
    go_ret
    exact ⟨rfl, HY3.out.1⟩
  go_wp2_with fail
  refine (HFe.out _ HY3.out.1).mono ?_
  rintro e W4 ⟨rfl, hb4⟩
  obtain ⟨hB3, y2, y3⟩ := HY3.out
  have hB4 := below_step hB3 hB3.size hb4
  replace y2 := y2.below hb4
  replace y3 := y3.below hb4
  clear q1 q2 q3 p1 p2 p3
  obtain ⟨q1, q2, q3⟩ := y2.facts
  obtain ⟨p1, p2, p3⟩ := y3.facts
  have HY4 := Lib.hid (show _ ∧ _ ∧ _ from ⟨hB4, y2, y3⟩)
  clear HY3 y2 y3 hb4 hB3 hB4
  cases b5
  · go_wp2
    go_ret
    exact ⟨rfl, HY4.out.1⟩
  go_wp2_with fail
  refine (HFz.out _ HY4.out.1).mono ?_
  rintro e W5 ⟨rfl, hb5⟩
  have hB5 := below_step HY4.out.1 HY4.out.1.size hb5
  clear hb5 q1 q2 q3 p1 p2 p3
  cases b6
  all_goals
    go_wp2
    go_ret
    exact ⟨rfl, hB5⟩
end Go.Proofs.Ytbmnlohaidbmdaa
