/- The document's sturm: what is asked of a tridiagonal; its bounds. -/
import Derived.Test.YtogkmddhgfenkaaFf
import Derived.Test.YtogkmddhgfenkaaSt7
namespace Go.Proofs.Ytogkmddhgfenkaa
open Go Go.RowKit
set_option maxRecDepth 100000

set_option maxHeartbeats 2000000 in
theorem RFinite_any (w : World) (za : Option Addr) (zs : List Nat) (zc : Nat) (hZ : Fls w za zs) (hW : Words zs) (hl : zs.length ≤ maxLen) :
    Calls Try.prog 40 #[.slice za zs.length zc] w fun e w' => e = .returned (.bool (zs.all ffin)) ∧ w = w' := by
  have hl' := hl
  unfold maxLen at hl'
  have hln : zs.length ≤ 9223372036854775807 := by omega
  go_enter Try.func40, Try.ntmps40
  go_wp2_with fail
  go_loopw [3] (fun i wr => ∃ k : Nat, k ≤ zs.length ∧ i = .int .i64 k ∧ (∀ j, j < k → ffin (zs.getD j 0) = true) ∧ w = wr) (fun i _ => zs.length - (intOf i).toNat)
  case atStart => exact ⟨0, Nat.zero_le _, rfl, fun _ h => absurd h (Nat.not_lt_zero _), rfl⟩
  case round =>
    obtain ⟨k, hk, rfl, hno, rfl⟩ := hrel
    have HNO := Lib.hid hno
    clear hno
    by_cases hlt : k < zs.length
    · obtain ⟨b, o, s1, rfl, hb, hc1⟩ := hZ.at hlt
      have hv := hW.at k
      have e0 : zs.getD k 0 = zs[k] := by simp [hlt]
      have hz : zs[k] ∈ zs := List.getElem_mem hlt
      rw [← e0] at hz
      clear e0
      obtain ⟨x, hx⟩ : ∃ x, zs.getD k 0 = x := ⟨_, rfl⟩
      rw [hx] at hc1 hv hz
      have HX := Lib.hid hx
      have HZk := Lib.hid hz
      clear hx hz
      have HI := Lib.hid (infinite_eq x)
      have HN := Lib.hid (IsNaN_any (raw x s1) w)
      have HF := Lib.hid (IsInf0_any (raw x s1) (raw_lt hv s1) w)
      have eN : isnan (raw x s1) = isnan x := isnan_raw x s1
      have eI : ∀ h : isnan x = false, decide (raw x s1 % 9223372036854775808 = 9218868437227405312) = decide (x % 9223372036854775808 = 9218868437227405312) := fun h => by rw [raw_of_not h s1]
      rw [eN] at HN
      clear eN
      have HV := Lib.hid hv
      clear hv
      clear hl hl'
      cases hn : isnan x
      · rw [eI hn] at HF
        clear eI
        rw [hn] at HN HI
        rw [Bool.false_or] at HI
        clear hn
        generalize decide (x % 9223372036854775808 = 9218868437227405312) = q at HF HI
        have HL := Lib.hid hln
        clear hln hW
        cases q
        · have hln := HL.out
          go_wp2_with fail
          refine HN.out.mono ?_
          rintro e w' ⟨rfl, rfl⟩
          go_wp2_with fail
          refine HF.out.mono ?_
          rintro e w' ⟨rfl, rfl⟩
          go_wp2_with fail
          go_roundw
          case rel => exact ⟨k + 1, by omega, by go_num, fun j hj => (by
            by_cases hjk : j = k
            · subst hjk; rw [HX.out]; simpa using HI.out
            · exact HNO.out j (by omega)), by trivial⟩
          case measure => simp [intOf]; omega
        · have hln := HL.out
          go_wp2_with fail
          refine HN.out.mono ?_
          rintro e w' ⟨rfl, rfl⟩
          go_wp2_with fail
          refine HF.out.mono ?_
          rintro e w' ⟨rfl, rfl⟩
          go_wp2_with fail
          go_ret
          refine ⟨?_, rfl⟩
          rw [eq_comm]
          congr 2
          rw [List.all_eq_false]
          exact ⟨x, HZk.out, by have := HI.out; simp at this; simp [← this]⟩
      · rw [hn] at HN HI
        clear hn eI HF hln hW
        go_wp2_with fail
        refine HN.out.mono ?_
        rintro e w' ⟨rfl, rfl⟩
        go_wp2_with fail
        go_ret
        refine ⟨?_, rfl⟩
        rw [eq_comm]
        congr 2
        rw [List.all_eq_false]
        exact ⟨x, HZk.out, by have := HI.out; simp at this; simp [← this]⟩
    · go_wp2_with fail
      go_ret
      refine ⟨?_, rfl⟩
      rw [eq_comm]
      congr 2
      rw [List.all_eq_true]
      intro x hx
      obtain ⟨j, hj, rfl⟩ := List.getElem_of_mem hx
      have := HNO.out j (by omega)
      simpa [hj] using this
set_option maxHeartbeats 1000000 in
theorem RMay13_any (w : World) (da ea : Option Addr) (n m dc ec : Nat) (hn : n ≤ maxLen) (hm : m ≤ maxLen) :
    Calls Try.prog 51 #[.agg #[.slice da n dc, .slice ea m ec]] w fun e w' => e = .returned (.bool (mayS n m)) ∧ Below w.heap.size w w' := by
  unfold maxLen at hn hm
  unfold mayS
  have h1 : decide ((n : Int) ≤ 512) = decide (n ≤ 512) := by rw [Bool.eq_iff_iff]; simp; omega
  have h2 : ((m : Int) == max 0 ((n : Int) - 1)) = decide (m = n - 1) := by rw [Bool.eq_iff_iff]; simp; omega
  generalize decide (m = n - 1) = q at *
  generalize decide (n ≤ 512) = q' at *
  have hB0 : Below w.heap.size w (w.alloc (.cells #[.slice da n dc, .slice ea m ec] 51)) := (Below.refl _ _).alloc (Nat.le_refl _) _
  cases q' <;>
  · go_enter Try.func51, Try.ntmps51
    go_wp2
    all_goals
      go_ret
      refine ⟨?_, hB0⟩
      first
        | rfl
        | (rw [← h2, Int.max_eq_left (by omega)]; rfl)
        | (rw [← h2, Int.max_eq_right (by omega)]; rfl)
def askR (ds es : List Nat) : Int := if mayS ds.length es.length then (if ds.all ffin && es.all ffin then 0 else 10) else 2
theorem all_fnS (zs : List Nat) : zs.all fnS = zs.all ffin := by
  rw [show fnS = ffin from funext fnS_ffin]
theorem askR_askS (ds es : List Nat) : askR ds es = askS ds es [] := by
  unfold askR askS
  rw [all_fnS, all_fnS]
  simp
set_option maxHeartbeats 2000000 in
theorem RAsk_any (w : World) (da ea : Option Addr) (ds es : List Nat) (dc ec : Nat) (hD : Fls w da ds) (hE : Fls w ea es) (hWd : Words ds) (hWe : Words es) (hn : ds.length ≤ maxLen) (hm : es.length ≤ maxLen) :
    Calls Try.prog 36 #[.agg #[.slice da ds.length dc, .slice ea es.length ec]] w fun e w' => e = .returned (.int .i64 (askR ds es)) ∧ Below w.heap.size w w' := by
  have HM := Lib.hid (fun (W : World) => RMay13_any W da ea ds.length es.length dc ec hn hm)
  have H1 := Lib.hid (fun (W : World) (hW : Below w.heap.size w W) => RFinite_any W da ds dc (hD.below hW) hWd hn)
  have H2 := Lib.hid (fun (W : World) (hW : Below w.heap.size w W) => RFinite_any W ea es ec (hE.below hW) hWe hm)
  unfold askR
  generalize mayS ds.length es.length = q0 at *
  generalize ds.all ffin = q1 at *
  generalize es.all ffin = q2 at *
  clear hD hE hn hm hWd hWe
  have x0 : Box (w.alloc (.cells #[.slice da ds.length dc, .slice ea es.length ec] 51)) w.heap.size [.slice da ds.length dc, .slice ea es.length ec] := Box.newA w [_, _] _ rfl
  have hB0 : Below w.heap.size w (w.alloc (.cells #[.slice da ds.length dc, .slice ea es.length ec] 51)) := (Below.refl _ _).alloc (Nat.le_refl _) _
  go_enter Try.func36, Try.ntmps36
  go_wp2_with fail
  refine (HM.out _).mono ?_
  rintro e w1 ⟨rfl, hb1⟩
  have x1 := x0.below hb1
  have hB1 := below_step hB0 hB0.size hb1
  clear x0 hB0 hb1
  obtain ⟨a1, a2, a3⟩ := x1.facts
  cases q0
  case false =>
    go_wp2
    go_ret
    exact ⟨rfl, hB1⟩
  go_wp2_with fail
  refine (H1.out _ hB1).mono ?_
  rintro e w' ⟨rfl, rfl⟩
  cases q1
  case false =>
    go_wp2
    go_ret
    exact ⟨rfl, hB1⟩
  go_wp2_with fail
  refine (H2.out _ hB1).mono ?_
  rintro e w' ⟨rfl, rfl⟩
  cases q2 <;>
  · go_wp2
    go_ret
    exact ⟨rfl, hB1⟩
end Go.Proofs.Ytogkmddhgfenkaa
