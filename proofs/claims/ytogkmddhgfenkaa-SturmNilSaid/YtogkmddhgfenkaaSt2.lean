/- Package sturm: what is asked of a tridiagonal. -/
import Derived.Test.YtogkmddhgfenkaaSt
import Derived.Test.YtogkmddhgfenkaaGen
namespace Go.Proofs.Ytogkmddhgfenkaa
open Go Go.RowKit
set_option maxRecDepth 100000

/-- Is its difference to itself nought? -/
def fnS (x : Nat) : Bool := feq (fsub x x) 0
theorem fnS_raw (v s : Nat) : fnS (raw v s) = fnS v := by
  unfold fnS
  rw [← fsub_nm (raw v s) (raw v s), nm_raw, fsub_nm]

set_option maxHeartbeats 1000000 in
theorem fin1_any (v s : Nat) (w : World) : Calls Try.prog 95 #[.float .f64 (raw v s)] w fun e w' => e = .returned (.bool (!fnS v)) ∧ Below w.heap.size w w' := by
  go_enter Try.func95, Try.ntmps95
  go_wp2_with (first | (refine wpList_flt rfl rfl rfl rfl rfl ?_; intro K hK _ _; go_frame; refine hK _ _ ?_; clear hK K))
  go_ret
  exact ⟨rfl, below_drewN _ (Below.refl _ _)⟩

set_option maxHeartbeats 2000000 in
theorem IndexFuncB_any (f : FuncId) (p : Nat → Bool) (hp : ∀ (x s : Nat) (w : World), Calls Try.prog f #[.float .f64 (raw x s)] w fun e w' => e = .returned (.bool (p x)) ∧ Below w.heap.size w w') (hcf : ∀ x w, (callFunc f #[.float .f64 x]).run Try.prog w = .ok (.enter f #[.float .f64 x]) w)
    (w : World) (za : Option Addr) (zs : List Nat) (zc : Nat) (hZ : Fls w za zs) (hl : zs.length ≤ maxLen) :
    Calls Try.prog 102 #[.slice za zs.length zc, .func (.func f) #[] #[]] w fun e w' => (∃ r : Int, e = .returned (.int .i64 r) ∧ decide (0 ≤ r) = zs.any p) ∧ Below w.heap.size w w' := by
  have hl' := hl
  unfold maxLen at hl'
  have hln : zs.length ≤ 9223372036854775807 := by omega
  go_enter Try.func102, Try.ntmps102
  go_wp2_with fail
  go_loopw [8] (fun i wr => ∃ k : Nat, k ≤ zs.length ∧ i = .int .i64 k ∧ (∀ j, j < k → p (zs.getD j 0) = false) ∧ Below w.heap.size w wr) (fun i _ => zs.length - (intOf i).toNat)
  case atStart => exact ⟨0, Nat.zero_le _, rfl, fun _ h => absurd h (Nat.not_lt_zero _), Below.refl _ _⟩
  case round =>
    obtain ⟨k, hk, rfl, hno, hB⟩ := hrel
    have HNO := Lib.hid hno
    clear hno
    by_cases hlt : k < zs.length
    · obtain ⟨b, o, s1, rfl, hb, hc1⟩ := (hZ.below hB).at hlt
      go_wp2_with fail
      have e0 : zs.getD k 0 = zs[k] := by simp [hlt]
      have HP := hp zs[k] s1 wr
      refine HP.mono ?_
      rintro e w2 ⟨rfl, hb2⟩
      have hB2 := below_step hB hB.size hb2
      clear HP
      cases hpk : p zs[k]
      · go_wp2
        go_roundw
        case rel => exact ⟨k + 1, by omega, by go_num, fun j hj => (by
          by_cases hjk : j = k
          · subst hjk; rw [e0]; exact hpk
          · exact HNO.out j (by omega)), hB2⟩
        case measure => simp [intOf]; omega
      · go_wp2
        go_ret
        refine ⟨⟨k, rfl, ?_⟩, hB2⟩
        rw [decide_eq_true (by omega), eq_comm, List.any_eq_true]
        exact ⟨zs[k], List.getElem_mem hlt, hpk⟩
    · go_wp2
      go_ret
      refine ⟨⟨-1, rfl, ?_⟩, hB⟩
      rw [decide_eq_false (by omega), eq_comm, List.any_eq_false]
      intro x hx
      obtain ⟨j, hj, rfl⟩ := List.getElem_of_mem hx
      have := HNO.out j (by omega)
      simp [hj] at this
      simp [this]
set_option maxHeartbeats 1000000 in
theorem ContainsFuncB_any (f : FuncId) (p : Nat → Bool) (hp : ∀ (x s : Nat) (w : World), Calls Try.prog f #[.float .f64 (raw x s)] w fun e w' => e = .returned (.bool (p x)) ∧ Below w.heap.size w w') (hcf : ∀ x w, (callFunc f #[.float .f64 x]).run Try.prog w = .ok (.enter f #[.float .f64 x]) w)
    (w : World) (za : Option Addr) (zs : List Nat) (zc : Nat) (hZ : Fls w za zs) (hl : zs.length ≤ maxLen) :
    Calls Try.prog 94 #[.slice za zs.length zc, .func (.func f) #[] #[]] w fun e w' => e = .returned (.bool (zs.any p)) ∧ Below w.heap.size w w' := by
  have H := Lib.hid (IndexFuncB_any f p hp hcf w za zs zc hZ hl)
  clear hp hcf
  go_enter Try.func94, Try.ntmps94
  go_wp2_with fail
  refine H.out.mono ?_
  rintro e w2 ⟨⟨r, rfl, hr⟩, hb⟩
  have HR := Lib.hid hr
  clear hr
  go_wp2
  go_ret
  exact ⟨by rw [← HR.out]; rfl, hb⟩
theorem any_fnS (zs : List Nat) : (!zs.any fun x => !fnS x) = zs.all fnS := by
  induction zs with
  | nil => rfl
  | cons x l ih => rw [List.any_cons, List.all_cons, Bool.not_or, Bool.not_not, ih]
set_option maxHeartbeats 1000000 in
theorem fin_any (w : World) (za : Option Addr) (zs : List Nat) (zc : Nat) (hZ : Fls w za zs) (hl : zs.length ≤ maxLen) :
    Calls Try.prog 76 #[.slice za zs.length zc] w fun e w' => e = .returned (.bool (zs.all fnS)) ∧ Below w.heap.size w w' := by
  have H := Lib.hid (ContainsFuncB_any 95 (fun x => !fnS x) (fun x s w => fin1_any x s w) (fun x w => by kernel_rfl) w za zs zc hZ hl)
  rw [← any_fnS]
  go_enter Try.func76, Try.ntmps76
  go_wp2_with fail
  refine H.out.mono ?_
  rintro e w2 ⟨rfl, hb⟩
  go_wp2
  go_ret
  exact ⟨rfl, hb⟩
/-- May it be? -/
def mayS (n m : Nat) : Bool := decide (n ≤ 512) && decide (m = n - 1)
set_option maxHeartbeats 1000000 in
theorem May13_any (w : World) (da ea : Option Addr) (n m dc ec : Nat) (hn : n ≤ maxLen) (hm : m ≤ maxLen) :
    Calls Try.prog 50 #[.agg #[.slice da n dc, .slice ea m ec]] w fun e w' => e = .returned (.bool (mayS n m)) ∧ Below w.heap.size w w' := by
  unfold maxLen at hn hm
  unfold mayS
  have h1 : decide ((n : Int) ≤ 512) = decide (n ≤ 512) := by rw [Bool.eq_iff_iff]; simp; omega
  have h2 : ((m : Int) == max 0 ((n : Int) - 1)) = decide (m = n - 1) := by rw [Bool.eq_iff_iff]; simp; omega
  generalize decide (m = n - 1) = q at *
  generalize decide (n ≤ 512) = q' at *
  have hB0 : Below w.heap.size w (w.alloc (.cells #[.slice da n dc, .slice ea m ec] 51)) := (Below.refl _ _).alloc (Nat.le_refl _) _
  cases q' <;>
  · go_enter Try.func50, Try.ntmps50
    go_wp2
    all_goals
      go_ret
      refine ⟨?_, hB0⟩
      first
        | rfl
        | (rw [← h2, Int.max_eq_left (by omega)]; rfl)
        | (rw [← h2, Int.max_eq_right (by omega)]; rfl)

/-- The error of a tridiagonal, and of some floats more. -/
def askS (ds es ms : List Nat) : Int := if mayS ds.length es.length then (if ds.all fnS && es.all fnS && ms.all fnS then 0 else 10) else 2
set_option maxHeartbeats 2000000 in
theorem ask13_any (w : World) (da ea ma : Option Addr) (ds es ms : List Nat) (dc ec mc : Nat) (hD : Fls w da ds) (hE : Fls w ea es) (hM : Fls w ma ms) (hn : ds.length ≤ maxLen) (hm : es.length ≤ maxLen) (hk : ms.length ≤ maxLen) :
    Calls Try.prog 73 #[.agg #[.slice da ds.length dc, .slice ea es.length ec], .slice ma ms.length mc] w fun e w' => e = .returned (.int .i64 (askS ds es ms)) ∧ Below w.heap.size w w' := by
  have HM := Lib.hid (fun (W : World) => May13_any W da ea ds.length es.length dc ec hn hm)
  have H1 := Lib.hid (fun (W : World) (hW : Below w.heap.size w W) => fin_any W da ds dc (hD.below hW) hn)
  have H2 := Lib.hid (fun (W : World) (hW : Below w.heap.size w W) => fin_any W ea es ec (hE.below hW) hm)
  have H3 := Lib.hid (fun (W : World) (hW : Below w.heap.size w W) => fin_any W ma ms mc (hM.below hW) hk)
  unfold askS
  generalize mayS ds.length es.length = q0 at *
  generalize ds.all fnS = q1 at *
  generalize es.all fnS = q2 at *
  generalize ms.all fnS = q3 at *
  clear hD hE hM hn hm hk
  have x0 : Box (w.alloc (.cells #[.slice da ds.length dc, .slice ea es.length ec] 51)) w.heap.size [.slice da ds.length dc, .slice ea es.length ec] := Box.newA w [_, _] _ rfl
  have hB0 : Below w.heap.size w (w.alloc (.cells #[.slice da ds.length dc, .slice ea es.length ec] 51)) := (Below.refl _ _).alloc (Nat.le_refl _) _
  go_enter Try.func73, Try.ntmps73
  go_wp2_with fail
  refine (HM.out _).mono ?_
  rintro e w1 ⟨rfl, hb1⟩
  have x1 := x0.below hb1
  have hB1 := below_step hB0 hB0.size hb1
  clear x0 hB0 hb1
  obtain ⟨a1, a2, a3⟩ := x1.facts
  cases q0
  case false =>
    go_wp2
    go_ret
    exact ⟨rfl, hB1⟩
  go_wp2_with fail
  refine (H1.out _ hB1).mono ?_
  rintro e w2 ⟨rfl, hb2⟩
  have x2 := x1.below hb2
  have hB2 := below_step hB1 hB1.size hb2
  clear a1 a2 a3 x1 hB1 hb2
  obtain ⟨a1, a2, a3⟩ := x2.facts
  cases q1
  case false =>
    go_wp2
    go_ret
    exact ⟨rfl, hB2⟩
  go_wp2_with fail
  refine (H2.out _ hB2).mono ?_
  rintro e w3 ⟨rfl, hb3⟩
  have hB3 := below_step hB2 hB2.size hb3
  clear a1 a2 a3 hB2 hb3
  cases q2
  case false =>
    go_wp2
    go_ret
    exact ⟨rfl, hB3⟩
  go_wp2_with fail
  refine (H3.out _ hB3).mono ?_
  rintro e w4 ⟨rfl, hb4⟩
  have hB4 := below_step hB3 hB3.size hb4
  cases q3 <;>
  · go_wp2
    go_ret
    exact ⟨rfl, hB4⟩
end Go.Proofs.Ytogkmddhgfenkaa
