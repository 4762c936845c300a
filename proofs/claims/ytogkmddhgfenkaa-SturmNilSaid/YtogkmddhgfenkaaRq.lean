/- The document's sturm: how many pivots are below nought. -/
import Derived.Test.YtogkmddhgfenkaaRp
namespace Go.Proofs.Ytogkmddhgfenkaa
open Go Go.RowKit
set_option maxRecDepth 100000

theorem cntK_le (ds es : List Nat) (x k : Nat) : cntK ds es x k ≤ k := by
  unfold cntK
  exact Nat.le_trans (List.length_filter_le _ _) (by simp)
theorem cntK_succ (ds es : List Nat) (x k : Nat) : cntK ds es x (k + 1) = cntK ds es x k + (if flt (pivQ ds es x (k + 1)) 0 then 1 else 0) := by
  unfold cntK
  rw [List.range_succ, List.filter_append, List.length_append]
  congr 1
  rw [List.filter_cons]
  cases flt (pivQ ds es x (k + 1)) 0 <;> rfl
theorem pivL_length (ds es : List Nat) (x : Nat) : (pivL ds es x).length = ds.length := by unfold pivL; simp
theorem pivL_getD {ds es : List Nat} {x k : Nat} (h : k < ds.length) : (pivL ds es x).getD k 0 = pivQ ds es x (k + 1) := by
  unfold pivL
  rw [List.getD_eq_getElem?_getD, List.getElem?_map, List.getElem?_range h]
  rfl
set_option maxHeartbeats 8000000 in
theorem RCount_any (w : World) (da ea : Option Addr) (ds es : List Nat) (dc ec x sx : Nat) (hD : Fls w da ds) (hE : Fls w ea es) (hl : ds.length ≤ 1000) (hlen : es.length = ds.length - 1) :
    Calls Try.prog 54 #[.agg #[.slice da ds.length dc, .slice ea es.length ec], .float .f64 (raw x sx)] w fun e w' => e = .returned (.int .i64 (cntK ds es x ds.length : Nat)) ∧ Below w.heap.size w w' := by
  have x0 : Box (w.alloc (.cells #[.slice da ds.length dc, .slice ea es.length ec] 51)) w.heap.size [.slice da ds.length dc, .slice ea es.length ec] := Box.newA w [_, _] _ rfl
  have hB0 : Below w.heap.size w (w.alloc (.cells #[.slice da ds.length dc, .slice ea es.length ec] 51)) := (Below.refl _ _).alloc (Nat.le_refl _) _
  have HP := Lib.hid (RPivots_any _ da ea ds es dc ec x sx (hD.below hB0) (hE.below hB0) hl hlen)
  obtain ⟨q1, q2, q3⟩ := x0.facts
  have hl1 : ds.length ≤ 9223372036854775807 := by omega
  clear hD hE hlen
  go_enter Try.func54, Try.ntmps54
  go_wp2_with fail
  refine HP.out.mono ?_
  rintro e w1 ⟨⟨a, c, rfl, hF⟩, hb1⟩
  have hB1 := Lib.hid (below_step hB0 hB0.size hb1)
  clear q1 q2 q3 x0 hB0 hb1 HP
  go_wp2_with fail
  go_loopw [6, 7] (fun s6 s7 wr => ∃ k : Nat, k ≤ ds.length ∧ s7 = .int .i64 k ∧ s6 = .int .i64 (cntK ds es x k : Nat) ∧ w1 = wr) (fun _ s7 _ => ds.length - (intOf s7).toNat)
  case atStart => exact ⟨0, Nat.zero_le _, rfl, rfl, rfl⟩
  case round =>
    obtain ⟨k, hk, rfl, rfl, rfl⟩ := hrel
    by_cases hlt : k < ds.length
    · obtain ⟨b, o, s1, rfl, hb, hc1⟩ := hF.at (i := k) (by rw [pivL_length]; exact hlt)
      rw [pivL_getD hlt] at hc1
      have hcb : cntK ds es x k ≤ k := cntK_le ds es x k
      have hstep := cntK_succ ds es x k
      have hkb : k + 1 ≤ 1000 := by omega
      generalize cntK ds es x k = cc at *
      generalize pivQ ds es x (k + 1) = q at *
      cases hf : flt q 0
      · rw [hf] at hstep
        have HS := Lib.hid hstep
        clear hstep
        go_wp2
        go_roundw
        case rel => exact ⟨k + 1, by omega, by go_num, by rw [HS.out]; rfl, trivial⟩
        case measure => simp [intOf]; omega
      · rw [hf] at hstep
        have HS := Lib.hid hstep
        have e1 : wrap64 ((cc : Int) + 1) = (cc : Int) + 1 := by unfold wrap64; omega
        clear hstep
        go_wp2
        go_roundw
        case rel => exact ⟨k + 1, by omega, by go_num, by rw [HS.out, if_pos rfl]; go_num, trivial⟩
        case measure => simp [intOf]; omega
    · obtain rfl : k = ds.length := by omega
      go_wp2
      go_ret
      exact ⟨rfl, hB1.out⟩
end Go.Proofs.Ytogkmddhgfenkaa
