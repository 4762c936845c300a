/- Package sturm: Count; bounds. -/
import Derived.Test.YtogkmddhgfenkaaSt5
namespace Go.Proofs.Ytogkmddhgfenkaa
open Go Go.RowKit
set_option maxRecDepth 100000

set_option maxHeartbeats 4000000 in
theorem Count_any (w : World) (da ea : Option Addr) (ds es : List Nat) (dc ec : Nat) (x sx : Nat) (hD : Fls w da ds) (hE : Fls w ea es) (hl : ds.length ≤ 1000) (hl' : es.length ≤ 1000) :
    Calls Try.prog 44 #[.agg #[.slice da ds.length dc, .slice ea es.length ec], .float .f64 (raw x sx)] w fun e w' => e = .returned (.tuple #[.int .i64 (cntN ds es x), .int .i64 (askS ds es [x])]) ∧ Below w.heap.size w w' := by
  have hm : ds.length ≤ maxLen := by unfold maxLen; omega
  have hm' : es.length ≤ maxLen := by unfold maxLen; omega
  have x0 : Box (w.alloc (.cells #[.slice da ds.length dc, .slice ea es.length ec] 51)) w.heap.size [.slice da ds.length dc, .slice ea es.length ec] := Box.newA w [_, _] _ rfl
  have hB0 : Below w.heap.size w (w.alloc (.cells #[.slice da ds.length dc, .slice ea es.length ec] 51)) := (Below.refl _ _).alloc (Nat.le_refl _) _
  have hA : Below (w.alloc (.cells #[.slice da ds.length dc, .slice ea es.length ec] 51)).heap.size (w.alloc (.cells #[.slice da ds.length dc, .slice ea es.length ec] 51)) ((w.alloc (.cells #[.slice da ds.length dc, .slice ea es.length ec] 51)).alloc (.cells #[.float .f64 (raw x sx)] 35)) := (Below.refl _ _).alloc (Nat.le_refl _) _
  have HA := Lib.hid (ask13_any ((w.alloc (.cells #[.slice da ds.length dc, .slice ea es.length ec] 51)).alloc (.cells #[.float .f64 (raw x sx)] 35)) da ea (some ⟨(w.alloc (.cells #[.slice da ds.length dc, .slice ea es.length ec] 51)).heap.size, 0, none⟩) ds es [x] dc ec 1 ((hD.below hB0).below hA) ((hE.below hB0).below hA) (fls_one _ _ _ _) hm hm' (by unfold maxLen; simp))
  have HC := Lib.hid (fun (W : World) (hW : Below w.heap.size w W) => count_any W da ea ds es dc ec x sx (hD.below hW) (hE.below hW) hl hl')
  have hB1 := below_step hB0 hB0.size hA
  have x1 := x0.below hA
  clear hD hE hl hl' hm hm'
  rw [World.size_alloc] at HA
  go_enter Try.func44, Try.ntmps44
  go_wp2_with fail
  refine HA.out.mono ?_
  rintro e w1 ⟨rfl, hb1⟩
  have x2 := x1.below hb1
  have hB2 := below_step hB1 hB1.size hb1
  clear x0 x1 hB0 hB1 hA hb1 HA
  obtain ⟨a1, a2, a3⟩ := x2.facts
  by_cases hz : askS ds es [x] = 0
  · have e0 : (askS ds es [x] != 0) = false := by simp [hz]
    have HZ := Lib.hid hz
    rw [hz]
    clear hz e0
    go_wp2_with fail
    refine (HC.out _ hB2).mono ?_
    rintro e w2 ⟨rfl, hb2⟩
    go_wp2
    refine bodyPost_ret (results_tmp2 rfl _ _ _) rfl ⟨?_, below_step hB2 hB2.size hb2⟩
    rw [HZ.out]; rfl
  · have e0 : (askS ds es [x] != 0) = true := by simp [hz]
    have HZ : Hid (cntN ds es x = 0) := by unfold Hid cntN; rw [if_neg hz]
    clear hz
    go_wp2
    refine bodyPost_ret (results_tmp2 rfl _ _ _) rfl ⟨?_, hB2⟩
    rw [HZ.out]; rfl

/-- The size of the i-th float beside the diagonal; nought, where there is none. -/
def besA (es : List Nat) (i : Int) : Nat := if 0 ≤ i ∧ i < es.length then fabs (es.getD i.toNat 0) else 0
set_option maxHeartbeats 2000000 in
theorem beside_any (w : World) (ea : Option Addr) (es : List Nat) (ec Bt n dc : Nat) (da : Option Addr) (i : Int) (hE : Fls w ea es) (hW : Words es) (hb : Box w Bt [.slice da n dc, .slice ea es.length ec]) :
    Calls Try.prog 74 #[.int .i64 i, .pointer (some ⟨Bt, 0, none⟩)] w fun e w' => FR e (besA es i) ∧ w = w' := by
  obtain ⟨b1, b2, b3⟩ := hb.facts
  by_cases h : 0 ≤ i ∧ i < es.length
  · obtain ⟨k, rfl⟩ := Int.eq_ofNat_of_zero_le h.1
    have hk : k < es.length := by omega
    have e0 : besA es (k : Int) = fabs (es.getD k 0) := by unfold besA; rw [if_pos h, Int.toNat_natCast]
    obtain ⟨eb, eo, s2, rfl, heb, c2⟩ := hE.at hk
    have hw := hW.at k
    rw [e0]
    clear e0 h
    have HA := Lib.hid (fun (W : World) => Abs_any (raw (es.getD k 0) s2) (raw_lt hw s2) W)
    have HR := Lib.hid (fabs_raw (es.getD k 0) s2)
    generalize es.getD k 0 = z at *
    go_enter Try.func74, Try.ntmps74
    go_wp2_with fail
    refine (HA.out _).mono ?_
    rintro e w2 ⟨rfl, rfl⟩
    go_wp2
    go_ret
    obtain ⟨t, ht⟩ := HR.out
    exact ⟨⟨t, by rw [← ht]; rfl⟩, rfl⟩
  · have e0 : besA es i = 0 := by unfold besA; rw [if_neg h]
    rw [e0]
    clear e0
    by_cases h1 : i < 0
    · have t0 := decide_eq_true h1
      clear h h1
      go_enter Try.func74, Try.ntmps74
      go_wp2
      go_ret
      exact ⟨⟨0, by rw [raw_of_not (by kernel_rfl)]; rfl⟩, rfl⟩
    · have t0 := decide_eq_false h1
      have t1 : decide ((es.length : Int) ≤ i) = true := decide_eq_true (by omega)
      clear h h1
      go_enter Try.func74, Try.ntmps74
      go_wp2
      go_ret
      exact ⟨⟨0, by rw [raw_of_not (by kernel_rfl)]; rfl⟩, rfl⟩
end Go.Proofs.Ytogkmddhgfenkaa
