/- Package sturm: Find. -/
import Derived.Test.YtogkmddhgfenkaaSt10
namespace Go.Proofs.Ytogkmddhgfenkaa
open Go Go.RowKit Go.Shelf
set_option maxRecDepth 100000

/-- The k-th value's place, and its halvings. -/
def valK (ds es : List Nat) (k : Int) : Int × Nat := fndS (cntN ds es) k 64 (loS ds es) (hiS ds es) 0
theorem pl_los {ds es : List Nat} (h : bndE ds es = 0) : -9218868437227405313 ≤ loS ds es ∧ loS ds es ≤ 9218868437227405311 ∧ -9218868437227405311 ≤ hiS ds es ∧ hiS ds es ≤ 9218868437227405313 := by
  obtain ⟨_, _, g3, g4⟩ := bndE_zero h
  have hlt := bndL_lt ds es ds.length
  have q1 := pl_bnd hlt.1 (fnS_num g3)
  have q2 := pl_bnd hlt.2 (fnS_num g4)
  unfold loS hiS
  omega
def outK (ds : List Nat) (k : Int) : Bool := decide (k < 0) || decide ((ds.length : Int) ≤ k)
def findE (ds es : List Nat) (k : Int) : Int := if (mayS ds.length es.length && outK ds k) = true then 2 else bndE ds es
def findX (ds es : List Nat) (k : Int) : Nat := if findE ds es k = 0 then atN (valK ds es k).1 else 0
def findM (ds es : List Nat) (k : Int) : Nat := if findE ds es k = 0 then (valK ds es k).2 else 0

set_option maxHeartbeats 8000000 in
theorem find_in (w : World) (da ea : Option Addr) (ds es : List Nat) (dc ec : Nat) (k : Int) (hD : Fls w da ds) (hE : Fls w ea es) (hW : Words es) (hl : ds.length ≤ 1000) (hl' : es.length ≤ 1000) (hin : (mayS ds.length es.length && outK ds k) = false) :
    Calls Try.prog 43 #[.agg #[.slice da ds.length dc, .slice ea es.length ec], .int .i64 k] w fun e w' => e = .returned (.tuple #[.float .f64 (findX ds es k), .int .i64 (findM ds es k), .int .i64 (findE ds es k)]) ∧ Below w.heap.size w w' := by
  have hm : ds.length ≤ maxLen := by unfold maxLen; omega
  have hm' : es.length ≤ maxLen := by unfold maxLen; omega
  have hfe : findE ds es k = bndE ds es := by unfold findE; rw [hin]; rfl
  have HFE := Lib.hid hfe
  have x0 : Box (w.alloc (.cells #[.slice da ds.length dc, .slice ea es.length ec] 51)) w.heap.size [.slice da ds.length dc, .slice ea es.length ec] := Box.newA w [_, _] _ rfl
  have hB0 : Below w.heap.size w (w.alloc (.cells #[.slice da ds.length dc, .slice ea es.length ec] 51)) := (Below.refl _ _).alloc (Nat.le_refl _) _
  have HM := Lib.hid (fun (W : World) => May13_any W da ea ds.length es.length dc ec hm hm')
  have HO := Lib.hid (fun (W : World) (hW' : Below w.heap.size w W) => open13_any W da ea ds es dc ec (hD.below hW') (hE.below hW') hW hl hl')
  have HF := Lib.hid (fun (W : World) (mb Bm Bt : Nat) (hz : bndE ds es = 0) (h : SK ds es da ea dc ec mb Bm Bt 0 W) (hmb : mb < W.heap.size) => find_any W ds es da ea dc ec mb Bm Bt 0 (loS ds es) (hiS ds es) k h (by unfold maxLen; omega) hl hl' (pl_los hz).1 (pl_los hz).2.2.2 ⟨by have := (pl_los hz).2.1; omega, by have := (pl_los hz).2.2.1; omega⟩ hmb)
  have hnn : 0 ≤ (ds.length : Int) := Int.natCast_nonneg _
  unfold outK at hin
  generalize mayS ds.length es.length = q at *
  clear hD hE hW hl hl' hm hm' hfe
  go_enter Try.func43, Try.ntmps43
  go_wp2_with fail
  refine (HM.out _).mono ?_
  rintro e w1 ⟨rfl, hb1⟩
  have y0 := x0.below hb1
  have hB1 := below_step hB0 hB0.size hb1
  clear x0 hB0 hb1
  obtain ⟨a1, a2, a3⟩ := y0.facts
  have hrest : True := trivial
  have t12 : q = true → decide (k < 0) = false ∧ decide ((ds.length : Int) ≤ k) = false := by
    rintro rfl
    simpa using hin
  cases q
  case false =>
    clear t12 hin
    go_wp2_with fail
    refine (HO.out _ hB1).mono ?_
    rintro e w2 ⟨a, b, f, mb, Bm, Bt, rfl, hS, hnf, hb2⟩
    have hs1 := hB1.size
    have hB2 := below_step hB1 hB1.size hb2
    clear a1 a2 a3 y0 hB1 hb2
    by_cases hz : bndE ds es = 0
    · obtain ⟨rfl, rfl, rfl, hS, hm1, hm2⟩ := hS hz
      have t0 : (bndE ds es != 0) = false := by simp [hz]
      have hA : Below w2.heap.size w2 (w2.alloc (.cells #[.int .i64 (loS ds es), .int .i64 (hiS ds es), .func (.func 97) #[] #[.pointer (some ⟨Bm, 0, none⟩), .pointer (some ⟨Bt, 0, none⟩)]] 100)) := (Below.refl _ _).alloc (Nat.le_refl _) _
      have HF2 := Lib.hid (HF.out _ mb Bm Bt hz (hS.below hA) (by simp; omega))
      have HBB := Lib.hid (show _ ∧ _ from ⟨below_step hB2 hB2.size hA, hm1⟩)
      have h0 : findE ds es k = 0 := by rw [HFE.out, hz]
      have e1 : findX ds es k = atN (fndS (cntN ds es) k 64 (loS ds es) (hiS ds es) 0).1 := by unfold findX valK; rw [if_pos h0]
      have e2 : findM ds es k = (fndS (cntN ds es) k 64 (loS ds es) (hiS ds es) 0).2 := by unfold findM valK; rw [if_pos h0]
      have HX := Lib.hid (show _ ∧ _ ∧ _ ∧ _ from ⟨e1, e2, h0, hz⟩)
      clear e1 e2 h0 hz hS hm1 hm2 hA hB2 HF HO HM hnf
      generalize loS ds es = lo at *
      generalize hiS ds es = hi at *
      go_wp2_with fail
      refine HF2.out.mono ?_
      rintro e w4 ⟨rfl, hS4, hb4⟩
      go_wp2
      obtain ⟨hB3, hm1⟩ := HBB.out
      obtain ⟨e1, e2, e3, e4⟩ := HX.out
      refine bodyPost_ret (results_tmp3 rfl _ _ _) rfl ⟨?_, (bel_step (Bel.of hB3) hB3.size hb4).below (Nat.le_trans hs1 hm1)⟩
      rw [e1, e2, e3]; rfl
    · have t0 : (bndE ds es != 0) = true := by simp [hz]
      obtain rfl := hnf hz
      have h0 : findE ds es k ≠ 0 := by rw [HFE.out]; exact hz
      have e1 : findX ds es k = 0 := by unfold findX; rw [if_neg h0]
      have e2 : findM ds es k = 0 := by unfold findM; rw [if_neg h0]
      have HX := Lib.hid (show _ ∧ _ from ⟨e1, e2⟩)
      have hA : Below w2.heap.size w2 (w2.alloc (.cells #[.int .i64 a, .int .i64 b, .nilFunc] 100)) := (Below.refl _ _).alloc (Nat.le_refl _) _
      have hB3 := below_step hB2 hB2.size hA
      clear e1 e2 h0 hz hS hB2 HF HO HM hA
      go_wp2
      refine bodyPost_ret (results_tmp3 rfl _ _ _) rfl ⟨?_, hB3⟩
      rw [HX.out.1, HX.out.2, HFE.out]; rfl
  case true =>
    obtain ⟨t1, t2⟩ := t12 rfl
    clear t12 hin
    go_wp2_with fail
    refine (HO.out _ hB1).mono ?_
    rintro e w2 ⟨a, b, f, mb, Bm, Bt, rfl, hS, hnf, hb2⟩
    have hs1 := hB1.size
    have hB2 := below_step hB1 hB1.size hb2
    clear a1 a2 a3 y0 hB1 hb2
    by_cases hz : bndE ds es = 0
    · obtain ⟨rfl, rfl, rfl, hS, hm1, hm2⟩ := hS hz
      have t0 : (bndE ds es != 0) = false := by simp [hz]
      have hA : Below w2.heap.size w2 (w2.alloc (.cells #[.int .i64 (loS ds es), .int .i64 (hiS ds es), .func (.func 97) #[] #[.pointer (some ⟨Bm, 0, none⟩), .pointer (some ⟨Bt, 0, none⟩)]] 100)) := (Below.refl _ _).alloc (Nat.le_refl _) _
      have HF2 := Lib.hid (HF.out _ mb Bm Bt hz (hS.below hA) (by simp; omega))
      have HBB := Lib.hid (show _ ∧ _ from ⟨below_step hB2 hB2.size hA, hm1⟩)
      have h0 : findE ds es k = 0 := by rw [HFE.out, hz]
      have e1 : findX ds es k = atN (fndS (cntN ds es) k 64 (loS ds es) (hiS ds es) 0).1 := by unfold findX valK; rw [if_pos h0]
      have e2 : findM ds es k = (fndS (cntN ds es) k 64 (loS ds es) (hiS ds es) 0).2 := by unfold findM valK; rw [if_pos h0]
      have HX := Lib.hid (show _ ∧ _ ∧ _ ∧ _ from ⟨e1, e2, h0, hz⟩)
      clear e1 e2 h0 hz hS hm1 hm2 hA hB2 HF HO HM hnf
      generalize loS ds es = lo at *
      generalize hiS ds es = hi at *
      go_wp2_with fail
      refine HF2.out.mono ?_
      rintro e w4 ⟨rfl, hS4, hb4⟩
      go_wp2
      obtain ⟨hB3, hm1⟩ := HBB.out
      obtain ⟨e1, e2, e3, e4⟩ := HX.out
      refine bodyPost_ret (results_tmp3 rfl _ _ _) rfl ⟨?_, (bel_step (Bel.of hB3) hB3.size hb4).below (Nat.le_trans hs1 hm1)⟩
      rw [e1, e2, e3]; rfl
    · have t0 : (bndE ds es != 0) = true := by simp [hz]
      obtain rfl := hnf hz
      have h0 : findE ds es k ≠ 0 := by rw [HFE.out]; exact hz
      have e1 : findX ds es k = 0 := by unfold findX; rw [if_neg h0]
      have e2 : findM ds es k = 0 := by unfold findM; rw [if_neg h0]
      have HX := Lib.hid (show _ ∧ _ from ⟨e1, e2⟩)
      have hA : Below w2.heap.size w2 (w2.alloc (.cells #[.int .i64 a, .int .i64 b, .nilFunc] 100)) := (Below.refl _ _).alloc (Nat.le_refl _) _
      have hB3 := below_step hB2 hB2.size hA
      clear e1 e2 h0 hz hS hB2 HF HO HM hA
      go_wp2
      refine bodyPost_ret (results_tmp3 rfl _ _ _) rfl ⟨?_, hB3⟩
      rw [HX.out.1, HX.out.2, HFE.out]; rfl

set_option maxHeartbeats 4000000 in
theorem find_out (w : World) (da ea : Option Addr) (ds es : List Nat) (dc ec : Nat) (k : Int) (hl : ds.length ≤ 1000) (hl' : es.length ≤ 1000) (hin : (mayS ds.length es.length && outK ds k) = true) :
    Calls Try.prog 43 #[.agg #[.slice da ds.length dc, .slice ea es.length ec], .int .i64 k] w fun e w' => e = .returned (.tuple #[.float .f64 (findX ds es k), .int .i64 (findM ds es k), .int .i64 (findE ds es k)]) ∧ Below w.heap.size w w' := by
  have hm : ds.length ≤ maxLen := by unfold maxLen; omega
  have hm' : es.length ≤ maxLen := by unfold maxLen; omega
  have h2 : findE ds es k = 2 := by unfold findE; rw [hin]; rfl
  have e1 : findX ds es k = 0 := by unfold findX; rw [if_neg (by rw [h2]; decide)]
  have e2 : findM ds es k = 0 := by unfold findM; rw [if_neg (by rw [h2]; decide)]
  rw [h2, e1, e2]
  have x0 : Box (w.alloc (.cells #[.slice da ds.length dc, .slice ea es.length ec] 51)) w.heap.size [.slice da ds.length dc, .slice ea es.length ec] := Box.newA w [_, _] _ rfl
  have hB0 : Below w.heap.size w (w.alloc (.cells #[.slice da ds.length dc, .slice ea es.length ec] 51)) := (Below.refl _ _).alloc (Nat.le_refl _) _
  have HM := Lib.hid (fun (W : World) => May13_any W da ea ds.length es.length dc ec hm hm')
  rw [Bool.and_eq_true] at hin
  rw [hin.1] at HM
  have hk := hin.2
  unfold outK at hk
  clear hin h2 e1 e2
  go_enter Try.func43, Try.ntmps43
  go_wp2_with fail
  refine (HM.out _).mono ?_
  rintro e w1 ⟨rfl, hb1⟩
  have y0 := x0.below hb1
  have hB1 := below_step hB0 hB0.size hb1
  obtain ⟨a1, a2, a3⟩ := y0.facts
  cases t1 : decide (k < 0)
  · have t2 : decide ((ds.length : Int) ≤ k) = true := by rw [t1] at hk; simpa using hk
    clear hk
    go_wp2
    exact bodyPost_ret (results_tmp3 rfl _ _ _) rfl ⟨rfl, hB1⟩
  · clear hk
    go_wp2
    exact bodyPost_ret (results_tmp3 rfl _ _ _) rfl ⟨rfl, hB1⟩
theorem Find_any (w : World) (da ea : Option Addr) (ds es : List Nat) (dc ec : Nat) (k : Int) (hD : Fls w da ds) (hE : Fls w ea es) (hW : Words es) (hl : ds.length ≤ 1000) (hl' : es.length ≤ 1000) :
    Calls Try.prog 43 #[.agg #[.slice da ds.length dc, .slice ea es.length ec], .int .i64 k] w fun e w' => e = .returned (.tuple #[.float .f64 (findX ds es k), .int .i64 (findM ds es k), .int .i64 (findE ds es k)]) ∧ Below w.heap.size w w' := by
  cases h : (mayS ds.length es.length && outK ds k)
  · exact find_in w da ea ds es dc ec k hD hE hW hl hl' h
  · exact find_out w da ea ds es dc ec k hl hl' h
end Go.Proofs.Ytogkmddhgfenkaa
