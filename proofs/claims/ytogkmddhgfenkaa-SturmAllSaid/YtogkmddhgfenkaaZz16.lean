/- The document's sturm: a value is found by halving. -/
import Derived.Test.YtogkmddhgfenkaaZz13
import Derived.Test.YtogkmddhgfenkaaZz14
import Derived.Test.YtogkmddhgfenkaaZz15
namespace Go.Proofs.Ytogkmddhgfenkaa
open Go Go.RowKit
set_option maxRecDepth 100000

theorem at_fin {m : Int} (h1 : -9218868437227405311 ≤ m) (h2 : m ≤ 9218868437227405311) : ffin (atN m) = true := by
  unfold ffin
  rw [decide_eq_true_eq]
  rcases at_case m with h | ⟨n, rfl, _⟩ | ⟨n, rfl, _, h0⟩
  · omega
  · rw [at_pos (by omega)]; omega
  · rw [at_neg (by omega) h0]; omega
theorem fin_num {x : Nat} (h : ffin x = true) : isnan x = false := by
  unfold ffin at h; unfold isnan
  rw [decide_eq_true_eq] at h
  rw [decide_eq_false_iff_not]; omega
theorem pl_fin {x : Nat} (hx : x < 18446744073709551616) (h : ffin x = true) : -9218868437227405311 ≤ plN x ∧ plN x ≤ 9218868437227405311 := by
  rw [pl_num hx (fin_num h)]
  unfold ffin at h
  rw [decide_eq_true_eq] at h
  split <;> omega
theorem ask_one {ds es : List Nat} {x : Nat} (h : askS ds es [] = 0) (hx : ffin x = true) : askS ds es [x] = 0 := by
  unfold askS at *
  rw [← fnS_ffin] at hx
  cases hm : mayS ds.length es.length <;> rw [hm] at h
  · cases h
  · cases h1 : ds.all fnS <;> cases h2 : es.all fnS <;> rw [h1, h2] at h <;> simp_all
theorem cnt_at {ds es : List Nat} {m : Int} (h : askS ds es [] = 0) (h1 : -9218868437227405311 ≤ m) (h2 : m ≤ 9218868437227405311) : cntN ds es (atN m) = cntK ds es (atN m) ds.length := by
  unfold cntN
  rw [if_pos (ask_one h (at_fin h1 h2))]
theorem at_raw {m : Int} (h1 : -9218868437227405311 ≤ m) (h2 : m ≤ 9218868437227405311) : raw (atN m) 0 = atN m := raw_of_not (fin_num (at_fin h1 h2)) 0
theorem los_fin {ds es : List Nat} (h : bndE ds es = 0) : -9218868437227405312 ≤ loS ds es ∧ hiS ds es ≤ 9218868437227405312 ∧ loS ds es ≤ 9218868437227405310 ∧ -9218868437227405310 ≤ hiS ds es := by
  obtain ⟨_, _, g3, g4⟩ := bndE_zero h
  rw [fnS_ffin] at g3 g4
  have hlt := bndL_lt ds es ds.length
  have q1 := pl_fin hlt.1 g3
  have q2 := pl_fin hlt.2 g4
  unfold loS hiS
  omega
theorem RCat {W : World} (da ea : Option Addr) (ds es : List Nat) (dc ec : Nat) {m : Int} (hD : Fls W da ds) (hE : Fls W ea es) (hl : ds.length ≤ 1000) (hask : askS ds es [] = 0) (h1 : -9218868437227405311 ≤ m) (h2 : m ≤ 9218868437227405311) :
    Calls Try.prog 54 #[.agg #[.slice da ds.length dc, .slice ea es.length ec], .float .f64 (atN m)] W fun e w' => e = .returned (.int .i64 (cntN ds es (atN m) : Nat)) ∧ Below W.heap.size W w' := by
  have h := RCount_any W da ea ds es dc ec (atN m) 0 hD hE hl (ask_len hask)
  rw [at_raw h1 h2] at h
  rw [cnt_at hask h1 h2]
  exact h
set_option maxHeartbeats 8000000 in
theorem RFind_no (w : World) (da ea : Option Addr) (ds es : List Nat) (dc ec : Nat) (k : Int) (hD : Fls w da ds) (hE : Fls w ea es) (hW : Words es) (hl : ds.length ≤ 1000) (hask : askS ds es [] = 0) (hn : (ffin (bndL ds es ds.length).1 && ffin (bndL ds es ds.length).2) = false) :
    Calls Try.prog 55 #[.agg #[.slice da ds.length dc, .slice ea es.length ec], .int .i64 k] w fun e w' => e = .returned (.tuple #[.float .f64 0, .int .i64 0, .bool false]) ∧ Below w.heap.size w w' := by
  have x0 : Box (w.alloc (.cells #[.slice da ds.length dc, .slice ea es.length ec] 51)) w.heap.size [.slice da ds.length dc, .slice ea es.length ec] := Box.newA w [_, _] _ rfl
  have hB0 : Below w.heap.size w (w.alloc (.cells #[.slice da ds.length dc, .slice ea es.length ec] 51)) := (Below.refl _ _).alloc (Nat.le_refl _) _
  have HB := Lib.hid (RBounds_any _ da ea ds es dc ec (hD.below hB0) (hE.below hB0) hW hl (ask_len hask))
  have hbl := bndL_lt ds es ds.length
  have HFin := Lib.hid (fun (W : World) s3 s4 => RFinite_any (W.alloc (.cells #[.float .f64 (raw (bndL ds es ds.length).1 s3), .float .f64 (raw (bndL ds es ds.length).2 s4)] 35)) (some ⟨W.heap.size, 0, none⟩) [(bndL ds es ds.length).1, (bndL ds es ds.length).2] 2 (fls_two W 35 _ s3 _ s4) (words_two hbl.1 hbl.2) (by unfold maxLen; simp))
  have ea' : [(bndL ds es ds.length).1, (bndL ds es ds.length).2].all ffin = (ffin (bndL ds es ds.length).1 && ffin (bndL ds es ds.length).2) := by simp
  rw [ea', hn] at HFin
  clear ea' hn hbl
  generalize (bndL ds es ds.length).1 = blo at *
  generalize (bndL ds es ds.length).2 = bhi at *
  obtain ⟨q1, q2, q3⟩ := x0.facts
  clear hD hE hW hl hask
  go_enter Try.func55, Try.ntmps55
  go_wp2_with fail
  refine HB.out.mono ?_
  rintro e w1 ⟨⟨s1, s2, rfl⟩, hb1⟩
  have hB1 := below_step hB0 hB0.size hb1
  have hA := below_step hB1 hB1.size ((Below.refl w1.heap.size w1).alloc (Nat.le_refl _) (.cells #[.float .f64 (raw blo s1), .float .f64 (raw bhi s2)] 35))
  have HF := Lib.hid (HFin.out w1 s1 s2)
  clear q1 q2 q3 x0 hB0 hb1 hB1 HFin HB
  go_wp2_with fail
  refine HF.out.mono ?_
  rintro e w' ⟨rfl, rfl⟩
  go_wp2
  exact bodyPost_ret (results_tmp3 rfl _ _ _) rfl ⟨rfl, hA⟩
set_option maxHeartbeats 8000000 in
theorem RFind_yes (w : World) (da ea : Option Addr) (ds es : List Nat) (dc ec : Nat) (k : Int) (hD : Fls w da ds) (hE : Fls w ea es) (hW : Words es) (hl : ds.length ≤ 1000) (hz : bndE ds es = 0) :
    Calls Try.prog 55 #[.agg #[.slice da ds.length dc, .slice ea es.length ec], .int .i64 k] w fun e w' => e = .returned (.tuple #[.float .f64 (atN (valK ds es k).1), .int .i64 (valK ds es k).2, .bool true]) ∧ Below w.heap.size w w' := by
  obtain ⟨hask, _, g3, g4⟩ := bndE_zero hz
  rw [fnS_ffin] at g3 g4
  have x0 : Box (w.alloc (.cells #[.slice da ds.length dc, .slice ea es.length ec] 51)) w.heap.size [.slice da ds.length dc, .slice ea es.length ec] := Box.newA w [_, _] _ rfl
  have hB0 : Below w.heap.size w (w.alloc (.cells #[.slice da ds.length dc, .slice ea es.length ec] 51)) := (Below.refl _ _).alloc (Nat.le_refl _) _
  have HB := Lib.hid (RBounds_any _ da ea ds es dc ec (hD.below hB0) (hE.below hB0) hW hl (ask_len hask))
  have hbl := bndL_lt ds es ds.length
  have HFin := Lib.hid (fun (W : World) s3 s4 => RFinite_any (W.alloc (.cells #[.float .f64 (raw (bndL ds es ds.length).1 s3), .float .f64 (raw (bndL ds es ds.length).2 s4)] 35)) (some ⟨W.heap.size, 0, none⟩) [(bndL ds es ds.length).1, (bndL ds es ds.length).2] 2 (fls_two W 35 _ s3 _ s4) (words_two hbl.1 hbl.2) (by unfold maxLen; simp))
  have ea' : [(bndL ds es ds.length).1, (bndL ds es ds.length).2].all ffin = true := by simp [g3, g4]
  rw [ea'] at HFin
  have hlf := los_fin hz
  have HPl1 := Lib.hid (fun W => RPlace_any (bndL ds es ds.length).1 hbl.1 W)
  have HPl2 := Lib.hid (fun W => RPlace_any (bndL ds es ds.length).2 hbl.2 W)
  have HC := Lib.hid (fun (W : World) (m : Int) (h1 : -9218868437227405311 ≤ m) (h2 : m ≤ 9218868437227405311) (hW' : Below w.heap.size w W) => (RCat da ea ds es dc ec (hD.below hW') (hE.below hW') hl hask h1 h2 : Calls Try.prog 54 #[.agg #[.slice da ds.length dc, .slice ea es.length ec], .float .f64 (atN m)] W fun e w' => e = .returned (.int .i64 (cntN ds es (atN m) : Nat)) ∧ Below W.heap.size W w'))
  have n1 := fin_num g3
  have n2 := fin_num g4
  have l1 : loS ds es = plN (bndL ds es ds.length).1 - 1 := rfl
  have l2 : hiS ds es = plN (bndL ds es ds.length).2 + 1 := rfl
  have hw1 : wrap64 (plN (bndL ds es ds.length).1 - 1) = loS ds es := by rw [← l1]; unfold wrap64; omega
  have hw2 : wrap64 (plN (bndL ds es ds.length).2 + 1) = hiS ds es := by rw [← l2]; unfold wrap64; omega
  obtain ⟨R, hR⟩ : ∃ R, R = valK ds es k := ⟨_, rfl⟩
  rw [← hR]
  unfold valK at hR
  clear ea' hbl g3 g4 l1 l2
  generalize (bndL ds es ds.length).1 = blo at *
  generalize (bndL ds es ds.length).2 = bhi at *
  generalize loS ds es = lo at *
  generalize hiS ds es = hi at *
  generalize plN blo = pl at *
  generalize plN bhi = ph at *
  obtain ⟨q1, q2, q3⟩ := x0.facts
  have HR := Lib.hid hR
  have HLF := Lib.hid hlf
  clear hD hE hW hl hask hz hR
  go_enter Try.func55, Try.ntmps55
  go_wp2_with fail
  refine HB.out.mono ?_
  rintro e w1 ⟨⟨s1, s2, rfl⟩, hb1⟩
  have HF := Lib.hid (HFin.out w1 s1 s2)
  rw [raw_of_not n1 s1, raw_of_not n2 s2] at *
  have x1 := x0.below hb1
  have hB1 := below_step hB0 hB0.size hb1
  have hA1 := (Below.refl w1.heap.size w1).alloc (Nat.le_refl _) (.cells #[.float .f64 blo, .float .f64 bhi] 35)
  have hA := below_step hB1 hB1.size hA1
  have x2 := x1.below hA1
  clear q1 q2 q3 x0 x1 hB0 hb1 hB1 hA1 HFin HB n1 n2
  go_wp2_with fail
  refine HF.out.mono ?_
  rintro e w' ⟨rfl, rfl⟩
  go_wp2_with fail
  refine (HPl1.out _).mono ?_
  rintro e w' ⟨rfl, rfl⟩
  go_wp2_with fail
  refine (HPl2.out _).mono ?_
  rintro e w' ⟨rfl, rfl⟩
  go_wp2_with fail
  generalize (w1.alloc (.cells #[.float .f64 blo, .float .f64 bhi] 35)) = w2 at *
  have hp64 : hi - lo ≤ 2 ^ 64 := by rw [show (2 : Int) ^ 64 = 18446744073709551616 from by decide]; omega
  simp only [hw1, hw2]
  clear hw1 hw2 HPl1 HPl2 HF
  go_loopw [9, 10, 11] (fun s9 s10 s11 wr => ∃ (a b : Int) (f j : Nat), s9 = .int .i64 a ∧ s10 = .int .i64 b ∧ s11 = .int .i64 (j : Int) ∧ R = fndS (cntN ds es) k f a b j ∧ b - a ≤ 2 ^ f ∧ lo ≤ a ∧ b ≤ hi ∧ a ≤ 9218868437227405313 ∧ -9218868437227405313 ≤ b ∧ j + f = 64 ∧ Below w.heap.size w wr ∧ Box wr w.heap.size [.slice da ds.length dc, .slice ea es.length ec]) (fun s9 s10 _ _ => (intOf s10 - intOf s9).toNat)
  case atStart => exact ⟨lo, hi, 64, 0, by first | rfl | trivial, by first | rfl | trivial, by first | rfl | trivial, HR.out, hp64, Int.le_refl _, Int.le_refl _, by omega, by omega, rfl, hA, x2⟩
  case round =>
    obtain ⟨a, b, f, j, rfl, rfl, rfl, hR, hf, ha, hb, ha2, hb2', hj, hB, hx⟩ := hrel
    have HR2 := Lib.hid hR
    clear x2 hA hR HR hp64
    obtain ⟨y1, y2, y3⟩ := hx.facts
    have hw1 : wrap64 (b - 1) = b - 1 := by unfold wrap64; omega
    by_cases hlt : a < b - 1
    · cases f with
      | zero => rw [Int.pow_zero] at hf; omega
      | succ f =>
        have t0 : decide (a < b - 1) = true := decide_eq_true hlt
        have hmid : a / 2 + b / 2 + bits .and .i64 (bits .and .i64 a b) 1 = midI a b := mid_bits a b
        have hw2 : wrap64 (a / 2 + b / 2) = a / 2 + b / 2 := by unfold wrap64; omega
        have hw3 : wrap64 (midI a b) = midI a b := by unfold midI wrap64; omega
        have hR3 : R = if k < (cntN ds es (atN (midI a b)) : Int) then fndS (cntN ds es) k f a (midI a b) (j + 1) else fndS (cntN ds es) k f (midI a b) b (j + 1) := by rw [HR2.out, fndS, if_pos hlt]
        have hm1 : a < midI a b ∧ midI a b < b := by unfold midI; omega
        have hp : (2 : Int) ^ (f + 1) = 2 * 2 ^ f := by rw [Int.pow_succ, Int.mul_comm]
        have hm2 : midI a b - a ≤ 2 ^ f ∧ b - midI a b ≤ 2 ^ f := by rw [hp] at hf; unfold midI; generalize (2 : Int) ^ f = z at *; omega
        have HM := Lib.hid (And.intro hm1 hm2)
        have HCm := Lib.hid (fun W (hW' : Below wr.heap.size wr W) => HC.out W (midI a b) (by omega) (by omega) (below_step hB hB.size hW'))
        have hjb : j + 1 ≤ 64 := by omega
        have e1 : wrap64 ((j : Int) + 1) = (j : Int) + 1 := by unfold wrap64; omega
        have HBX := Lib.hid (show _ ∧ _ from ⟨hB, hx⟩)
        clear hm1 hm2 hp hf
        go_upto_region 7 with (fail)
        simp only [hw3]
        generalize hcn : cntN ds es (atN (midI a b)) = cn at *
        generalize midI a b = m at *
        have HAt := Lib.hid (fun W => RAt13_any m W)
        generalize atN m = xm at *
        clear hlt t0 hmid hw2 hw3 hw1
        refine wp_region_nqd 6  (by kernel_rfl) (by kernel_rfl) ?_
        intro Cw Rw hc hb' hb2 hd hRw
        simp only [List.take_succ_cons, List.take_zero]
        repeat (
          first
            | (refine nqW_skip rfl (fun K hK => ?_); go_frame; refine hK _ ?_; clear hK K)
            | ((first | (refine nqW_plain (fun K hK => ?_)) | (refine nqW_want rfl (fun K hK => ?_)) | (refine nqW_step (fun K hK => ?_); go_simp))
               first
                 | (refine nq_move rfl ?_; go_simp; refine hK _ ?_; clear hK K)
                 | (refine nq_assign rfl ?_; go_simp; refine hK _ ?_; clear hK K)
                 | (refine nq_flt rfl rfl rfl rfl hd ?_; intro _; go_frame; refine hK _ ?_; clear hK K)
                 | (refine nq_inC rfl ?_; intro w' hw'; go_simp; refine fd_both (V := (.float .f64 xm)) (by kernel_rfl) (fun w2 hw2 => ?_) ?_; (next => (go_at_call 86; exact (((HAt.out w2).mono fun e w' (⟨h1, h2⟩ : e = Ending.returned (.float .f64 xm) ∧ w2 = w') => (⟨h1, h2 ▸ Below.refl _ _⟩ : e = Ending.returned (.float .f64 xm) ∧ Below w2.heap.size w2 w'))).mono (fun e w3 ⟨he, hb⟩ => ⟨he, hb2 _ _ hw2 hb⟩))); (try go_simp); refine hK _ ?_; clear hK K hw' w')
                 | (refine nq_inC rfl ?_; intro w' hw'; go_simp; refine fd_both (V := (.int .i64 (cn : Int))) (by kernel_rfl) (fun w2 hw2 => ?_) ?_; (next => (go_at_call 54; exact (HCm.out w2 (hb' _ hw2)).mono (fun e w3 ⟨he, hb⟩ => ⟨he, hb2 _ _ hw2 hb⟩))); (try go_simp); refine hK _ ?_; clear hK K hw' w')
                 | (refine nq_same ?_; intro w' hw'; go_simp; (try go_bits); refine hK _ ?_; clear hK K hw' w')
                 | (refine nq_same ?_; intro w' hw'; go_simp; rw [if_pos (by omega)]; go_simp; (try go_bits); refine hK _ ?_; clear hK K hw' w')
                 | (go_simp; refine hK _ ?_; clear hK K)))
        refine nqW_nil (hRw _ ?_)
        clear hc hb' hb2 hd hRw
        intro w' hw'
        simp only [List.drop]
        have hBr := below_step HBX.out.1 HBX.out.1.size hw'
        have xr := HBX.out.2.below hw'
        clear y1 y2 y3 hw' HCm HBX hB hx
        have HQ := Lib.hid (show _ ∧ _ from ⟨hBr, xr⟩)
        clear hBr xr
        by_cases hk : k < (cn : Int)
        · rw [if_pos hk] at hR3
          have t1 := decide_eq_true hk
          have HR3 := Lib.hid hR3
          simp only [t1]
          clear hk hR3
          go_wp2
          go_roundw
          case rel => exact ⟨a, m, f, j + 1, rfl, rfl, by go_num, HR3.out, HM.out.2.1, ha, by have := HM.out.1; omega, ha2, by have := HM.out.1; omega, by omega, HQ.out.1, HQ.out.2⟩
          case measure => have := HM.out.1; simp [intOf]; omega
        · rw [if_neg hk] at hR3
          have t1 := decide_eq_false hk
          have HR3 := Lib.hid hR3
          simp only [t1]
          clear hk hR3
          go_wp2
          go_roundw
          case rel => exact ⟨m, b, f, j + 1, rfl, rfl, by go_num, HR3.out, HM.out.2.2, by have := HM.out.1; omega, hb, by have := HM.out.1; omega, hb2', by omega, HQ.out.1, HQ.out.2⟩
          case measure => have := HM.out.1; simp [intOf]; omega
    · have t0 : decide (a < b - 1) = false := decide_eq_false hlt
      have hR3 : R = (a, j) := by rw [HR2.out]; exact fndS_end hlt _ _
      have HR3 := Lib.hid hR3
      clear hR3 hlt
      go_wp2_with (go_at_call 86; refine (RAt13_any a _).mono ?_; rintro e w' ⟨rfl, rfl⟩)
      refine bodyPost_ret (results_tmp3 rfl _ _ _) rfl ⟨?_, hB⟩
      rw [HR3.out]; rfl
end Go.Proofs.Ytogkmddhgfenkaa

/- Package sturm: Within, where there are none; the document's All. -/
namespace Go.Proofs.Ytogkmddhgfenkaa
open Go Go.RowKit
set_option maxRecDepth 100000

theorem allE_bnd {ds es : List Nat} (h : allE ds es ≠ 0) : bndE ds es ≠ 0 := by
  intro hb
  obtain ⟨h1, h2, _⟩ := bndE_zero hb
  unfold allE at h
  rw [if_pos ⟨h1, h2⟩] at h
  exact h hb
set_option maxHeartbeats 4000000 in
theorem Within_err (w : World) (da ea : Option Addr) (ds es : List Nat) (dc ec x y : Nat) (hD : Fls w da ds) (hE : Fls w ea es) (hW : Words es) (hl : ds.length ≤ 1000) (hl' : es.length ≤ 1000) (hz : allE ds es ≠ 0) :
    Calls Try.prog 58 #[.agg #[.slice da ds.length dc, .slice ea es.length ec], .float .f64 x, .float .f64 y] w fun e w' => e = .returned (.tuple #[.slice none 0 0, .int .i64 0, .int .i64 (allE ds es)]) ∧ Below w.heap.size w w' := by
  have x0 : Box (w.alloc (.cells #[.slice da ds.length dc, .slice ea es.length ec] 51)) w.heap.size [.slice da ds.length dc, .slice ea es.length ec] := Box.newA w [_, _] _ rfl
  have hB0 : Below w.heap.size w (w.alloc (.cells #[.slice da ds.length dc, .slice ea es.length ec] 51)) := (Below.refl _ _).alloc (Nat.le_refl _) _
  have HA := Lib.hid (All_err _ da ea ds es dc ec (hD.below hB0) (hE.below hB0) hW hl hl' (allE_bnd hz))
  have t1 : (allE ds es != 0) = true := by simp [hz]
  generalize allE ds es = aE at *
  clear hD hE hW hl hl' hz
  go_enter Try.func58, Try.ntmps58
  go_wp2_with fail
  refine HA.out.mono ?_
  rintro e w1 ⟨rfl, hb1⟩
  have hB1 := below_step hB0 hB0.size hb1
  go_wp2
  exact bodyPost_ret (results_tmp3 rfl _ _ _) rfl ⟨rfl, hB1⟩
set_option maxHeartbeats 4000000 in
theorem Within_inf (w : World) (da ea : Option Addr) (ds es : List Nat) (dc ec lo sl hi sh : Nat) (hD : Fls w da ds) (hE : Fls w ea es) (hW : Words es) (hl : ds.length ≤ 1000) (hl' : es.length ≤ 1000) (hz : allE ds es = 0) (hf : (ffin lo && ffin hi) = false) :
    Calls Try.prog 58 #[.agg #[.slice da ds.length dc, .slice ea es.length ec], .float .f64 (raw lo sl), .float .f64 (raw hi sh)] w fun e w' => e = .returned (.tuple #[.slice none 0 0, .int .i64 0, .int .i64 10]) ∧ Below w.heap.size w w' := by
  have x0 : Box (w.alloc (.cells #[.slice da ds.length dc, .slice ea es.length ec] 51)) w.heap.size [.slice da ds.length dc, .slice ea es.length ec] := Box.newA w [_, _] _ rfl
  have hB0 : Below w.heap.size w (w.alloc (.cells #[.slice da ds.length dc, .slice ea es.length ec] 51)) := (Below.refl _ _).alloc (Nat.le_refl _) _
  have HA := Lib.hid (All_ok _ da ea ds es dc ec (hD.below hB0) (hE.below hB0) hW hl hl' hz)
  have HF := Lib.hid (fun (W : World) => fin_any (W.alloc (.cells #[.float .f64 (raw lo sl), .float .f64 (raw hi sh)] 35)) (some ⟨W.heap.size, 0, none⟩) [lo, hi] 2 (fls_two W 35 lo sl hi sh) (by unfold maxLen; simp))
  have ef : [lo, hi].all fnS = false := by
    rw [all_fnS]
    rw [Bool.and_eq_false_iff] at hf
    rcases hf with h | h <;> simp [h]
  rw [ef] at HF
  clear hD hE hW hl hl' hz hf ef
  go_enter Try.func58, Try.ntmps58
  go_wp2_with fail
  refine HA.out.mono ?_
  rintro e w1 ⟨sv, rfl, hr, hb1⟩
  have hB1 := below_step hB0 hB0.size hb1
  have hA1 := (Below.refl w1.heap.size w1).alloc (Nat.le_refl _) (.cells #[.float .f64 (raw lo sl), .float .f64 (raw hi sh)] 35)
  have HF1 := Lib.hid (HF.out w1)
  have hB2 := below_step hB1 hB1.size hA1
  clear x0 hB0 hb1 HF hr hB1 HA hA1
  go_wp2_with fail
  refine HF1.out.mono ?_
  rintro e w2 ⟨rfl, hb2⟩
  have hB3 := below_step hB2 hB2.size hb2
  go_wp2
  exact bodyPost_ret (results_tmp3 rfl _ _ _) rfl ⟨rfl, hB3⟩
set_option maxHeartbeats 4000000 in
theorem RAll_no (w : World) (da ea : Option Addr) (ds es : List Nat) (dc ec : Nat) (hD : Fls w da ds) (hE : Fls w ea es) (hW : Words es) (hl : ds.length ≤ 1000) (hask : askS ds es [] = 0) (hn : ds.length ≠ 0) (hb : bndE ds es ≠ 0) :
    Calls Try.prog 59 #[.agg #[.slice da ds.length dc, .slice ea es.length ec]] w fun e w' => e = .returned (.tuple #[.slice none 0 0, .int .i64 0, .bool false]) ∧ Below w.heap.size w w' := by
  have x0 : Box (w.alloc (.cells #[.slice da ds.length dc, .slice ea es.length ec] 51)) w.heap.size [.slice da ds.length dc, .slice ea es.length ec] := Box.newA w [_, _] _ rfl
  have hB0 : Below w.heap.size w (w.alloc (.cells #[.slice da ds.length dc, .slice ea es.length ec] 51)) := (Below.refl _ _).alloc (Nat.le_refl _) _
  have hf : (ffin (bndL ds es ds.length).1 && ffin (bndL ds es ds.length).2) = false := by
    unfold bndE at hb
    rw [if_pos hask, if_neg hn, fnS_ffin, fnS_ffin] at hb
    cases h : (ffin (bndL ds es ds.length).1 && ffin (bndL ds es ds.length).2)
    · rfl
    · rw [h] at hb; exact absurd rfl hb
  have HF := Lib.hid (RFind_no _ da ea ds es dc ec 0 (hD.below hB0) (hE.below hB0) hW hl hask hf)
  have hn1 : 0 < ds.length := by omega
  have t0 : decide ((0 : Int) < (ds.length : Int)) = true := decide_eq_true (by omega)
  have t0' : decide (0 < ds.length) = true := decide_eq_true hn1
  obtain ⟨q1, q2, q3⟩ := x0.facts
  clear hD hE hW hl hask hn hb hf
  go_enter Try.func59, Try.ntmps59
  go_wp2_with fail
  generalize w.alloc (.cells #[.slice da ds.length dc, .slice ea es.length ec] 51) = w0 at *
  go_loopw [5, 6, 7] (fun s5 s6 s7 wr => s7 = .int .i64 0 ∧ w0 = wr) (fun _ _ _ _ => 0)
  case atStart => exact ⟨rfl, rfl⟩
  case round =>
    obtain ⟨rfl, rfl⟩ := hrel
    go_wp2_with fail
    refine HF.out.mono ?_
    rintro e w1 ⟨rfl, hb1⟩
    have hB1 := below_step hB0 hB0.size hb1
    go_wp2
    exact bodyPost_ret (results_tmp3 rfl _ _ _) rfl ⟨rfl, hB1⟩
end Go.Proofs.Ytogkmddhgfenkaa

/- The document's All (printed by gen_ra.py). -/
namespace Go.Proofs.Ytogkmddhgfenkaa
open Go Go.RowKit
set_option maxRecDepth 100000

set_option maxHeartbeats 16000000 in
theorem RAll_ok (w : World) (da ea : Option Addr) (ds es : List Nat) (dc ec : Nat) (hD : Fls w da ds) (hE : Fls w ea es) (hW : Words es) (hl : ds.length ≤ 1000) (hz : allE ds es = 0) :
    Calls Try.prog 59 #[.agg #[.slice da ds.length dc, .slice ea es.length ec]] w fun e w' => ∃ sv, e = .returned (.tuple #[sv, .int .i64 (allM ds es ds.length), .bool true]) ∧ w'.ownsRow w.heap.size 35 1 sv ds.length ((allL ds es ds.length).map (Value.float .f64)) ∧ Below w.heap.size w w' := by
  obtain ⟨i0, hi0, hz0, hz1, hz2⟩ := info_parts info_f64
  have x0 : Box (w.alloc (.cells #[.slice da ds.length dc, .slice ea es.length ec] 51)) w.heap.size [.slice da ds.length dc, .slice ea es.length ec] := Box.newA w [_, _] _ rfl
  have hB0 : Below w.heap.size w (w.alloc (.cells #[.slice da ds.length dc, .slice ea es.length ec] 51)) := (Below.refl _ _).alloc (Nat.le_refl _) _
  have hbz : ds.length ≠ 0 → bndE ds es = 0 := fun hn => by
    unfold allE at hz
    by_cases h : askS ds es [] = 0
    · rw [if_pos ⟨h, hn⟩] at hz; exact hz
    · rw [if_neg (fun k => h k.1)] at hz; exact absurd hz h
  have HF := Lib.hid (fun (W : World) (hW' : Below w.heap.size w W) (k : Int) (hn : ds.length ≠ 0) => RFind_yes W da ea ds es dc ec k (hD.below hW') (hE.below hW') hW hl (hbz hn))
  have hln : ds.length ≤ 9223372036854775807 := by omega
  clear hD hE hW hz hbz
  go_enter Try.func59, Try.ntmps59
  go_wp2_with fail
  have hsz0 : w.heap.size < (w.alloc (.cells #[.slice da ds.length dc, .slice ea es.length ec] 51)).heap.size := by simp
  generalize w.alloc (.cells #[.slice da ds.length dc, .slice ea es.length ec] 51) = w0 at *
  go_loopw [5, 6, 7] (fun s5 s6 s7 wr => ∃ k : Nat, k ≤ ds.length ∧ s7 = .int .i64 k ∧ s6 = .int .i64 (allM ds es k : Nat) ∧ wr.ownsRow w0.heap.size 35 1 s5 k ((allL ds es k).map (Value.float .f64)) ∧ Below w0.heap.size w0 wr) (fun _ _ s7 _ => ds.length - (intOf s7).toNat)
  case atStart => exact ⟨0, Nat.zero_le _, rfl, rfl, World.ownsRow_nil _ _ _ _, Below.refl _ _⟩
  case round =>
    obtain ⟨k, hk, rfl, rfl, hrow, hB⟩ := hrel
    have x1 := x0.below hB
    obtain ⟨a1, a2, a3⟩ := x1.facts
    have hBw := below_step hB0 hB0.size hB
    by_cases hlt : k < ds.length
    · have hkb : k + 1 ≤ 1000 := by omega
      have hmk := allM_le ds es k
      have hvk : (valK ds es k).2 ≤ 0 + 64 := fndS_le _ _ _ _ _ _
      have hM : allM ds es (k + 1) = allM ds es k + (valK ds es k).2 := rfl
      have HM := Lib.hid hM
      clear hM
      have HFk := Lib.hid (HF.out wr hBw (k : Int) (by omega))
      have HI := Lib.hid (show _ ∧ _ from ⟨hrow, hB⟩)
      clear hrow hB hBw x1 hk
      go_wp2_with fail
      refine HFk.out.mono ?_
      rintro e w4 ⟨rfl, hb4⟩
      have row4 := ownsRow_bel HI.out.1 (Bel.of (s := w.heap.size) hb4) hsz0
      have hbel4 := below_step HI.out.2 HI.out.2.size hb4
      have hsz4 := hbel4.size
      have hll := allL_length ds es k
      have HX := Lib.hid (show _ ∧ _ from ⟨row4, hbel4⟩)
      clear a1 a2 a3 hb4 hbel4 HI HFk
      rcases Nat.eq_zero_or_pos k with h0 | h0
      · have t0 : decide ((0 : Int) < (k : Int)) = false := by simp; omega
        have t0' : decide (0 < k) = false := by simp; omega
        have HN := Lib.hid (show allL ds es (k + 1) = allL ds es k ++ [atN (valK ds es (k : Nat)).1] from by rw [allL, if_neg (fun h => absurd h.1 (by omega))])
        clear hll h0 row4
        generalize allM ds es k = am at *
        generalize (valK ds es (k : Nat)).2 = vm at *
        generalize atN (valK ds es (k : Nat)).1 = vx at *
        go_wp2_with (at_builtin; refine wpList_append_lies _ rfl (.tmp 46) (.tmp 48) 24 rfl w0.heap.size 35 i0 (.float .f64 0) 1 8 Try.underlying24 hi0 hz0 hz1 hz2 rfl (by decide) _ (k) _ rfl (HX.out.1.alloc _) _ 1 1 [.float .f64 _] rfl rfl (cell_one_new _ _ _) (by simp [Value.oneCell']) (by decide) (by unfold maxLen; omega) (by omega) (by simp; omega) _ rfl ?_; intro g' cap' w5 hown hgrow hat hlt')
        go_roundw
        case rel =>
          obtain ⟨row4, hbel4⟩ := HX.out
          have hbA : Below w0.heap.size w4 (w4.alloc (.cells #[.float .f64 vx] 35)) := (Below.refl _ _).alloc hsz4 _
          have hb5 : Below w0.heap.size w4 w5 := hbA.grown hgrow (by simp; omega) (fun r e => (row4.lt r e).1)
          refine ⟨k + 1, by omega, by go_num, by rw [HM.out]; go_num, ?_, hbel4.trans hb5⟩
          rw [HN.out, List.map_append]; exact hown
        case measure => simp [intOf]; omega
      · obtain ⟨j, rfl⟩ : ∃ j, k = j + 1 := ⟨k - 1, by omega⟩
        obtain ⟨g, cap, rfl, hc, hgl⟩ := ownsRow_atS row4 (k := j) (by omega)
        have c1 : w4.cell? ⟨g, j, none⟩ = some (.float .f64 ((allL ds es (j + 1)).getD j 0)) := by
          rw [hc, List.getElem?_map]
          simp [show j < (allL ds es (j + 1)).length by omega]
        clear hc row4
        cases hf : flt (atN (valK ds es ((j + 1 : Nat) : Int)).1) ((allL ds es (j + 1)).getD j 0)
        · have HN := Lib.hid (show allL ds es (j + 1 + 1) = allL ds es (j + 1) ++ [atN (valK ds es (j + 1 : Nat)).1] from by rw [allL, if_neg (fun h => by have := h.2; rw [Nat.add_sub_cancel, hf] at this; cases this)])
          clear hll
          generalize allM ds es (j + 1) = am at *
          generalize (valK ds es (j + 1 : Nat)).2 = vm at *
          generalize atN (valK ds es (j + 1 : Nat)).1 = vx at *
          generalize (allL ds es (j + 1)).getD j 0 = wl at *
          go_wp2_with (at_builtin; refine wpList_append_lies _ rfl (.tmp 46) (.tmp 48) 24 rfl w0.heap.size 35 i0 (.float .f64 0) 1 8 Try.underlying24 hi0 hz0 hz1 hz2 rfl (by decide) _ (j + 1) _ rfl (HX.out.1.alloc _) _ 1 1 [.float .f64 _] rfl rfl (cell_one_new _ _ _) (by simp [Value.oneCell']) (by decide) (by unfold maxLen; omega) (by omega) (by simp; omega) _ rfl ?_; intro g' cap' w5 hown hgrow hat hlt')
          go_roundw
          case rel =>
            obtain ⟨row4, hbel4⟩ := HX.out
            have hbA : Below w0.heap.size w4 (w4.alloc (.cells #[.float .f64 vx] 35)) := (Below.refl _ _).alloc hsz4 _
            have hb5 : Below w0.heap.size w4 w5 := hbA.grown hgrow (by simp; omega) (fun r e => (row4.lt r e).1)
            refine ⟨j + 1 + 1, by omega, by go_num, by rw [HM.out]; go_num, ?_, hbel4.trans hb5⟩
            rw [HN.out, List.map_append]; exact hown
          case measure => simp [intOf]; omega
        · have HN := Lib.hid (show allL ds es (j + 1 + 1) = allL ds es (j + 1) ++ [(allL ds es (j + 1)).getD j 0] from by rw [allL, if_pos ⟨Nat.succ_pos _, by rw [Nat.add_sub_cancel]; exact hf⟩, Nat.add_sub_cancel])
          clear hll
          generalize allM ds es (j + 1) = am at *
          generalize (valK ds es (j + 1 : Nat)).2 = vm at *
          generalize atN (valK ds es (j + 1 : Nat)).1 = vx at *
          generalize (allL ds es (j + 1)).getD j 0 = wl at *
          go_wp2_with (at_builtin; refine wpList_append_lies _ rfl (.tmp 46) (.tmp 48) 24 rfl w0.heap.size 35 i0 (.float .f64 0) 1 8 Try.underlying24 hi0 hz0 hz1 hz2 rfl (by decide) _ (j + 1) _ rfl (HX.out.1.alloc _) _ 1 1 [.float .f64 _] rfl rfl (cell_one_new _ _ _) (by simp [Value.oneCell']) (by decide) (by unfold maxLen; omega) (by omega) (by simp; omega) _ rfl ?_; intro g' cap' w5 hown hgrow hat hlt')
          go_roundw
          case rel =>
            obtain ⟨row4, hbel4⟩ := HX.out
            have hbA : Below w0.heap.size w4 (w4.alloc (.cells #[.float .f64 wl] 35)) := (Below.refl _ _).alloc hsz4 _
            have hb5 : Below w0.heap.size w4 w5 := hbA.grown hgrow (by simp; omega) (fun r e => (row4.lt r e).1)
            refine ⟨j + 1 + 1, by omega, by go_num, by rw [HM.out]; go_num, ?_, hbel4.trans hb5⟩
            rw [HN.out, List.map_append]; exact hown
          case measure => simp [intOf]; omega
    · obtain rfl : k = ds.length := by omega
      have HI := Lib.hid (show _ ∧ _ from ⟨ownsRow_monoS hrow (Nat.le_of_lt hsz0), hBw⟩)
      clear hrow hB hBw
      go_wp2
      exact bodyPost_ret (results_tmp3 rfl _ _ _) rfl ⟨_, rfl, HI.out.1, HI.out.2⟩
end Go.Proofs.Ytogkmddhgfenkaa
