/- The document's sturm: a value is found by halving. -/
import Derived.Test.YtogkmddhgfenkaaZz14
import Derived.Test.YtogkmddhgfenkaaZz15
namespace Go.Proofs.Ytogkmddhgfenkaa
open Go Go.RowKit
set_option maxRecDepth 100000

theorem at_fin {m : Int} (h1 : -9218868437227405311 ≤ m) (h2 : m ≤ 9218868437227405311) : ffin (atN m) = true := by
  unfold ffin
  rw [decide_eq_true_eq]
  rcases at_case m with h | ⟨n, rfl, _⟩ | ⟨n, rfl, _, h0⟩
  · omega
  · rw [at_pos (by omega)]; omega
  · rw [at_neg (by omega) h0]; omega
theorem fin_num {x : Nat} (h : ffin x = true) : isnan x = false := by
  unfold ffin at h; unfold isnan
  rw [decide_eq_true_eq] at h
  rw [decide_eq_false_iff_not]; omega
theorem pl_fin {x : Nat} (hx : x < 18446744073709551616) (h : ffin x = true) : -9218868437227405311 ≤ plN x ∧ plN x ≤ 9218868437227405311 := by
  rw [pl_num hx (fin_num h)]
  unfold ffin at h
  rw [decide_eq_true_eq] at h
  split <;> omega
theorem ask_one {ds es : List Nat} {x : Nat} (h : askS ds es [] = 0) (hx : ffin x = true) : askS ds es [x] = 0 := by
  unfold askS at *
  rw [← fnS_ffin] at hx
  cases hm : mayS ds.length es.length <;> rw [hm] at h
  · cases h
  · cases h1 : ds.all fnS <;> cases h2 : es.all fnS <;> rw [h1, h2] at h <;> simp_all
theorem cnt_at {ds es : List Nat} {m : Int} (h : askS ds es [] = 0) (h1 : -9218868437227405311 ≤ m) (h2 : m ≤ 9218868437227405311) : cntN ds es (atN m) = cntK ds es (atN m) ds.length := by
  unfold cntN
  rw [if_pos (ask_one h (at_fin h1 h2))]
theorem at_raw {m : Int} (h1 : -9218868437227405311 ≤ m) (h2 : m ≤ 9218868437227405311) : raw (atN m) 0 = atN m := raw_of_not (fin_num (at_fin h1 h2)) 0
theorem los_fin {ds es : List Nat} (h : bndE ds es = 0) : -9218868437227405312 ≤ loS ds es ∧ hiS ds es ≤ 9218868437227405312 ∧ loS ds es ≤ 9218868437227405310 ∧ -9218868437227405310 ≤ hiS ds es := by
  obtain ⟨_, _, g3, g4⟩ := bndE_zero h
  rw [fnS_ffin] at g3 g4
  have hlt := bndL_lt ds es ds.length
  have q1 := pl_fin hlt.1 g3
  have q2 := pl_fin hlt.2 g4
  unfold loS hiS
  omega
theorem RCat {W : World} (da ea : Option Addr) (ds es : List Nat) (dc ec : Nat) {m : Int} (hD : Fls W da ds) (hE : Fls W ea es) (hl : ds.length ≤ 1000) (hask : askS ds es [] = 0) (h1 : -9218868437227405311 ≤ m) (h2 : m ≤ 9218868437227405311) :
    Calls Try.prog 54 #[.agg #[.slice da ds.length dc, .slice ea es.length ec], .float .f64 (atN m)] W fun e w' => e = .returned (.int .i64 (cntN ds es (atN m) : Nat)) ∧ Below W.heap.size W w' := by
  have h := RCount_any W da ea ds es dc ec (atN m) 0 hD hE hl (ask_len hask)
  rw [at_raw h1 h2] at h
  rw [cnt_at hask h1 h2]
  exact h
set_option maxHeartbeats 8000000 in
theorem RFind_no (w : World) (da ea : Option Addr) (ds es : List Nat) (dc ec : Nat) (k : Int) (hD : Fls w da ds) (hE : Fls w ea es) (hW : Words es) (hl : ds.length ≤ 1000) (hask : askS ds es [] = 0) (hn : (ffin (bndL ds es ds.length).1 && ffin (bndL ds es ds.length).2) = false) :
    Calls Try.prog 55 #[.agg #[.slice da ds.length dc, .slice ea es.length ec], .int .i64 k] w fun e w' => e = .returned (.tuple #[.float .f64 0, .int .i64 0, .bool false]) ∧ Below w.heap.size w w' := by
  have x0 : Box (w.alloc (.cells #[.slice da ds.length dc, .slice ea es.length ec] 51)) w.heap.size [.slice da ds.length dc, .slice ea es.length ec] := Box.newA w [_, _] _ rfl
  have hB0 : Below w.heap.size w (w.alloc (.cells #[.slice da ds.length dc, .slice ea es.length ec] 51)) := (Below.refl _ _).alloc (Nat.le_refl _) _
  have HB := Lib.hid (RBounds_any _ da ea ds es dc ec (hD.below hB0) (hE.below hB0) hW hl (ask_len hask))
  have hbl := bndL_lt ds es ds.length
  have HFin := Lib.hid (fun (W : World) s3 s4 => RFinite_any (W.alloc (.cells #[.float .f64 (raw (bndL ds es ds.length).1 s3), .float .f64 (raw (bndL ds es ds.length).2 s4)] 35)) (some ⟨W.heap.size, 0, none⟩) [(bndL ds es ds.length).1, (bndL ds es ds.length).2] 2 (fls_two W 35 _ s3 _ s4) (words_two hbl.1 hbl.2) (by unfold maxLen; simp))
  have ea' : [(bndL ds es ds.length).1, (bndL ds es ds.length).2].all ffin = (ffin (bndL ds es ds.length).1 && ffin (bndL ds es ds.length).2) := by simp
  rw [ea', hn] at HFin
  clear ea' hn hbl
  generalize (bndL ds es ds.length).1 = blo at *
  generalize (bndL ds es ds.length).2 = bhi at *
  obtain ⟨q1, q2, q3⟩ := x0.facts
  clear hD hE hW hl hask
  go_enter Try.func55, Try.ntmps55
  go_wp2_with fail
  refine HB.out.mono ?_
  rintro e w1 ⟨⟨s1, s2, rfl⟩, hb1⟩
  have hB1 := below_step hB0 hB0.size hb1
  have hA := below_step hB1 hB1.size ((Below.refl w1.heap.size w1).alloc (Nat.le_refl _) (.cells #[.float .f64 (raw blo s1), .float .f64 (raw bhi s2)] 35))
  have HF := Lib.hid (HFin.out w1 s1 s2)
  clear q1 q2 q3 x0 hB0 hb1 hB1 HFin HB
  go_wp2_with fail
  refine HF.out.mono ?_
  rintro e w' ⟨rfl, rfl⟩
  go_wp2
  exact bodyPost_ret (results_tmp3 rfl _ _ _) rfl ⟨rfl, hA⟩
set_option maxHeartbeats 8000000 in
theorem RFind_yes (w : World) (da ea : Option Addr) (ds es : List Nat) (dc ec : Nat) (k : Int) (hD : Fls w da ds) (hE : Fls w ea es) (hW : Words es) (hl : ds.length ≤ 1000) (hz : bndE ds es = 0) :
    Calls Try.prog 55 #[.agg #[.slice da ds.length dc, .slice ea es.length ec], .int .i64 k] w fun e w' => e = .returned (.tuple #[.float .f64 (atN (valK ds es k).1), .int .i64 (valK ds es k).2, .bool true]) ∧ Below w.heap.size w w' := by
  obtain ⟨hask, _, g3, g4⟩ := bndE_zero hz
  rw [fnS_ffin] at g3 g4
  have x0 : Box (w.alloc (.cells #[.slice da ds.length dc, .slice ea es.length ec] 51)) w.heap.size [.slice da ds.length dc, .slice ea es.length ec] := Box.newA w [_, _] _ rfl
  have hB0 : Below w.heap.size w (w.alloc (.cells #[.slice da ds.length dc, .slice ea es.length ec] 51)) := (Below.refl _ _).alloc (Nat.le_refl _) _
  have HB := Lib.hid (RBounds_any _ da ea ds es dc ec (hD.below hB0) (hE.below hB0) hW hl (ask_len hask))
  have hbl := bndL_lt ds es ds.length
  have HFin := Lib.hid (fun (W : World) s3 s4 => RFinite_any (W.alloc (.cells #[.float .f64 (raw (bndL ds es ds.length).1 s3), .float .f64 (raw (bndL ds es ds.length).2 s4)] 35)) (some ⟨W.heap.size, 0, none⟩) [(bndL ds es ds.length).1, (bndL ds es ds.length).2] 2 (fls_two W 35 _ s3 _ s4) (words_two hbl.1 hbl.2) (by unfold maxLen; simp))
  have ea' : [(bndL ds es ds.length).1, (bndL ds es ds.length).2].all ffin = true := by simp [g3, g4]
  rw [ea'] at HFin
  have hlf := los_fin hz
  have HPl1 := Lib.hid (fun W => RPlace_any (bndL ds es ds.length).1 hbl.1 W)
  have HPl2 := Lib.hid (fun W => RPlace_any (bndL ds es ds.length).2 hbl.2 W)
  have HC := Lib.hid (fun (W : World) (m : Int) (h1 : -9218868437227405311 ≤ m) (h2 : m ≤ 9218868437227405311) (hW' : Below w.heap.size w W) => (RCat da ea ds es dc ec (hD.below hW') (hE.below hW') hl hask h1 h2 : Calls Try.prog 54 #[.agg #[.slice da ds.length dc, .slice ea es.length ec], .float .f64 (atN m)] W fun e w' => e = .returned (.int .i64 (cntN ds es (atN m) : Nat)) ∧ Below W.heap.size W w'))
  have n1 := fin_num g3
  have n2 := fin_num g4
  have l1 : loS ds es = plN (bndL ds es ds.length).1 - 1 := rfl
  have l2 : hiS ds es = plN (bndL ds es ds.length).2 + 1 := rfl
  have hw1 : wrap64 (plN (bndL ds es ds.length).1 - 1) = loS ds es := by rw [← l1]; unfold wrap64; omega
  have hw2 : wrap64 (plN (bndL ds es ds.length).2 + 1) = hiS ds es := by rw [← l2]; unfold wrap64; omega
  obtain ⟨R, hR⟩ : ∃ R, R = valK ds es k := ⟨_, rfl⟩
  rw [← hR]
  unfold valK at hR
  clear ea' hbl g3 g4 l1 l2
  generalize (bndL ds es ds.length).1 = blo at *
  generalize (bndL ds es ds.length).2 = bhi at *
  generalize loS ds es = lo at *
  generalize hiS ds es = hi at *
  generalize plN blo = pl at *
  generalize plN bhi = ph at *
  obtain ⟨q1, q2, q3⟩ := x0.facts
  have HR := Lib.hid hR
  have HLF := Lib.hid hlf
  clear hD hE hW hl hask hz hR
  go_enter Try.func55, Try.ntmps55
  go_wp2_with fail
  refine HB.out.mono ?_
  rintro e w1 ⟨⟨s1, s2, rfl⟩, hb1⟩
  have HF := Lib.hid (HFin.out w1 s1 s2)
  rw [raw_of_not n1 s1, raw_of_not n2 s2] at *
  have x1 := x0.below hb1
  have hB1 := below_step hB0 hB0.size hb1
  have hA1 := (Below.refl w1.heap.size w1).alloc (Nat.le_refl _) (.cells #[.float .f64 blo, .float .f64 bhi] 35)
  have hA := below_step hB1 hB1.size hA1
  have x2 := x1.below hA1
  clear q1 q2 q3 x0 x1 hB0 hb1 hB1 hA1 HFin HB n1 n2
  go_wp2_with fail
  refine HF.out.mono ?_
  rintro e w' ⟨rfl, rfl⟩
  go_wp2_with fail
  refine (HPl1.out _).mono ?_
  rintro e w' ⟨rfl, rfl⟩
  go_wp2_with fail
  refine (HPl2.out _).mono ?_
  rintro e w' ⟨rfl, rfl⟩
  go_wp2_with fail
  generalize (w1.alloc (.cells #[.float .f64 blo, .float .f64 bhi] 35)) = w2 at *
  have hp64 : hi - lo ≤ 2 ^ 64 := by rw [show (2 : Int) ^ 64 = 18446744073709551616 from by decide]; omega
  simp only [hw1, hw2]
  clear hw1 hw2 HPl1 HPl2 HF
  go_loopw [9, 10, 11] (fun s9 s10 s11 wr => ∃ (a b : Int) (f j : Nat), s9 = .int .i64 a ∧ s10 = .int .i64 b ∧ s11 = .int .i64 (j : Int) ∧ R = fndS (cntN ds es) k f a b j ∧ b - a ≤ 2 ^ f ∧ lo ≤ a ∧ b ≤ hi ∧ a ≤ 9218868437227405313 ∧ -9218868437227405313 ≤ b ∧ j + f = 64 ∧ Below w.heap.size w wr ∧ Box wr w.heap.size [.slice da ds.length dc, .slice ea es.length ec]) (fun s9 s10 _ _ => (intOf s10 - intOf s9).toNat)
  case atStart => exact ⟨lo, hi, 64, 0, by first | rfl | trivial, by first | rfl | trivial, by first | rfl | trivial, HR.out, hp64, Int.le_refl _, Int.le_refl _, by omega, by omega, rfl, hA, x2⟩
  case round =>
    obtain ⟨a, b, f, j, rfl, rfl, rfl, hR, hf, ha, hb, ha2, hb2', hj, hB, hx⟩ := hrel
    have HR2 := Lib.hid hR
    clear x2 hA hR HR hp64
    obtain ⟨y1, y2, y3⟩ := hx.facts
    have hw1 : wrap64 (b - 1) = b - 1 := by unfold wrap64; omega
    by_cases hlt : a < b - 1
    · cases f with
      | zero => rw [Int.pow_zero] at hf; omega
      | succ f =>
        have t0 : decide (a < b - 1) = true := decide_eq_true hlt
        have hmid : a / 2 + b / 2 + bits .and .i64 (bits .and .i64 a b) 1 = midI a b := mid_bits a b
        have hw2 : wrap64 (a / 2 + b / 2) = a / 2 + b / 2 := by unfold wrap64; omega
        have hw3 : wrap64 (midI a b) = midI a b := by unfold midI wrap64; omega
        have hR3 : R = if k < (cntN ds es (atN (midI a b)) : Int) then fndS (cntN ds es) k f a (midI a b) (j + 1) else fndS (cntN ds es) k f (midI a b) b (j + 1) := by rw [HR2.out, fndS, if_pos hlt]
        have hm1 : a < midI a b ∧ midI a b < b := by unfold midI; omega
        have hp : (2 : Int) ^ (f + 1) = 2 * 2 ^ f := by rw [Int.pow_succ, Int.mul_comm]
        have hm2 : midI a b - a ≤ 2 ^ f ∧ b - midI a b ≤ 2 ^ f := by rw [hp] at hf; unfold midI; generalize (2 : Int) ^ f = z at *; omega
        have HM := Lib.hid (And.intro hm1 hm2)
        have HCm := Lib.hid (fun W (hW' : Below wr.heap.size wr W) => HC.out W (midI a b) (by omega) (by omega) (below_step hB hB.size hW'))
        have hjb : j + 1 ≤ 64 := by omega
        have e1 : wrap64 ((j : Int) + 1) = (j : Int) + 1 := by unfold wrap64; omega
        have HBX := Lib.hid (show _ ∧ _ from ⟨hB, hx⟩)
        clear hm1 hm2 hp hf
        go_upto_region 7 with (fail)
        simp only [hw3]
        generalize hcn : cntN ds es (atN (midI a b)) = cn at *
        generalize midI a b = m at *
        have HAt := Lib.hid (fun W => RAt13_any m W)
        generalize atN m = xm at *
        clear hlt t0 hmid hw2 hw3 hw1
        refine wp_region_nqd 6  (by kernel_rfl) (by kernel_rfl) ?_
        intro Cw Rw hc hb' hb2 hd hRw
        simp only [List.take_succ_cons, List.take_zero]
        repeat (
          first
            | (refine nqW_skip rfl (fun K hK => ?_); go_frame; refine hK _ ?_; clear hK K)
            | ((first | (refine nqW_plain (fun K hK => ?_)) | (refine nqW_want rfl (fun K hK => ?_)) | (refine nqW_step (fun K hK => ?_); go_simp))
               first
                 | (refine nq_move rfl ?_; go_simp; refine hK _ ?_; clear hK K)
                 | (refine nq_assign rfl ?_; go_simp; refine hK _ ?_; clear hK K)
                 | (refine nq_flt rfl rfl rfl rfl hd ?_; intro _; go_frame; refine hK _ ?_; clear hK K)
                 | (refine nq_inC rfl ?_; intro w' hw'; go_simp; refine fd_both (V := (.float .f64 xm)) (by kernel_rfl) (fun w2 hw2 => ?_) ?_; (next => (go_at_call 86; exact (((HAt.out w2).mono fun e w' (⟨h1, h2⟩ : e = Ending.returned (.float .f64 xm) ∧ w2 = w') => (⟨h1, h2 ▸ Below.refl _ _⟩ : e = Ending.returned (.float .f64 xm) ∧ Below w2.heap.size w2 w'))).mono (fun e w3 ⟨he, hb⟩ => ⟨he, hb2 _ _ hw2 hb⟩))); (try go_simp); refine hK _ ?_; clear hK K hw' w')
                 | (refine nq_inC rfl ?_; intro w' hw'; go_simp; refine fd_both (V := (.int .i64 (cn : Int))) (by kernel_rfl) (fun w2 hw2 => ?_) ?_; (next => (go_at_call 54; exact (HCm.out w2 (hb' _ hw2)).mono (fun e w3 ⟨he, hb⟩ => ⟨he, hb2 _ _ hw2 hb⟩))); (try go_simp); refine hK _ ?_; clear hK K hw' w')
                 | (refine nq_same ?_; intro w' hw'; go_simp; (try go_bits); refine hK _ ?_; clear hK K hw' w')
                 | (refine nq_same ?_; intro w' hw'; go_simp; rw [if_pos (by omega)]; go_simp; (try go_bits); refine hK _ ?_; clear hK K hw' w')
                 | (go_simp; refine hK _ ?_; clear hK K)))
        refine nqW_nil (hRw _ ?_)
        clear hc hb' hb2 hd hRw
        intro w' hw'
        simp only [List.drop]
        have hBr := below_step HBX.out.1 HBX.out.1.size hw'
        have xr := HBX.out.2.below hw'
        clear y1 y2 y3 hw' HCm HBX hB hx
        have HQ := Lib.hid (show _ ∧ _ from ⟨hBr, xr⟩)
        clear hBr xr
        by_cases hk : k < (cn : Int)
        · rw [if_pos hk] at hR3
          have t1 := decide_eq_true hk
          have HR3 := Lib.hid hR3
          simp only [t1]
          clear hk hR3
          go_wp2
          go_roundw
          case rel => exact ⟨a, m, f, j + 1, rfl, rfl, by go_num, HR3.out, HM.out.2.1, ha, by have := HM.out.1; omega, ha2, by have := HM.out.1; omega, by omega, HQ.out.1, HQ.out.2⟩
          case measure => have := HM.out.1; simp [intOf]; omega
        · rw [if_neg hk] at hR3
          have t1 := decide_eq_false hk
          have HR3 := Lib.hid hR3
          simp only [t1]
          clear hk hR3
          go_wp2
          go_roundw
          case rel => exact ⟨m, b, f, j + 1, rfl, rfl, by go_num, HR3.out, HM.out.2.2, by have := HM.out.1; omega, hb, by have := HM.out.1; omega, hb2', by omega, HQ.out.1, HQ.out.2⟩
          case measure => have := HM.out.1; simp [intOf]; omega
    · have t0 : decide (a < b - 1) = false := decide_eq_false hlt
      have hR3 : R = (a, j) := by rw [HR2.out]; exact fndS_end hlt _ _
      have HR3 := Lib.hid hR3
      clear hR3 hlt
      go_wp2_with (go_at_call 86; refine (RAt13_any a _).mono ?_; rintro e w' ⟨rfl, rfl⟩)
      refine bodyPost_ret (results_tmp3 rfl _ _ _) rfl ⟨?_, hB⟩
      rw [HR3.out]; rfl
end Go.Proofs.Ytogkmddhgfenkaa

/- Going over the pivots, up to a number of them. -/
namespace Go.Proofs.Ytogkmddhgfenkaa
open Go Go.RowKit Go.Shelf
attribute [local go_sem] Oper.semAt_some
set_option maxRecDepth 100000

theorem pivQ_lt (ds es : List Nat) (x k : Nat) : pivQ ds es x k < 18446744073709551616 := by
  have hg : ∀ q, q < 18446744073709551616 → grd q < 18446744073709551616 := fun q hq => by unfold grd; split <;> omega
  match k with
  | 0 => exact (by decide : 0 < 18446744073709551616)
  | 1 => exact hg _ (fsub_lt _ _)
  | k + 2 => exact hg _ (fsub_lt _ _)
theorem func_nil13 (f : FuncId) (env : Array Value) (w : World) : (binOp .eql 105 (.func (.func f) #[] env) .nilFunc).run Try.prog w = .ok (.bool false) w := by
  have h : ∀ k : Nat, (Op.equalIn (k + 1) 105 (.func (.func f) #[] env) .nilFunc).run Try.prog w = .ok false w := fun k => by
    simp [Op.equalIn, run_underlying Try.underlying105]
  simp only [binOp]
  simp [Op.equal, Op.maxDepth, h 9999]
/-- The pivots of what may be; of others none. -/
def onceL (ds es : List Nat) (x : Nat) : List Nat := if askS ds es [x] = 0 then pivL ds es x else []
set_option maxHeartbeats 8000000 in
theorem once13_any (w : World) (da ea wa : Option Addr) (ds es ws : List Nat) (dc ec wc : Nat) (x sx : Nat) (most : Int) (hD : Fls w da ds) (hE : Fls w ea es) (hW : Fls w wa ws) (hws : ws = onceL ds es x) (hl : ds.length ≤ 1000) (hl' : es.length ≤ 1000) :
    Calls Try.prog 52 #[.agg #[.slice da ds.length dc, .slice ea es.length ec], .float .f64 (raw x sx), .slice wa ws.length wc, .int .i64 most] w fun e w' => e = .returned (.bool true) ∧ Below w.heap.size w w' := by
  have hm : ds.length ≤ maxLen := by unfold maxLen; omega
  have hm' : es.length ≤ maxLen := by unfold maxLen; omega
  have hfn := fun (b : Nat) (W : World) => func_nil13 98 #[.pointer (some ⟨b, 0, none⟩), .pointer (some ⟨b + 1, 0, none⟩)] W
  have hwl : ws.length ≤ 1000 := by
    rw [hws]; unfold onceL; split
    · rw [pivL_length]; exact hl
    · simp
  have hwl0 : askS ds es [x] = 0 → ws.length = ds.length := fun h => by rw [hws]; unfold onceL; rw [if_pos h, pivL_length]
  have hwl1 : askS ds es [x] ≠ 0 → ws.length = 0 := fun h => by rw [hws]; unfold onceL; rw [if_neg h]; rfl
  have hwk : askS ds es [x] = 0 → ∀ k, k < ds.length → ws.getD k 0 = pivQ ds es x (k + 1) := fun h k hk => by rw [hws]; unfold onceL; rw [if_pos h, pivL_getD hk]
  have HW := Lib.hid (show _ ∧ _ ∧ _ from ⟨hwl0, hwl1, hwk⟩)
  clear hws hwl0 hwl1 hwk
  refine (callsIn_wide (n := 9)).1 ?_
  refine callsIn_of_wp_marks Try.func52 rfl trivial ?_ rfl
  simp only [Try.ntmps52, List.size_toArray, List.length_cons, List.length_nil, Nat.reduceAdd, Nat.reduceSub, Array.replicate_succ, Array.replicate_zero, List.push_toArray, List.append_toArray, List.nil_append, List.cons_append]
  gi_wp2_with (refine ⟨trivial, ?_⟩; gi_at_call 83; refine (callsIn_wide.2 (Pivots_any _ _ _ _ _ _ _ _)).mono ?_; rintro e w1 ⟨rfl, rfl⟩)
  have hB0 : Below w.heap.size w (((((((w.alloc (.cells #[.slice da ds.length dc, .slice ea es.length ec] 51)).alloc (.cells #[.slice wa ws.length wc] 24)).alloc (.cells #[.int .i64 most] 3)).alloc (.cells #[.bool false] 4)).alloc (.cells #[.int .i64 0] 3)).alloc (.cells #[.slice da ds.length dc, .slice ea es.length ec] 51)).alloc (.cells #[.float .f64 (raw x sx)] 35)) := (((((((Below.refl _ _).alloc (Nat.le_refl _) _).alloc (by simp) _).alloc (by simp; omega) _).alloc (by simp; omega) _).alloc (by simp; omega) _).alloc (by simp; omega) _).alloc (by simp; omega) _
  have x1 : Box (((((((w.alloc (.cells #[.slice da ds.length dc, .slice ea es.length ec] 51)).alloc (.cells #[.slice wa ws.length wc] 24)).alloc (.cells #[.int .i64 most] 3)).alloc (.cells #[.bool false] 4)).alloc (.cells #[.int .i64 0] 3)).alloc (.cells #[.slice da ds.length dc, .slice ea es.length ec] 51)).alloc (.cells #[.float .f64 (raw x sx)] 35)) (w.heap.size + 1) [.slice wa ws.length wc] := (((((Box.newA _ [_] _ (by simp)).alloc _).alloc _).alloc _).alloc _).alloc _
  have x2 : Box (((((((w.alloc (.cells #[.slice da ds.length dc, .slice ea es.length ec] 51)).alloc (.cells #[.slice wa ws.length wc] 24)).alloc (.cells #[.int .i64 most] 3)).alloc (.cells #[.bool false] 4)).alloc (.cells #[.int .i64 0] 3)).alloc (.cells #[.slice da ds.length dc, .slice ea es.length ec] 51)).alloc (.cells #[.float .f64 (raw x sx)] 35)) (w.heap.size + 1 + 1) [.int .i64 most] := ((((Box.newA _ [_] _ (by simp)).alloc _).alloc _).alloc _).alloc _
  have x3 : Box (((((((w.alloc (.cells #[.slice da ds.length dc, .slice ea es.length ec] 51)).alloc (.cells #[.slice wa ws.length wc] 24)).alloc (.cells #[.int .i64 most] 3)).alloc (.cells #[.bool false] 4)).alloc (.cells #[.int .i64 0] 3)).alloc (.cells #[.slice da ds.length dc, .slice ea es.length ec] 51)).alloc (.cells #[.float .f64 (raw x sx)] 35)) (w.heap.size + 1 + 1 + 1) [.bool false] := (((Box.newA _ [_] _ (by simp)).alloc _).alloc _).alloc _
  have x4 : Box (((((((w.alloc (.cells #[.slice da ds.length dc, .slice ea es.length ec] 51)).alloc (.cells #[.slice wa ws.length wc] 24)).alloc (.cells #[.int .i64 most] 3)).alloc (.cells #[.bool false] 4)).alloc (.cells #[.int .i64 0] 3)).alloc (.cells #[.slice da ds.length dc, .slice ea es.length ec] 51)).alloc (.cells #[.float .f64 (raw x sx)] 35)) (w.heap.size + 1 + 1 + 1 + 1) [.int .i64 0] := ((Box.newA _ [_] _ (by simp)).alloc _).alloc _
  have x5 : Box (((((((w.alloc (.cells #[.slice da ds.length dc, .slice ea es.length ec] 51)).alloc (.cells #[.slice wa ws.length wc] 24)).alloc (.cells #[.int .i64 most] 3)).alloc (.cells #[.bool false] 4)).alloc (.cells #[.int .i64 0] 3)).alloc (.cells #[.slice da ds.length dc, .slice ea es.length ec] 51)).alloc (.cells #[.float .f64 (raw x sx)] 35)) (w.heap.size + 1 + 1 + 1 + 1 + 1) [.slice da ds.length dc, .slice ea es.length ec] := (Box.newA _ [_, _] _ (by simp)).alloc _
  have x6 : Box (((((((w.alloc (.cells #[.slice da ds.length dc, .slice ea es.length ec] 51)).alloc (.cells #[.slice wa ws.length wc] 24)).alloc (.cells #[.int .i64 most] 3)).alloc (.cells #[.bool false] 4)).alloc (.cells #[.int .i64 0] 3)).alloc (.cells #[.slice da ds.length dc, .slice ea es.length ec] 51)).alloc (.cells #[.float .f64 (raw x sx)] 35)) (w.heap.size + 1 + 1 + 1 + 1 + 1 + 1) [.float .f64 (raw x sx)] := Box.newA _ [_] _ (by simp)
  have hsz : (((((((w.alloc (.cells #[.slice da ds.length dc, .slice ea es.length ec] 51)).alloc (.cells #[.slice wa ws.length wc] 24)).alloc (.cells #[.int .i64 most] 3)).alloc (.cells #[.bool false] 4)).alloc (.cells #[.int .i64 0] 3)).alloc (.cells #[.slice da ds.length dc, .slice ea es.length ec] 51)).alloc (.cells #[.float .f64 (raw x sx)] 35)).heap.size = w.heap.size + 7 := by simp
  clear hfn
  generalize (((((((w.alloc (.cells #[.slice da ds.length dc, .slice ea es.length ec] 51)).alloc (.cells #[.slice wa ws.length wc] 24)).alloc (.cells #[.int .i64 most] 3)).alloc (.cells #[.bool false] 4)).alloc (.cells #[.int .i64 0] 3)).alloc (.cells #[.slice da ds.length dc, .slice ea es.length ec] 51)).alloc (.cells #[.float .f64 (raw x sx)] 35)) = W1 at *
  have hne : ∀ {za : Option Addr} {zs : List Nat}, Fls w za zs → zs ≠ [] → ∀ b o, za = some ⟨b, o, none⟩ → b ≠ w.heap.size + 1 + 1 + 1 + 1 := by
    intro za zs hZ hz b o e
    obtain ⟨b', o', e', hb', _⟩ := hZ hz
    rw [e] at e'
    simp only [Option.some.injEq, Addr.mk.injEq] at e'
    omega
  have hA : PivR ds es x sx da ea dc ec (w.heap.size + 1 + 1 + 1 + 1 + 1) (w.heap.size + 1 + 1 + 1 + 1 + 1 + 1) (CR W1 (w.heap.size + 1 + 1 + 1 + 1)) (ImpK (CR W1 (w.heap.size + 1 + 1 + 1 + 1))) :=
    ⟨fun W h => h.box x5 (by omega), fun W h => h.box x6 (by omega), fun W h => h.fls (hD.below hB0) (hne hD), fun W h => h.fls (hE.below hB0) (hne hE), fun A B h k => k h, fun A B h k => h.below k⟩
  have HFw := Lib.hid (fun W (h : CR W1 (w.heap.size + 1 + 1 + 1 + 1) W) => h.fls (hW.below hB0) (hne hW))
  have HX := Lib.hid (show _ ∧ _ ∧ _ from ⟨x1, x2, x3⟩)
  refine piv_loop 9 (by decide) hA hm hm' CR.refl (fun A B h hs => h.still hs) rfl rfl
    (fun pre W => pre.map Prod.fst = List.range pre.length ∧ CR W1 (w.heap.size + 1 + 1 + 1 + 1) W ∧ Box W (w.heap.size + 1 + 1 + 1 + 1) [.int .i64 (pre.length : Nat)] ∧ Below w.heap.size w W)
    (fun c pre W => c = .ret ∧ (∃ b, Box W (w.heap.size + 1 + 1 + 1) [.bool b] ∧ (b = true ∨ askS ds es [x] ≠ 0 ∨ ¬ ∃ k, pre.map Prod.fst = List.range k)) ∧ Below w.heap.size w W ∧ W1.heap.size ≤ W.heap.size)
    (fun _ _ h => h.2.1.size) (fun _ _ _ h hs => ⟨h.1, h.2.1.still hs, h.2.2.1.still hs, below_still h.2.2.2 hs (by omega)⟩)
    (fun _ _ _ h => h.2.2.2) (fun _ _ _ _ h hs => ⟨h.1, by obtain ⟨b, k1, k2⟩ := h.2.1; exact ⟨b, k1.still hs, k2⟩, below_still h.2.2.1 hs (by omega), Nat.le_trans h.2.2.2 hs.1.size⟩)
    ⟨rfl, CR.refl, x4, hB0⟩
    (fun T y => (((T.setIfInBounds 19 (.int .i64 (y.1 : Int))).setIfInBounds 20 (.float .f64 (raw (pivQ ds es x (y.1 + 1)) y.2))).setIfInBounds 11 (.int .i64 (y.1 : Int))).setIfInBounds 12 (.float .f64 (raw (pivQ ds es x (y.1 + 1)) y.2))) ?assign ?body ?done ?stop
  case assign =>
    intro l y W K hK
    unfold pelV
    gi_wp2
    exact hK
  case body =>
    rintro l pre ⟨yi, ys⟩ W ⟨hpr, hc, hb, hB⟩ hlt
    have hFw := HFw.out W hc
    obtain ⟨q1, q2, q3⟩ := hb.facts
    have y1 := hc.box HX.out.1 (by omega)
    have y2 := hc.box HX.out.2.1 (by omega)
    have y3 := hc.box HX.out.2.2 (by omega)
    obtain ⟨q4, q5, q6⟩ := y1.facts
    obtain ⟨q7, q8, q9⟩ := y2.facts
    obtain ⟨p1, p2, p3⟩ := y3.facts
    have hln : (pre ++ [(yi, ys)]).length = pre.length + 1 := by simp
    have HNot : Hid (yi ≠ pre.length → ¬ ∃ k, (pre ++ [(yi, ys)]).map Prod.fst = List.range k) := by
      rintro hne' ⟨k, hk⟩
      rw [List.map_append, hpr] at hk
      have h1 := congrArg List.length hk
      simp at h1
      subst h1
      rw [List.range_succ] at hk
      have h2 := List.append_cancel_left hk
      simp at h2
      exact hne' h2
    have HYes : Hid (yi = pre.length → (pre ++ [(yi, ys)]).map Prod.fst = List.range (pre.length + 1)) := by
      rintro rfl
      rw [List.map_append, hpr, List.range_succ]; rfl
    obtain ⟨k, hk⟩ : ∃ k, k = pre.length := ⟨_, rfl⟩
    rw [← hk] at hb hlt hln HNot HYes q2
    have HS := Lib.hid (show _ ∧ _ ∧ _ ∧ _ from ⟨hc, hb, hB, y3⟩)
    clear hpr hk hc hb hB y1 y2 y3
    have hs3 : ∀ (V : World) (u : Value) B, Bel B (w.heap.size + 1 + 1 + 1) V (V.setCell ⟨w.heap.size + 1 + 1 + 1, 0, none⟩ u) := fun V u B => (Bel.refl _ _ _).set _ _
    have hs4 : ∀ (V : World) (u : Value) B, Bel B (w.heap.size + 1 + 1 + 1 + 1) V (V.setCell ⟨w.heap.size + 1 + 1 + 1 + 1, 0, none⟩ u) := fun V u B => (Bel.refl _ _ _).set _ _
    have HB := Lib.hid (show _ ∧ _ from ⟨hs3, hs4⟩)
    have HZ := Lib.hid hsz
    clear hs3 hs4 hA hne hsz hD hE hm hm' hl hl' hB0 x1 x2 x3 x4 x5 x6
    by_cases ha : askS ds es [x] = 0
    case neg =>
      have hw0 := HW.out.2.1 ha
      have t1 : decide ((ws.length : Int) ≤ (k : Int)) = true := decide_eq_true (by omega)
      have t1' : decide (ws.length ≤ k) = true := decide_eq_true (by omega)
      have HA := Lib.hid ha
      clear ha hw0 hFw hwl
      gi_wp2_with (refine ⟨trivial, ?_⟩)
      obtain ⟨hc, hb, hB, y3⟩ := HS.out
      have hz := HZ.out
      exact ⟨(KeepsOthers.setCell _ _ _).from _, rfl, ⟨false, y3.set 0 (.bool false), .inr (.inl HA.out)⟩, hB.trans ((HB.out.1 _ _ _).below (by omega)), Nat.le_trans hc.size (HB.out.1 W (.bool false) 0).size⟩
    have hw0 := HW.out.1 ha
    have t1 : decide ((ws.length : Int) ≤ (k : Int)) = false := decide_eq_false (by omega)
    have t1' : decide (ws.length ≤ k) = false := decide_eq_false (by omega)
    by_cases hyk : yi = k
    case neg =>
      have t2 : ((yi : Int) == (k : Int)) = false := by rw [beq_eq_false_iff_ne]; omega
      have t2' : ((yi : Int) != (k : Int)) = true := by simp; omega
      have HN := Lib.hid (HNot.out hyk)
      clear ha hw0 hFw hwl hyk
      gi_wp2_with (refine ⟨trivial, ?_⟩)
      obtain ⟨hc, hb, hB, y3⟩ := HS.out
      have hz := HZ.out
      exact ⟨(KeepsOthers.setCell _ _ _).from _, rfl, ⟨false, y3.set 0 (.bool false), .inr (.inr HN.out)⟩, hB.trans ((HB.out.1 _ _ _).below (by omega)), Nat.le_trans hc.size (HB.out.1 W (.bool false) 0).size⟩
    case pos =>
      subst hyk
      have HYs := Lib.hid (HYes.out rfl)
      obtain ⟨wb, wo, s2, rfl, hwb, c1⟩ := hFw.at (i := yi) (by omega)
      rw [HW.out.2.2 ha yi hlt] at c1
      have hq := pivQ_lt ds es x (yi + 1)
      have HF := Lib.hid (fun V => float13_raw (pivQ ds es x (yi + 1)) ys s2 hq V)
      have hyb : yi + 1 ≤ 1000 := by omega
      have e1 : wrap64 ((yi : Int) + 1) = (yi : Int) + 1 := by unfold wrap64; omega
      have hyw : yi < ws.length := by omega
      have HA := Lib.hid (show _ ∧ _ from ⟨ha, hw0⟩)
      clear ha hw0 hFw hq HNot HYes
      dsimp only
      generalize pivQ ds es x (yi + 1) = pq at *
      cases hmo : ((yi : Int) + 1 == most)
      · gi_wp2_with (refine ⟨trivial, ?_⟩; gi_at_call 37; refine (callsIn_wide.2 (HF.out _)).mono ?_; rintro e w1 ⟨rfl, rfl⟩)
        obtain ⟨hc, hb, hB, y3⟩ := HS.out
        have hz := HZ.out
        refine ⟨(KeepsOthers.setCell _ _ _).from _, fun hR => hR.bel (HB.out.2 _ _ _), by rw [hln]; exact HYs.out, hc.bel (HB.out.2 _ _ _), ?_, hB.trans ((HB.out.2 _ _ _).below (by omega))⟩
        rw [hln]
        exact hb.set 0 _
      · gi_wp2_with (refine ⟨trivial, ?_⟩; gi_at_call 37; refine (callsIn_wide.2 (HF.out _)).mono ?_; rintro e w1 ⟨rfl, rfl⟩)
        obtain ⟨hc, hb, hB, y3⟩ := HS.out
        have hz := HZ.out
        have y4 := y3.bel (by omega) (HB.out.2 W (.int .i64 ((yi : Int) + 1)) _)
        exact ⟨((KeepsOthers.setCell _ _ _).from _).trans ((KeepsOthers.setCell _ _ _).from _), rfl, ⟨true, y4.set 0 (.bool true), .inl rfl⟩, (hB.trans ((HB.out.2 _ _ _).below (by omega))).trans ((HB.out.1 _ _ _).below (by omega)), Nat.le_trans (Nat.le_trans hc.size (HB.out.2 W (.int .i64 ((yi : Int) + 1)) 0).size) (HB.out.1 _ (.bool true) 0).size⟩
  case done =>
    rintro D ys W hD' hys ⟨hpr, hc, hb, hB⟩ hK
    have hlen : ys.length = ws.length := by
      have h1 := congrArg List.length hys
      by_cases ha : askS ds es [x] = 0
      · rw [if_pos ha] at h1; simp at h1; rw [HW.out.1 ha, h1]
      · rw [if_neg ha] at h1; simp at h1; rw [HW.out.2.1 ha, h1]; rfl
    rw [hlen] at hb
    have y1 := hc.box HX.out.1 (by omega)
    have y3 := hc.box HX.out.2.2 (by omega)
    obtain ⟨q1, q2, q3⟩ := hb.facts
    obtain ⟨q4, q5, q6⟩ := y1.facts
    obtain ⟨q7, q8, q9⟩ := y3.facts
    have hcs := hc.size
    clear hpr hys hlen hne hA
    gi_wp2
    have hK2 : (W.setCell ⟨w.heap.size + 1 + 1 + 1, 0, none⟩ (.bool true)).heap[D]? = some (.deferred (some [])) := by
      rw [Below.heap_setCell _ _ _ _ (by show D ≠ w.heap.size + 1 + 1 + 1; omega)]; exact hK
    have hst : StillC W1.heap.size _ _ := StillC.put (o' := .deferred none) hD' hK2 rfl
    refine ⟨by simp, .inl ⟨_, _, rfl, run_takeDeferred hK2, ?_⟩⟩
    refine ⟨_, results_one rfl (rv_bool (g := w.heap.size + 1 + 1 + 1) rfl ((y3.set 0 _).still hst) Try.underlying4), rfl, ?_⟩
    exact below_still (below_set hB (by omega) _ _) hst (by omega)
  case stop =>
    rintro D c pre W hD' ⟨hpre1, hpre2⟩ ⟨rfl, ⟨b, k3, hb⟩, hB, hs4⟩ hK
    obtain rfl : b = true := by
      rcases hb with hb | hb | hb
      · exact hb
      · exact absurd hpre1 hb
      · exact absurd hpre2 hb
    obtain ⟨q7, q8, q9⟩ := k3.facts
    gi_wp2
    have hst : StillC W1.heap.size _ _ := StillC.put (o' := .deferred none) hD' hK rfl
    refine ⟨by simp, .inl ⟨_, _, rfl, run_takeDeferred hK, ?_⟩⟩
    refine ⟨_, results_one rfl (rv_bool (g := w.heap.size + 1 + 1 + 1) rfl (k3.still hst) Try.underlying4), rfl, ?_⟩
    exact below_still hB hst (by omega)
end Go.Proofs.Ytogkmddhgfenkaa

/- Package sturm: All, where there are none. -/
namespace Go.Proofs.Ytogkmddhgfenkaa
open Go Go.RowKit
set_option maxRecDepth 100000

set_option maxHeartbeats 4000000 in
theorem All_ask (w : World) (da ea : Option Addr) (ds es : List Nat) (dc ec : Nat) (hD : Fls w da ds) (hE : Fls w ea es) (hl : ds.length ≤ 1000) (hl' : es.length ≤ 1000) (hz : askS ds es [] ≠ 0 ∨ ds.length = 0) :
    Calls Try.prog 41 #[.agg #[.slice da ds.length dc, .slice ea es.length ec]] w fun e w' => e = .returned (.tuple #[.slice none 0 0, .int .i64 0, .int .i64 (askS ds es [])]) ∧ Below w.heap.size w w' := by
  have hm : ds.length ≤ maxLen := by unfold maxLen; omega
  have hm' : es.length ≤ maxLen := by unfold maxLen; omega
  have x0 : Box (w.alloc (.cells #[.slice da ds.length dc, .slice ea es.length ec] 51)) w.heap.size [.slice da ds.length dc, .slice ea es.length ec] := Box.newA w [_, _] _ rfl
  have hB0 : Below w.heap.size w (w.alloc (.cells #[.slice da ds.length dc, .slice ea es.length ec] 51)) := (Below.refl _ _).alloc (Nat.le_refl _) _
  have HA := Lib.hid (ask13_any _ da ea none ds es [] dc ec 0 (hD.below hB0) (hE.below hB0) (fun h => absurd rfl h) hm hm' (by decide))
  generalize askS ds es [] = a0 at *
  clear hD hE hl hl' hm hm'
  by_cases h0 : a0 = 0
  · subst h0
    have hn : ds.length = 0 := hz.resolve_left (fun h => h rfl)
    have t1 : ((ds.length : Int) == 0) = true := by rw [beq_iff_eq]; omega
    clear hz hn
    go_enter Try.func41, Try.ntmps41
    go_wp2_with fail
    refine HA.out.mono ?_
    rintro e w1 ⟨rfl, hb1⟩
    obtain ⟨a1, a2, a3⟩ := (x0.below hb1).facts
    have hB1 := below_step hB0 hB0.size hb1
    go_wp2
    exact bodyPost_ret (results_tmp3 rfl _ _ _) rfl ⟨rfl, hB1⟩
  · have t1 : (a0 != 0) = true := by simp [h0]
    clear hz h0
    go_enter Try.func41, Try.ntmps41
    go_wp2_with fail
    refine HA.out.mono ?_
    rintro e w1 ⟨rfl, hb1⟩
    obtain ⟨a1, a2, a3⟩ := (x0.below hb1).facts
    have hB1 := below_step hB0 hB0.size hb1
    go_wp2
    exact bodyPost_ret (results_tmp3 rfl _ _ _) rfl ⟨rfl, hB1⟩
set_option maxHeartbeats 4000000 in
theorem All_bad (w : World) (da ea : Option Addr) (ds es : List Nat) (dc ec : Nat) (hD : Fls w da ds) (hE : Fls w ea es) (hW : Words es) (hl : ds.length ≤ 1000) (hl' : es.length ≤ 1000) (hz : askS ds es [] = 0) (hn : ds.length ≠ 0) (hb : bndE ds es ≠ 0) :
    Calls Try.prog 41 #[.agg #[.slice da ds.length dc, .slice ea es.length ec]] w fun e w' => e = .returned (.tuple #[.slice none 0 0, .int .i64 0, .int .i64 (bndE ds es)]) ∧ Below w.heap.size w w' := by
  have hm : ds.length ≤ maxLen := by unfold maxLen; omega
  have hm' : es.length ≤ maxLen := by unfold maxLen; omega
  have x0 : Box (w.alloc (.cells #[.slice da ds.length dc, .slice ea es.length ec] 51)) w.heap.size [.slice da ds.length dc, .slice ea es.length ec] := Box.newA w [_, _] _ rfl
  have hB0 : Below w.heap.size w (w.alloc (.cells #[.slice da ds.length dc, .slice ea es.length ec] 51)) := (Below.refl _ _).alloc (Nat.le_refl _) _
  have HA := Lib.hid (ask13_any _ da ea none ds es [] dc ec 0 (hD.below hB0) (hE.below hB0) (fun h => absurd rfl h) hm hm' (by decide))
  rw [hz] at HA
  have HO := Lib.hid (fun (W : World) (hW' : Below w.heap.size w W) => open13_any W da ea ds es dc ec (hD.below hW') (hE.below hW') hW hl hl')
  have t1 : ((ds.length : Int) == 0) = false := by rw [beq_eq_false_iff_ne]; omega
  have HB := Lib.hid hb
  have t2 : (bndE ds es != 0) = true := by simp [hb]
  clear hD hE hl hl' hm hm' hz hn hb hW
  go_enter Try.func41, Try.ntmps41
  go_wp2_with fail
  refine HA.out.mono ?_
  rintro e w1 ⟨rfl, hb1⟩
  have x1 := x0.below hb1
  obtain ⟨a1, a2, a3⟩ := x1.facts
  have hB1 := below_step hB0 hB0.size hb1
  go_wp2_with fail
  refine (HO.out _ hB1).mono ?_
  rintro e w2 ⟨a, b, f, mb, Bm, Bt, rfl, _, hnf, hb2⟩
  obtain rfl := hnf HB.out
  have hB2 := below_step hB1 hB1.size hb2
  have hA : Below w2.heap.size w2 (w2.alloc (.cells #[.int .i64 a, .int .i64 b, .nilFunc] 100)) := (Below.refl _ _).alloc (Nat.le_refl _) _
  have hB3 := below_step hB2 hB2.size hA
  clear x0 x1 a1 a2 a3 hB0 hb1 hB1 hb2 hA HO HA hnf
  go_wp2
  exact bodyPost_ret (results_tmp3 rfl _ _ _) rfl ⟨rfl, hB3⟩
theorem All_err (w : World) (da ea : Option Addr) (ds es : List Nat) (dc ec : Nat) (hD : Fls w da ds) (hE : Fls w ea es) (hW : Words es) (hl : ds.length ≤ 1000) (hl' : es.length ≤ 1000) (hb : bndE ds es ≠ 0) :
    Calls Try.prog 41 #[.agg #[.slice da ds.length dc, .slice ea es.length ec]] w fun e w' => e = .returned (.tuple #[.slice none 0 0, .int .i64 0, .int .i64 (allE ds es)]) ∧ Below w.heap.size w w' := by
  unfold allE
  by_cases h : askS ds es [] = 0 ∧ ds.length ≠ 0
  · rw [if_pos h]
    exact All_bad w da ea ds es dc ec hD hE hW hl hl' h.1 h.2 hb
  · rw [if_neg h]
    exact All_ask w da ea ds es dc ec hD hE hl hl' (by omega)
end Go.Proofs.Ytogkmddhgfenkaa
