/- Package sturm: All. -/
import Derived.Test.YtogkmddhgfenkaaZz9
import Derived.Deep.AppendLies
import Derived.Test.YtogkmddhgfenkaaZz5
import Derived.Test.YtogkmddhgfenkaaZz4
namespace Go.Proofs.Ytogkmddhgfenkaa
open Go Go.RowKit Go.Shelf
set_option maxRecDepth 100000
/-- The values, each no less than the one ahead of it. -/
def allL (ds es : List Nat) : Nat → List Nat
  | 0 => []
  | k + 1 => allL ds es k ++ [if 0 < k ∧ flt (atN (valK ds es k).1) ((allL ds es k).getD (k - 1) 0) = true then (allL ds es k).getD (k - 1) 0 else atN (valK ds es k).1]
def allM (ds es : List Nat) : Nat → Nat
  | 0 => 0
  | k + 1 => allM ds es k + (valK ds es k).2
def allE (ds es : List Nat) : Int := if askS ds es [] = 0 ∧ ds.length ≠ 0 then bndE ds es else askS ds es []
theorem allL_length (ds es : List Nat) : ∀ k, (allL ds es k).length = k
  | 0 => rfl
  | k + 1 => by unfold allL; rw [List.length_append, allL_length ds es k]; rfl
theorem fndS_le (c : Nat → Nat) (k : Int) : ∀ (f : Nat) (a b : Int) (n : Nat), (fndS c k f a b n).2 ≤ n + f
  | 0, _, _, _ => Nat.le_refl _
  | f + 1, a, b, n => by
    unfold fndS
    split
    · split
      · exact Nat.le_trans (fndS_le c k f _ _ _) (by omega)
      · exact Nat.le_trans (fndS_le c k f _ _ _) (by omega)
    · exact Nat.le_add_right _ _
theorem allM_le (ds es : List Nat) : ∀ k, allM ds es k ≤ 64 * k
  | 0 => Nat.le_refl _
  | k + 1 => by
    have h1 := allM_le ds es k
    have h2 : (valK ds es k).2 ≤ 0 + 64 := fndS_le _ _ _ _ _ _
    unfold allM
    omega
theorem ownsRow_atS {W : World} {base n : Nat} {v : Value} {xs : List Value} (h : W.ownsRow base 35 1 v n xs) {k : Nat} (hk : k < n) : ∃ g cap, v = .slice (some ⟨g, 0, none⟩) n cap ∧ W.cell? ⟨g, k, none⟩ = xs[k]? ∧ g < W.heap.size := by
  rcases h.2 with ⟨_, h0⟩ | ⟨g, cap, cur, rfl, _⟩
  · omega
  · exact ⟨g, cap, rfl, h.cellAt k (by omega), (h.lt g rfl).2⟩
theorem ownsRow_monoS {W : World} {base base' size n : Nat} {e : TypeId} {v : Value} {xs : List Value} (h : W.ownsRow base e size v n xs) (hb : base' ≤ base) : W.ownsRow base' e size v n xs := by
  refine ⟨h.1, ?_⟩
  rcases h.2 with h0 | ⟨g, cap, cur, h1, h2, h3⟩
  · exact .inl h0
  · exact .inr ⟨g, cap, cur, h1, by omega, h3⟩
theorem SK.mid {ds es : List Nat} {da ea : Option Addr} {dc ec mb Bm Bt n B : Nat} {W W' : World} (h : SK ds es da ea dc ec mb Bm Bt n W) (hb : Below B W W') (h1 : mb < B) (h2 : Bm < B) (h3 : Bt < B) (hd : Fls W' da ds) (he : Fls W' ea es) : SK ds es da ea dc ec mb Bm Bt n W' := by
  refine ⟨?_, ?_, ?_, hd, he, h.ne⟩
  · obtain ⟨D, ⟨es', clock, k1, k2⟩, k3⟩ := h.map
    exact ⟨D, ⟨es', clock, by rw [hb.block _ h1]; exact k1, k2⟩, k3⟩
  · obtain ⟨T, k⟩ := h.bm
    exact ⟨T, by rw [hb.block _ h2]; exact k⟩
  · obtain ⟨T, k⟩ := h.bt
    exact ⟨T, by rw [hb.block _ h3]; exact k⟩
theorem Box.mid {W W' : World} {B n : Nat} {cs : List Value} (h : Box W n cs) (hb : Below B W W') (hn : n < B) : Box W' n cs := by
  obtain ⟨T, k⟩ := h
  exact ⟨T, by rw [hb.block _ hn]; exact k⟩
/-- What a round of All holds on to. -/
structure AI (w : World) (ds es : List Nat) (da ea : Option Addr) (dc ec mb Bm Bt base k : Nat) (s8 : Value) (W : World) : Prop where
  row : W.ownsRow base 35 1 s8 k ((allL ds es k).map (Value.float .f64))
  sk : SK ds es da ea dc ec mb Bm Bt (64 * k) W
  bel : Below w.heap.size w W
  sz : base ≤ W.heap.size
set_option maxHeartbeats 16000000 in
theorem All_in (w : World) (da ea : Option Addr) (ds es : List Nat) (dc ec : Nat) (hD : Fls w da ds) (hE : Fls w ea es) (hW : Words es) (hl : ds.length ≤ 1000) (hl' : es.length ≤ 1000) (hz : bndE ds es = 0) :
    Calls Try.prog 41 #[.agg #[.slice da ds.length dc, .slice ea es.length ec]] w fun e w' => ∃ sv, e = .returned (.tuple #[sv, .int .i64 (allM ds es ds.length), .int .i64 0]) ∧ w'.ownsRow w.heap.size 35 1 sv ds.length ((allL ds es ds.length).map (Value.float .f64)) ∧ Below w.heap.size w w' := by
  obtain ⟨i0, hi, hz0, hz1, hz2⟩ := info_parts info_f64
  have hm : ds.length ≤ maxLen := by unfold maxLen; omega
  have hm' : es.length ≤ maxLen := by unfold maxLen; omega
  obtain ⟨hask, hn, _, _⟩ := bndE_zero hz
  have x0 : Box (w.alloc (.cells #[.slice da ds.length dc, .slice ea es.length ec] 51)) w.heap.size [.slice da ds.length dc, .slice ea es.length ec] := Box.newA w [_, _] _ rfl
  have hB0 : Below w.heap.size w (w.alloc (.cells #[.slice da ds.length dc, .slice ea es.length ec] 51)) := (Below.refl _ _).alloc (Nat.le_refl _) _
  have HA := Lib.hid (fun (W : World) (hW' : Below w.heap.size w W) => ask13_any W da ea none ds es [] dc ec 0 (hD.below hW') (hE.below hW') (fun h => absurd rfl h) hm hm' (by decide))
  have HO := Lib.hid (fun (W : World) (hW' : Below w.heap.size w W) => open13_any W da ea ds es dc ec (hD.below hW') (hE.below hW') hW hl hl')
  have HF := Lib.hid (fun (W : World) (mb Bm Bt n : Nat) (k : Int) (h : SK ds es da ea dc ec mb Bm Bt n W) (hn : n + 64 < maxLen) (hmb : mb < W.heap.size) => find_any W ds es da ea dc ec mb Bm Bt n (loS ds es) (hiS ds es) k h hn hl hl' (pl_los hz).1 (pl_los hz).2.2.2 ⟨by have := (pl_los hz).2.1; omega, by have := (pl_los hz).2.2.1; omega⟩ hmb)
  rw [hask] at HA
  have hn' : ((ds.length : Int) == 0) = false := by rw [beq_eq_false_iff_ne]; omega
  have HZ := Lib.hid hz
  have HDE := Lib.hid (show _ ∧ _ from ⟨hD, hE⟩)
  clear hm hm' hask hn hD hE hW hl' hz
  go_enter Try.func41, Try.ntmps41
  go_wp2_with fail
  refine (HA.out _ hB0).mono ?_
  rintro e w1 ⟨rfl, hb1⟩
  have y0 := x0.below hb1
  have hB1 := below_step hB0 hB0.size hb1
  clear x0 hB0 hb1 HA
  obtain ⟨a1, a2, a3⟩ := y0.facts
  go_wp2_with fail
  refine (HO.out _ hB1).mono ?_
  rintro e w2 ⟨a, b, f, mb, Bm, Bt, rfl, hS, _, hb2⟩
  obtain ⟨rfl, rfl, rfl, hS, hm1, hm2⟩ := hS HZ.out
  rw [HZ.out]
  have hs1 := hB1.size
  have hl1 := y0.lt
  have y2 := y0.below hb2
  have hB2 := below_step hB1 hB1.size hb2
  have hA : Below w2.heap.size w2 (w2.alloc (.cells #[.int .i64 (loS ds es), .int .i64 (hiS ds es), (.func (.func 97) #[] #[.pointer (some ⟨Bm, 0, none⟩), .pointer (some ⟨Bt, 0, none⟩)])] 100)) := (Below.refl _ _).alloc (Nat.le_refl _) _
  have z6 : Box (w2.alloc (.cells #[.int .i64 (loS ds es), .int .i64 (hiS ds es), (.func (.func 97) #[] #[.pointer (some ⟨Bm, 0, none⟩), .pointer (some ⟨Bt, 0, none⟩)])] 100)) w2.heap.size [.int .i64 (loS ds es), .int .i64 (hiS ds es), (.func (.func 97) #[] #[.pointer (some ⟨Bm, 0, none⟩), .pointer (some ⟨Bt, 0, none⟩)])] := Box.newA w2 [_, _, _] _ rfl
  have z0 := y2.below hA
  have hS3 := hS.below hA
  have hB3 := below_step hB2 hB2.size hA
  have hsz : (w2.alloc (.cells #[.int .i64 (loS ds es), .int .i64 (hiS ds es), (.func (.func 97) #[] #[.pointer (some ⟨Bm, 0, none⟩), .pointer (some ⟨Bt, 0, none⟩)])] 100)).heap.size = w2.heap.size + 1 := by simp
  have hbl : Bm < w2.heap.size ∧ Bt < w2.heap.size := ⟨hS.bm.lt, hS.bt.lt⟩
  have hl0 := y2.lt
  clear a1 a2 a3 y0 y2 hB1 hB2 hb2 hS hA HO
  obtain ⟨a1, a2, a3⟩ := z0.facts
  have ne1 : w.heap.size ≠ w2.heap.size := by omega
  have ne2 : w.heap.size < w2.heap.size := by omega
  have HS3 := Lib.hid (show _ ∧ _ ∧ _ ∧ _ ∧ _ ∧ _ ∧ _ ∧ _ from ⟨hS3, hB3, z0, z6, hsz, hbl, hm1, hm2⟩)
  clear hS3 hB3 z0 z6 hsz hbl hm1 hm2
  go_wp2
  clear a1 a2 a3
  obtain ⟨hS3, hB3, z0, z6, hsz, hbl, hm1, hm2⟩ := HS3.out
  generalize w2.alloc (.cells #[.int .i64 (loS ds es), .int .i64 (hiS ds es), (.func (.func 97) #[] #[.pointer (some ⟨Bm, 0, none⟩), .pointer (some ⟨Bt, 0, none⟩)])] 100) = W3 at *
  clear HS3
  go_loopw [8, 9, 35] (fun s8 s9 s35 wr => ∃ k : Nat, k ≤ ds.length ∧ s35 = .int .i64 k ∧ s9 = .int .i64 (allM ds es k : Nat) ∧ AI w ds es da ea dc ec mb Bm Bt W3.heap.size k s8 wr ∧ Box wr w.heap.size [.slice da ds.length dc, .slice ea es.length ec] ∧ Box wr w2.heap.size [.int .i64 (loS ds es), .int .i64 (hiS ds es), (.func (.func 97) #[] #[.pointer (some ⟨Bm, 0, none⟩), .pointer (some ⟨Bt, 0, none⟩)])]) (fun _ _ s35 _ => ds.length - (intOf s35).toNat)
  case atStart => exact ⟨0, Nat.zero_le _, rfl, rfl, ⟨World.ownsRow_nil _ _ _ _, hS3, hB3, Nat.le_refl _⟩, z0, z6⟩
  case round =>
    obtain ⟨k, hk, rfl, rfl, hI, hb0, hb6⟩ := hrel
    by_cases hlt : k < ds.length
    · have hkb : k + 1 ≤ 1000 := by omega
      have hmk := allM_le ds es k
      have hvk : (valK ds es k).2 ≤ 0 + 64 := fndS_le _ _ _ _ _ _
      have hM : allM ds es (k + 1) = allM ds es k + (valK ds es k).2 := rfl
      have HM := Lib.hid hM
      clear hM
      obtain ⟨e1, e2, e3⟩ := hb6.facts
      have HFk := Lib.hid (HF.out wr mb Bm Bt (64 * k) (k : Int) hI.sk (by unfold maxLen; omega) (Nat.lt_of_lt_of_le hm2 (by have := hI.sz; omega)))
      have HII := Lib.hid (show _ ∧ _ ∧ _ from ⟨hI, hb0, hb6⟩)
      clear hI hb0 hb6
      rw [show fndS (cntN ds es) (k : Int) 64 (loS ds es) (hiS ds es) 0 = valK ds es k from rfl] at HFk
      go_wp2_with fail
      refine HFk.out.mono ?_
      rintro e w4 ⟨rfl, hS4, hb4⟩
      obtain ⟨hI, hb0, hb6⟩ := HII.out
      have hsw := hI.sz
      have row4 := ownsRow_bel hI.row hb4 (by omega)
      have bel4 : Below w.heap.size w w4 := (bel_step (Bel.of hI.bel) hI.bel.size hb4).below (by omega)
      have b04 := hb0.bel (by omega) hb4
      have b64 := hb6.bel (by omega) hb4
      have hs4 := hb4.size
      have hll := allL_length ds es k
      clear e1 e2 e3 HFk HII hI hb0 hb6 hb4
      have HX := Lib.hid (show _ ∧ _ ∧ _ ∧ _ ∧ _ ∧ _ from ⟨hS4, row4, bel4, b04, b64, hs4⟩)
      clear hS4 bel4 b04 b64
      rcases Nat.eq_zero_or_pos k with h0 | h0
      · have t0 : decide ((0 : Int) < (k : Int)) = false := by simp; omega
        have t0' : decide (0 < k) = false := by simp; omega
        have HN := Lib.hid (show allL ds es (k + 1) = allL ds es k ++ [atN (valK ds es (k : Nat)).1] from by rw [allL, if_neg (fun h => absurd h.1 (by omega))])
        clear hll h0
        generalize allM ds es k = am at *
        generalize (valK ds es (k : Nat)).2 = vm at *
        generalize (valK ds es (k : Nat)).1 = vp at *
        go_wp2_with (at_builtin; refine wpList_append_lies _ rfl (.tmp 60) (.tmp 62) 24 rfl W3.heap.size 35 i0 (.float .f64 0) 1 8 Try.underlying24 hi hz0 hz1 hz2 rfl (by decide) _ k _ rfl (HX.out.2.1.alloc _) _ 1 1 [.float .f64 _] rfl rfl (cell_one_new _ _ _) (by simp [Value.oneCell']) (by decide) (by unfold maxLen; omega) (by omega) (by simp; omega) _ rfl ?_; intro g' cap' w5 hown hgrow hat hlt')
        go_roundw
        case rel =>
          obtain ⟨hS4, row4', bel4, b04, b64, hs4'⟩ := HX.out
          have hbA : Below W3.heap.size w4 (w4.alloc (.cells #[.float .f64 (atN vp)] 35)) := (Below.refl _ _).alloc (by omega) _
          have hb5 : Below W3.heap.size w4 w5 := hbA.grown hgrow (by simp; omega) (fun r e => (row4'.lt r e).1)
          have bel5 : Below w.heap.size w w5 := bel4.trans (hb5.mono (by omega))
          refine ⟨k + 1, by omega, by go_num, ?_, ⟨?_, (hS4.mono (by omega)).mid hb5 (by omega) (by omega) (by omega) (HDE.out.1.below bel5) (HDE.out.2.below bel5), bel5, by have := hb5.size; omega⟩, b04.mid hb5 (by omega), b64.mid hb5 (by omega)⟩
          · rw [HM.out]; go_num
          · rw [HN.out, List.map_append]; exact hown
        case measure => simp [intOf]; omega
      · obtain ⟨j, rfl⟩ : ∃ j, k = j + 1 := ⟨k - 1, by omega⟩
        obtain ⟨g, cap, rfl, hc, hgl⟩ := ownsRow_atS row4 (k := j) (by omega)
        have c1 : w4.cell? ⟨g, j, none⟩ = some (.float .f64 ((allL ds es (j + 1)).getD j 0)) := by
          rw [hc, List.getElem?_map]
          simp [show j < (allL ds es (j + 1)).length by omega]
        clear hc
        cases hf : flt (atN (valK ds es ((j + 1 : Nat) : Int)).1) ((allL ds es (j + 1)).getD j 0)
        · have HN := Lib.hid (show allL ds es (j + 1 + 1) = allL ds es (j + 1) ++ [atN (valK ds es (j + 1 : Nat)).1] from by rw [allL, if_neg (fun h => by have := h.2; rw [Nat.add_sub_cancel, hf] at this; cases this)])
          clear hll
          generalize allM ds es (j + 1) = am at *
          generalize (valK ds es (j + 1 : Nat)).2 = vm at *
          generalize (valK ds es (j + 1 : Nat)).1 = vp at *
          generalize (allL ds es (j + 1)).getD j 0 = wl at *
          go_wp2_with (at_builtin; refine wpList_append_lies _ rfl (.tmp 60) (.tmp 62) 24 rfl W3.heap.size 35 i0 (.float .f64 0) 1 8 Try.underlying24 hi hz0 hz1 hz2 rfl (by decide) _ (j + 1) _ rfl (HX.out.2.1.alloc _) _ 1 1 [.float .f64 _] rfl rfl (cell_one_new _ _ _) (by simp [Value.oneCell']) (by decide) (by unfold maxLen; omega) (by omega) (by simp; omega) _ rfl ?_; intro g' cap' w5 hown hgrow hat hlt')
          go_roundw
          case rel =>
            obtain ⟨hS4, row4', bel4, b04, b64, hs4'⟩ := HX.out
            have hbA : Below W3.heap.size w4 (w4.alloc (.cells #[.float .f64 (atN vp)] 35)) := (Below.refl _ _).alloc (by omega) _
            have hb5 : Below W3.heap.size w4 w5 := hbA.grown hgrow (by simp; omega) (fun r e => (row4'.lt r e).1)
            have bel5 : Below w.heap.size w w5 := bel4.trans (hb5.mono (by omega))
            refine ⟨j + 1 + 1, by omega, by go_num, ?_, ⟨?_, (hS4.mono (by omega)).mid hb5 (by omega) (by omega) (by omega) (HDE.out.1.below bel5) (HDE.out.2.below bel5), bel5, by have := hb5.size; omega⟩, b04.mid hb5 (by omega), b64.mid hb5 (by omega)⟩
            · rw [HM.out]; go_num
            · rw [HN.out, List.map_append]; exact hown
          case measure => simp [intOf]; omega
        · have HN := Lib.hid (show allL ds es (j + 1 + 1) = allL ds es (j + 1) ++ [(allL ds es (j + 1)).getD j 0] from by rw [allL, if_pos ⟨Nat.succ_pos _, by rw [Nat.add_sub_cancel]; exact hf⟩, Nat.add_sub_cancel])
          clear hll
          generalize allM ds es (j + 1) = am at *
          generalize (valK ds es (j + 1 : Nat)).2 = vm at *
          generalize (valK ds es (j + 1 : Nat)).1 = vp at *
          generalize (allL ds es (j + 1)).getD j 0 = wl at *
          go_wp2_with (at_builtin; refine wpList_append_lies _ rfl (.tmp 60) (.tmp 62) 24 rfl W3.heap.size 35 i0 (.float .f64 0) 1 8 Try.underlying24 hi hz0 hz1 hz2 rfl (by decide) _ (j + 1) _ rfl (HX.out.2.1.alloc _) _ 1 1 [.float .f64 _] rfl rfl (cell_one_new _ _ _) (by simp [Value.oneCell']) (by decide) (by unfold maxLen; omega) (by omega) (by simp; omega) _ rfl ?_; intro g' cap' w5 hown hgrow hat hlt')
          go_roundw
          case rel =>
            obtain ⟨hS4, row4', bel4, b04, b64, hs4'⟩ := HX.out
            have hbA : Below W3.heap.size w4 (w4.alloc (.cells #[.float .f64 wl] 35)) := (Below.refl _ _).alloc (by omega) _
            have hb5 : Below W3.heap.size w4 w5 := hbA.grown hgrow (by simp; omega) (fun r e => (row4'.lt r e).1)
            have bel5 : Below w.heap.size w w5 := bel4.trans (hb5.mono (by omega))
            refine ⟨j + 1 + 1, by omega, by go_num, ?_, ⟨?_, (hS4.mono (by omega)).mid hb5 (by omega) (by omega) (by omega) (HDE.out.1.below bel5) (HDE.out.2.below bel5), bel5, by have := hb5.size; omega⟩, b04.mid hb5 (by omega), b64.mid hb5 (by omega)⟩
            · rw [HM.out]; go_num
            · rw [HN.out, List.map_append]; exact hown
          case measure => simp [intOf]; omega
    · obtain rfl : k = ds.length := by omega
      have HI := Lib.hid hI
      clear hI
      go_wp2
      refine bodyPost_ret (results_tmp3 rfl _ _ _) rfl ⟨_, rfl, ownsRow_monoS HI.out.row (by omega), HI.out.bel⟩
end Go.Proofs.Ytogkmddhgfenkaa

/- Package math: Frexp, Ldexp, as plain functions of the words. -/
namespace Go.Proofs.Ytogkmddhgfenkaa
open Go Go.RowKit
set_option maxRecDepth 100000
theorem feq_zero {x : Nat} (hn : isnan x = false) : feq x 0 = decide (x % 9223372036854775808 = 0) := by
  rw [feq_key hn (by kernel_rfl), show fkey 0 = 0 from by decide, Bool.eq_iff_iff]
  unfold fkey
  simp only [decide_eq_true_eq]
  split <;> omega
/-- The parts of a word made normal. -/
theorem nY_parts {x : Nat} (hx : x < 18446744073709551616) (hf : x % 9223372036854775808 < 9218868437227405312) (h0 : 0 < x % 9223372036854775808) :
    nY x < 18446744073709551616 ∧ nY x / 4503599627370496 % 2048 = nE (x % 9223372036854775808) ∧ nY x / 9223372036854775808 = x / 9223372036854775808 ∧ nY x % 4503599627370496 = sigR (x % 9223372036854775808) - 4503599627370496 := by
  have hb := sig_bnd h0
  have hE := nE_bnd h0 hf
  unfold nY
  generalize sigR (x % 9223372036854775808) = m at *
  generalize nE (x % 9223372036854775808) = E at *
  have hs : x / 9223372036854775808 < 2 := by omega
  generalize x / 9223372036854775808 = s at *
  refine ⟨by omega, by omega, by omega, by omega⟩
theorem andNot_exp {y : Nat} (hy : y < 18446744073709551616) : bits .andNot .u64 (y : Int) 9218868437227405312 = ((y / 9223372036854775808 * 9223372036854775808 + y % 4503599627370496 : Nat) : Int) := by
  rw [show (9218868437227405312 : Int) = ((9218868437227405312 : Nat) : Int) from rfl, u64_andNot_nat y _ hy (by decide)]
  rw [show (18446744073709551615 - 9218868437227405312 : Nat) = 9227875636482146303 from by decide, and_sign_frac y hy]
theorem or_exp {s f E : Nat} (hs : s < 2) (hf : f < 4503599627370496) (hE : E < 2048) : bits .or .u64 ((s * 9223372036854775808 + f : Nat) : Int) ((E * 4503599627370496 : Nat) : Int) = ((s * 9223372036854775808 + (E * 4503599627370496 + f) : Nat) : Int) := by
  rw [u64_or_nat _ _ (by omega) (by omega), or_parts s f E hf hE]
/-- What frexp's fraction is. -/
def frW (x : Nat) : Nat := x / 9223372036854775808 * 9223372036854775808 + (1022 * 4503599627370496 + (sigR (x % 9223372036854775808) - 4503599627370496))
set_option maxHeartbeats 4000000 in
theorem frexp_core (x Y E A B : Nat) (q : Int) (hz : feq x 0 = false) (HI : Hid (∀ W, Calls Try.prog 79 #[.float .f64 x, .int .i64 0] W fun e w' => e = .returned (.bool false) ∧ W = w'))
    (HN : Hid (∀ W, Calls Try.prog 78 #[.float .f64 x] W fun e w' => e = .returned (.bool false) ∧ W = w'))
    (HM : Hid (∀ W, Calls Try.prog 99 #[.float .f64 x] W fun e w' => e = .returned (.tuple #[.float .f64 Y, .int .i64 q]) ∧ Below W.heap.size W w'))
    (hY : Y < 18446744073709551616) (b1 : bits .and .u64 ((Y : Int) / 4503599627370496) 2047 = (E : Int)) (b2 : bits .andNot .u64 (Y : Int) 9218868437227405312 = (A : Int)) (b3 : bits .or .u64 (A : Int) 4602678819172646912 = (B : Int))
    (hE1 : 1 ≤ E) (hE2 : E ≤ 2046) (hq1 : -52 ≤ q) (hq2 : q ≤ 0) (hA : A < 18446744073709551616) (hB : B < 18446744073709551616) (w : World) :
    Calls Try.prog 93 #[.float .f64 x] w fun e w' => e = .returned (.tuple #[.float .f64 B, .int .i64 (q + (E - 1023 + 1))]) ∧ Below w.heap.size w w' := by
  go_enter Try.func93, Try.ntmps93
  go_wp2_with fail
  refine (HI.out _).mono ?_
  rintro e w' ⟨rfl, rfl⟩
  go_wp2_with fail
  refine (HN.out _).mono ?_
  rintro e w' ⟨rfl, rfl⟩
  go_wp2_with fail
  refine (HM.out _).mono ?_
  rintro e w1 ⟨rfl, hb1⟩
  go_wp2_with fail
  refine bodyPost_ret (results_tmp2 rfl _ _ _) rfl ⟨?_, hb1⟩
  rfl
theorem frexp_fin (x : Nat) (hx : x < 18446744073709551616) (hf : x % 9223372036854775808 < 9218868437227405312) (h0 : 0 < x % 9223372036854775808) (w : World) :
    Calls Try.prog 93 #[.float .f64 x] w fun e w' => e = .returned (.tuple #[.float .f64 (frW x), .int .i64 (expR (x % 9223372036854775808) - 1022)]) ∧ Below w.heap.size w w' := by
  have hn := isnan_fin hf
  have hz := feq_zero hn
  rw [decide_eq_false (by omega)] at hz
  have HI := fun W => IsInf0_any x hx W
  rw [decide_eq_false (by omega)] at HI
  have HN := fun W => IsNaN_any x W
  rw [hn] at HN
  obtain ⟨p1, p2, p3, p4⟩ := nY_parts hx hf h0
  have hb := sig_bnd h0
  have hE := nE_bnd h0 hf
  have b1 := bits_exp p1
  have b2 := andNot_exp p1
  have b3 := or_exp (s := x / 9223372036854775808) (f := sigR (x % 9223372036854775808) - 4503599627370496) (E := 1022) (by omega) (by omega) (by decide)
  rw [p2] at b1
  rw [p3, p4] at b2
  have := frexp_core x (nY x) (nE (x % 9223372036854775808)) _ (frW x) (ne (x % 9223372036854775808)) hz (Lib.hid HI) (Lib.hid HN) (Lib.hid fun W => normalize_any x hx hf h0 W) p1 b1 b2 b3 hE.1 hE.2.1 (by omega) (by omega) (by omega) (by unfold frW; omega) w
  rw [show ne (x % 9223372036854775808) + ((nE (x % 9223372036854775808) : Int) - 1023 + 1) = expR (x % 9223372036854775808) - 1022 by omega] at this
  exact this
end Go.Proofs.Ytogkmddhgfenkaa

/- Package math: Ldexp, as a plain function of the words (printed by gen_gz.py). -/
namespace Go.Proofs.Ytogkmddhgfenkaa
open Go Go.RowKit
set_option maxRecDepth 100000
theorem i64_and_2047 (n : Nat) (h : n < 4096) : bits .and .i64 (n : Int) 2047 = ((n % 2048 : Nat) : Int) := by
  have h1 : (BitVec.ofInt 64 2047).toNat = 2 ^ 11 - 1 := by decide
  have key : (BitVec.ofInt 64 (n : Int) &&& BitVec.ofInt 64 2047).toNat = ((n : Int) % ((2 ^ 64 : Nat) : Int)).toNat % 2 ^ 11 := by
    rw [BitVec.toNat_and, BitVec.toNat_ofInt, h1, Nat.and_two_pow_sub_one_eq_mod]
  show IntKind.i64.wrap ((BitVec.ofInt 64 (n : Int) &&& BitVec.ofInt 64 2047).toNat : Nat) = ((n % 2048 : Nat) : Int)
  rw [key, IntKind.wrap_i64]
  omega

set_option maxHeartbeats 4000000 in
theorem ldexp_norm (x Y E A B : Nat) (p q k : Int) (hz : feq x 0 = false) (HI : Hid (∀ W, Calls Try.prog 79 #[.float .f64 x, .int .i64 0] W fun e w' => e = .returned (.bool false) ∧ W = w'))
    (HN : Hid (∀ W, Calls Try.prog 78 #[.float .f64 x] W fun e w' => e = .returned (.bool false) ∧ W = w'))
    (HM : Hid (∀ W, Calls Try.prog 99 #[.float .f64 x] W fun e w' => e = .returned (.tuple #[.float .f64 Y, .int .i64 q]) ∧ Below W.heap.size W w'))
    (hY : Y < 18446744073709551616) (b1 : bits .and .i64 ((Y : Int) / 4503599627370496) 2047 = (E : Int)) (b2 : bits .andNot .u64 (Y : Int) 9218868437227405312 = (A : Int))
    (hE1 : 1 ≤ E) (hE2 : E ≤ 2046) (hq1 : -52 ≤ q) (hq2 : q ≤ 0) (hp1 : -5000 ≤ p) (hp2 : p ≤ 5000) (hA : A < 18446744073709551616) (w : World)
    (hk : p + q + (E - 1023) = k) (hB : B < 18446744073709551616) (h1 : -1022 ≤ k) (h2 : k ≤ 1023) (b3 : bits .or .u64 (A : Int) ((k + 1023) * 4503599627370496) = (B : Int)) (hm : isnan (fmul 4607182418800017408 B) = false) :
    Calls Try.prog 88 #[.float .f64 x, .int .i64 p] w fun e w' => e = .returned (.float .f64 (fmul 4607182418800017408 B)) ∧ Below w.heap.size w w' := by
  go_enter Try.func88, Try.ntmps88
  go_wp2_with fail
  refine (HI.out _).mono ?_
  rintro e w' ⟨rfl, rfl⟩
  go_wp2_with fail
  refine (HN.out _).mono ?_
  rintro e w' ⟨rfl, rfl⟩
  go_wp2_with fail
  refine (HM.out _).mono ?_
  rintro e w1 ⟨rfl, hb1⟩
  have HR := Lib.hid (fun s => raw_of_not hm s)
  clear hm
  go_wp2_with (first | (refine wpList_flt rfl rfl rfl rfl rfl ?_; intro K hK _ _; go_frame; refine hK _ _ ?_; clear hK K))
  go_ret
  exact ⟨by rw [HR.out]; rfl, below_drewN _ hb1⟩

set_option maxHeartbeats 4000000 in
theorem ldexp_den (x Y E A B : Nat) (p q k : Int) (hz : feq x 0 = false) (HI : Hid (∀ W, Calls Try.prog 79 #[.float .f64 x, .int .i64 0] W fun e w' => e = .returned (.bool false) ∧ W = w'))
    (HN : Hid (∀ W, Calls Try.prog 78 #[.float .f64 x] W fun e w' => e = .returned (.bool false) ∧ W = w'))
    (HM : Hid (∀ W, Calls Try.prog 99 #[.float .f64 x] W fun e w' => e = .returned (.tuple #[.float .f64 Y, .int .i64 q]) ∧ Below W.heap.size W w'))
    (hY : Y < 18446744073709551616) (b1 : bits .and .i64 ((Y : Int) / 4503599627370496) 2047 = (E : Int)) (b2 : bits .andNot .u64 (Y : Int) 9218868437227405312 = (A : Int))
    (hE1 : 1 ≤ E) (hE2 : E ≤ 2046) (hq1 : -52 ≤ q) (hq2 : q ≤ 0) (hp1 : -5000 ≤ p) (hp2 : p ≤ 5000) (hA : A < 18446744073709551616) (w : World)
    (hk : p + q + (E - 1023) = k) (hB : B < 18446744073709551616) (h1 : -1075 ≤ k) (h2 : k < -1022) (b3 : bits .or .u64 (A : Int) ((k + 53 + 1023) * 4503599627370496) = (B : Int)) (hm : isnan (fmul 4368491638549381120 B) = false) :
    Calls Try.prog 88 #[.float .f64 x, .int .i64 p] w fun e w' => e = .returned (.float .f64 (fmul 4368491638549381120 B)) ∧ Below w.heap.size w w' := by
  go_enter Try.func88, Try.ntmps88
  go_wp2_with fail
  refine (HI.out _).mono ?_
  rintro e w' ⟨rfl, rfl⟩
  go_wp2_with fail
  refine (HN.out _).mono ?_
  rintro e w' ⟨rfl, rfl⟩
  go_wp2_with fail
  refine (HM.out _).mono ?_
  rintro e w1 ⟨rfl, hb1⟩
  have HR := Lib.hid (fun s => raw_of_not hm s)
  clear hm
  go_wp2_with (first | (refine wpList_flt rfl rfl rfl rfl rfl ?_; intro K hK _ _; go_frame; refine hK _ _ ?_; clear hK K))
  go_ret
  exact ⟨by rw [HR.out]; rfl, below_drewN _ hb1⟩

set_option maxHeartbeats 4000000 in
theorem ldexp_low (x Y E A : Nat) (p q k : Int) (hz : feq x 0 = false) (HI : Hid (∀ W, Calls Try.prog 79 #[.float .f64 x, .int .i64 0] W fun e w' => e = .returned (.bool false) ∧ W = w'))
    (HN : Hid (∀ W, Calls Try.prog 78 #[.float .f64 x] W fun e w' => e = .returned (.bool false) ∧ W = w'))
    (HM : Hid (∀ W, Calls Try.prog 99 #[.float .f64 x] W fun e w' => e = .returned (.tuple #[.float .f64 Y, .int .i64 q]) ∧ Below W.heap.size W w'))
    (hY : Y < 18446744073709551616) (b1 : bits .and .i64 ((Y : Int) / 4503599627370496) 2047 = (E : Int)) (b2 : bits .andNot .u64 (Y : Int) 9218868437227405312 = (A : Int))
    (hE1 : 1 ≤ E) (hE2 : E ≤ 2046) (hq1 : -52 ≤ q) (hq2 : q ≤ 0) (hp1 : -5000 ≤ p) (hp2 : p ≤ 5000) (hA : A < 18446744073709551616) (w : World)
    (hk : p + q + (E - 1023) = k) (h1 : k < -1075) :
    Calls Try.prog 88 #[.float .f64 x, .int .i64 p] w fun e w' => e = .returned (.float .f64 (Y / 9223372036854775808 * 9223372036854775808)) ∧ Below w.heap.size w w' := by
  go_enter Try.func88, Try.ntmps88
  go_wp2_with fail
  refine (HI.out _).mono ?_
  rintro e w' ⟨rfl, rfl⟩
  go_wp2_with fail
  refine (HN.out _).mono ?_
  rintro e w' ⟨rfl, rfl⟩
  go_wp2_with fail
  refine (HM.out _).mono ?_
  rintro e w1 ⟨rfl, hb1⟩
  have HC := Lib.hid (fun W => Copysign_zero Y hY W)
  go_wp2_with fail
  refine (HC.out _).mono ?_
  rintro e w' ⟨rfl, rfl⟩
  go_wp2_with fail
  go_ret
  exact ⟨rfl, hb1⟩

set_option maxHeartbeats 4000000 in
theorem ldexp_neg (x Y E A : Nat) (p q k : Int) (hz : feq x 0 = false) (HI : Hid (∀ W, Calls Try.prog 79 #[.float .f64 x, .int .i64 0] W fun e w' => e = .returned (.bool false) ∧ W = w'))
    (HN : Hid (∀ W, Calls Try.prog 78 #[.float .f64 x] W fun e w' => e = .returned (.bool false) ∧ W = w'))
    (HM : Hid (∀ W, Calls Try.prog 99 #[.float .f64 x] W fun e w' => e = .returned (.tuple #[.float .f64 Y, .int .i64 q]) ∧ Below W.heap.size W w'))
    (hY : Y < 18446744073709551616) (b1 : bits .and .i64 ((Y : Int) / 4503599627370496) 2047 = (E : Int)) (b2 : bits .andNot .u64 (Y : Int) 9218868437227405312 = (A : Int))
    (hE1 : 1 ≤ E) (hE2 : E ≤ 2046) (hq1 : -52 ≤ q) (hq2 : q ≤ 0) (hp1 : -5000 ≤ p) (hp2 : p ≤ 5000) (hA : A < 18446744073709551616) (w : World)
    (hk : p + q + (E - 1023) = k) (h1 : 1023 < k) (hs : flt Y 0 = true) :
    Calls Try.prog 88 #[.float .f64 x, .int .i64 p] w fun e w' => e = .returned (.float .f64 18442240474082181120) ∧ Below w.heap.size w w' := by
  go_enter Try.func88, Try.ntmps88
  go_wp2_with fail
  refine (HI.out _).mono ?_
  rintro e w' ⟨rfl, rfl⟩
  go_wp2_with fail
  refine (HN.out _).mono ?_
  rintro e w' ⟨rfl, rfl⟩
  go_wp2_with fail
  refine (HM.out _).mono ?_
  rintro e w1 ⟨rfl, hb1⟩
  go_wp2_with fail
  refine (Inf_neg _).mono ?_
  rintro e w' ⟨rfl, rfl⟩
  go_wp2_with fail
  go_ret
  exact ⟨rfl, hb1⟩

set_option maxHeartbeats 4000000 in
theorem ldexp_pos (x Y E A : Nat) (p q k : Int) (hz : feq x 0 = false) (HI : Hid (∀ W, Calls Try.prog 79 #[.float .f64 x, .int .i64 0] W fun e w' => e = .returned (.bool false) ∧ W = w'))
    (HN : Hid (∀ W, Calls Try.prog 78 #[.float .f64 x] W fun e w' => e = .returned (.bool false) ∧ W = w'))
    (HM : Hid (∀ W, Calls Try.prog 99 #[.float .f64 x] W fun e w' => e = .returned (.tuple #[.float .f64 Y, .int .i64 q]) ∧ Below W.heap.size W w'))
    (hY : Y < 18446744073709551616) (b1 : bits .and .i64 ((Y : Int) / 4503599627370496) 2047 = (E : Int)) (b2 : bits .andNot .u64 (Y : Int) 9218868437227405312 = (A : Int))
    (hE1 : 1 ≤ E) (hE2 : E ≤ 2046) (hq1 : -52 ≤ q) (hq2 : q ≤ 0) (hp1 : -5000 ≤ p) (hp2 : p ≤ 5000) (hA : A < 18446744073709551616) (w : World)
    (hk : p + q + (E - 1023) = k) (h1 : 1023 < k) (hs : flt Y 0 = false) :
    Calls Try.prog 88 #[.float .f64 x, .int .i64 p] w fun e w' => e = .returned (.float .f64 9218868437227405312) ∧ Below w.heap.size w w' := by
  go_enter Try.func88, Try.ntmps88
  go_wp2_with fail
  refine (HI.out _).mono ?_
  rintro e w' ⟨rfl, rfl⟩
  go_wp2_with fail
  refine (HN.out _).mono ?_
  rintro e w' ⟨rfl, rfl⟩
  go_wp2_with fail
  refine (HM.out _).mono ?_
  rintro e w1 ⟨rfl, hb1⟩
  go_wp2_with fail
  refine (Inf_pos _).mono ?_
  rintro e w' ⟨rfl, rfl⟩
  go_wp2_with fail
  go_ret
  exact ⟨rfl, hb1⟩

theorem timesW_fin {x : Nat} {p : Int} (hf : x % 9223372036854775808 < 9218868437227405312) (h0 : 0 < x % 9223372036854775808) : timesW x p = Ieee.double.word (fsgn x) (roundR (sigR (x % 9223372036854775808)) (expR (x % 9223372036854775808) + p)) := by
  unfold timesW timesW.ffinW
  rw [decide_eq_true hf, if_neg (by rintro (h | h); cases h; omega)]
theorem mul_norm {s m E c B : Nat} {k : Int} (hB : B = 2 ^ 52) (hc : Ieee.double.read c = .number false B (k - 52)) (hs : s < 2) (hm1 : 4503599627370496 ≤ m) (hm2 : m < 9007199254740992) (hE : 1 ≤ E) (hE2 : E ≤ 2046) :
    fmul c (s * 9223372036854775808 + (E * 4503599627370496 + (m - 4503599627370496))) = s * 9223372036854775808 + roundR m (E + k) := by
  have hr : (s * 9223372036854775808 + (E * 4503599627370496 + (m - 4503599627370496))) % 9223372036854775808 = E * 4503599627370496 + (m - 4503599627370496) := by omega
  have hd : (s * 9223372036854775808 + (E * 4503599627370496 + (m - 4503599627370496))) / 9223372036854775808 = s := by omega
  have hn := norm_sig hm1 hm2 hE hE2
  rw [mul_pow_l hB hc (by rw [hr]; omega) (by rw [hr]; omega), word_sgn (by omega), hd, hr, hn.1, hn.2]
theorem flt_zero {x : Nat} (hn : isnan x = false) : flt x 0 = decide (x / 9223372036854775808 % 2 = 1 ∧ 0 < x % 9223372036854775808) := by
  rw [flt_key hn (by kernel_rfl), show fkey 0 = 0 from by decide, Bool.eq_iff_iff]
  unfold fkey
  simp only [decide_eq_true_eq]
  split <;> omega
theorem ldexp_fin (x : Nat) (p : Int) (hx : x < 18446744073709551616) (hf : x % 9223372036854775808 < 9218868437227405312) (h0 : 0 < x % 9223372036854775808) (hp1 : -5000 ≤ p) (hp2 : p ≤ 5000) (w : World) :
    Calls Try.prog 88 #[.float .f64 x, .int .i64 p] w fun e w' => e = .returned (.float .f64 (timesW x p)) ∧ Below w.heap.size w w' := by
  have hn := isnan_fin hf
  have hz := feq_zero hn
  rw [decide_eq_false (by omega)] at hz
  have HI := fun W => IsInf0_any x hx W
  rw [decide_eq_false (by omega)] at HI
  have HN := fun W => IsNaN_any x W
  rw [hn] at HN
  have HM := fun W => normalize_any x hx hf h0 W
  obtain ⟨p1, p2, p3, p4⟩ := nY_parts hx hf h0
  have hb := sig_bnd h0
  have hE := nE_bnd h0 hf
  have b1 := i64_and_2047 (nY x / 4503599627370496) (by omega)
  rw [Int.natCast_ediv] at b1
  have b2 := andNot_exp p1
  rw [p2] at b1
  rw [p3, p4] at b2
  rw [timesW_fin hf h0, word_sgn hx, hE.2.2.1]
  have hs : x / 9223372036854775808 < 2 := by omega
  have hY : nY x = x / 9223372036854775808 * 9223372036854775808 + (nE (x % 9223372036854775808) * 4503599627370496 + (sigR (x % 9223372036854775808) - 4503599627370496)) := rfl
  generalize nY x = Y at *
  obtain ⟨hE1, hE2, _, hE4⟩ := hE
  generalize nE (x % 9223372036854775808) = E at *
  generalize ne (x % 9223372036854775808) = q at *
  generalize sigR (x % 9223372036854775808) = m at *
  generalize x / 9223372036854775808 = s at *
  have hk : p + q + ((E : Int) - 1023) = (E : Int) + q + p - 1023 := by omega
  have hql : -52 ≤ q := by omega
  have hqh : q ≤ 0 := by omega
  clear hE4
  by_cases c1 : (E : Int) + q + p - 1023 < -1075
  · have := ldexp_low x Y E _ p q _ hz (Lib.hid HI) (Lib.hid HN) (Lib.hid HM) p1 b1 b2 hE1 hE2 hql hqh hp1 hp2 (by omega) w hk c1
    rw [p3] at this
    rw [show roundR m ((E : Int) + q + p) = 0 by unfold roundR; rw [if_neg (by omega), if_neg (by omega), if_pos (by omega)], Nat.add_zero]
    exact this
  · by_cases c2 : 1023 < (E : Int) + q + p - 1023
    · rw [show roundR m ((E : Int) + q + p) = 9218868437227405312 by unfold roundR; rw [if_pos (by omega)]]
      have hYn : isnan Y = false := isnan_fin (by rw [hY]; omega)
      have hl := flt_zero hYn
      rw [p3] at hl
      by_cases hs1 : s = 1
      · subst hs1
        rw [decide_eq_true (by omega)] at hl
        exact ldexp_neg x Y E _ p q _ hz (Lib.hid HI) (Lib.hid HN) (Lib.hid HM) p1 b1 b2 hE1 hE2 hql hqh hp1 hp2 (by omega) w hk c2 hl
      · obtain rfl : s = 0 := by omega
        rw [decide_eq_false (by omega)] at hl
        exact ldexp_pos x Y E _ p q _ hz (Lib.hid HI) (Lib.hid HN) (Lib.hid HM) p1 b1 b2 hE1 hE2 hql hqh hp1 hp2 (by omega) w hk c2 hl
    · by_cases c3 : (E : Int) + q + p - 1023 < -1022
      · obtain ⟨F, hF⟩ : ∃ F : Nat, (F : Int) = (E : Int) + q + p - 1023 + 53 + 1023 := ⟨((E : Int) + q + p - 1023 + 53 + 1023).toNat, by omega⟩
        have b3 := or_exp (s := s) (f := m - 4503599627370496) (E := F) hs (by omega) (by omega)
        rw [Int.natCast_mul, hF] at b3
        have hmul := mul_norm (k := -53) (B := 2 ^ 52) (c := 4368491638549381120) rfl (by decide) hs hb.1 hb.2 (E := F) (by omega) (by omega)
        rw [show (F : Int) + -53 = (E : Int) + q + p by omega] at hmul
        have hnn : isnan (s * 9223372036854775808 + roundR m ((E : Int) + q + p)) = false := by
          have := roundR_le m ((E : Int) + q + p) hb.2
          unfold isnan
          rw [decide_eq_false_iff_not]
          omega
        rw [← hmul] at hnn ⊢
        exact ldexp_den x Y E _ _ p q _ hz (Lib.hid HI) (Lib.hid HN) (Lib.hid HM) p1 b1 b2 hE1 hE2 hql hqh hp1 hp2 (by omega) w hk (by omega) (by omega) c3 b3 hnn
      · obtain ⟨F, hF⟩ : ∃ F : Nat, (F : Int) = (E : Int) + q + p - 1023 + 1023 := ⟨((E : Int) + q + p - 1023 + 1023).toNat, by omega⟩
        have b3 := or_exp (s := s) (f := m - 4503599627370496) (E := F) hs (by omega) (by omega)
        rw [Int.natCast_mul, hF] at b3
        have hmul := mul_norm (k := 0) (B := 2 ^ 52) (c := 4607182418800017408) rfl (by decide) hs hb.1 hb.2 (E := F) (by omega) (by omega)
        rw [show (F : Int) + 0 = (E : Int) + q + p by omega] at hmul
        have hnn : isnan (s * 9223372036854775808 + roundR m ((E : Int) + q + p)) = false := by
          have := roundR_le m ((E : Int) + q + p) hb.2
          unfold isnan
          rw [decide_eq_false_iff_not]
          omega
        rw [← hmul] at hnn ⊢
        exact ldexp_norm x Y E _ _ p q _ hz (Lib.hid HI) (Lib.hid HN) (Lib.hid HM) p1 b1 b2 hE1 hE2 hql hqh hp1 hp2 (by omega) w hk (by omega) (by omega) (by omega) b3 hnn
end Go.Proofs.Ytogkmddhgfenkaa

/- Package guard, and the document's: words. -/
namespace Go.Proofs.Ytogkmddhgfenkaa
open Go Go.RowKit
set_option maxRecDepth 100000
theorem shl1 {x : Nat} (hx : x < 18446744073709551616) : IntKind.u64.wrap ((x : Int) * 2) / 2 = ((x % 9223372036854775808 : Nat) : Int) := by
  rw [IntKind.wrap_u64]
  omega
theorem shl1n {x : Nat} (hx : x < 18446744073709551616) : (IntKind.u64.wrap ((x : Int) * 2) == 0) = decide (x % 9223372036854775808 = 0) := by
  rw [IntKind.wrap_u64, Bool.eq_iff_iff]
  simp only [beq_iff_eq, decide_eq_true_eq]
  omega
theorem shl1ne {x : Nat} (hx : x < 18446744073709551616) : (IntKind.u64.wrap ((x : Int) * 2) != 0) = !decide (x % 9223372036854775808 = 0) := by
  rw [bne, shl1n hx]
theorem fin_pow (x : Nat) : ((x : Int) / 4503599627370496 % 2048 != 2047) = ffin x := by
  unfold ffin
  rw [Bool.eq_iff_iff]
  simp only [bne_iff_ne, ne_eq, decide_eq_true_eq]
  omega
theorem gsize_any (x : Nat) (hx : x < 18446744073709551616) (w : World) : Calls Try.prog 64 #[.int .u64 x] w fun e w' => e = .returned (.int .u64 (x % 9223372036854775808 : Nat)) ∧ w = w' := by
  have h := shl1 hx
  go_enter Try.func64, Try.ntmps64
  go_wp2
  go_ret
  exact ⟨rfl, rfl⟩
theorem gpower_any (x : Nat) (hx : x < 18446744073709551616) (w : World) : Calls Try.prog 91 #[.int .u64 x] w fun e w' => e = .returned (.int .i64 ((x : Int) / 4503599627370496 % 2048)) ∧ w = w' := by
  have h := bits_exp hx
  go_enter Try.func91, Try.ntmps91
  go_wp2
  go_ret
  exact ⟨rfl, rfl⟩
theorem gfin_any (x : Nat) (hx : x < 18446744073709551616) (w : World) : Calls Try.prog 65 #[.int .u64 x] w fun e w' => e = .returned (.bool (ffin x)) ∧ w = w' := by
  have h := fin_pow x
  go_enter Try.func65, Try.ntmps65
  go_wp2_with (go_at_call 91; refine (gpower_any x hx _).mono ?_; rintro e w' ⟨rfl, rfl⟩)
  go_ret
  exact ⟨rfl, rfl⟩
theorem take1_any (x : Nat) (hx : x < 18446744073709551616) (w : World) : Calls Try.prog 90 #[.int .u64 x] w fun e w' => e = .returned (.bool (!ffin x)) ∧ w = w' := by
  go_enter Try.func90, Try.ntmps90
  go_wp2_with (go_at_call 65; refine (gfin_any x hx _).mono ?_; rintro e w' ⟨rfl, rfl⟩)
  go_ret
  exact ⟨rfl, rfl⟩
theorem rfin_any (x : Nat) (hx : x < 18446744073709551616) (w : World) : Calls Try.prog 24 #[.int .u64 x] w fun e w' => e = .returned (.bool (ffin x)) ∧ w = w' := by
  have h := fin_pow x
  go_enter Try.func24, Try.ntmps24
  go_wp2
  go_ret
  exact ⟨rfl, rfl⟩
/-- Is a word in range? -/
def inrB (x : Nat) : Bool := decide (x % 9223372036854775808 = 0) || (decide (2805742567851819008 ≤ x % 9223372036854775808) && decide (x % 9223372036854775808 ≤ 6408622269748215808))
theorem inr_fin {x : Nat} (h : inrB x = true) : ffin x = true := by
  unfold inrB at h
  unfold ffin
  simp only [Bool.or_eq_true, Bool.and_eq_true, decide_eq_true_eq] at h ⊢
  omega
set_option maxHeartbeats 1000000 in
theorem ginr_any (x : Nat) (hx : x < 18446744073709551616) (w : World) : Calls Try.prog 21 #[.int .u64 x] w fun e w' => e = .returned (.bool (inrB x)) ∧ w = w' := by
  have HS := Lib.hid (fun W => gsize_any x hx W)
  unfold inrB
  have hl : x % 9223372036854775808 < 9223372036854775808 := Nat.mod_lt _ (by decide)
  generalize x % 9223372036854775808 = r at *
  clear hx
  by_cases h0 : r = 0
  · subst h0
    go_enter Try.func21, Try.ntmps21
    go_wp2_with (go_at_call 64; refine (HS.out _).mono ?_; rintro e w' ⟨rfl, rfl⟩)
    go_ret
    exact ⟨rfl, rfl⟩
  · have t0 : ((r : Int) == 0) = false := by rw [beq_eq_false_iff_ne]; omega
    rw [decide_eq_false h0]
    clear h0
    by_cases h1 : 2805742567851819008 ≤ r
    · have t1 : decide (2805742567851819008 ≤ (r : Int)) = true := decide_eq_true (by omega)
      rw [decide_eq_true h1]
      by_cases h2 : r ≤ 6408622269748215808
      · have t2 : decide ((r : Int) ≤ 6408622269748215808) = true := decide_eq_true (by omega)
        rw [decide_eq_true h2]
        clear h1 h2
        go_enter Try.func21, Try.ntmps21
        go_wp2_with (go_at_call 64; refine (HS.out _).mono ?_; rintro e w' ⟨rfl, rfl⟩)
        go_ret
        exact ⟨rfl, rfl⟩
      · have t2 : decide ((r : Int) ≤ 6408622269748215808) = false := decide_eq_false (by omega)
        rw [decide_eq_false h2]
        clear h1 h2
        go_enter Try.func21, Try.ntmps21
        go_wp2_with (go_at_call 64; refine (HS.out _).mono ?_; rintro e w' ⟨rfl, rfl⟩)
        go_ret
        exact ⟨rfl, rfl⟩
    · have t1 : decide (2805742567851819008 ≤ (r : Int)) = false := decide_eq_false (by omega)
      rw [decide_eq_false h1]
      clear h1
      go_enter Try.func21, Try.ntmps21
      go_wp2_with (go_at_call 64; refine (HS.out _).mono ?_; rintro e w' ⟨rfl, rfl⟩)
      go_ret
      exact ⟨rfl, rfl⟩
theorem fkey_small {r : Nat} (h : r < 9223372036854775808) : fkey r = (r : Int) := by unfold fkey; rw [Nat.div_eq_of_lt h, if_neg (by decide), Nat.mod_eq_of_lt h]
set_option maxHeartbeats 2000000 in
theorem rinr_any (x : Nat) (hx : x < 18446744073709551616) (w : World) : Calls Try.prog 22 #[.int .u64 x] w fun e w' => e = .returned (.bool (inrB x)) ∧ w = w' := by
  have HF := Lib.hid (fun W => rfin_any x hx W)
  have hs := shl1 hx
  cases hf : ffin x
  · have e0 : inrB x = false := by
      cases h : inrB x
      · rfl
      · rw [inr_fin h] at hf; cases hf
    rw [e0]
    rw [hf] at HF
    clear e0 hf hx
    go_enter Try.func22, Try.ntmps22
    go_wp2_with (go_at_call 24; refine (HF.out _).mono ?_; rintro e w' ⟨rfl, rfl⟩)
    go_ret
    exact ⟨rfl, rfl⟩
  · rw [hf] at HF
    unfold ffin at hf
    simp only [decide_eq_true_eq] at hf
    unfold inrB
    generalize x % 9223372036854775808 = r at *
    have hn : isnan r = false := isnan_fin (by rw [Nat.mod_eq_of_lt (by omega)]; exact hf)
    have f0 : feq r 0 = decide (r = 0) := by rw [feq_key hn (by kernel_rfl), fkey_small (by omega), show fkey 0 = 0 from by decide, Bool.eq_iff_iff]; simp only [decide_eq_true_eq]; omega
    have f1 : fle 2805742567851819008 r = decide (2805742567851819008 ≤ r) := by rw [fle_key (by kernel_rfl) hn, fkey_small (r := r) (by omega), show fkey 2805742567851819008 = 2805742567851819008 from by decide, Bool.eq_iff_iff]; simp only [decide_eq_true_eq]; omega
    have f2 : fle r 6408622269748215808 = decide (r ≤ 6408622269748215808) := by rw [fle_key hn (by kernel_rfl), fkey_small (r := r) (by omega), show fkey 6408622269748215808 = 6408622269748215808 from by decide, Bool.eq_iff_iff]; simp only [decide_eq_true_eq]; omega
    clear hf hn
    have hx' := hx
    clear hx
    cases d0 : decide (r = 0)
    · rw [d0] at f0
      clear d0
      cases d1 : decide (2805742567851819008 ≤ r)
      · rw [d1] at f1
        clear d1
        go_enter Try.func22, Try.ntmps22
        go_wp2_with (go_at_call 24; refine (HF.out _).mono ?_; rintro e w' ⟨rfl, rfl⟩)
        go_ret
        exact ⟨rfl, rfl⟩
      · rw [d1] at f1
        clear d1
        generalize decide (r ≤ 6408622269748215808) = q at *
        go_enter Try.func22, Try.ntmps22
        go_wp2_with (go_at_call 24; refine (HF.out _).mono ?_; rintro e w' ⟨rfl, rfl⟩)
        go_ret
        exact ⟨rfl, rfl⟩
    · rw [d0] at f0
      clear d0
      go_enter Try.func22, Try.ntmps22
      go_wp2_with (go_at_call 24; refine (HF.out _).mono ?_; rintro e w' ⟨rfl, rfl⟩)
      go_ret
      exact ⟨rfl, rfl⟩
end Go.Proofs.Ytogkmddhgfenkaa
