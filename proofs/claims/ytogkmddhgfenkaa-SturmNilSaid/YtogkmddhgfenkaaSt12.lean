/- Package sturm: All. -/
import Derived.Test.YtogkmddhgfenkaaSt11
import Derived.Deep.AppendLies
namespace Go.Proofs.Ytogkmddhgfenkaa
open Go Go.RowKit Go.Shelf
set_option maxRecDepth 100000
/-- The values, each no less than the one ahead of it. -/
def allL (ds es : List Nat) : Nat → List Nat
  | 0 => []
  | k + 1 => allL ds es k ++ [if 0 < k ∧ flt (atN (valK ds es k).1) ((allL ds es k).getD (k - 1) 0) = true then (allL ds es k).getD (k - 1) 0 else atN (valK ds es k).1]
def allM (ds es : List Nat) : Nat → Nat
  | 0 => 0
  | k + 1 => allM ds es k + (valK ds es k).2
def allE (ds es : List Nat) : Int := if askS ds es [] = 0 ∧ ds.length ≠ 0 then bndE ds es else askS ds es []
theorem allL_length (ds es : List Nat) : ∀ k, (allL ds es k).length = k
  | 0 => rfl
  | k + 1 => by unfold allL; rw [List.length_append, allL_length ds es k]; rfl
theorem fndS_le (c : Nat → Nat) (k : Int) : ∀ (f : Nat) (a b : Int) (n : Nat), (fndS c k f a b n).2 ≤ n + f
  | 0, _, _, _ => Nat.le_refl _
  | f + 1, a, b, n => by
    unfold fndS
    split
    · split
      · exact Nat.le_trans (fndS_le c k f _ _ _) (by omega)
      · exact Nat.le_trans (fndS_le c k f _ _ _) (by omega)
    · exact Nat.le_add_right _ _
theorem allM_le (ds es : List Nat) : ∀ k, allM ds es k ≤ 64 * k
  | 0 => Nat.le_refl _
  | k + 1 => by
    have h1 := allM_le ds es k
    have h2 : (valK ds es k).2 ≤ 0 + 64 := fndS_le _ _ _ _ _ _
    unfold allM
    omega
theorem ownsRow_atS {W : World} {base n : Nat} {v : Value} {xs : List Value} (h : W.ownsRow base 35 1 v n xs) {k : Nat} (hk : k < n) : ∃ g cap, v = .slice (some ⟨g, 0, none⟩) n cap ∧ W.cell? ⟨g, k, none⟩ = xs[k]? ∧ g < W.heap.size := by
  rcases h.2 with ⟨_, h0⟩ | ⟨g, cap, cur, rfl, _⟩
  · omega
  · exact ⟨g, cap, rfl, h.cellAt k (by omega), (h.lt g rfl).2⟩
theorem ownsRow_monoS {W : World} {base base' size n : Nat} {e : TypeId} {v : Value} {xs : List Value} (h : W.ownsRow base e size v n xs) (hb : base' ≤ base) : W.ownsRow base' e size v n xs := by
  refine ⟨h.1, ?_⟩
  rcases h.2 with h0 | ⟨g, cap, cur, h1, h2, h3⟩
  · exact .inl h0
  · exact .inr ⟨g, cap, cur, h1, by omega, h3⟩
theorem SK.mid {ds es : List Nat} {da ea : Option Addr} {dc ec mb Bm Bt n B : Nat} {W W' : World} (h : SK ds es da ea dc ec mb Bm Bt n W) (hb : Below B W W') (h1 : mb < B) (h2 : Bm < B) (h3 : Bt < B) (hd : Fls W' da ds) (he : Fls W' ea es) : SK ds es da ea dc ec mb Bm Bt n W' := by
  refine ⟨?_, ?_, ?_, hd, he, h.ne⟩
  · obtain ⟨D, ⟨es', clock, k1, k2⟩, k3⟩ := h.map
    exact ⟨D, ⟨es', clock, by rw [hb.block _ h1]; exact k1, k2⟩, k3⟩
  · obtain ⟨T, k⟩ := h.bm
    exact ⟨T, by rw [hb.block _ h2]; exact k⟩
  · obtain ⟨T, k⟩ := h.bt
    exact ⟨T, by rw [hb.block _ h3]; exact k⟩
theorem Box.mid {W W' : World} {B n : Nat} {cs : List Value} (h : Box W n cs) (hb : Below B W W') (hn : n < B) : Box W' n cs := by
  obtain ⟨T, k⟩ := h
  exact ⟨T, by rw [hb.block _ hn]; exact k⟩
/-- What a round of All holds on to. -/
structure AI (w : World) (ds es : List Nat) (da ea : Option Addr) (dc ec mb Bm Bt base k : Nat) (s8 : Value) (W : World) : Prop where
  row : W.ownsRow base 35 1 s8 k ((allL ds es k).map (Value.float .f64))
  sk : SK ds es da ea dc ec mb Bm Bt (64 * k) W
  bel : Below w.heap.size w W
  sz : base ≤ W.heap.size
set_option maxHeartbeats 16000000 in
theorem All_in (w : World) (da ea : Option Addr) (ds es : List Nat) (dc ec : Nat) (hD : Fls w da ds) (hE : Fls w ea es) (hW : Words es) (hl : ds.length ≤ 1000) (hl' : es.length ≤ 1000) (hz : bndE ds es = 0) :
    Calls Try.prog 41 #[.agg #[.slice da ds.length dc, .slice ea es.length ec]] w fun e w' => ∃ sv, e = .returned (.tuple #[sv, .int .i64 (allM ds es ds.length), .int .i64 0]) ∧ w'.ownsRow w.heap.size 35 1 sv ds.length ((allL ds es ds.length).map (Value.float .f64)) ∧ Below w.heap.size w w' := by
  obtain ⟨i0, hi, hz0, hz1, hz2⟩ := info_parts info_f64
  have hm : ds.length ≤ maxLen := by unfold maxLen; omega
  have hm' : es.length ≤ maxLen := by unfold maxLen; omega
  obtain ⟨hask, hn, _, _⟩ := bndE_zero hz
  have x0 : Box (w.alloc (.cells #[.slice da ds.length dc, .slice ea es.length ec] 51)) w.heap.size [.slice da ds.length dc, .slice ea es.length ec] := Box.newA w [_, _] _ rfl
  have hB0 : Below w.heap.size w (w.alloc (.cells #[.slice da ds.length dc, .slice ea es.length ec] 51)) := (Below.refl _ _).alloc (Nat.le_refl _) _
  have HA := Lib.hid (fun (W : World) (hW' : Below w.heap.size w W) => ask13_any W da ea none ds es [] dc ec 0 (hD.below hW') (hE.below hW') (fun h => absurd rfl h) hm hm' (by decide))
  have HO := Lib.hid (fun (W : World) (hW' : Below w.heap.size w W) => open13_any W da ea ds es dc ec (hD.below hW') (hE.below hW') hW hl hl')
  have HF := Lib.hid (fun (W : World) (mb Bm Bt n : Nat) (k : Int) (h : SK ds es da ea dc ec mb Bm Bt n W) (hn : n + 64 < maxLen) (hmb : mb < W.heap.size) => find_any W ds es da ea dc ec mb Bm Bt n (loS ds es) (hiS ds es) k h hn hl hl' (pl_los hz).1 (pl_los hz).2.2.2 ⟨by have := (pl_los hz).2.1; omega, by have := (pl_los hz).2.2.1; omega⟩ hmb)
  rw [hask] at HA
  have hn' : ((ds.length : Int) == 0) = false := by rw [beq_eq_false_iff_ne]; omega
  have HZ := Lib.hid hz
  have HDE := Lib.hid (show _ ∧ _ from ⟨hD, hE⟩)
  clear hm hm' hask hn hD hE hW hl' hz
  go_enter Try.func41, Try.ntmps41
  go_wp2_with fail
  refine (HA.out _ hB0).mono ?_
  rintro e w1 ⟨rfl, hb1⟩
  have y0 := x0.below hb1
  have hB1 := below_step hB0 hB0.size hb1
  clear x0 hB0 hb1 HA
  obtain ⟨a1, a2, a3⟩ := y0.facts
  go_wp2_with fail
  refine (HO.out _ hB1).mono ?_
  rintro e w2 ⟨a, b, f, mb, Bm, Bt, rfl, hS, _, hb2⟩
  obtain ⟨rfl, rfl, rfl, hS, hm1, hm2⟩ := hS HZ.out
  rw [HZ.out]
  have hs1 := hB1.size
  have hl1 := y0.lt
  have y2 := y0.below hb2
  have hB2 := below_step hB1 hB1.size hb2
  have hA : Below w2.heap.size w2 (w2.alloc (.cells #[.int .i64 (loS ds es), .int .i64 (hiS ds es), (.func (.func 97) #[] #[.pointer (some ⟨Bm, 0, none⟩), .pointer (some ⟨Bt, 0, none⟩)])] 100)) := (Below.refl _ _).alloc (Nat.le_refl _) _
  have z6 : Box (w2.alloc (.cells #[.int .i64 (loS ds es), .int .i64 (hiS ds es), (.func (.func 97) #[] #[.pointer (some ⟨Bm, 0, none⟩), .pointer (some ⟨Bt, 0, none⟩)])] 100)) w2.heap.size [.int .i64 (loS ds es), .int .i64 (hiS ds es), (.func (.func 97) #[] #[.pointer (some ⟨Bm, 0, none⟩), .pointer (some ⟨Bt, 0, none⟩)])] := Box.newA w2 [_, _, _] _ rfl
  have z0 := y2.below hA
  have hS3 := hS.below hA
  have hB3 := below_step hB2 hB2.size hA
  have hsz : (w2.alloc (.cells #[.int .i64 (loS ds es), .int .i64 (hiS ds es), (.func (.func 97) #[] #[.pointer (some ⟨Bm, 0, none⟩), .pointer (some ⟨Bt, 0, none⟩)])] 100)).heap.size = w2.heap.size + 1 := by simp
  have hbl : Bm < w2.heap.size ∧ Bt < w2.heap.size := ⟨hS.bm.lt, hS.bt.lt⟩
  have hl0 := y2.lt
  clear a1 a2 a3 y0 y2 hB1 hB2 hb2 hS hA HO
  obtain ⟨a1, a2, a3⟩ := z0.facts
  have ne1 : w.heap.size ≠ w2.heap.size := by omega
  have ne2 : w.heap.size < w2.heap.size := by omega
  have HS3 := Lib.hid (show _ ∧ _ ∧ _ ∧ _ ∧ _ ∧ _ ∧ _ ∧ _ from ⟨hS3, hB3, z0, z6, hsz, hbl, hm1, hm2⟩)
  clear hS3 hB3 z0 z6 hsz hbl hm1 hm2
  go_wp2
  clear a1 a2 a3
  obtain ⟨hS3, hB3, z0, z6, hsz, hbl, hm1, hm2⟩ := HS3.out
  generalize w2.alloc (.cells #[.int .i64 (loS ds es), .int .i64 (hiS ds es), (.func (.func 97) #[] #[.pointer (some ⟨Bm, 0, none⟩), .pointer (some ⟨Bt, 0, none⟩)])] 100) = W3 at *
  clear HS3
  go_loopw [8, 9, 35] (fun s8 s9 s35 wr => ∃ k : Nat, k ≤ ds.length ∧ s35 = .int .i64 k ∧ s9 = .int .i64 (allM ds es k : Nat) ∧ AI w ds es da ea dc ec mb Bm Bt W3.heap.size k s8 wr ∧ Box wr w.heap.size [.slice da ds.length dc, .slice ea es.length ec] ∧ Box wr w2.heap.size [.int .i64 (loS ds es), .int .i64 (hiS ds es), (.func (.func 97) #[] #[.pointer (some ⟨Bm, 0, none⟩), .pointer (some ⟨Bt, 0, none⟩)])]) (fun _ _ s35 _ => ds.length - (intOf s35).toNat)
  case atStart => exact ⟨0, Nat.zero_le _, rfl, rfl, ⟨World.ownsRow_nil _ _ _ _, hS3, hB3, Nat.le_refl _⟩, z0, z6⟩
  case round =>
    obtain ⟨k, hk, rfl, rfl, hI, hb0, hb6⟩ := hrel
    by_cases hlt : k < ds.length
    · have hkb : k + 1 ≤ 1000 := by omega
      have hmk := allM_le ds es k
      have hvk : (valK ds es k).2 ≤ 0 + 64 := fndS_le _ _ _ _ _ _
      have hM : allM ds es (k + 1) = allM ds es k + (valK ds es k).2 := rfl
      have HM := Lib.hid hM
      clear hM
      obtain ⟨e1, e2, e3⟩ := hb6.facts
      have HFk := Lib.hid (HF.out wr mb Bm Bt (64 * k) (k : Int) hI.sk (by unfold maxLen; omega) (Nat.lt_of_lt_of_le hm2 (by have := hI.sz; omega)))
      have HII := Lib.hid (show _ ∧ _ ∧ _ from ⟨hI, hb0, hb6⟩)
      clear hI hb0 hb6
      rw [show fndS (cntN ds es) (k : Int) 64 (loS ds es) (hiS ds es) 0 = valK ds es k from rfl] at HFk
      go_wp2_with fail
      refine HFk.out.mono ?_
      rintro e w4 ⟨rfl, hS4, hb4⟩
      obtain ⟨hI, hb0, hb6⟩ := HII.out
      have hsw := hI.sz
      have row4 := ownsRow_bel hI.row hb4 (by omega)
      have bel4 : Below w.heap.size w w4 := (bel_step (Bel.of hI.bel) hI.bel.size hb4).below (by omega)
      have b04 := hb0.bel (by omega) hb4
      have b64 := hb6.bel (by omega) hb4
      have hs4 := hb4.size
      have hll := allL_length ds es k
      clear e1 e2 e3 HFk HII hI hb0 hb6 hb4
      have HX := Lib.hid (show _ ∧ _ ∧ _ ∧ _ ∧ _ ∧ _ from ⟨hS4, row4, bel4, b04, b64, hs4⟩)
      clear hS4 bel4 b04 b64
      rcases Nat.eq_zero_or_pos k with h0 | h0
      · have t0 : decide ((0 : Int) < (k : Int)) = false := by simp; omega
        have t0' : decide (0 < k) = false := by simp; omega
        have HN := Lib.hid (show allL ds es (k + 1) = allL ds es k ++ [atN (valK ds es (k : Nat)).1] from by rw [allL, if_neg (fun h => absurd h.1 (by omega))])
        clear hll h0
        generalize allM ds es k = am at *
        generalize (valK ds es (k : Nat)).2 = vm at *
        generalize (valK ds es (k : Nat)).1 = vp at *
        go_wp2_with (at_builtin; refine wpList_append_lies _ rfl (.tmp 60) (.tmp 62) 24 rfl W3.heap.size 35 i0 (.float .f64 0) 1 8 Try.underlying24 hi hz0 hz1 hz2 rfl (by decide) _ k _ rfl (HX.out.2.1.alloc _) _ 1 1 [.float .f64 _] rfl rfl (cell_one_new _ _ _) (by simp [Value.oneCell']) (by decide) (by unfold maxLen; omega) (by omega) (by simp; omega) _ rfl ?_; intro g' cap' w5 hown hgrow hat hlt')
        go_roundw
        case rel =>
          obtain ⟨hS4, row4', bel4, b04, b64, hs4'⟩ := HX.out
          have hbA : Below W3.heap.size w4 (w4.alloc (.cells #[.float .f64 (atN vp)] 35)) := (Below.refl _ _).alloc (by omega) _
          have hb5 : Below W3.heap.size w4 w5 := hbA.grown hgrow (by simp; omega) (fun r e => (row4'.lt r e).1)
          have bel5 : Below w.heap.size w w5 := bel4.trans (hb5.mono (by omega))
          refine ⟨k + 1, by omega, by go_num, ?_, ⟨?_, (hS4.mono (by omega)).mid hb5 (by omega) (by omega) (by omega) (HDE.out.1.below bel5) (HDE.out.2.below bel5), bel5, by have := hb5.size; omega⟩, b04.mid hb5 (by omega), b64.mid hb5 (by omega)⟩
          · rw [HM.out]; go_num
          · rw [HN.out, List.map_append]; exact hown
        case measure => simp [intOf]; omega
      · obtain ⟨j, rfl⟩ : ∃ j, k = j + 1 := ⟨k - 1, by omega⟩
        obtain ⟨g, cap, rfl, hc, hgl⟩ := ownsRow_atS row4 (k := j) (by omega)
        have c1 : w4.cell? ⟨g, j, none⟩ = some (.float .f64 ((allL ds es (j + 1)).getD j 0)) := by
          rw [hc, List.getElem?_map]
          simp [show j < (allL ds es (j + 1)).length by omega]
        clear hc
        cases hf : flt (atN (valK ds es ((j + 1 : Nat) : Int)).1) ((allL ds es (j + 1)).getD j 0)
        · have HN := Lib.hid (show allL ds es (j + 1 + 1) = allL ds es (j + 1) ++ [atN (valK ds es (j + 1 : Nat)).1] from by rw [allL, if_neg (fun h => by have := h.2; rw [Nat.add_sub_cancel, hf] at this; cases this)])
          clear hll
          generalize allM ds es (j + 1) = am at *
          generalize (valK ds es (j + 1 : Nat)).2 = vm at *
          generalize (valK ds es (j + 1 : Nat)).1 = vp at *
          generalize (allL ds es (j + 1)).getD j 0 = wl at *
          go_wp2_with (at_builtin; refine wpList_append_lies _ rfl (.tmp 60) (.tmp 62) 24 rfl W3.heap.size 35 i0 (.float .f64 0) 1 8 Try.underlying24 hi hz0 hz1 hz2 rfl (by decide) _ (j + 1) _ rfl (HX.out.2.1.alloc _) _ 1 1 [.float .f64 _] rfl rfl (cell_one_new _ _ _) (by simp [Value.oneCell']) (by decide) (by unfold maxLen; omega) (by omega) (by simp; omega) _ rfl ?_; intro g' cap' w5 hown hgrow hat hlt')
          go_roundw
          case rel =>
            obtain ⟨hS4, row4', bel4, b04, b64, hs4'⟩ := HX.out
            have hbA : Below W3.heap.size w4 (w4.alloc (.cells #[.float .f64 (atN vp)] 35)) := (Below.refl _ _).alloc (by omega) _
            have hb5 : Below W3.heap.size w4 w5 := hbA.grown hgrow (by simp; omega) (fun r e => (row4'.lt r e).1)
            have bel5 : Below w.heap.size w w5 := bel4.trans (hb5.mono (by omega))
            refine ⟨j + 1 + 1, by omega, by go_num, ?_, ⟨?_, (hS4.mono (by omega)).mid hb5 (by omega) (by omega) (by omega) (HDE.out.1.below bel5) (HDE.out.2.below bel5), bel5, by have := hb5.size; omega⟩, b04.mid hb5 (by omega), b64.mid hb5 (by omega)⟩
            · rw [HM.out]; go_num
            · rw [HN.out, List.map_append]; exact hown
          case measure => simp [intOf]; omega
        · have HN := Lib.hid (show allL ds es (j + 1 + 1) = allL ds es (j + 1) ++ [(allL ds es (j + 1)).getD j 0] from by rw [allL, if_pos ⟨Nat.succ_pos _, by rw [Nat.add_sub_cancel]; exact hf⟩, Nat.add_sub_cancel])
          clear hll
          generalize allM ds es (j + 1) = am at *
          generalize (valK ds es (j + 1 : Nat)).2 = vm at *
          generalize (valK ds es (j + 1 : Nat)).1 = vp at *
          generalize (allL ds es (j + 1)).getD j 0 = wl at *
          go_wp2_with (at_builtin; refine wpList_append_lies _ rfl (.tmp 60) (.tmp 62) 24 rfl W3.heap.size 35 i0 (.float .f64 0) 1 8 Try.underlying24 hi hz0 hz1 hz2 rfl (by decide) _ (j + 1) _ rfl (HX.out.2.1.alloc _) _ 1 1 [.float .f64 _] rfl rfl (cell_one_new _ _ _) (by simp [Value.oneCell']) (by decide) (by unfold maxLen; omega) (by omega) (by simp; omega) _ rfl ?_; intro g' cap' w5 hown hgrow hat hlt')
          go_roundw
          case rel =>
            obtain ⟨hS4, row4', bel4, b04, b64, hs4'⟩ := HX.out
            have hbA : Below W3.heap.size w4 (w4.alloc (.cells #[.float .f64 wl] 35)) := (Below.refl _ _).alloc (by omega) _
            have hb5 : Below W3.heap.size w4 w5 := hbA.grown hgrow (by simp; omega) (fun r e => (row4'.lt r e).1)
            have bel5 : Below w.heap.size w w5 := bel4.trans (hb5.mono (by omega))
            refine ⟨j + 1 + 1, by omega, by go_num, ?_, ⟨?_, (hS4.mono (by omega)).mid hb5 (by omega) (by omega) (by omega) (HDE.out.1.below bel5) (HDE.out.2.below bel5), bel5, by have := hb5.size; omega⟩, b04.mid hb5 (by omega), b64.mid hb5 (by omega)⟩
            · rw [HM.out]; go_num
            · rw [HN.out, List.map_append]; exact hown
          case measure => simp [intOf]; omega
    · obtain rfl : k = ds.length := by omega
      have HI := Lib.hid hI
      clear hI
      go_wp2
      refine bodyPost_ret (results_tmp3 rfl _ _ _) rfl ⟨_, rfl, ownsRow_monoS HI.out.row (by omega), HI.out.bel⟩
end Go.Proofs.Ytogkmddhgfenkaa
