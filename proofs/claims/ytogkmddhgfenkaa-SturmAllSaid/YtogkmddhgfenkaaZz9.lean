/- Package sturm: All. -/
import Derived.Test.YtogkmddhgfenkaaZz8
import Derived.Deep.AppendLies
import Derived.Test.YtogkmddhgfenkaaZz5
import Derived.Test.YtogkmddhgfenkaaZz3
namespace Go.Proofs.Ytogkmddhgfenkaa
open Go Go.RowKit Go.Shelf
set_option maxRecDepth 100000
/-- The values, each no less than the one ahead of it. -/
def allL (ds es : List Nat) : Nat → List Nat
  | 0 => []
  | k + 1 => allL ds es k ++ [if 0 < k ∧ flt (atN (valK ds es k).1) ((allL ds es k).getD (k - 1) 0) = true then (allL ds es k).getD (k - 1) 0 else atN (valK ds es k).1]
def allM (ds es : List Nat) : Nat → Nat
  | 0 => 0
  | k + 1 => allM ds es k + (valK ds es k).2
def allE (ds es : List Nat) : Int := if askS ds es [] = 0 ∧ ds.length ≠ 0 then bndE ds es else askS ds es []
theorem allL_length (ds es : List Nat) : ∀ k, (allL ds es k).length = k
  | 0 => rfl
  | k + 1 => by unfold allL; rw [List.length_append, allL_length ds es k]; rfl
theorem fndS_le (c : Nat → Nat) (k : Int) : ∀ (f : Nat) (a b : Int) (n : Nat), (fndS c k f a b n).2 ≤ n + f
  | 0, _, _, _ => Nat.le_refl _
  | f + 1, a, b, n => by
    unfold fndS
    split
    · split
      · exact Nat.le_trans (fndS_le c k f _ _ _) (by omega)
      · exact Nat.le_trans (fndS_le c k f _ _ _) (by omega)
    · exact Nat.le_add_right _ _
theorem allM_le (ds es : List Nat) : ∀ k, allM ds es k ≤ 64 * k
  | 0 => Nat.le_refl _
  | k + 1 => by
    have h1 := allM_le ds es k
    have h2 : (valK ds es k).2 ≤ 0 + 64 := fndS_le _ _ _ _ _ _
    unfold allM
    omega
theorem ownsRow_atS {W : World} {base n : Nat} {v : Value} {xs : List Value} (h : W.ownsRow base 35 1 v n xs) {k : Nat} (hk : k < n) : ∃ g cap, v = .slice (some ⟨g, 0, none⟩) n cap ∧ W.cell? ⟨g, k, none⟩ = xs[k]? ∧ g < W.heap.size := by
  rcases h.2 with ⟨_, h0⟩ | ⟨g, cap, cur, rfl, _⟩
  · omega
  · exact ⟨g, cap, rfl, h.cellAt k (by omega), (h.lt g rfl).2⟩
theorem ownsRow_monoS {W : World} {base base' size n : Nat} {e : TypeId} {v : Value} {xs : List Value} (h : W.ownsRow base e size v n xs) (hb : base' ≤ base) : W.ownsRow base' e size v n xs := by
  refine ⟨h.1, ?_⟩
  rcases h.2 with h0 | ⟨g, cap, cur, h1, h2, h3⟩
  · exact .inl h0
  · exact .inr ⟨g, cap, cur, h1, by omega, h3⟩
theorem SK.mid {ds es : List Nat} {da ea : Option Addr} {dc ec mb Bm Bt n B : Nat} {W W' : World} (h : SK ds es da ea dc ec mb Bm Bt n W) (hb : Below B W W') (h1 : mb < B) (h2 : Bm < B) (h3 : Bt < B) (hd : Fls W' da ds) (he : Fls W' ea es) : SK ds es da ea dc ec mb Bm Bt n W' := by
  refine ⟨?_, ?_, ?_, hd, he, h.ne⟩
  · obtain ⟨D, ⟨es', clock, k1, k2⟩, k3⟩ := h.map
    exact ⟨D, ⟨es', clock, by rw [hb.block _ h1]; exact k1, k2⟩, k3⟩
  · obtain ⟨T, k⟩ := h.bm
    exact ⟨T, by rw [hb.block _ h2]; exact k⟩
  · obtain ⟨T, k⟩ := h.bt
    exact ⟨T, by rw [hb.block _ h3]; exact k⟩
theorem Box.mid {W W' : World} {B n : Nat} {cs : List Value} (h : Box W n cs) (hb : Below B W W') (hn : n < B) : Box W' n cs := by
  obtain ⟨T, k⟩ := h
  exact ⟨T, by rw [hb.block _ hn]; exact k⟩
/-- What a round of All holds on to. -/
structure AI (w : World) (ds es : List Nat) (da ea : Option Addr) (dc ec mb Bm Bt base k : Nat) (s8 : Value) (W : World) : Prop where
  row : W.ownsRow base 35 1 s8 k ((allL ds es k).map (Value.float .f64))
  sk : SK ds es da ea dc ec mb Bm Bt (64 * k) W
  bel : Below w.heap.size w W
  sz : base ≤ W.heap.size
set_option maxHeartbeats 16000000 in
theorem All_in (w : World) (da ea : Option Addr) (ds es : List Nat) (dc ec : Nat) (hD : Fls w da ds) (hE : Fls w ea es) (hW : Words es) (hl : ds.length ≤ 1000) (hl' : es.length ≤ 1000) (hz : bndE ds es = 0) :
    Calls Try.prog 41 #[.agg #[.slice da ds.length dc, .slice ea es.length ec]] w fun e w' => ∃ sv, e = .returned (.tuple #[sv, .int .i64 (allM ds es ds.length), .int .i64 0]) ∧ w'.ownsRow w.heap.size 35 1 sv ds.length ((allL ds es ds.length).map (Value.float .f64)) ∧ Below w.heap.size w w' := by
  obtain ⟨i0, hi, hz0, hz1, hz2⟩ := info_parts info_f64
  have hm : ds.length ≤ maxLen := by unfold maxLen; omega
  have hm' : es.length ≤ maxLen := by unfold maxLen; omega
  obtain ⟨hask, hn, _, _⟩ := bndE_zero hz
  have x0 : Box (w.alloc (.cells #[.slice da ds.length dc, .slice ea es.length ec] 51)) w.heap.size [.slice da ds.length dc, .slice ea es.length ec] := Box.newA w [_, _] _ rfl
  have hB0 : Below w.heap.size w (w.alloc (.cells #[.slice da ds.length dc, .slice ea es.length ec] 51)) := (Below.refl _ _).alloc (Nat.le_refl _) _
  have HA := Lib.hid (fun (W : World) (hW' : Below w.heap.size w W) => ask13_any W da ea none ds es [] dc ec 0 (hD.below hW') (hE.below hW') (fun h => absurd rfl h) hm hm' (by decide))
  have HO := Lib.hid (fun (W : World) (hW' : Below w.heap.size w W) => open13_any W da ea ds es dc ec (hD.below hW') (hE.below hW') hW hl hl')
  have HF := Lib.hid (fun (W : World) (mb Bm Bt n : Nat) (k : Int) (h : SK ds es da ea dc ec mb Bm Bt n W) (hn : n + 64 < maxLen) (hmb : mb < W.heap.size) => find_any W ds es da ea dc ec mb Bm Bt n (loS ds es) (hiS ds es) k h hn hl hl' (pl_los hz).1 (pl_los hz).2.2.2 ⟨by have := (pl_los hz).2.1; omega, by have := (pl_los hz).2.2.1; omega⟩ hmb)
  rw [hask] at HA
  have hn' : ((ds.length : Int) == 0) = false := by rw [beq_eq_false_iff_ne]; omega
  have HZ := Lib.hid hz
  have HDE := Lib.hid (show _ ∧ _ from ⟨hD, hE⟩)
  clear hm hm' hask hn hD hE hW hl' hz
  go_enter Try.func41, Try.ntmps41
  go_wp2_with fail
  refine (HA.out _ hB0).mono ?_
  rintro e w1 ⟨rfl, hb1⟩
  have y0 := x0.below hb1
  have hB1 := below_step hB0 hB0.size hb1
  clear x0 hB0 hb1 HA
  obtain ⟨a1, a2, a3⟩ := y0.facts
  go_wp2_with fail
  refine (HO.out _ hB1).mono ?_
  rintro e w2 ⟨a, b, f, mb, Bm, Bt, rfl, hS, _, hb2⟩
  obtain ⟨rfl, rfl, rfl, hS, hm1, hm2⟩ := hS HZ.out
  rw [HZ.out]
  have hs1 := hB1.size
  have hl1 := y0.lt
  have y2 := y0.below hb2
  have hB2 := below_step hB1 hB1.size hb2
  have hA : Below w2.heap.size w2 (w2.alloc (.cells #[.int .i64 (loS ds es), .int .i64 (hiS ds es), (.func (.func 97) #[] #[.pointer (some ⟨Bm, 0, none⟩), .pointer (some ⟨Bt, 0, none⟩)])] 100)) := (Below.refl _ _).alloc (Nat.le_refl _) _
  have z6 : Box (w2.alloc (.cells #[.int .i64 (loS ds es), .int .i64 (hiS ds es), (.func (.func 97) #[] #[.pointer (some ⟨Bm, 0, none⟩), .pointer (some ⟨Bt, 0, none⟩)])] 100)) w2.heap.size [.int .i64 (loS ds es), .int .i64 (hiS ds es), (.func (.func 97) #[] #[.pointer (some ⟨Bm, 0, none⟩), .pointer (some ⟨Bt, 0, none⟩)])] := Box.newA w2 [_, _, _] _ rfl
  have z0 := y2.below hA
  have hS3 := hS.below hA
  have hB3 := below_step hB2 hB2.size hA
  have hsz : (w2.alloc (.cells #[.int .i64 (loS ds es), .int .i64 (hiS ds es), (.func (.func 97) #[] #[.pointer (some ⟨Bm, 0, none⟩), .pointer (some ⟨Bt, 0, none⟩)])] 100)).heap.size = w2.heap.size + 1 := by simp
  have hbl : Bm < w2.heap.size ∧ Bt < w2.heap.size := ⟨hS.bm.lt, hS.bt.lt⟩
  have hl0 := y2.lt
  clear a1 a2 a3 y0 y2 hB1 hB2 hb2 hS hA HO
  obtain ⟨a1, a2, a3⟩ := z0.facts
  have ne1 : w.heap.size ≠ w2.heap.size := by omega
  have ne2 : w.heap.size < w2.heap.size := by omega
  have HS3 := Lib.hid (show _ ∧ _ ∧ _ ∧ _ ∧ _ ∧ _ ∧ _ ∧ _ from ⟨hS3, hB3, z0, z6, hsz, hbl, hm1, hm2⟩)
  clear hS3 hB3 z0 z6 hsz hbl hm1 hm2
  go_wp2
  clear a1 a2 a3
  obtain ⟨hS3, hB3, z0, z6, hsz, hbl, hm1, hm2⟩ := HS3.out
  generalize w2.alloc (.cells #[.int .i64 (loS ds es), .int .i64 (hiS ds es), (.func (.func 97) #[] #[.pointer (some ⟨Bm, 0, none⟩), .pointer (some ⟨Bt, 0, none⟩)])] 100) = W3 at *
  clear HS3
  go_loopw [8, 9, 35] (fun s8 s9 s35 wr => ∃ k : Nat, k ≤ ds.length ∧ s35 = .int .i64 k ∧ s9 = .int .i64 (allM ds es k : Nat) ∧ AI w ds es da ea dc ec mb Bm Bt W3.heap.size k s8 wr ∧ Box wr w.heap.size [.slice da ds.length dc, .slice ea es.length ec] ∧ Box wr w2.heap.size [.int .i64 (loS ds es), .int .i64 (hiS ds es), (.func (.func 97) #[] #[.pointer (some ⟨Bm, 0, none⟩), .pointer (some ⟨Bt, 0, none⟩)])]) (fun _ _ s35 _ => ds.length - (intOf s35).toNat)
  case atStart => exact ⟨0, Nat.zero_le _, rfl, rfl, ⟨World.ownsRow_nil _ _ _ _, hS3, hB3, Nat.le_refl _⟩, z0, z6⟩
  case round =>
    obtain ⟨k, hk, rfl, rfl, hI, hb0, hb6⟩ := hrel
    by_cases hlt : k < ds.length
    · have hkb : k + 1 ≤ 1000 := by omega
      have hmk := allM_le ds es k
      have hvk : (valK ds es k).2 ≤ 0 + 64 := fndS_le _ _ _ _ _ _
      have hM : allM ds es (k + 1) = allM ds es k + (valK ds es k).2 := rfl
      have HM := Lib.hid hM
      clear hM
      obtain ⟨e1, e2, e3⟩ := hb6.facts
      have HFk := Lib.hid (HF.out wr mb Bm Bt (64 * k) (k : Int) hI.sk (by unfold maxLen; omega) (Nat.lt_of_lt_of_le hm2 (by have := hI.sz; omega)))
      have HII := Lib.hid (show _ ∧ _ ∧ _ from ⟨hI, hb0, hb6⟩)
      clear hI hb0 hb6
      rw [show fndS (cntN ds es) (k : Int) 64 (loS ds es) (hiS ds es) 0 = valK ds es k from rfl] at HFk
      go_wp2_with fail
      refine HFk.out.mono ?_
      rintro e w4 ⟨rfl, hS4, hb4⟩
      obtain ⟨hI, hb0, hb6⟩ := HII.out
      have hsw := hI.sz
      have row4 := ownsRow_bel hI.row hb4 (by omega)
      have bel4 : Below w.heap.size w w4 := (bel_step (Bel.of hI.bel) hI.bel.size hb4).below (by omega)
      have b04 := hb0.bel (by omega) hb4
      have b64 := hb6.bel (by omega) hb4
      have hs4 := hb4.size
      have hll := allL_length ds es k
      clear e1 e2 e3 HFk HII hI hb0 hb6 hb4
      have HX := Lib.hid (show _ ∧ _ ∧ _ ∧ _ ∧ _ ∧ _ from ⟨hS4, row4, bel4, b04, b64, hs4⟩)
      clear hS4 bel4 b04 b64
      rcases Nat.eq_zero_or_pos k with h0 | h0
      · have t0 : decide ((0 : Int) < (k : Int)) = false := by simp; omega
        have t0' : decide (0 < k) = false := by simp; omega
        have HN := Lib.hid (show allL ds es (k + 1) = allL ds es k ++ [atN (valK ds es (k : Nat)).1] from by rw [allL, if_neg (fun h => absurd h.1 (by omega))])
        clear hll h0
        generalize allM ds es k = am at *
        generalize (valK ds es (k : Nat)).2 = vm at *
        generalize (valK ds es (k : Nat)).1 = vp at *
        go_wp2_with (at_builtin; refine wpList_append_lies _ rfl (.tmp 60) (.tmp 62) 24 rfl W3.heap.size 35 i0 (.float .f64 0) 1 8 Try.underlying24 hi hz0 hz1 hz2 rfl (by decide) _ k _ rfl (HX.out.2.1.alloc _) _ 1 1 [.float .f64 _] rfl rfl (cell_one_new _ _ _) (by simp [Value.oneCell']) (by decide) (by unfold maxLen; omega) (by omega) (by simp; omega) _ rfl ?_; intro g' cap' w5 hown hgrow hat hlt')
        go_roundw
        case rel =>
          obtain ⟨hS4, row4', bel4, b04, b64, hs4'⟩ := HX.out
          have hbA : Below W3.heap.size w4 (w4.alloc (.cells #[.float .f64 (atN vp)] 35)) := (Below.refl _ _).alloc (by omega) _
          have hb5 : Below W3.heap.size w4 w5 := hbA.grown hgrow (by simp; omega) (fun r e => (row4'.lt r e).1)
          have bel5 : Below w.heap.size w w5 := bel4.trans (hb5.mono (by omega))
          refine ⟨k + 1, by omega, by go_num, ?_, ⟨?_, (hS4.mono (by omega)).mid hb5 (by omega) (by omega) (by omega) (HDE.out.1.below bel5) (HDE.out.2.below bel5), bel5, by have := hb5.size; omega⟩, b04.mid hb5 (by omega), b64.mid hb5 (by omega)⟩
          · rw [HM.out]; go_num
          · rw [HN.out, List.map_append]; exact hown
        case measure => simp [intOf]; omega
      · obtain ⟨j, rfl⟩ : ∃ j, k = j + 1 := ⟨k - 1, by omega⟩
        obtain ⟨g, cap, rfl, hc, hgl⟩ := ownsRow_atS row4 (k := j) (by omega)
        have c1 : w4.cell? ⟨g, j, none⟩ = some (.float .f64 ((allL ds es (j + 1)).getD j 0)) := by
          rw [hc, List.getElem?_map]
          simp [show j < (allL ds es (j + 1)).length by omega]
        clear hc
        cases hf : flt (atN (valK ds es ((j + 1 : Nat) : Int)).1) ((allL ds es (j + 1)).getD j 0)
        · have HN := Lib.hid (show allL ds es (j + 1 + 1) = allL ds es (j + 1) ++ [atN (valK ds es (j + 1 : Nat)).1] from by rw [allL, if_neg (fun h => by have := h.2; rw [Nat.add_sub_cancel, hf] at this; cases this)])
          clear hll
          generalize allM ds es (j + 1) = am at *
          generalize (valK ds es (j + 1 : Nat)).2 = vm at *
          generalize (valK ds es (j + 1 : Nat)).1 = vp at *
          generalize (allL ds es (j + 1)).getD j 0 = wl at *
          go_wp2_with (at_builtin; refine wpList_append_lies _ rfl (.tmp 60) (.tmp 62) 24 rfl W3.heap.size 35 i0 (.float .f64 0) 1 8 Try.underlying24 hi hz0 hz1 hz2 rfl (by decide) _ (j + 1) _ rfl (HX.out.2.1.alloc _) _ 1 1 [.float .f64 _] rfl rfl (cell_one_new _ _ _) (by simp [Value.oneCell']) (by decide) (by unfold maxLen; omega) (by omega) (by simp; omega) _ rfl ?_; intro g' cap' w5 hown hgrow hat hlt')
          go_roundw
          case rel =>
            obtain ⟨hS4, row4', bel4, b04, b64, hs4'⟩ := HX.out
            have hbA : Below W3.heap.size w4 (w4.alloc (.cells #[.float .f64 (atN vp)] 35)) := (Below.refl _ _).alloc (by omega) _
            have hb5 : Below W3.heap.size w4 w5 := hbA.grown hgrow (by simp; omega) (fun r e => (row4'.lt r e).1)
            have bel5 : Below w.heap.size w w5 := bel4.trans (hb5.mono (by omega))
            refine ⟨j + 1 + 1, by omega, by go_num, ?_, ⟨?_, (hS4.mono (by omega)).mid hb5 (by omega) (by omega) (by omega) (HDE.out.1.below bel5) (HDE.out.2.below bel5), bel5, by have := hb5.size; omega⟩, b04.mid hb5 (by omega), b64.mid hb5 (by omega)⟩
            · rw [HM.out]; go_num
            · rw [HN.out, List.map_append]; exact hown
          case measure => simp [intOf]; omega
        · have HN := Lib.hid (show allL ds es (j + 1 + 1) = allL ds es (j + 1) ++ [(allL ds es (j + 1)).getD j 0] from by rw [allL, if_pos ⟨Nat.succ_pos _, by rw [Nat.add_sub_cancel]; exact hf⟩, Nat.add_sub_cancel])
          clear hll
          generalize allM ds es (j + 1) = am at *
          generalize (valK ds es (j + 1 : Nat)).2 = vm at *
          generalize (valK ds es (j + 1 : Nat)).1 = vp at *
          generalize (allL ds es (j + 1)).getD j 0 = wl at *
          go_wp2_with (at_builtin; refine wpList_append_lies _ rfl (.tmp 60) (.tmp 62) 24 rfl W3.heap.size 35 i0 (.float .f64 0) 1 8 Try.underlying24 hi hz0 hz1 hz2 rfl (by decide) _ (j + 1) _ rfl (HX.out.2.1.alloc _) _ 1 1 [.float .f64 _] rfl rfl (cell_one_new _ _ _) (by simp [Value.oneCell']) (by decide) (by unfold maxLen; omega) (by omega) (by simp; omega) _ rfl ?_; intro g' cap' w5 hown hgrow hat hlt')
          go_roundw
          case rel =>
            obtain ⟨hS4, row4', bel4, b04, b64, hs4'⟩ := HX.out
            have hbA : Below W3.heap.size w4 (w4.alloc (.cells #[.float .f64 wl] 35)) := (Below.refl _ _).alloc (by omega) _
            have hb5 : Below W3.heap.size w4 w5 := hbA.grown hgrow (by simp; omega) (fun r e => (row4'.lt r e).1)
            have bel5 : Below w.heap.size w w5 := bel4.trans (hb5.mono (by omega))
            refine ⟨j + 1 + 1, by omega, by go_num, ?_, ⟨?_, (hS4.mono (by omega)).mid hb5 (by omega) (by omega) (by omega) (HDE.out.1.below bel5) (HDE.out.2.below bel5), bel5, by have := hb5.size; omega⟩, b04.mid hb5 (by omega), b64.mid hb5 (by omega)⟩
            · rw [HM.out]; go_num
            · rw [HN.out, List.map_append]; exact hown
          case measure => simp [intOf]; omega
    · obtain rfl : k = ds.length := by omega
      have HI := Lib.hid hI
      clear hI
      go_wp2
      refine bodyPost_ret (results_tmp3 rfl _ _ _) rfl ⟨_, rfl, ownsRow_monoS HI.out.row (by omega), HI.out.bel⟩
end Go.Proofs.Ytogkmddhgfenkaa

/- A float as a number of 53 digits times a power of two; times a power of two, rounded once. Plain. -/
namespace Go.Proofs.Ytogkmddhgfenkaa
open Go
/-- The 53 digits of a size that is finite and not nought. -/
def sigR (r : Nat) : Nat := if r < 4503599627370496 then r * 2 ^ (52 - r.log2) else 4503599627370496 + r % 4503599627370496
/-- Its exponent: the number is sigR times 2 to the (expR - 1075). -/
def expR (r : Nat) : Int := if r < 4503599627370496 then (r.log2 : Int) - 51 else (r / 4503599627370496 : Nat)
theorem log2_lt52 {r : Nat} (h : r < 4503599627370496) (h0 : 0 < r) : r.log2 < 52 := (Nat.log2_lt (by omega)).2 (by rw [show (2 : Nat) ^ 52 = 4503599627370496 from by decide]; exact h)
theorem log2_scale (x d : Nat) (hx : 0 < x) : (x * 2 ^ d).log2 = x.log2 + d := by
  have h1 : x ≠ 0 := by omega
  have h2 : x * 2 ^ d ≠ 0 := Nat.ne_of_gt (Nat.mul_pos hx (Nat.two_pow_pos _))
  have a1 := (Nat.log2_eq_iff h1).1 rfl
  refine (Nat.log2_eq_iff h2).2 ⟨?_, ?_⟩
  · rw [Nat.pow_add]; exact Nat.mul_le_mul_right _ a1.1
  · rw [show x.log2 + d + 1 = (x.log2 + 1) + d by omega, Nat.pow_add]; exact Nat.mul_lt_mul_of_pos_right a1.2 (Nat.two_pow_pos _)
theorem log2_of {m k : Nat} (h1 : 2 ^ k ≤ m) (h2 : m < 2 ^ (k + 1)) : m.log2 = k := (Nat.log2_eq_iff (by have := Nat.two_pow_pos k; omega)).2 ⟨h1, h2⟩
theorem log2_sig {m : Nat} (h1 : 4503599627370496 ≤ m) (h2 : m < 9007199254740992) : m.log2 = 52 := log2_of (by rw [show (2 : Nat) ^ 52 = 4503599627370496 from by decide]; exact h1) (by rw [show (2 : Nat) ^ (52 + 1) = 9007199254740992 from by decide]; exact h2)
theorem sig_bnd {r : Nat} (h0 : 0 < r) : 4503599627370496 ≤ sigR r ∧ sigR r < 9007199254740992 := by
  unfold sigR
  by_cases h : r < 4503599627370496
  · rw [if_pos h]
    have hl := log2_lt52 h h0
    have a1 := (Nat.log2_eq_iff (show r ≠ 0 by omega)).1 rfl
    have e1 : 2 ^ r.log2 * 2 ^ (52 - r.log2) = 4503599627370496 := by rw [← Nat.pow_add, show r.log2 + (52 - r.log2) = 52 by omega]
    have e2 : 2 ^ (r.log2 + 1) * 2 ^ (52 - r.log2) = 9007199254740992 := by rw [← Nat.pow_add, show r.log2 + 1 + (52 - r.log2) = 53 by omega]
    constructor
    · rw [← e1]; exact Nat.mul_le_mul_right _ a1.1
    · rw [← e2]; exact Nat.mul_lt_mul_of_pos_right a1.2 (Nat.two_pow_pos _)
  · rw [if_neg h]
    have : r % 4503599627370496 < 4503599627370496 := Nat.mod_lt _ (by decide)
    omega
theorem exp_bnd {r : Nat} (h0 : 0 < r) (h : r < 9218868437227405312) : -51 ≤ expR r ∧ expR r ≤ 2046 := by
  unfold expR
  by_cases h1 : r < 4503599627370496
  · rw [if_pos h1]
    have := log2_lt52 h1 h0
    omega
  · rw [if_neg h1]
    omega
/-- The number. -/
theorem sig_val {r : Nat} (h0 : 0 < r) : sigR r * 2 ^ (expR r + 51).toNat = fval r * 2 ^ 52 := by
  unfold sigR expR fval
  by_cases h : r < 4503599627370496
  · have hl := log2_lt52 h h0
    rw [if_pos h, if_pos h, if_pos h, Nat.mul_assoc, ← Nat.pow_add, show 52 - r.log2 + ((r.log2 : Int) - 51 + 51).toNat = 52 by omega]
  · rw [if_neg h, if_neg h, if_neg h, Nat.mul_assoc, ← Nat.pow_add, show r / 4503599627370496 - 1 + 52 = (((r / 4503599627370496 : Nat) : Int) + 51).toNat by omega]
/-- Whichever number of 53 digits and exponent: the same size. -/
theorem sig_uniq {r m : Nat} {e : Int} (h0 : 0 < r) (hm1 : 4503599627370496 ≤ m) (hm2 : m < 9007199254740992) (he : -51 ≤ e) (h : m * 2 ^ (e + 51).toNat = fval r * 2 ^ 52) : sigR r = m ∧ expR r = e := by
  have hb := sig_bnd h0
  have hv := sig_val h0
  have hx : -51 ≤ expR r := by
    unfold expR
    by_cases h1 : r < 4503599627370496
    · rw [if_pos h1]; omega
    · rw [if_neg h1]; omega
  rw [← h] at hv
  have e1 := log2_scale (sigR r) (expR r + 51).toNat (by omega)
  have e2 := log2_scale m (e + 51).toNat (by omega)
  rw [hv, e2, log2_sig hm1 hm2, log2_sig hb.1 hb.2] at e1
  have he' : expR r = e := by omega
  rw [he'] at hv
  exact ⟨Nat.eq_of_mul_eq_mul_right (Nat.two_pow_pos _) hv, he'⟩
/-- A normal word, by its digits. -/
theorem fval_norm {m : Nat} {E : Nat} (hm1 : 4503599627370496 ≤ m) (hm2 : m < 9007199254740992) (hE : 1 ≤ E) : fval (E * 4503599627370496 + (m - 4503599627370496)) * 2 ^ 52 = m * 2 ^ ((E : Int) + 51).toNat := by
  unfold fval
  have h1 : (E * 4503599627370496 + (m - 4503599627370496)) / 4503599627370496 = E := by omega
  have h2 : (E * 4503599627370496 + (m - 4503599627370496)) % 4503599627370496 = m - 4503599627370496 := by omega
  rw [if_neg (by omega), h1, h2, Nat.mul_assoc, ← Nat.pow_add, show E - 1 + 52 = ((E : Int) + 51).toNat by omega, show 4503599627370496 + (m - 4503599627370496) = m by omega]

/-- How 53 digits are rounded. -/
def roundR (m : Nat) (e : Int) : Nat :=
  if 2047 ≤ e then 9218868437227405312
  else if 1 ≤ e then e.toNat * 4503599627370496 + (m - 4503599627370496)
  else if e < -52 then 0
  else m / 2 ^ (1 - e).toNat + (if 2 ^ (1 - e).toNat < 2 * (m % 2 ^ (1 - e).toNat) ∨ (2 ^ (1 - e).toNat = 2 * (m % 2 ^ (1 - e).toNat) ∧ m / 2 ^ (1 - e).toNat % 2 = 1) then 1 else 0)

theorem cut_plain (neg : Bool) (n d : Nat) (h : d ≤ n.log2 + 2) : Ieee.Toward.even.cut neg n d = n / 2 ^ d + (if 2 ^ d < 2 * (n % 2 ^ d) ∨ (2 ^ d = 2 * (n % 2 ^ d) ∧ n / 2 ^ d % 2 = 1) then 1 else 0) := by
  unfold Ieee.Toward.cut
  simp only [Nat.min_eq_left h, Nat.shiftLeft_eq, Nat.one_mul]
  congr 1
  by_cases h1 : 2 ^ d < 2 * (n % 2 ^ d)
  · simp [h1]
  · by_cases h2 : 2 ^ d = 2 * (n % 2 ^ d)
    · by_cases h3 : n / 2 ^ d % 2 = 1
      · rw [if_pos (.inr ⟨h2, h3⟩)]
        simp [h1, h3]
        exact h2
      · rw [if_neg (by rintro (h | h); exact h1 h; exact h3 h.2)]
        have : (n / 2 ^ d % 2 == 1) = false := by simpa using h3
        simp [h1, this]
    · rw [if_neg (by rintro (h | h); exact h1 h; exact h2 h.1)]
      have : (2 ^ d == 2 * (n % 2 ^ d)) = false := by simpa using h2
      simp [h1, this]
theorem cut_none (neg : Bool) (n d : Nat) (h0 : 0 < n) (h : n.log2 + 2 ≤ d) : Ieee.Toward.even.cut neg n d = 0 := by
  unfold Ieee.Toward.cut
  simp only [Nat.min_eq_right h, Nat.shiftLeft_eq, Nat.one_mul]
  have a1 := ((Nat.log2_eq_iff (show n ≠ 0 by omega)).1 rfl).2
  have e : 2 ^ (n.log2 + 2) = 2 * 2 ^ (n.log2 + 1) := by rw [Nat.pow_succ, Nat.mul_comm]
  have h1 : n / 2 ^ (n.log2 + 2) = 0 := Nat.div_eq_of_lt (by omega)
  have h2 : n % 2 ^ (n.log2 + 2) = n := Nat.mod_eq_of_lt (by omega)
  rw [h1, h2]
  have h3 : decide (2 ^ (n.log2 + 2) < 2 * n) = false := decide_eq_false (by omega)
  rw [h3]
  simp
/-- More digits, all noughts. -/
theorem cut_more (neg : Bool) (n d a : Nat) (h0 : 0 < n) : Ieee.Toward.even.cut neg (n * 2 ^ a) (d + a) = Ieee.Toward.even.cut neg n d := by
  have hl := log2_scale n a h0
  by_cases h : d ≤ n.log2 + 2
  · rw [cut_plain neg _ _ (by rw [hl]; omega), cut_plain neg _ _ h]
    have hp : 0 < 2 ^ a := Nat.two_pow_pos _
    have e1 : n * 2 ^ a / 2 ^ (d + a) = n / 2 ^ d := by rw [Nat.pow_add, Nat.mul_div_mul_right _ _ hp]
    have e2 : n * 2 ^ a % 2 ^ (d + a) = n % 2 ^ d * 2 ^ a := by rw [Nat.pow_add, Nat.mul_mod_mul_right]
    rw [e1, e2, Nat.pow_add, ← Nat.mul_assoc]
    generalize 2 * (n % 2 ^ d) = u
    generalize n / 2 ^ d = v
    generalize 2 ^ d = x
    have i1 : x * 2 ^ a < u * 2 ^ a ↔ x < u := Nat.mul_lt_mul_right hp
    have i2 : x * 2 ^ a = u * 2 ^ a ↔ x = u := ⟨fun h => Nat.eq_of_mul_eq_mul_right hp h, fun h => by rw [h]⟩
    simp only [i1, i2]
  · rw [cut_none neg _ _ (Nat.mul_pos h0 (Nat.two_pow_pos _)) (by rw [hl]; omega), cut_none neg _ _ h0 (by omega)]

/-- **53 digits, times a power of two.** -/
theorem nearest_sig (neg : Bool) {m : Nat} (e : Int) (hm1 : 4503599627370496 ≤ m) (hm2 : m < 9007199254740992) : Ieee.double.nearest neg m (e - 1075) = Ieee.double.word neg (roundR m e) := by
  unfold Ieee.Format.nearest roundR
  rw [if_neg (by omega)]
  simp only [least64, binade64, inf64]
  have hfb : (Ieee.double.fractionBits : Int) = 52 := rfl
  have hlog := log2_sig hm1 hm2
  rw [hfb, hlog]
  by_cases h1 : 1 ≤ e
  · have hlast : max (e - 1075 + ((52 : Nat) : Int) - 52) (-1074) = e - 1075 := by omega
    rw [hlast, Int.sub_self, Int.toNat_zero, Nat.shiftLeft_zero, cut_plain _ _ _ (Nat.zero_le _)]
    have hk : m / 2 ^ 0 + (if 2 ^ 0 < 2 * (m % 2 ^ 0) ∨ (2 ^ 0 = 2 * (m % 2 ^ 0) ∧ m / 2 ^ 0 % 2 = 1) then 1 else 0) = m := by simp [Nat.mod_one]
    rw [hk]
    have e1 : (e - 1075 - -1074).toNat = (e - 1).toNat := by congr 1; omega
    rw [e1]
    by_cases h2 : 2047 ≤ e
    · rw [if_pos h2, Nat.min_eq_right (by omega)]
    · rw [if_neg h2, if_pos h1, Nat.min_eq_left (by omega), show (e - 1).toNat * 4503599627370496 + m = e.toNat * 4503599627370496 + (m - 4503599627370496) by omega]
  · have hlast : max (e - 1075 + ((52 : Nat) : Int) - 52) (-1074) = -1074 := by omega
    rw [hlast, if_neg (by omega), if_neg h1]
    have e1 : (e - 1075 - -1074).toNat = 0 := by omega
    have e2 : (-1074 - (e - 1075)).toNat = (1 - e).toNat := by congr 1; omega
    have e3 : ((-1074 : Int) - -1074).toNat = 0 := by omega
    rw [e1, e2, e3, Nat.shiftLeft_zero, Nat.zero_mul, Nat.zero_add]
    by_cases h2 : e < -52
    · rw [if_pos h2]
      by_cases h3 : e < -53
      · rw [cut_none _ _ _ (by omega) (by omega)]; rfl
      · obtain rfl : e = -53 := by omega
        rw [cut_none _ _ _ (by omega) (by rw [hlog]; decide)]; rfl
    · rw [if_neg h2, cut_plain _ _ _ (by rw [hlog]; omega)]
      rw [Nat.min_eq_left]
      have : m / 2 ^ (1 - e).toNat ≤ m := Nat.div_le_self _ _
      split <;> omega
/-- The same with more digits, all noughts. -/
theorem nearest_more (neg : Bool) {m : Nat} (e : Int) (a : Nat) (h0 : 0 < m) : Ieee.double.nearest neg (m * 2 ^ a) (e - a) = Ieee.double.nearest neg m e := by
  have h1 : 0 < m * 2 ^ a := Nat.mul_pos h0 (Nat.two_pow_pos _)
  unfold Ieee.Format.nearest
  rw [if_neg (by omega), if_neg (by omega)]
  simp only [least64, binade64, inf64]
  have hfb : (Ieee.double.fractionBits : Int) = 52 := rfl
  rw [hfb, log2_scale m a h0]
  have hlast : max (e - (a : Int) + ((m.log2 + a : Nat) : Int) - 52) (-1074) = max (e + (m.log2 : Int) - 52) (-1074) := by omega
  rw [hlast]
  generalize max (e + (m.log2 : Int) - 52) (-1074) = L
  congr 2
  congr 1
  by_cases h : e ≤ L
  · have x1 : (e - (a : Int) - L).toNat = 0 := by omega
    have x2 : (e - L).toNat = 0 := by omega
    have x3 : (L - (e - (a : Int))).toNat = (L - e).toNat + a := by omega
    rw [x1, x2, x3, Nat.shiftLeft_zero, Nat.shiftLeft_zero, cut_more neg _ _ _ h0]
  · by_cases h2 : e - a ≤ L
    · have x1 : (e - (a : Int) - L).toNat = 0 := by omega
      have x3 : (L - e).toNat = 0 := by omega
      have x4 : (L - (e - (a : Int))).toNat = 0 + (L - (e - (a : Int))).toNat := by omega
      rw [x1, x3, Nat.shiftLeft_zero, Nat.shiftLeft_eq, x4]
      have : m * 2 ^ a = m * 2 ^ (e - L).toNat * 2 ^ (L - (e - (a : Int))).toNat := by
        rw [Nat.mul_assoc, ← Nat.pow_add, show (e - L).toNat + (L - (e - (a : Int))).toNat = a by omega]
      rw [this, cut_more neg _ _ _ (Nat.mul_pos h0 (Nat.two_pow_pos _))]
    · have x3 : (L - e).toNat = 0 := by omega
      have x4 : (L - (e - (a : Int))).toNat = 0 := by omega
      rw [x3, x4, Nat.shiftLeft_eq, Nat.shiftLeft_eq, Nat.mul_assoc, ← Nat.pow_add, show a + (e - (a : Int) - L).toNat = (e - L).toNat by omega]
/-- What a finite word that is not nought reads as, by its digits. -/
theorem read_sig {x : Nat} (hf : x % 9223372036854775808 < 9218868437227405312) (h0 : 0 < x % 9223372036854775808) : ∃ m i, Ieee.double.read x = .number (fsgn x) m i ∧ 0 < m ∧ ∀ (neg : Bool) (n : Nat) (j : Int), 0 < n → Ieee.double.nearest neg (m * n) (i + j) = Ieee.double.nearest neg (sigR (x % 9223372036854775808) * n) (expR (x % 9223372036854775808) - 1075 + j) := by
  obtain ⟨m, i, hr, hi, hm⟩ := read_fin x hf
  have hmp : 0 < m := by
    rcases Nat.eq_zero_or_pos m with h | h
    · subst h
      simp at hm
      have : fval 0 = fval (x % 9223372036854775808) := by rw [fval_zero]; exact hm
      have := fval_inj.1 this
      omega
    · exact h
  refine ⟨m, i, hr, hmp, fun neg n j hn => ?_⟩
  have hb := sig_bnd h0
  have hx := exp_bnd h0 hf
  have hv := sig_val h0
  rw [← hm, Nat.shiftLeft_eq] at hv
  generalize sigR (x % 9223372036854775808) = s at *
  generalize expR (x % 9223372036854775808) = e at *
  -- s * 2^(e+51) = m * 2^(i+1074) * 2^52
  rw [Nat.mul_assoc, ← Nat.pow_add] at hv
  have hn' := nearest_more neg (m := s * n) (e - 1075 + j) (e + 51).toNat (Nat.mul_pos (by omega) hn)
  have hm' := nearest_more neg (m := m * n) (i + j) ((i + 1074).toNat + 52) (Nat.mul_pos hmp hn)
  rw [← hn', ← hm']
  have y1 : m * n * 2 ^ ((i + 1074).toNat + 52) = s * n * 2 ^ (e + 51).toNat := by
    rw [Nat.mul_right_comm m, Nat.mul_right_comm s, hv]
  have y2 : i + j - (((i + 1074).toNat + 52 : Nat) : Int) = e - 1075 + j - ((e + 51).toNat : Int) := by omega
  rw [y1, y2]
/-- A float times 2^p, rounded once. -/
def timesW (x : Nat) (p : Int) : Nat :=
  if ffinW x = false ∨ x % 9223372036854775808 = 0 then x else Ieee.double.word (fsgn x) (roundR (sigR (x % 9223372036854775808)) (expR (x % 9223372036854775808) + p))
where ffinW (x : Nat) : Bool := decide (x % 9223372036854775808 < 9218868437227405312)
theorem round_self {r : Nat} (h0 : 0 < r) (h : r < 9218868437227405312) : roundR (sigR r) (expR r) = r := by
  have hb := sig_bnd h0
  unfold roundR
  have hx := exp_bnd h0 h
  rw [if_neg (by omega)]
  unfold sigR expR
  by_cases h1 : r < 4503599627370496
  · have hl := log2_lt52 h1 h0
    rw [if_pos h1, if_pos h1]
    by_cases h2 : (1 : Int) ≤ (r.log2 : Int) - 51
    · omega
    · rw [if_neg h2, if_neg (by omega)]
      have e1 : (1 - ((r.log2 : Int) - 51)).toNat = 52 - r.log2 := by omega
      rw [e1]
      have hp : 0 < 2 ^ (52 - r.log2) := Nat.two_pow_pos _
      rw [Nat.mul_div_cancel _ hp, Nat.mul_mod_left]
      rw [if_neg (by rintro (h | ⟨h, _⟩) <;> omega)]
      rfl
  · rw [if_neg h1, if_neg h1, if_pos (by omega)]
    omega

theorem two52 : (2 : Nat) ^ 52 = 4503599627370496 := by decide
theorem hid52 : ∃ B : Nat, B = 4503599627370496 := ⟨_, rfl⟩
theorem near_pow {s : Bool} {m M B : Nat} {i e k : Int} (hB : B = 2 ^ 52) (hm1 : 4503599627370496 ≤ M) (hm2 : M < 9007199254740992)
    (hn : ∀ (neg : Bool) (n : Nat) (j : Int), 0 < n → Ieee.double.nearest neg (m * n) (i + j) = Ieee.double.nearest neg (M * n) (e - 1075 + j)) :
    Ieee.double.nearest s (m * B) (i + (k - 52)) = Ieee.double.word s (roundR M (e + k)) := by
  rw [hn _ _ _ (by rw [hB]; exact Nat.two_pow_pos _)]
  have h2 := nearest_more s (m := M) (e + k - 1075) 52 (by omega)
  rw [hB, show e - 1075 + (k - 52) = e + k - 1075 - ((52 : Nat) : Int) by omega, h2]
  exact nearest_sig _ _ hm1 hm2
/-- Times a power of two that the format has. -/
theorem mul_pow_r {x c B : Nat} {k : Int} (hB : B = 2 ^ 52) (hc : Ieee.double.read c = .number false B (k - 52)) (hf : x % 9223372036854775808 < 9218868437227405312) (h0 : 0 < x % 9223372036854775808) :
    fmul x c = Ieee.double.word (fsgn x) (roundR (sigR (x % 9223372036854775808)) (expR (x % 9223372036854775808) + k)) := by
  obtain ⟨m, i, hr, hm, hn⟩ := read_sig hf h0
  have hb := sig_bnd h0
  have key := near_pow (s := fsgn x) (k := k) hB hb.1 hb.2 hn
  unfold fmul Ieee.Format.mul
  rw [hr, hc]
  simp only [Ieee.Datum.product, Bool.xor_false, Option.map_some, Option.getD_some]
  show Ieee.double.nearest _ _ _ = _
  exact key
theorem mul_pow_l {x c B : Nat} {k : Int} (hB : B = 2 ^ 52) (hc : Ieee.double.read c = .number false B (k - 52)) (hf : x % 9223372036854775808 < 9218868437227405312) (h0 : 0 < x % 9223372036854775808) :
    fmul c x = Ieee.double.word (fsgn x) (roundR (sigR (x % 9223372036854775808)) (expR (x % 9223372036854775808) + k)) := by
  obtain ⟨m, i, hr, hm, hn⟩ := read_sig hf h0
  have hb := sig_bnd h0
  have key := near_pow (s := fsgn x) (k := k) hB hb.1 hb.2 hn
  unfold fmul Ieee.Format.mul
  rw [hr, hc]
  simp only [Ieee.Datum.product, Bool.false_xor, Option.map_some, Option.getD_some]
  show Ieee.double.nearest _ _ _ = _
  rw [Nat.mul_comm B m, Int.add_comm (k - 52) i]
  exact key
theorem word_norm {m : Nat} {e : Int} (h1 : 1 ≤ e) (h2 : e ≤ 2046) : roundR m e = e.toNat * 4503599627370496 + (m - 4503599627370496) := by
  unfold roundR
  rw [if_neg (by omega), if_pos h1]
/-- A normal word's digits. -/
theorem norm_sig {m E : Nat} (hm1 : 4503599627370496 ≤ m) (hm2 : m < 9007199254740992) (hE : 1 ≤ E) (_hE2 : E ≤ 2046) : sigR (E * 4503599627370496 + (m - 4503599627370496)) = m ∧ expR (E * 4503599627370496 + (m - 4503599627370496)) = E := by
  unfold sigR expR
  rw [if_neg (by omega), if_neg (by omega)]
  constructor <;> omega
theorem word_parts (neg : Bool) {r : Nat} (h : r < 9223372036854775808) : Ieee.double.word neg r % 9223372036854775808 = r ∧ fsgn (Ieee.double.word neg r) = neg ∧ Ieee.double.word neg r < 18446744073709551616 := by
  rw [word_val]
  unfold fsgn
  cases neg
  · simp; omega
  · simp; omega
theorem word_self {x : Nat} (h : x < 18446744073709551616) : Ieee.double.word (fsgn x) (x % 9223372036854775808) = x := by
  rw [word_val]
  unfold fsgn
  by_cases h1 : x / 9223372036854775808 = 1
  · rw [h1]; simp; omega
  · have : x / 9223372036854775808 = 0 := by omega
    rw [this]; simp; omega
theorem roundR_le (m : Nat) (e : Int) (hm : m < 9007199254740992) : roundR m e ≤ 9218868437227405312 := by
  unfold roundR
  split
  · exact Nat.le_refl _
  · split
    · omega
    · split
      · omega
      · have : m / 2 ^ (1 - e).toNat ≤ m := Nat.div_le_self _ _
        split <;> omega
/-- Half of a float that is not small. -/
theorem div_two {x : Nat} (hf : x % 9223372036854775808 < 9218868437227405312) (h0 : 0 < x % 9223372036854775808) :
    fdiv x 4611686018427387904 = Ieee.double.word (fsgn x) (roundR (sigR (x % 9223372036854775808)) (expR (x % 9223372036854775808) - 1)) := by
  have hc : Ieee.double.read 4611686018427387904 = .number false 4503599627370496 (-51) := by decide
  obtain ⟨m, i, hr, hm, hn⟩ := read_sig hf h0
  have hb := sig_bnd h0
  unfold fdiv Ieee.Format.div
  rw [hr, hc]
  have hfb : Ieee.double.fractionBits + 2 = 54 := rfl
  have hl : Nat.log2 4503599627370496 = 52 := by decide
  simp only [Ieee.Datum.quotient, Bool.xor_false, hfb, hl]
  rw [if_neg (by decide)]
  simp only [Option.map_some, Option.getD_some]
  generalize hmore : 54 + 52 - m.log2 = more
  show Ieee.double.nearest (fsgn x) _ _ = _
  have hml : m < 2 ^ (m.log2 + 1) := ((Nat.log2_eq_iff (show m ≠ 0 by omega)).1 rfl).2
  rw [Nat.shiftLeft_eq]
  have hm53 : m < 9007199254740992 := by
    have h3 : Ieee.double.read x = .number (fsgn x) m i := hr
    unfold Ieee.Format.read at h3
    simp only [width64, binade64, inf64] at h3
    by_cases h1 : x % 9223372036854775808 < 4503599627370496
    · rw [if_pos h1] at h3
      simp only [Ieee.Datum.number.injEq] at h3
      omega
    · rw [if_neg h1, if_pos hf] at h3
      simp only [Ieee.Datum.number.injEq] at h3
      omega
  have hl2 : m.log2 < 53 := (Nat.log2_lt (by omega)).2 (by rw [show (2 : Nat) ^ 53 = 9007199254740992 from by decide]; exact hm53)
  obtain ⟨q, hq⟩ : ∃ q, more = q + 52 := ⟨more - 52, by omega⟩
  subst hq
  have e1 : m * 2 ^ (q + 52) = m * 2 ^ q * 4503599627370496 := by rw [Nat.pow_add, ← Nat.mul_assoc]
  rw [e1, Nat.mul_div_cancel _ (by decide), Nat.mul_mod_left]
  have e2 : 2 * (m * 2 ^ q) + ((0 : Nat) != 0).toNat = m * 2 ^ (q + 1) := by
    show 2 * (m * 2 ^ q) + 0 = _
    rw [Nat.add_zero, Nat.pow_succ, Nat.mul_comm 2, Nat.mul_assoc]
  rw [e2]
  have e3 : i - -51 - ((q + 52 : Nat) : Int) - 1 = (i + -1) - ((q + 1 : Nat) : Int) := by omega
  rw [e3, nearest_more _ _ _ hm]
  have := hn (fsgn x) 1 (-1) (by decide)
  rw [Nat.mul_one, Nat.mul_one] at this
  rw [this, show expR (x % 9223372036854775808) - 1075 + -1 = expR (x % 9223372036854775808) - 1 - 1075 by omega]
  exact nearest_sig _ _ hb.1 hb.2

/-! ### Bits -/
theorem and_sign_frac (y : Nat) (hy : y < 18446744073709551616) : y &&& 9227875636482146303 = y / 9223372036854775808 * 9223372036854775808 + y % 4503599627370496 := by
  have e : (9227875636482146303 : Nat) = 2 ^ 63 * 1 ||| (2 ^ 52 - 1) := by decide
  have hb : y &&& 2 ^ 63 = y / 9223372036854775808 * 9223372036854775808 := by
    rw [nat_bit, show (2 ^ 63 : Nat) = 9223372036854775808 from by decide, Nat.mod_eq_of_lt (show y / 9223372036854775808 < 2 by omega)]
  rw [e, Nat.and_or_distrib_left, Nat.mul_one, hb, Nat.and_two_pow_sub_one_eq_mod, show (2 ^ 52 : Nat) = 4503599627370496 from by decide]
  have hl : y % 4503599627370496 < 2 ^ 63 := Nat.lt_of_lt_of_le (Nat.mod_lt _ (by decide)) (by decide)
  have := Nat.two_pow_add_eq_or_of_lt hl (y / 9223372036854775808)
  rw [show (2 ^ 63 : Nat) = 9223372036854775808 from by decide] at this
  rw [Nat.mul_comm, ← this, Nat.mul_comm]
theorem or_parts (s f E : Nat) (hf : f < 4503599627370496) (hE : E < 2048) : (s * 9223372036854775808 + f) ||| (E * 4503599627370496) = s * 9223372036854775808 + (E * 4503599627370496 + f) := by
  have h1 := Nat.two_pow_add_eq_or_of_lt (show f < 2 ^ 52 from hf) E
  have h2 := Nat.two_pow_add_eq_or_of_lt (show f < 2 ^ 63 from Nat.lt_of_lt_of_le hf (by decide)) s
  have h3 := Nat.two_pow_add_eq_or_of_lt (show E * 4503599627370496 + f < 2 ^ 63 by rw [show (2 ^ 63 : Nat) = 9223372036854775808 from by decide]; omega) s
  rw [show (2 ^ 63 : Nat) = 9223372036854775808 from by decide] at h2 h3
  rw [show (2 ^ 52 : Nat) = 4503599627370496 from by decide] at h1
  rw [Nat.mul_comm s, h2, h3, Nat.or_assoc]
  congr 1
  rw [Nat.or_comm, Nat.mul_comm E, h1]
end Go.Proofs.Ytogkmddhgfenkaa

/- Package math: normalize, Frexp, Ldexp, as plain functions of the words. -/
namespace Go.Proofs.Ytogkmddhgfenkaa
open Go Go.RowKit
set_option maxRecDepth 100000
theorem isnan_wordR (neg : Bool) {r : Nat} (h : r ≤ 9218868437227405312) : isnan (Ieee.double.word neg r) = false := word_mod neg r h
theorem fkey_abs {x : Nat} : fkey (fabs x) = ((x % 9223372036854775808 : Nat) : Int) := by
  have hx : x % 9223372036854775808 < 9223372036854775808 := Nat.mod_lt _ (by decide)
  unfold fkey fabs
  rw [Nat.mod_mod, Nat.div_eq_of_lt hx, if_neg (by decide)]
theorem isnan_fin {x : Nat} (hf : x % 9223372036854775808 < 9218868437227405312) : isnan x = false := by unfold isnan; rw [decide_eq_false_iff_not]; omega
/-- The sign's part of a word, the exponent when normal, the power that was taken off. -/
def nE (r : Nat) : Nat := if r < 4503599627370496 then r.log2 + 1 else r / 4503599627370496
def nY (x : Nat) : Nat := x / 9223372036854775808 * 9223372036854775808 + (nE (x % 9223372036854775808) * 4503599627370496 + (sigR (x % 9223372036854775808) - 4503599627370496))
def ne (r : Nat) : Int := if r < 4503599627370496 then -52 else 0
theorem nE_bnd {r : Nat} (h0 : 0 < r) (h : r < 9218868437227405312) : 1 ≤ nE r ∧ nE r ≤ 2046 ∧ expR r = (nE r : Int) + ne r ∧ (ne r = 0 ∨ ne r = -52) := by
  unfold nE expR ne
  by_cases h1 : r < 4503599627370496
  · have := log2_lt52 h1 h0
    rw [if_pos h1, if_pos h1, if_pos h1]
    exact ⟨by omega, by omega, by omega, .inr rfl⟩
  · rw [if_neg h1, if_neg h1, if_neg h1]
    exact ⟨by omega, by omega, by omega, .inl rfl⟩
theorem word_sgn {x : Nat} (hx : x < 18446744073709551616) {r : Nat} : Ieee.double.word (fsgn x) r = x / 9223372036854775808 * 9223372036854775808 + r := by
  rw [word_val]
  unfold fsgn
  by_cases h1 : x / 9223372036854775808 = 1
  · rw [h1]; simp
  · have : x / 9223372036854775808 = 0 := by omega
    rw [this]; simp
theorem small_abs {x : Nat} (hf : x % 9223372036854775808 < 9218868437227405312) : flt (fabs x) 4503599627370496 = decide (x % 9223372036854775808 < 4503599627370496) := by
  rw [flt_key (by rw [isnan_fabs]; exact isnan_fin hf) (by kernel_rfl), fkey_abs, show fkey 4503599627370496 = 4503599627370496 from by decide, Bool.eq_iff_iff]
  simp only [decide_eq_true_eq]
  omega
theorem norm_mul {x : Nat} (hx : x < 18446744073709551616) (hf : x % 9223372036854775808 < 4503599627370496) (h0 : 0 < x % 9223372036854775808) : fmul x 4841369599423283200 = nY x ∧ isnan (nY x) = false := by
  have hl := log2_lt52 hf h0
  have hb := sig_bnd h0
  have e := mul_pow_r (k := 52) (B := 2 ^ 52) (c := 4841369599423283200) rfl (by decide) (show x % 9223372036854775808 < 9218868437227405312 by omega) h0
  have e2 : expR (x % 9223372036854775808) + 52 = ((nE (x % 9223372036854775808) : Nat) : Int) := by unfold expR nE; rw [if_pos hf, if_pos hf]; omega
  have hn : nE (x % 9223372036854775808) = (x % 9223372036854775808).log2 + 1 := by unfold nE; rw [if_pos hf]
  rw [e2, word_norm (by omega) (by omega), Int.toNat_natCast, word_sgn hx] at e
  refine ⟨e, ?_⟩
  have e3 : nY x = Ieee.double.word (fsgn x) (nE (x % 9223372036854775808) * 4503599627370496 + (sigR (x % 9223372036854775808) - 4503599627370496)) := by rw [word_sgn hx]; rfl
  rw [e3]
  exact isnan_wordR _ (by omega)
theorem nY_self {x : Nat} (hf : ¬ x % 9223372036854775808 < 4503599627370496) : nY x = x := by
  unfold nY nE sigR
  rw [if_neg hf, if_neg hf]
  omega
set_option maxHeartbeats 2000000 in
theorem normalize_any (x : Nat) (hx : x < 18446744073709551616) (hf : x % 9223372036854775808 < 9218868437227405312) (h0 : 0 < x % 9223372036854775808) (w : World) :
    Calls Try.prog 99 #[.float .f64 x] w fun e w' => e = .returned (.tuple #[.float .f64 (nY x), .int .i64 (ne (x % 9223372036854775808))]) ∧ Below w.heap.size w w' := by
  have HA := Lib.hid (fun W => Abs_any x hx W)
  have hs := small_abs hf
  by_cases h : x % 9223372036854775808 < 4503599627370496
  · rw [decide_eq_true h] at hs
    have HN := Lib.hid (norm_mul hx h h0)
    have HE : Hid (ne (x % 9223372036854775808) = -52) := by unfold Hid ne; rw [if_pos h]
    clear h hf h0
    go_enter Try.func99, Try.ntmps99
    go_wp2_with (first | (go_at_call 75; refine (HA.out _).mono ?_; rintro e w' ⟨rfl, rfl⟩) | (refine wpList_flt rfl rfl rfl rfl rfl ?_; intro K hK _ _; go_frame; refine hK _ _ ?_; clear hK K))
    refine bodyPost_ret (results_tmp2 rfl _ _ _) rfl ⟨?_, below_drewN _ (Below.refl _ _)⟩
    rw [HE.out, HN.out.1, raw_of_not HN.out.2]
    rfl
  · rw [decide_eq_false h] at hs
    have HN := Lib.hid (nY_self h)
    have HE : Hid (ne (x % 9223372036854775808) = 0) := by unfold Hid ne; rw [if_neg h]
    clear h hf h0
    go_enter Try.func99, Try.ntmps99
    go_wp2_with (first | (go_at_call 75; refine (HA.out _).mono ?_; rintro e w' ⟨rfl, rfl⟩) | (refine wpList_flt rfl rfl rfl rfl rfl ?_; intro K hK _ _; go_frame; refine hK _ _ ?_; clear hK K))
    refine bodyPost_ret (results_tmp2 rfl _ _ _) rfl ⟨?_, Below.refl _ _⟩
    rw [HE.out, HN.out]
    rfl
theorem Inf_pos (w : World) : Calls Try.prog 100 #[.int .i64 1] w fun e w' => e = .returned (.float .f64 9218868437227405312) ∧ w = w' := by
  go_enter Try.func100, Try.ntmps100
  go_wp2
  go_ret
  exact ⟨rfl, rfl⟩
theorem Inf_neg (w : World) : Calls Try.prog 100 #[.int .i64 (-1)] w fun e w' => e = .returned (.float .f64 18442240474082181120) ∧ w = w' := by
  go_enter Try.func100, Try.ntmps100
  go_wp2
  go_ret
  exact ⟨rfl, rfl⟩
/-- Nought with a sign. -/
theorem Copysign_zero (x : Nat) (hx : x < 18446744073709551616) (w : World) : Calls Try.prog 72 #[.float .f64 0, .float .f64 x] w fun e w' => e = .returned (.float .f64 (x / 9223372036854775808 * 9223372036854775808)) ∧ w = w' := by
  have e1 : bits .andNot .u64 0 9223372036854775808 = 0 := by kernel_rfl
  have e2 := bits_sign hx
  have e3 : bits .or .u64 0 ((x / 9223372036854775808 * 9223372036854775808 : Nat) : Int) = ((x / 9223372036854775808 * 9223372036854775808 : Nat) : Int) := by
    rw [show (0 : Int) = ((0 : Nat) : Int) from rfl, u64_or_nat 0 _ (by decide) (by omega), Nat.zero_or]
  generalize x / 9223372036854775808 * 9223372036854775808 = s at *
  go_enter Try.func72, Try.ntmps72
  go_wp2
  go_ret
  exact ⟨rfl, rfl⟩
end Go.Proofs.Ytogkmddhgfenkaa
