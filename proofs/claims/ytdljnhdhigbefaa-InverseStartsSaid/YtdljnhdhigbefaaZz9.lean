/- Layer 17: a sweep (printed by gen_ug.py). No condition but on lengths. -/
import Derived.Test.YtdljnhdhigbefaaUfZ
import Derived.Test.YtdljnhdhigbefaaZz5
namespace Go.Proofs.Ytdljnhdhigbefaa
open Go Go.RowKit
set_option maxRecDepth 1000000

theorem below_trd {B : Nat} {a w : World} (h : Below B a w) (n : Nat) : Below B a (w.drewN n) := below_drewN n h
theorem cell_lt9 {W : World} {b o : Nat} {v : Value} (h : W.cell? ⟨b, o, none⟩ = some v) : b < W.heap.size := by
  unfold World.cell? at h
  cases hh : W.heap[b]? with
  | none => rw [hh] at h; cases h
  | some x => exact (Array.getElem?_eq_some_iff.1 hh).1
theorem sgI_lt (d e : List Nat) (l k : Nat) : sgI d e l k < 18446744073709551616 := fdiv_lt _ _
theorem sgP_lt (d e : List Nat) (k : Nat) : sgP d e k < 18446744073709551616 := fdiv_lt _ _
set_option maxHeartbeats 16000000 in
theorem gsweep_any (w : World) (X l k : Nat) (q : GkP) (g : GkS) (h : StW w X q g) (hlk : l < k) (hk : k < q.n) :
    Calls Try.prog 59 #[.pointer (some ⟨X, 0, none⟩), .int .i64 l, .int .i64 k] w fun r w' => r = .returned (.tuple #[]) ∧ StW w' X q (sweepG q.n q.ru q.rv g l k) ∧ Bls [q.bd, q.be, q.bu, q.bv] w.heap.size w w' := by
  obtain ⟨k0, hk0⟩ : ∃ k0, k = k0 + 1 := ⟨k - 1, by omega⟩
  have H0 := Lib.hid h
  have HK := Lib.hid (show l < k ∧ k < q.n ∧ k < 512 ∧ k = k0 + 1 ∧ k < q.ne from ⟨hlk, hk, by have := h.hn; omega, hk0, by have := h.hn; omega⟩)
  have hw9 := w64s hk0 (by have := HK.out; omega)
  have HW9 := Lib.hid hw9
  clear h hlk hk hk0 hw9
  go_enter Try.func59, Try.ntmps59
  go_upto_region 0 with (fail)
  have hdr : Below w.heap.size w w.drew := below_drewN 1 (Below.refl _ _)
  have S1 := Lib.hid (H0.out.below hdr)
  have B1 := Lib.hid (Bls.of hdr : Bls [q.bd, q.be, q.bu, q.bv] w.heap.size w _)
  refine wp_region_items 9 [(true, 0), (true, 1), (true, 2), (true, 3), (true, 4), (true, 5), (true, 6), (true, 7), (true, 8)] (fun W => ∀ i, W.cell? ⟨X, i, none⟩ = ([.slice (some ⟨q.bd, 0, none⟩) q.n q.dc, .slice (some ⟨q.be, 0, none⟩) q.ne q.ec, .int .i64 q.ru, .int .i64 q.n, .slice q.ua (q.ru * q.n) q.uc, .int .i64 q.rv, .int .i64 q.n, .slice q.va (q.rv * q.n) q.vc, .float .f64 (raw q.big q.sb)] : List Value)[i]?) (by kernel_rfl) (by kernel_rfl) S1.out.cells.cell ?_
  generalize w.drew = z1 at *
  clear hdr
  iterate 9 (refine iW_take (v := ?_) rfl rfl ?_ ?_; rotate_left; (next => (intro w' hSw; (try dsimp only at hSw); go_simp; (try (rw [if_pos (by omega)]; go_simp)); (try with_reducible rfl))); (simp only [Act.put, List.setIfInBounds_toArray, List.set_cons_zero, List.set_cons_succ]))
  refine iW_nil ?_
  go_simp
  go_wp2_with fail
  refine NoPanic.normal ?_
  obtain ⟨dk, hdk⟩ : ∃ x, x = g.d.getD k 0 := ⟨_, rfl⟩
  obtain ⟨dl, hdl⟩ : ∃ x, x = g.d.getD l 0 := ⟨_, rfl⟩
  obtain ⟨d0, hd0⟩ : ∃ x, x = g.d.getD k0 0 := ⟨_, rfl⟩
  obtain ⟨e0, he0⟩ : ∃ x, x = g.e.getD k0 0 := ⟨_, rfl⟩
  obtain ⟨ek, hek⟩ : ∃ x, x = g.e.getD k 0 := ⟨_, rfl⟩
  have HV := Lib.hid (show dk = g.d.getD k 0 ∧ dl = g.d.getD l 0 ∧ d0 = g.d.getD k0 0 ∧ e0 = g.e.getD k0 0 ∧ ek = g.e.getD k 0 from ⟨hdk, hdl, hd0, he0, hek⟩)
  obtain ⟨sdk, cdk⟩ := S1.out.atD (i := k) (by have := HK.out; omega)
  rw [← hdk] at cdk
  obtain ⟨sdl, cdl⟩ := S1.out.atD (i := l) (by have := HK.out; omega)
  rw [← hdl] at cdl
  obtain ⟨sd0, cd0⟩ := S1.out.atD (i := k0) (by have := HK.out; omega)
  rw [← hd0] at cd0
  obtain ⟨se0, ce0⟩ := S1.out.atE (i := k0) (by have := HK.out; omega)
  rw [← he0] at ce0
  obtain ⟨sek, cek⟩ := S1.out.atE (i := k) (by have := HK.out; omega)
  rw [← hek] at cek
  clear hdk hdl hd0 he0 hek
  have hkn := HK.out.2.1
  have hke := HK.out.2.2.2.2
  have hln : l < q.n := by have := HK.out; omega
  have hkn0 : k0 < q.n := by have := HK.out; omega
  have hke0 : k0 < q.ne := by have := HK.out; omega
  have hw1 := HW9.out.1
  have hw2 := HW9.out.2
  go_upto_region 2 with (fail)
  have hdr : Below z1.heap.size z1 z1.drew := below_drewN 1 (Below.refl _ _)
  have S2 := Lib.hid (S1.out.below hdr)
  have B2 := Lib.hid (B1.out.step B1.out.size (Bls.of hdr))
  clear S1 B1
  rw [← (below_cells hdr).1 _ _ (cell_lt9 cdk)] at cdk
  rw [← (below_cells hdr).1 _ _ (cell_lt9 cdl)] at cdl
  rw [← (below_cells hdr).1 _ _ (cell_lt9 cd0)] at cd0
  rw [← (below_cells hdr).1 _ _ (cell_lt9 ce0)] at ce0
  rw [← (below_cells hdr).1 _ _ (cell_lt9 cek)] at cek
  refine wp_region_items 21 [(true, 0), (true, 1), (true, 2), (true, 3), (true, 4), (true, 5), (true, 6), (true, 7), (true, 8), (true, 9), (true, 10), (true, 11), (true, 12), (true, 13), (true, 14), (true, 15), (true, 16), (true, 17), (true, 18), (true, 19), (true, 20)] (fun W => (∀ i, W.cell? ⟨X, i, none⟩ = ([.slice (some ⟨q.bd, 0, none⟩) q.n q.dc, .slice (some ⟨q.be, 0, none⟩) q.ne q.ec, .int .i64 q.ru, .int .i64 q.n, .slice q.ua (q.ru * q.n) q.uc, .int .i64 q.rv, .int .i64 q.n, .slice q.va (q.rv * q.n) q.vc, .float .f64 (raw q.big q.sb)] : List Value)[i]?) ∧ W.cell? ⟨q.bd, k, none⟩ = some (.float .f64 (raw dk sdk)) ∧ W.cell? ⟨q.bd, l, none⟩ = some (.float .f64 (raw dl sdl)) ∧ W.cell? ⟨q.bd, k0, none⟩ = some (.float .f64 (raw d0 sd0)) ∧ W.cell? ⟨q.be, k0, none⟩ = some (.float .f64 (raw e0 se0)) ∧ W.cell? ⟨q.be, k, none⟩ = some (.float .f64 (raw ek sek))) (by kernel_rfl) (by kernel_rfl) ⟨S2.out.cells.cell, cdk, cdl, cd0, ce0, cek⟩ ?_
  generalize z1.drew = z2 at *
  clear hdr cdk cdl cd0 ce0 cek
  iterate 21 (refine iW_take (v := ?_) rfl rfl ?_ ?_; rotate_left; (next => (intro w' hSw; (try dsimp only at hSw); go_simp; (try (rw [if_pos (by omega)]; go_simp)); (try with_reducible rfl))); (simp only [Act.put, List.setIfInBounds_toArray, List.set_cons_zero, List.set_cons_succ]))
  refine iW_nil ?_
  go_simp
  go_wp2_with fail
  refine NoPanic.normal ?_
  clear hw1 hw2
  go_upto_region 4 with (first | (refine wpList_flt rfl rfl rfl rfl rfl ?_; intro K hK _ _; go_frame; refine hK _ _ ?_; clear hK K))
  rename_i s3_0 n3_0 s3_1 n3_1 s3_2 n3_2 s3_3 n3_3 s3_4 n3_4 s3_5 n3_5 s3_6 n3_6 s3_7 n3_7 s3_8 n3_8 s3_9 n3_9 K3_ A3_
  have hb : Below z2.heap.size z2 ((((((((((z2.drewN n3_0).drewN n3_1).drewN n3_2).drewN n3_3).drewN n3_4).drewN n3_5).drewN n3_6).drewN n3_7).drewN n3_8).drewN n3_9) := (below_trd ((below_trd ((below_trd ((below_trd ((below_trd ((below_trd ((below_trd ((below_trd ((below_trd ((below_trd (Below.refl _ _) _)) _)) _)) _)) _)) _)) _)) _)) _)) _)
  generalize (((((((((z2.drewN n3_0).drewN n3_1).drewN n3_2).drewN n3_3).drewN n3_4).drewN n3_5).drewN n3_6).drewN n3_7).drewN n3_8).drewN n3_9 = w3_ at *
  have S3 := Lib.hid (S2.out.below hb)
  have B3 := Lib.hid (B2.out.step B2.out.size (Bls.of hb))
  clear S2 B2
  clear hb
  simp only [fadd_rawl, fadd_rawr, fsub_rawl, fsub_rawr, fmul_rawl, fmul_rawr, fdiv_rawl, fdiv_rawr]
  obtain ⟨f0, hf0⟩ : ∃ x, x = fdiv (fadd (fmul (fsub d0 dk) (fadd d0 dk)) (fmul (fsub e0 ek) (fadd e0 ek))) (fmul (fmul 4611686018427387904 ek) d0) := ⟨_, rfl⟩
  rw [← hf0]
  have Hf0 := Lib.hid hf0
  clear hf0
  have hf0 : f0 < 18446744073709551616 := Hf0.out ▸ fdiv_lt _ _
  have HF0 := Lib.hid hf0
  clear hf0
  go_wp2_with fail
  have HY := HypotF f0 s3_9 4607182418800017408 0 HF0.out (by decide) w3_
  rw [raw_of_not (show isnan 4607182418800017408 = false by kernel_rfl)] at HY
  refine HY.mono ?_
  rintro r y1 ⟨⟨sg, rfl⟩, hb⟩
  clear HY
  have S4 := Lib.hid (S3.out.below hb)
  have B4 := Lib.hid (B3.out.step B3.out.size (Bls.of hb))
  clear S3 B3
  clear hb
  dsimp only
  obtain ⟨g0, hg0⟩ : ∃ x, x = hypW f0 4607182418800017408 := ⟨_, rfl⟩
  rw [← hg0]
  have Hg0 := Lib.hid hg0
  clear hg0
  have HG0 := Lib.hid (show g0 < 18446744073709551616 ∧ (isnan f0 = true → isnan g0 = true) from ⟨Hg0.out ▸ hypW_lt _ _, fun h => Hg0.out ▸ hyp_nan h⟩)
  go_upto_region 5 with (fail)
  go_wp2_with (first | (refine wpList_flt rfl rfl rfl rfl rfl ?_; intro K hK _ _; go_frame; refine hK _ _ ?_; clear hK K))
  rename_i s4_0 n4_0 s4_1 n4_1 s4_2 n4_2 K4_ A4_
  have hb : Below y1.heap.size y1 (y1.drewN (n4_0 + n4_1 + n4_2)) := (below_trd (Below.refl _ _) _)
  generalize y1.drewN (n4_0 + n4_1 + n4_2) = w4_ at *
  have S5 := Lib.hid (S4.out.below hb)
  have B5 := Lib.hid (B4.out.step B4.out.size (Bls.of hb))
  clear S4 B4
  clear hb
  simp only [fadd_rawl, fadd_rawr, fsub_rawl, fsub_rawr, fmul_rawl, fmul_rawr, fdiv_rawl, fdiv_rawr]
  refine (SignF g0 sg f0 s3_9 HG0.out.1 HF0.out HG0.out.2 _).mono ?_
  rintro r y2 ⟨⟨sh, rfl⟩, rfl⟩
  dsimp only
  go_upto_region 6 with (first | (refine wpList_flt rfl rfl rfl rfl rfl ?_; intro K hK _ _; go_frame; refine hK _ _ ?_; clear hK K))
  rename_i s5_0 n5_0 s5_1 n5_1 s5_2 n5_2 s5_3 n5_3 s5_4 n5_4 s5_5 n5_5 K5_ A5_
  have hb : Below w4_.heap.size w4_ ((((((w4_.drewN n5_0).drewN n5_1).drewN n5_2).drewN n5_3).drewN n5_4).drewN n5_5) := (below_trd ((below_trd ((below_trd ((below_trd ((below_trd ((below_trd (Below.refl _ _) _)) _)) _)) _)) _)) _)
  generalize (((((w4_.drewN n5_0).drewN n5_1).drewN n5_2).drewN n5_3).drewN n5_4).drewN n5_5 = w5_ at *
  have S6 := Lib.hid (S5.out.below hb)
  have B6 := Lib.hid (B5.out.step B5.out.size (Bls.of hb))
  clear S5 B5
  clear hb
  simp only [fadd_rawl, fadd_rawr, fsub_rawl, fsub_rawr, fmul_rawl, fmul_rawr, fdiv_rawl, fdiv_rawr]
  obtain ⟨fi, hfi⟩ : ∃ x, x = fdiv (fadd (fmul (fsub dl dk) (fadd dl dk)) (fmul ek (fsub (fdiv d0 (fadd f0 (sgnW g0 f0))) ek))) dl := ⟨_, rfl⟩
  rw [← hfi]
  have Hfi := Lib.hid hfi
  clear hfi
  have HFI := Lib.hid (show fi = sgI g.d g.e l k ∧ dl = g.d.getD l 0 ∧ fi < 18446744073709551616 ∧ dl < 18446744073709551616 by
    refine ⟨?_, HV.out.2.1, Hfi.out ▸ fdiv_lt _ _, HV.out.2.1 ▸ H0.out.wd.at _⟩
    obtain ⟨v1, v2, v3, v4, v5⟩ := HV.out
    have e : k - 1 = k0 := by have := HK.out; omega
    rw [Hfi.out]; unfold sgI
    have e2 : sgP g.d g.e k = f0 := by rw [Hf0.out]; unfold sgP; rw [e, ← v1, ← v3, ← v4, ← v5]
    rw [e2, e, ← v1, ← v2, ← v3, ← v5, ← Hg0.out])
  clear Hfi Hf0 HG0 HF0 Hg0 HV hkn hke hln hkn0 hke0 HW9
  go_wp2_with fail
  go_loopw [9, 13, 14, 15, 16] (fun s9 s13 s14 s15 s16 wr => ∃ (j : Nat) (y : SgS) (sa sf sc ss : Nat), l ≤ j ∧ j ≤ k ∧ s9 = .float .f64 (raw y.a sa) ∧ s13 = .float .f64 (raw y.f sf) ∧ s14 = .float .f64 (raw y.c sc) ∧ s15 = .float .f64 (raw y.s ss) ∧ s16 = .int .i64 j ∧ y = sgL q.n q.ru q.rv l (j - l) (sg0 g l k) ∧ StW wr X q y.x ∧ (y.a < 18446744073709551616 ∧ y.f < 18446744073709551616 ∧ y.c < 18446744073709551616 ∧ y.s < 18446744073709551616) ∧ Bls [q.bd, q.be, q.bu, q.bv] w.heap.size w wr) (fun _ _ _ _ s16 _ => k - (intOf s16).toNat)
  case atStart => exact ⟨l, sg0 g l k, sdl, s5_5, 0, 0, Nat.le_refl _, by have := HK.out; omega, by rw [HFI.out.2.1]; rfl, by rw [HFI.out.1]; rfl, by show _ = Value.float .f64 (raw 4607182418800017408 0); rw [raw_of_not (by kernel_rfl)], by show _ = Value.float .f64 (raw 4607182418800017408 0); rw [raw_of_not (by kernel_rfl)], rfl, by rw [Nat.sub_self]; rfl, S6.out, ⟨(show g.d.getD l 0 < 18446744073709551616 from HFI.out.2.1 ▸ HFI.out.2.2.2), (show sgI g.d g.e l k < 18446744073709551616 from HFI.out.1 ▸ HFI.out.2.2.1), (show (4607182418800017408 : Nat) < 18446744073709551616 by decide), (show (4607182418800017408 : Nat) < 18446744073709551616 by decide)⟩, B6.out⟩
  case round =>
    clear S6 B6 HFI
    obtain ⟨j, y, sa, sf, sc, ss, hlj, hjk, rfl, rfl, rfl, rfl, rfl, hy, hS, hW, hB⟩ := hrel
    have T1 := Lib.hid hS
    have B1 := Lib.hid hB
    have HY := Lib.hid hy
    have HWd := Lib.hid hW
    have HJ := Lib.hid (And.intro hlj hjk)
    clear hS hB hy hW hlj hjk
    by_cases hjk : j < k
    case pos =>
      have HIK := Lib.hid (show j + 1 < q.n ∧ j + 1 < q.ne ∧ j < q.n ∧ j < q.ne ∧ j < 600 ∧ j < k from by have := HK.out; exact ⟨by omega, by omega, by omega, by omega, by omega, hjk⟩)
      have w1 : wrap64 ((j : Int) + 1) = ((j + 1 : Nat) : Int) ∧ IntKind.i64.wrap ((j : Int) + 1) = ((j + 1 : Nat) : Int) := by have := HIK.out.2.2.2.2.1; exact ⟨by unfold wrap64; omega, by rw [IntKind.wrap_i64]; omega⟩
      obtain ⟨i, hi⟩ : ∃ i, i = j + 1 := ⟨_, rfl⟩
      rw [← hi] at w1 HIK
      have HI := Lib.hid hi
      clear hi
      obtain ⟨w11, w12⟩ := w1
      have hin := HIK.out.1
      have hie := HIK.out.2.1
      have hjn := HIK.out.2.2.1
      have hje := HIK.out.2.2.2.1
      obtain ⟨ei, hei⟩ : ∃ x, x = y.x.e.getD i 0 := ⟨_, rfl⟩
      obtain ⟨di, hdi⟩ : ∃ x, x = y.x.d.getD i 0 := ⟨_, rfl⟩
      obtain ⟨sei, cei⟩ := T1.out.atE (i := i) hie
      obtain ⟨sdi, cdi⟩ := T1.out.atD (i := i) hin
      rw [← hei] at cei
      rw [← hdi] at cdi
      have HED := Lib.hid (show ei = y.x.e.getD i 0 ∧ di = y.x.d.getD i 0 from ⟨hei, hdi⟩)
      clear hei hdi
      go_upto_region 11 with (fail)
      have hdr : Below wr.heap.size wr wr.drew := below_drewN 1 (Below.refl _ _)
      have S7 := Lib.hid (T1.out.below hdr)
      have B7 := Lib.hid (B1.out.step B1.out.size (Bls.of hdr))
      clear T1 B1
      rw [← (below_cells hdr).1 _ _ (cell_lt9 cei)] at cei
      rw [← (below_cells hdr).1 _ _ (cell_lt9 cdi)] at cdi
      refine wp_region_items 9 [(true, 0), (true, 1), (true, 2), (true, 3), (true, 4), (true, 5), (true, 6), (true, 7), (true, 8)] (fun W => (∀ i, W.cell? ⟨X, i, none⟩ = ([.slice (some ⟨q.bd, 0, none⟩) q.n q.dc, .slice (some ⟨q.be, 0, none⟩) q.ne q.ec, .int .i64 q.ru, .int .i64 q.n, .slice q.ua (q.ru * q.n) q.uc, .int .i64 q.rv, .int .i64 q.n, .slice q.va (q.rv * q.n) q.vc, .float .f64 (raw q.big q.sb)] : List Value)[i]?) ∧ W.cell? ⟨q.be, i, none⟩ = some (.float .f64 (raw ei sei)) ∧ W.cell? ⟨q.bd, i, none⟩ = some (.float .f64 (raw di sdi))) (by kernel_rfl) (by kernel_rfl) ⟨S7.out.cells.cell, cei, cdi⟩ ?_
      generalize wr.drew = z6 at *
      clear hdr cei cdi
      iterate 9 (refine iW_take (v := ?_) rfl rfl ?_ ?_; rotate_left; (next => (intro w' hSw; (try dsimp only at hSw); go_simp; (try (rw [if_pos (by omega)]; go_simp)); (try with_reducible rfl))); (simp only [Act.put, List.setIfInBounds_toArray, List.set_cons_zero, List.set_cons_succ]))
      refine iW_nil ?_
      go_simp
      go_wp2_with fail
      refine NoPanic.normal ?_
      go_upto_region 13 with (first | (refine wpList_flt rfl rfl rfl rfl rfl ?_; intro K hK _ _; go_frame; refine hK _ _ ?_; clear hK K))
      rename_i s7_0 n7_0 s7_1 n7_1 K7_ A7_
      have hb : Below z6.heap.size z6 ((z6.drewN n7_0).drewN n7_1) := (below_trd ((below_trd (Below.refl _ _) _)) _)
      generalize (z6.drewN n7_0).drewN n7_1 = w7_ at *
      have S8 := Lib.hid (S7.out.below hb)
      have B8 := Lib.hid (B7.out.step B7.out.size (Bls.of hb))
      clear S7 B7
      clear hb
      simp only [fadd_rawl, fadd_rawr, fsub_rawl, fsub_rawr, fmul_rawl, fmul_rawr, fdiv_rawl, fdiv_rawr]
      obtain ⟨hh, hhh⟩ : ∃ x, x = fmul y.s ei := ⟨_, rfl⟩
      rw [← hhh]
      have Hhh := Lib.hid hhh
      clear hhh
      obtain ⟨gg, hgg⟩ : ∃ x, x = fmul y.c ei := ⟨_, rfl⟩
      rw [← hgg]
      have Hgg := Lib.hid hgg
      clear hgg
      have Hbd := Lib.hid (show hh < 18446744073709551616 ∧ gg < 18446744073709551616 from ⟨Hhh.out ▸ fmul_lt _ _, Hgg.out ▸ fmul_lt _ _⟩)
      go_wp2_with fail
      refine (HypotF y.f sf hh s7_0 HWd.out.2.1 Hbd.out.1 _).mono ?_
      rintro r y8_ ⟨⟨tzz, rfl⟩, hb⟩
      have S9 := Lib.hid (S8.out.below hb)
      have B9 := Lib.hid (B8.out.step B8.out.size (Bls.of hb))
      clear S8 B8
      clear hb
      dsimp only
      obtain ⟨zz, hzz⟩ : ∃ x, x = hypW y.f hh := ⟨_, rfl⟩
      rw [← hzz]
      have Hzz := Lib.hid hzz
      clear hzz
      have Hbzz := Lib.hid (show zz < 18446744073709551616 from Hzz.out ▸ hypW_lt _ _)
      obtain ⟨a1, a2, a3⟩ := S9.out.cells.facts
      obtain ⟨so, co⟩ := S9.out.atE (i := j) hje
      have lo := S9.out.e.lt
      have fo := S9.out.e.frozen
      go_upto_region 15 with (fail)
      clear a1 a2 a3 co lo fo
      obtain ⟨x10, hx10⟩ : ∃ x, x = y8_.setCell ⟨q.be, j, none⟩ (.float .f64 (raw zz tzz)) := ⟨_, rfl⟩
      rw [← hx10]
      have S10 := Lib.hid (show StW x10 X q ⟨y.x.d, y.x.e.set j zz, y.x.u, y.x.v⟩ from hx10 ▸ S9.out.setE j zz tzz Hbzz.out)
      have B10 := Lib.hid (hx10 ▸ B9.out.set (s := q.be) (by simp) _ _)
      clear hx10 S9 B9
      go_upto_region 16 with (first | (refine wpList_flt rfl rfl rfl rfl rfl ?_; intro K hK _ _; go_frame; refine hK _ _ ?_; clear hK K))
      rename_i s9_0 n9_0 s9_1 n9_1 K9_ A9_
      have hb : Below x10.heap.size x10 ((x10.drewN n9_0).drewN n9_1) := (below_trd ((below_trd (Below.refl _ _) _)) _)
      generalize (x10.drewN n9_0).drewN n9_1 = w9_ at *
      have S11 := Lib.hid (S10.out.below hb)
      have B11 := Lib.hid (B10.out.step B10.out.size (Bls.of hb))
      clear S10 B10
      clear hb
      simp only [fadd_rawl, fadd_rawr, fsub_rawl, fsub_rawr, fmul_rawl, fmul_rawr, fdiv_rawl, fdiv_rawr]
      obtain ⟨cc, hcc⟩ : ∃ x, x = fdiv y.f zz := ⟨_, rfl⟩
      rw [← hcc]
      have Hcc := Lib.hid hcc
      clear hcc
      obtain ⟨s1, hs1⟩ : ∃ x, x = fdiv hh zz := ⟨_, rfl⟩
      rw [← hs1]
      have Hs1 := Lib.hid hs1
      clear hs1
      go_upto_region 17 with (first | (refine wpList_flt rfl rfl rfl rfl rfl ?_; intro K hK _ _; go_frame; refine hK _ _ ?_; clear hK K))
      rename_i s10_0 n10_0 s10_1 n10_1 s10_2 n10_2 s10_3 n10_3 s10_4 n10_4 s10_5 n10_5 K10_ A10_
      have hb : Below w9_.heap.size w9_ ((((((w9_.drewN n10_0).drewN n10_1).drewN n10_2).drewN n10_3).drewN n10_4).drewN n10_5) := (below_trd ((below_trd ((below_trd ((below_trd ((below_trd ((below_trd (Below.refl _ _) _)) _)) _)) _)) _)) _)
      generalize (((((w9_.drewN n10_0).drewN n10_1).drewN n10_2).drewN n10_3).drewN n10_4).drewN n10_5 = w10_ at *
      have S12 := Lib.hid (S11.out.below hb)
      have B12 := Lib.hid (B11.out.step B11.out.size (Bls.of hb))
      clear S11 B11
      clear hb
      simp only [fadd_rawl, fadd_rawr, fsub_rawl, fsub_rawr, fmul_rawl, fmul_rawr, fdiv_rawl, fdiv_rawr]
      obtain ⟨f1, hf1⟩ : ∃ x, x = fadd (fmul y.a cc) (fmul gg s1) := ⟨_, rfl⟩
      rw [← hf1]
      have Hf1 := Lib.hid hf1
      clear hf1
      obtain ⟨g1, hg1⟩ : ∃ x, x = fsub (fmul gg cc) (fmul y.a s1) := ⟨_, rfl⟩
      rw [← hg1]
      have Hg1 := Lib.hid hg1
      clear hg1
      go_upto_region 18 with (first | (refine wpList_flt rfl rfl rfl rfl rfl ?_; intro K hK _ _; go_frame; refine hK _ _ ?_; clear hK K))
      rename_i s11_0 n11_0 s11_1 n11_1 K11_ A11_
      have hb : Below w10_.heap.size w10_ ((w10_.drewN n11_0).drewN n11_1) := (below_trd ((below_trd (Below.refl _ _) _)) _)
      generalize (w10_.drewN n11_0).drewN n11_1 = w11_ at *
      have S13 := Lib.hid (S12.out.below hb)
      have B13 := Lib.hid (B12.out.step B12.out.size (Bls.of hb))
      clear S12 B12
      clear hb
      simp only [fadd_rawl, fadd_rawr, fsub_rawl, fsub_rawr, fmul_rawl, fmul_rawr, fdiv_rawl, fdiv_rawr]
      obtain ⟨h1, hh1⟩ : ∃ x, x = fmul di s1 := ⟨_, rfl⟩
      rw [← hh1]
      have Hh1 := Lib.hid hh1
      clear hh1
      obtain ⟨y1, hy1⟩ : ∃ x, x = fmul di cc := ⟨_, rfl⟩
      rw [← hy1]
      have Hy1 := Lib.hid hy1
      clear hy1
      have hdr : Below w11_.heap.size w11_ w11_.drew := below_drewN 1 (Below.refl _ _)
      have S14 := Lib.hid (S13.out.below hdr)
      have B14 := Lib.hid (B13.out.step B13.out.size (Bls.of hdr))
      clear S13 B13
      refine wp_region_items 9 [(true, 0), (true, 1), (true, 2), (true, 3), (true, 4), (true, 5), (true, 6), (true, 7), (false, 8)] (fun W => ∀ i, W.cell? ⟨X, i, none⟩ = ([.slice (some ⟨q.bd, 0, none⟩) q.n q.dc, .slice (some ⟨q.be, 0, none⟩) q.ne q.ec, .int .i64 q.ru, .int .i64 q.n, .slice q.ua (q.ru * q.n) q.uc, .int .i64 q.rv, .int .i64 q.n, .slice q.va (q.rv * q.n) q.vc, .float .f64 (raw q.big q.sb)] : List Value)[i]?) (by kernel_rfl) (by kernel_rfl) S14.out.cells.cell ?_
      generalize w11_.drew = z12 at *
      clear hdr
      iterate 8 (refine iW_take (v := ?_) rfl rfl ?_ ?_; rotate_left; (next => (intro w' hSw; (try dsimp only at hSw); go_simp; (try (rw [if_pos (by omega)]; go_simp)); (try with_reducible rfl))); (simp only [Act.put, List.setIfInBounds_toArray, List.set_cons_zero, List.set_cons_succ]))
      refine iW_mid rfl rfl ?_
      go_simp
      refine (by_any _ cc s9_0 s1 s9_1).mono ?_
      rintro r v13_ ⟨⟨fv, rfl, hT⟩, hb⟩
      have HT := Lib.hid (fun h0 => hT q.bv (S14.out.vlt h0))
      have S15 := Lib.hid (S14.out.below hb)
      have B15 := Lib.hid (B14.out.step B14.out.size (Bls.of hb))
      clear S14 B14
      refine ⟨S15.out.cells.cell, ?_⟩
      clear hT hb
      refine iW_nil ?_
      go_simp
      go_wp2_with fail
      have HCol := Lib.hid (cols_any _ j i fv (rotA cc s1) (rotB cc s1) S15.out.v hjn hin S15.out.hn.2.2.2.2 S15.out.hn.2.2.1 HT.out (rotAB cc s1))
      rw [S15.out.v.len] at HCol
      refine HCol.out.mono ?_
      rintro r v14_ ⟨rfl, hu, hb⟩
      have S16 := Lib.hid (show StW v14_ X q ⟨y.x.d, y.x.e.set j zz, y.x.u, rotL y.x.v q.n j i cc s1 q.rv⟩ from S15.out.putV hu hb)
      have B16 := Lib.hid (B15.out.step B15.out.size (Bls.ofBel hb (by simp)))
      clear hu hb HCol HT S15 B15
      dsimp only
      go_wp2_with fail
      refine NoPanic.normal ?_
      have Hbe := Lib.hid (show f1 < 18446744073709551616 ∧ h1 < 18446744073709551616 from ⟨Hf1.out ▸ fadd_lt _ _, Hh1.out ▸ fmul_lt _ _⟩)
      go_wp2_with fail
      refine (HypotF f1 s10_2 h1 s11_0 Hbe.out.1 Hbe.out.2 _).mono ?_
      rintro r y15_ ⟨⟨tz2, rfl⟩, hb⟩
      have S17 := Lib.hid (S16.out.below hb)
      have B17 := Lib.hid (B16.out.step B16.out.size (Bls.of hb))
      clear S16 B16
      clear hb
      dsimp only
      obtain ⟨z2, hz2⟩ : ∃ x, x = hypW f1 h1 := ⟨_, rfl⟩
      rw [← hz2]
      have Hz2 := Lib.hid hz2
      clear hz2
      have Hbz2 := Lib.hid (show z2 < 18446744073709551616 from Hz2.out ▸ hypW_lt _ _)
      obtain ⟨a1, a2, a3⟩ := S17.out.cells.facts
      obtain ⟨so, co⟩ := S17.out.atD (i := j) hjn
      have lo := S17.out.d.lt
      have fo := S17.out.d.frozen
      go_upto_region 21 with (fail)
      clear a1 a2 a3 co lo fo
      obtain ⟨x18, hx18⟩ : ∃ x, x = y15_.setCell ⟨q.bd, j, none⟩ (.float .f64 (raw z2 tz2)) := ⟨_, rfl⟩
      rw [← hx18]
      have S18 := Lib.hid (show StW x18 X q ⟨y.x.d.set j z2, y.x.e.set j zz, y.x.u, rotL y.x.v q.n j i cc s1 q.rv⟩ from hx18 ▸ S17.out.setD j z2 tz2 Hbz2.out)
      have B18 := Lib.hid (hx18 ▸ B17.out.set (s := q.bd) (by simp) _ _)
      clear hx18 S17 B17
      cases hz : feq z2 0
      case false =>
        go_upto_region 22 with (fail)
        go_upto_region 23 with (first | (refine wpList_flt rfl rfl rfl rfl rfl ?_; intro K hK _ _; go_frame; refine hK _ _ ?_; clear hK K))
        rename_i s16_0 n16_0
        have hb : Below x18.heap.size x18 (x18.drewN n16_0) := (below_trd (Below.refl _ _) _)
        generalize x18.drewN n16_0 = w16_ at *
        have S19 := Lib.hid (S18.out.below hb)
        have B19 := Lib.hid (B18.out.step B18.out.size (Bls.of hb))
        clear S18 B18
        clear hb
        simp only [fadd_rawl, fadd_rawr, fsub_rawl, fsub_rawr, fmul_rawl, fmul_rawr, fdiv_rawl, fdiv_rawr]
        obtain ⟨iz, hiz⟩ : ∃ x, x = fdiv 4607182418800017408 z2 := ⟨_, rfl⟩
        rw [← hiz]
        have Hiz := Lib.hid hiz
        clear hiz
        go_upto_region 24 with (first | (refine wpList_flt rfl rfl rfl rfl rfl ?_; intro K hK _ _; go_frame; refine hK _ _ ?_; clear hK K))
        rename_i s17_0 n17_0 s17_1 n17_1 K17_ A17_
        have hb : Below w16_.heap.size w16_ ((w16_.drewN n17_0).drewN n17_1) := (below_trd ((below_trd (Below.refl _ _) _)) _)
        generalize (w16_.drewN n17_0).drewN n17_1 = w17_ at *
        have S20 := Lib.hid (S19.out.below hb)
        have B20 := Lib.hid (B19.out.step B19.out.size (Bls.of hb))
        clear S19 B19
        clear hb
        simp only [fadd_rawl, fadd_rawr, fsub_rawl, fsub_rawr, fmul_rawl, fmul_rawr, fdiv_rawl, fdiv_rawr]
        obtain ⟨c2, hc2⟩ : ∃ x, x = fmul f1 iz := ⟨_, rfl⟩
        rw [← hc2]
        have Hc2 := Lib.hid hc2
        clear hc2
        obtain ⟨s2, hs2⟩ : ∃ x, x = fmul h1 iz := ⟨_, rfl⟩
        rw [← hs2]
        have Hs2 := Lib.hid hs2
        clear hs2
        have Hbcs := Lib.hid (show c2 < 18446744073709551616 ∧ s2 < 18446744073709551616 from ⟨Hc2.out ▸ fmul_lt _ _, Hs2.out ▸ fmul_lt _ _⟩)
        go_upto_region 25 with (first | (refine wpList_flt rfl rfl rfl rfl rfl ?_; intro K hK _ _; go_frame; refine hK _ _ ?_; clear hK K))
        rename_i s18_0 n18_0 s18_1 n18_1 s18_2 n18_2 s18_3 n18_3 s18_4 n18_4 s18_5 n18_5
        have hb : Below w17_.heap.size w17_ ((((((w17_.drewN n18_0).drewN n18_1).drewN n18_2).drewN n18_3).drewN n18_4).drewN n18_5) := (below_trd ((below_trd ((below_trd ((below_trd ((below_trd ((below_trd (Below.refl _ _) _)) _)) _)) _)) _)) _)
        generalize (((((w17_.drewN n18_0).drewN n18_1).drewN n18_2).drewN n18_3).drewN n18_4).drewN n18_5 = w18_ at *
        have S21 := Lib.hid (S20.out.below hb)
        have B21 := Lib.hid (B20.out.step B20.out.size (Bls.of hb))
        clear S20 B20
        clear hb
        simp only [fadd_rawl, fadd_rawr, fsub_rawl, fsub_rawr, fmul_rawl, fmul_rawr, fdiv_rawl, fdiv_rawr]
        obtain ⟨f2, hf2⟩ : ∃ x, x = fadd (fmul c2 g1) (fmul s2 y1) := ⟨_, rfl⟩
        rw [← hf2]
        have Hf2 := Lib.hid hf2
        clear hf2
        obtain ⟨a2, ha2⟩ : ∃ x, x = fsub (fmul c2 y1) (fmul s2 g1) := ⟨_, rfl⟩
        rw [← ha2]
        have Ha2 := Lib.hid ha2
        clear ha2
        have HN := Lib.hid (show sgN q.n q.ru q.rv y j = ⟨⟨y.x.d.set j z2, y.x.e.set j zz, rotL y.x.u q.n j i c2 s2 q.ru, rotL y.x.v q.n j i cc s1 q.rv⟩, f2, a2, c2, s2⟩ by
          have e1 : sgH y i = hh := by unfold sgH; rw [← HED.out.1]; exact Hhh.out.symm
          have e2 : sgG y i = gg := by unfold sgG; rw [← HED.out.1]; exact Hgg.out.symm
          have e3 : sgZ y i = zz := by unfold sgZ; rw [e1]; exact Hzz.out.symm
          have e4 : sgC y i = cc := by unfold sgC; rw [e3]; exact Hcc.out.symm
          have e5 : sgS y i = s1 := by unfold sgS; rw [e1, e3]; exact Hs1.out.symm
          have e6 : sgF1 y i = f1 := by unfold sgF1; rw [e4, e2, e5]; exact Hf1.out.symm
          have e7 : sgG1 y i = g1 := by unfold sgG1; rw [e2, e4, e5]; exact Hg1.out.symm
          have e8 : sgH1 y i = h1 := by unfold sgH1; rw [← HED.out.2, e5]; exact Hh1.out.symm
          have e9 : sgY1 y i = y1 := by unfold sgY1; rw [← HED.out.2, e4]; exact Hy1.out.symm
          have e10 : sgZ2 y i = z2 := by unfold sgZ2; rw [e6, e8]; exact Hz2.out.symm
          have e11 : sgC2 y i = c2 := by unfold sgC2; rw [e10, e6, hz, if_neg (by decide), ← Hiz.out]; exact Hc2.out.symm
          have e12 : sgS2 y i = s2 := by unfold sgS2; rw [e10, e8, hz, if_neg (by decide), ← Hiz.out]; exact Hs2.out.symm
          have e13 : sgF2 y i = f2 := by unfold sgF2; rw [e11, e7, e12, e9]; exact Hf2.out.symm
          have e14 : sgA2 y i = a2 := by unfold sgA2; rw [e11, e9, e12, e7]; exact Ha2.out.symm
          unfold sgN
          rw [← HI.out, e10, e3, e11, e12, e4, e5, e13, e14])
        have hdr : Below w18_.heap.size w18_ w18_.drew := below_drewN 1 (Below.refl _ _)
        have S22 := Lib.hid (S21.out.below hdr)
        have B22 := Lib.hid (B21.out.step B21.out.size (Bls.of hdr))
        clear S21 B21
        refine wp_region_items 9 [(true, 0), (true, 1), (true, 2), (true, 3), (true, 4), (true, 5), (true, 6), (true, 7), (false, 8)] (fun W => ∀ i, W.cell? ⟨X, i, none⟩ = ([.slice (some ⟨q.bd, 0, none⟩) q.n q.dc, .slice (some ⟨q.be, 0, none⟩) q.ne q.ec, .int .i64 q.ru, .int .i64 q.n, .slice q.ua (q.ru * q.n) q.uc, .int .i64 q.rv, .int .i64 q.n, .slice q.va (q.rv * q.n) q.vc, .float .f64 (raw q.big q.sb)] : List Value)[i]?) (by kernel_rfl) (by kernel_rfl) S22.out.cells.cell ?_
        generalize w18_.drew = z19 at *
        clear hdr
        iterate 8 (refine iW_take (v := ?_) rfl rfl ?_ ?_; rotate_left; (next => (intro w' hSw; (try dsimp only at hSw); go_simp; (try (rw [if_pos (by omega)]; go_simp)); (try with_reducible rfl))); (simp only [Act.put, List.setIfInBounds_toArray, List.set_cons_zero, List.set_cons_succ]))
        refine iW_mid rfl rfl ?_
        go_simp
        refine (by_any _ c2 s17_0 s2 s17_1).mono ?_
        rintro r v20_ ⟨⟨fv, rfl, hT⟩, hb⟩
        have HT := Lib.hid (fun h0 => hT q.bu (S22.out.ult h0))
        have S23 := Lib.hid (S22.out.below hb)
        have B23 := Lib.hid (B22.out.step B22.out.size (Bls.of hb))
        clear S22 B22
        refine ⟨S23.out.cells.cell, ?_⟩
        clear hT hb
        refine iW_nil ?_
        go_simp
        go_wp2_with fail
        have HCol := Lib.hid (cols_any _ j i fv (rotA c2 s2) (rotB c2 s2) S23.out.u hjn hin S23.out.hn.2.2.2.1 S23.out.hn.2.2.1 HT.out (rotAB c2 s2))
        rw [S23.out.u.len] at HCol
        refine HCol.out.mono ?_
        rintro r v21_ ⟨rfl, hu, hb⟩
        have S24 := Lib.hid (show StW v21_ X q ⟨y.x.d.set j z2, y.x.e.set j zz, rotL y.x.u q.n j i c2 s2 q.ru, rotL y.x.v q.n j i cc s1 q.rv⟩ from S23.out.putU hu hb)
        have B24 := Lib.hid (B23.out.step B23.out.size (Bls.ofBel hb (by simp)))
        clear hu hb HCol HT S23 B23
        dsimp only
        go_wp2_with fail
        refine NoPanic.normal ?_
        go_wp2_with fail
        go_roundw
        case rel => exact ⟨j + 1, sgN q.n q.ru q.rv y j, s18_5, s18_2, s17_0, s17_1, by have := HJ.out; omega, HIK.out.2.2.2.2.2, by rw [HN.out], by rw [HN.out], by rw [HN.out], by rw [HN.out], by rw [HI.out], by rw [show j + 1 - l = (j - l) + 1 by have := HJ.out; omega, sgL, ← HY.out, show l + (j - l) = j by have := HJ.out; omega], by rw [HN.out]; exact S24.out, by rw [HN.out]; exact ⟨Ha2.out ▸ fsub_lt _ _, Hf2.out ▸ fadd_lt _ _, Hbcs.out.1, Hbcs.out.2⟩, B24.out⟩
        case measure => have := HIK.out; have := HI.out; simp [intOf]; omega
      case true =>
        go_upto_region 24 with (fail)
        have Hbcs := Lib.hid (show cc < 18446744073709551616 ∧ s1 < 18446744073709551616 from ⟨Hcc.out ▸ fdiv_lt _ _, Hs1.out ▸ fdiv_lt _ _⟩)
        go_upto_region 25 with (first | (refine wpList_flt rfl rfl rfl rfl rfl ?_; intro K hK _ _; go_frame; refine hK _ _ ?_; clear hK K))
        rename_i s22_0 n22_0 s22_1 n22_1 s22_2 n22_2 s22_3 n22_3 s22_4 n22_4 s22_5 n22_5
        have hb : Below x18.heap.size x18 ((((((x18.drewN n22_0).drewN n22_1).drewN n22_2).drewN n22_3).drewN n22_4).drewN n22_5) := (below_trd ((below_trd ((below_trd ((below_trd ((below_trd ((below_trd (Below.refl _ _) _)) _)) _)) _)) _)) _)
        generalize (((((x18.drewN n22_0).drewN n22_1).drewN n22_2).drewN n22_3).drewN n22_4).drewN n22_5 = w22_ at *
        have S19 := Lib.hid (S18.out.below hb)
        have B19 := Lib.hid (B18.out.step B18.out.size (Bls.of hb))
        clear S18 B18
        clear hb
        simp only [fadd_rawl, fadd_rawr, fsub_rawl, fsub_rawr, fmul_rawl, fmul_rawr, fdiv_rawl, fdiv_rawr]
        obtain ⟨f2, hf2⟩ : ∃ x, x = fadd (fmul cc g1) (fmul s1 y1) := ⟨_, rfl⟩
        rw [← hf2]
        have Hf2 := Lib.hid hf2
        clear hf2
        obtain ⟨a2, ha2⟩ : ∃ x, x = fsub (fmul cc y1) (fmul s1 g1) := ⟨_, rfl⟩
        rw [← ha2]
        have Ha2 := Lib.hid ha2
        clear ha2
        have HN := Lib.hid (show sgN q.n q.ru q.rv y j = ⟨⟨y.x.d.set j z2, y.x.e.set j zz, rotL y.x.u q.n j i cc s1 q.ru, rotL y.x.v q.n j i cc s1 q.rv⟩, f2, a2, cc, s1⟩ by
          have e1 : sgH y i = hh := by unfold sgH; rw [← HED.out.1]; exact Hhh.out.symm
          have e2 : sgG y i = gg := by unfold sgG; rw [← HED.out.1]; exact Hgg.out.symm
          have e3 : sgZ y i = zz := by unfold sgZ; rw [e1]; exact Hzz.out.symm
          have e4 : sgC y i = cc := by unfold sgC; rw [e3]; exact Hcc.out.symm
          have e5 : sgS y i = s1 := by unfold sgS; rw [e1, e3]; exact Hs1.out.symm
          have e6 : sgF1 y i = f1 := by unfold sgF1; rw [e4, e2, e5]; exact Hf1.out.symm
          have e7 : sgG1 y i = g1 := by unfold sgG1; rw [e2, e4, e5]; exact Hg1.out.symm
          have e8 : sgH1 y i = h1 := by unfold sgH1; rw [← HED.out.2, e5]; exact Hh1.out.symm
          have e9 : sgY1 y i = y1 := by unfold sgY1; rw [← HED.out.2, e4]; exact Hy1.out.symm
          have e10 : sgZ2 y i = z2 := by unfold sgZ2; rw [e6, e8]; exact Hz2.out.symm
          have e11 : sgC2 y i = cc := by unfold sgC2; rw [e10, e4, hz, if_pos rfl]
          have e12 : sgS2 y i = s1 := by unfold sgS2; rw [e10, e5, hz, if_pos rfl]
          have e13 : sgF2 y i = f2 := by unfold sgF2; rw [e11, e7, e12, e9]; exact Hf2.out.symm
          have e14 : sgA2 y i = a2 := by unfold sgA2; rw [e11, e9, e12, e7]; exact Ha2.out.symm
          unfold sgN
          rw [← HI.out, e10, e3, e11, e12, e4, e5, e13, e14])
        have hdr : Below w22_.heap.size w22_ w22_.drew := below_drewN 1 (Below.refl _ _)
        have S20 := Lib.hid (S19.out.below hdr)
        have B20 := Lib.hid (B19.out.step B19.out.size (Bls.of hdr))
        clear S19 B19
        refine wp_region_items 9 [(true, 0), (true, 1), (true, 2), (true, 3), (true, 4), (true, 5), (true, 6), (true, 7), (false, 8)] (fun W => ∀ i, W.cell? ⟨X, i, none⟩ = ([.slice (some ⟨q.bd, 0, none⟩) q.n q.dc, .slice (some ⟨q.be, 0, none⟩) q.ne q.ec, .int .i64 q.ru, .int .i64 q.n, .slice q.ua (q.ru * q.n) q.uc, .int .i64 q.rv, .int .i64 q.n, .slice q.va (q.rv * q.n) q.vc, .float .f64 (raw q.big q.sb)] : List Value)[i]?) (by kernel_rfl) (by kernel_rfl) S20.out.cells.cell ?_
        generalize w22_.drew = z23 at *
        clear hdr
        iterate 8 (refine iW_take (v := ?_) rfl rfl ?_ ?_; rotate_left; (next => (intro w' hSw; (try dsimp only at hSw); go_simp; (try (rw [if_pos (by omega)]; go_simp)); (try with_reducible rfl))); (simp only [Act.put, List.setIfInBounds_toArray, List.set_cons_zero, List.set_cons_succ]))
        refine iW_mid rfl rfl ?_
        go_simp
        refine (by_any _ cc s9_0 s1 s9_1).mono ?_
        rintro r v24_ ⟨⟨fv, rfl, hT⟩, hb⟩
        have HT := Lib.hid (fun h0 => hT q.bu (S20.out.ult h0))
        have S21 := Lib.hid (S20.out.below hb)
        have B21 := Lib.hid (B20.out.step B20.out.size (Bls.of hb))
        clear S20 B20
        refine ⟨S21.out.cells.cell, ?_⟩
        clear hT hb
        refine iW_nil ?_
        go_simp
        go_wp2_with fail
        have HCol := Lib.hid (cols_any _ j i fv (rotA cc s1) (rotB cc s1) S21.out.u hjn hin S21.out.hn.2.2.2.1 S21.out.hn.2.2.1 HT.out (rotAB cc s1))
        rw [S21.out.u.len] at HCol
        refine HCol.out.mono ?_
        rintro r v25_ ⟨rfl, hu, hb⟩
        have S22 := Lib.hid (show StW v25_ X q ⟨y.x.d.set j z2, y.x.e.set j zz, rotL y.x.u q.n j i cc s1 q.ru, rotL y.x.v q.n j i cc s1 q.rv⟩ from S21.out.putU hu hb)
        have B22 := Lib.hid (B21.out.step B21.out.size (Bls.ofBel hb (by simp)))
        clear hu hb HCol HT S21 B21
        dsimp only
        go_wp2_with fail
        refine NoPanic.normal ?_
        go_wp2_with fail
        go_roundw
        case rel => exact ⟨j + 1, sgN q.n q.ru q.rv y j, s22_5, s22_2, s9_0, s9_1, by have := HJ.out; omega, HIK.out.2.2.2.2.2, by rw [HN.out], by rw [HN.out], by rw [HN.out], by rw [HN.out], by rw [HI.out], by rw [show j + 1 - l = (j - l) + 1 by have := HJ.out; omega, sgL, ← HY.out, show l + (j - l) = j by have := HJ.out; omega], by rw [HN.out]; exact S22.out, by rw [HN.out]; exact ⟨Ha2.out ▸ fsub_lt _ _, Hf2.out ▸ fadd_lt _ _, Hbcs.out.1, Hbcs.out.2⟩, B22.out⟩
        case measure => have := HIK.out; have := HI.out; simp [intOf]; omega
    case neg =>
      have hjk2 : k = j := by have := HJ.out; omega
      subst hjk2
      have HEnd := Lib.hid (show sweepG q.n q.ru q.rv g l k = ⟨y.x.d.set k y.a, (y.x.e.set l 0).set k y.f, y.x.u, y.x.v⟩ by unfold sweepG; rw [← HY.out]; rfl)
      have hln : l < q.ne := by have := HK.out; omega
      have hkn := HK.out.2.1
      have hke := HK.out.2.2.2.2
      have hlk : ¬ l = k := by have := HK.out; omega
      have hkl : ¬ k = l := by have := HK.out; omega
      obtain ⟨p1, c1⟩ := T1.out.atE (i := l) hln
      obtain ⟨p2, c2⟩ := T1.out.atE (i := k) hke
      obtain ⟨p3, c3⟩ := T1.out.atD (i := k) hkn
      have lE := T1.out.e.lt
      have fE := T1.out.e.frozen
      have lD := T1.out.d.lt
      have fD := T1.out.d.frozen
      have nED := T1.out.ne.2.1.1
      have nDE : ¬ q.be = q.bd := fun e => nED e.symm
      have S9 := Lib.hid (((T1.out.setE l 0 0 (by decide)).setE k y.f sf HWd.out.2.1).setD k y.a sa HWd.out.1)
      have B9 := Lib.hid (((B1.out.set (s := q.be) (by simp) l (.float .f64 (raw 0 0))).set (s := q.be) (by simp) k (.float .f64 (raw y.f sf))).set (s := q.bd) (by simp) k (.float .f64 (raw y.a sa)))
      have e0 : raw 0 0 = 0 := raw_of_not (by kernel_rfl) 0
      rw [e0] at S9 B9
      clear e0
      go_wp2_with fail
      exact bodyPost_end (results_none rfl _ _ _) rfl ⟨rfl, by rw [HEnd.out]; exact S9.out, B9.out⟩
end Go.Proofs.Ytdljnhdhigbefaa

/- Layer 17: what may be, what is finite (printed by gen_uh.py). No condition but on lengths. -/
namespace Go.Proofs.Ytdljnhdhigbefaa
open Go Go.RowKit
set_option maxRecDepth 1000000

set_option maxHeartbeats 1000000 in
theorem GMay_any (w : World) (da ea : Option Addr) (n m dc ec : Nat) (hn : n ≤ maxLen) (hm : m ≤ maxLen) :
    Calls Try.prog 21 #[.agg #[.slice da n dc, .slice ea m ec]] w fun e w' => e = .returned (.bool (mayT n m)) ∧ Below w.heap.size w w' := by
  unfold maxLen at hn hm
  unfold mayT
  have h1 : decide ((n : Int) ≤ 512) = decide (n ≤ 512) := by rw [Bool.eq_iff_iff]; simp; omega
  have h2 : ((m : Int) == max ((n : Int) - 1) 0) = decide (m = n - 1) := by rw [Bool.eq_iff_iff]; simp; omega
  generalize decide (m = n - 1) = q at *
  generalize decide (n ≤ 512) = q' at *
  have hB0 : Below w.heap.size w (w.alloc (.cells #[.slice da n dc, .slice ea m ec] 24)) := (Below.refl _ _).alloc (Nat.le_refl _) _
  cases q' <;>
  · go_enter Try.func21, Try.ntmps21
    go_wp2
    all_goals
      go_ret
      refine ⟨?_, hB0⟩
      first
        | rfl
        | (rw [← h2, Int.max_eq_left (by omega)]; rfl)
        | (rw [← h2, Int.max_eq_right (by omega)]; rfl)
set_option maxHeartbeats 4000000 in
theorem GmayM_any (w : World) (r c : Int) (a : Option Addr) (n ac : Nat) (hn : n ≤ maxLen) :
    Calls Try.prog 52 #[.agg #[.int .i64 r, .int .i64 c, .slice a n ac]] w fun e w' => e = .returned (.bool (mayB r c n)) ∧ Below w.heap.size w w' := by
  unfold maxLen at hn
  have hB0 : Below w.heap.size w (w.alloc (.cells #[.int .i64 r, .int .i64 c, .slice a n ac] 26)) := (Below.refl _ _).alloc (Nat.le_refl _) _
  unfold mayB
  cases hs : szB r c
  · unfold szB at hs
    cases d1 : decide (0 ≤ r)
    · go_enter Try.func52, Try.ntmps52
      go_wp2
      go_ret
      exact ⟨rfl, hB0⟩
    · cases d2 : decide (r ≤ 512)
      · go_enter Try.func52, Try.ntmps52
        go_wp2
        go_ret
        exact ⟨rfl, hB0⟩
      · cases d3 : decide (0 ≤ c)
        · go_enter Try.func52, Try.ntmps52
          go_wp2
          go_ret
          exact ⟨rfl, hB0⟩
        · cases d4 : decide (c ≤ 512)
          · go_enter Try.func52, Try.ntmps52
            go_wp2
            go_ret
            exact ⟨rfl, hB0⟩
          · rw [d1, d2, d3, d4] at hs
            cases hs
  · have hsz : ∃ p q : Nat, r = p ∧ c = q ∧ p ≤ 512 ∧ q ≤ 512 := by
      unfold szB at hs
      simp only [Bool.and_eq_true, decide_eq_true_eq] at hs
      exact ⟨r.toNat, c.toNat, by omega, by omega, by omega, by omega⟩
    obtain ⟨p, q, rfl, rfl, hp, hq⟩ := hsz
    have hpq : p * q ≤ 512 * 512 := Nat.mul_le_mul hp hq
    have e1 : (p : Int) * (q : Int) = ((p * q : Nat) : Int) := (Int.natCast_mul _ _).symm
    generalize p * q = z at *
    have e2 : ((n : Int) == (z : Int)) = decide ((n : Int) = (p : Int) * (q : Int)) := by rw [Bool.eq_iff_iff, e1]; simp
    have d1 : decide (0 ≤ (p : Int)) = true := decide_eq_true (by omega)
    have d2 : decide ((p : Int) ≤ 512) = true := decide_eq_true (by omega)
    have d3 : decide (0 ≤ (q : Int)) = true := decide_eq_true (by omega)
    have d4 : decide ((q : Int) ≤ 512) = true := decide_eq_true (by omega)
    clear hs
    have HE := Lib.hid e2
    clear e2
    go_enter Try.func52, Try.ntmps52
    go_wp2
    go_ret
    refine ⟨?_, hB0⟩
    rw [← HE.out]
    rfl
set_option maxHeartbeats 1000000 in
theorem gfin1_any (x : Nat) (w : World) (hx : x < 18446744073709551616) : Calls Try.prog 88 #[.float .f64 x] w fun e w' => e = .returned (.bool (!ffin x)) ∧ w = w' := by
  have h1 := infinite_eq x
  have HN := Lib.hid (fun W => IsNaN_any x W)
  have HI := Lib.hid (fun W => IsInf0_any x hx W)
  rw [← h1]
  clear h1
  cases hn : isnan x
  · rw [hn] at HN
    generalize decide (x % 9223372036854775808 = 9218868437227405312) = b at *
    go_enter Try.func88, Try.ntmps88
    go_wp2_with fail
    refine (HN.out _).mono ?_
    rintro e w' ⟨rfl, rfl⟩
    go_wp2_with fail
    refine (HI.out _).mono ?_
    rintro e w' ⟨rfl, rfl⟩
    go_wp2
    go_ret
    exact ⟨rfl, rfl⟩
  · rw [hn] at HN
    go_enter Try.func88, Try.ntmps88
    go_wp2_with fail
    refine (HN.out _).mono ?_
    rintro e w' ⟨rfl, rfl⟩
    go_wp2
    go_ret
    exact ⟨rfl, rfl⟩
set_option maxHeartbeats 1000000 in
theorem GFin_any (w : World) (za : Option Addr) (zs : List Nat) (zc : Nat) (hZ : Fls w za zs) (hW : Words zs) (hl : zs.length ≤ maxLen) :
    Calls Try.prog 53 #[.slice za zs.length zc] w fun e w' => e = .returned (.bool (zs.all ffin)) ∧ w = w' := by
  have H := Lib.hid (ContainsFunc_any 88 (fun x => !ffin x) (fun x w hx => gfin1_any x w hx) (fun v s => by rw [ffin_raw]) (fun x w => by kernel_rfl) w za zs zc hZ hW hl)
  rw [← any_ffin]
  go_enter Try.func53, Try.ntmps53
  go_wp2_with fail
  refine H.out.mono ?_
  rintro e w2 ⟨rfl, rfl⟩
  go_wp2
  go_ret
  exact ⟨rfl, rfl⟩

end Go.Proofs.Ytdljnhdhigbefaa

/- Layer 17: function values that turn a sign, that exchange; what tells nothing. No condition. -/
namespace Go.Proofs.Ytdljnhdhigbefaa
open Go Go.RowKit
set_option maxRecDepth 1000000

theorem negF_any (w : World) (x sx y sy : Nat) (hx : x < 18446744073709551616) :
    Calls Try.prog 58 #[.float .f64 (raw x sx), .float .f64 (raw y sy)] w fun e w' => (∃ s t, e = .returned (.tuple #[.float .f64 (raw (fneg x) s), .float .f64 (raw (fneg x) t)])) ∧ Below w.heap.size w w' := by
  obtain ⟨t, ht⟩ := neg_raw x sx hx
  go_enter Try.func58, Try.ntmps58
  go_wp2_with fail
  go_ret2
  exact ⟨⟨t, t, by rw [← ht]; rfl⟩, Below.refl _ _⟩
theorem swapF_any (w : World) (x sx y sy : Nat) :
    Calls Try.prog 94 #[.float .f64 (raw x sx), .float .f64 (raw y sy)] w fun e w' => (∃ s t, e = .returned (.tuple #[.float .f64 (raw y s), .float .f64 (raw x t)])) ∧ Below w.heap.size w w' := by
  go_enter Try.func94, Try.ntmps94
  go_wp2_with fail
  go_ret2
  exact ⟨⟨sy, sx, rfl⟩, Below.refl _ _⟩
theorem negF_to (w : World) (zb : Nat) : ToF w zb (.func (.func 58) #[] #[]) (fun x _ => fneg x) (fun x _ => fneg x) :=
  ⟨_, _, _, rfl, enters_of Try.func58 (by kernel_rfl) rfl, fun x sx y sy W hx _ _ => negF_any W x sx y sy hx⟩
theorem swapF_to (w : World) (zb : Nat) : ToF w zb (.func (.func 94) #[] #[]) (fun _ y => y) (fun x _ => x) :=
  ⟨_, _, _, rfl, enters_of Try.func94 (by kernel_rfl) rfl, fun x sx y sy W _ _ _ => swapF_any W x sx y sy⟩
theorem negAB : ∀ x y : Nat, x < 18446744073709551616 → y < 18446744073709551616 → (fun (x _ : Nat) => fneg x) x y < 18446744073709551616 ∧ (fun (x _ : Nat) => fneg x) x y < 18446744073709551616 := fun _ _ hx _ => ⟨fneg_lt hx, fneg_lt hx⟩
theorem swapAB : ∀ x y : Nat, x < 18446744073709551616 → y < 18446744073709551616 → (fun (_ y : Nat) => y) x y < 18446744073709551616 ∧ (fun (x _ : Nat) => x) x y < 18446744073709551616 := fun _ _ hx hy => ⟨hy, hx⟩
end Go.Proofs.Ytdljnhdhigbefaa
