/- Layer 17: what stands above a value that is nothing is cleared (printed by gen_uf.py). No condition but on lengths. -/
import Derived.Test.YtdljnhdhigbefaaZz7
namespace Go.Proofs.Ytdljnhdhigbefaa
open Go Go.RowKit
set_option maxRecDepth 1000000

theorem hypW_ltU (x y : Nat) (hx : x < 18446744073709551616) (hy : y < 18446744073709551616) : hypW x y < 18446744073709551616 := hypW_lt _ _
theorem w64p {i : Nat} (h : i < 1000) : wrap64 ((i : Int) + 1) = ((i + 1 : Nat) : Int) := by unfold wrap64; omega
theorem w64s {i m : Nat} (h : i = m + 1) (h2 : i < 1000) : wrap64 ((i : Int) - 1) = (m : Int) ∧ IntKind.i64.wrap ((i : Int) - 1) = (m : Int) := ⟨by unfold wrap64; omega, by rw [IntKind.wrap_i64]; omega⟩
set_option maxHeartbeats 8000000 in
theorem clear_any (w : World) (X l k : Nat) (q : GkP) (g : GkS) (h : StW w X q g) (hl : 0 < l) (hlk : l ≤ k) (hk : k < q.n) :
    Calls Try.prog 56 #[.pointer (some ⟨X, 0, none⟩), .int .i64 l, .int .i64 k] w fun r w' => r = .returned (.tuple #[]) ∧ StW w' X q (clearG q.n q.ru q.big l k g) ∧ Bls [q.bd, q.be, q.bu] w.heap.size w w' := by
  obtain ⟨RR, hR⟩ : ∃ RR, RR = clearG q.n q.ru q.big l k g := ⟨_, rfl⟩
  rw [← hR]
  obtain ⟨l0, hl0⟩ : ∃ l0, l = l0 + 1 := ⟨l - 1, by omega⟩
  have H0 := Lib.hid h
  have HR0 := Lib.hid hR
  have HK := Lib.hid (show 0 < l ∧ l ≤ k ∧ k < q.n ∧ k < 512 ∧ l = l0 + 1 from ⟨hl, hlk, hk, by have := h.hn; omega, hl0⟩)
  have HN := Lib.hid (fun (W : World) f sf hX hf => nothing_any W X f sf q.big q.sb hX hf)
  have hl9 := w64s hl0 (by have := HK.out; omega)
  have HL9 := Lib.hid hl9
  clear h hR hl hlk hk hl0 hl9
  go_enter Try.func56, Try.ntmps56
  go_wp2_with fail
  go_loopw [6, 7, 8] (fun s6 s7 s8 wr => ∃ (i m : Nat) (y : ClS) (sc ss : Nat), i + m = k + 1 ∧ l ≤ i ∧ s6 = .float .f64 (raw y.c sc) ∧ s7 = .float .f64 (raw y.s ss) ∧ s8 = .int .i64 i ∧ y.c < 18446744073709551616 ∧ y.s < 18446744073709551616 ∧ RR = clL q.n q.ru q.big l m i y ∧ StW wr X q y.x ∧ Bls [q.bd, q.be, q.bu] w.heap.size w wr) (fun _ _ s8 _ => k + 1 - (intOf s8).toNat)
  case atStart => exact ⟨l, k + 1 - l, ⟨g, 0, 4607182418800017408⟩, 0, 0, by have := HK.out; omega, Nat.le_refl _, by rw [raw_of_not (by kernel_rfl)], by rw [raw_of_not (by kernel_rfl)], rfl, (show (0 : Nat) < 18446744073709551616 by decide), (show (4607182418800017408 : Nat) < 18446744073709551616 by decide), HR0.out, H0.out, Bls.refl _ _ _⟩
  case round =>
    obtain ⟨i, m, y, sc, ss, him, hli, rfl, rfl, rfl, hyc, hys, hR, hS, hB⟩ := hrel
    have S1 := Lib.hid hS
    have B1 := Lib.hid hB
    have R1 := Lib.hid hR
    have HY := Lib.hid (And.intro hyc hys)
    have HI := Lib.hid (And.intro him hli)
    clear hS hB hR hyc hys him hli
    by_cases hik : i ≤ k
    case pos =>
      obtain ⟨m', hm⟩ : ∃ m', m = m' + 1 := ⟨m - 1, by have := HI.out; omega⟩
      subst hm
      have HIK := Lib.hid (show i < q.n ∧ i < q.ne ∧ i < 1000 ∧ i ≤ k from ⟨by have := HK.out; omega, by have := HK.out; have := H0.out.hn; omega, by have := HK.out; omega, hik⟩)
      have hin := HIK.out.1
      have hie := HIK.out.2.1
      have hi9 := HIK.out.2.2.1
      obtain ⟨ei, hei⟩ : ∃ x, x = y.x.e.getD i 0 := ⟨_, rfl⟩
      obtain ⟨di, hdi⟩ : ∃ x, x = y.x.d.getD i 0 := ⟨_, rfl⟩
      have HED := Lib.hid (show ei = y.x.e.getD i 0 ∧ di = y.x.d.getD i 0 ∧ ei < 18446744073709551616 ∧ di < 18446744073709551616 from ⟨hei, hdi, hei ▸ S1.out.we.at _, hdi ▸ S1.out.wd.at _⟩)
      clear hei hdi
      obtain ⟨a1, a2, a3⟩ := S1.out.cells.facts
      obtain ⟨se, ce⟩ := S1.out.atE (i := i) hie
      rw [← HED.out.1] at ce
      have le := S1.out.e.lt
      have fe := S1.out.e.frozen
      go_upto_region 5 with (first | (refine wpList_flt rfl rfl rfl rfl rfl ?_; intro K hK sf nf; go_frame; refine hK _ _ ?_; clear hK K))
      have hb : Below wr.heap.size wr (wr.drewN nf) := below_drewN nf (Below.refl _ wr)
      clear a1 a2 a3 ce le fe
      simp only [fmul_rawl, fmul_rawr]
      generalize hWn : wr.drewN nf = w2 at *
      clear hWn
      have S2 := Lib.hid (S1.out.below hb)
      have B2 := Lib.hid (B1.out.step B1.out.size (Bls.of hb))
      clear S1 B1
      clear hb
      obtain ⟨a1, a2, a3⟩ := S2.out.cells.facts
      obtain ⟨se, ce⟩ := S2.out.atE (i := i) hie
      rw [← HED.out.1] at ce
      have le := S2.out.e.lt
      have fe := S2.out.e.frozen
      refine wp_region_nqb 14 (fun _ _ _ => False) (by kernel_rfl) (by kernel_rfl) ?_
      intro C R hc hb' hb2 hd hR
      simp only [List.take_succ_cons, List.take_zero]
      repeat (
        first
          | (refine nqW_plain (fun K hK => ?_))
          | (refine nqW_step (fun K hK => ?_); go_simp)
        first
          | (refine nq_move rfl ?_; go_simp; refine hK _ ?_; clear hK K)
          | (refine nq_assign rfl ?_; go_simp; refine hK _ ?_; clear hK K)
          | (refine nq_flt rfl rfl rfl rfl hd ?_; intro _; go_frame; refine hK _ ?_; clear hK K)
          | (refine nq_same ?_; intro w' hw'; go_simp; (try go_bits); refine hK _ ?_; clear hK K hw' w')
          | (refine nq_same ?_; intro w' hw'; go_simp; rw [if_pos (by omega)]; go_simp; (try go_bits); refine hK _ ?_; clear hK K hw' w')
          | (go_simp; refine hK _ ?_; clear hK K))
      refine nqW_nil (hR _ ?_)
      clear hc hb' hb2 hd hR
      intro w' hw'
      simp only [List.drop]
      rename_i s5
      simp only [fmul_rawl, fmul_rawr]
      generalize w' = wa at *
      clear a1 a2 a3 ce le fe
      have S3 := Lib.hid (S2.out.below hw')
      have B3 := Lib.hid (B2.out.step B2.out.size (Bls.of hw'))
      clear S2 B2
      clear hw'
      obtain ⟨a1, a2, a3⟩ := S3.out.cells.facts
      obtain ⟨se, ce⟩ := S3.out.atE (i := i) hie
      rw [← HED.out.1] at ce
      have le := S3.out.e.lt
      have fe := S3.out.e.frozen
      go_upto_region 6 with (fail)
      clear a1 a2 a3 ce le fe
      obtain ⟨w4, hw4⟩ : ∃ x, x = wa.setCell ⟨q.be, i, none⟩ (.float .f64 (raw (fmul y.c ei) s5)) := ⟨_, rfl⟩
      rw [← hw4]
      have S4 := Lib.hid (hw4 ▸ (show StW (wa.setCell ⟨q.be, i, none⟩ (.float .f64 (raw (fmul y.c ei) s5))) X q ⟨y.x.d, clE y i, y.x.u, y.x.v⟩ by unfold clE; rw [← HED.out.1]; exact S3.out.setE i (fmul y.c ei) s5 (fmul_lt _ _)))
      have B4 := Lib.hid (hw4 ▸ B3.out.set (s := q.be) (by simp) _ _)
      clear hw4 S3 B3
      have R2 := Lib.hid (show RR = if nthG (fmul y.s ei) q.big then (⟨y.x.d, clE y i, y.x.u, y.x.v⟩ : GkS) else clL q.n q.ru q.big l m' (i + 1) (clN q.n q.ru l y i) by rw [R1.out, clL, clF, ← HED.out.1])
      clear R1
      go_wp2_with fail
      refine (HN.out _ _ sf S4.out.bigc (fmul_lt _ _)).mono ?_
      rintro r w9 ⟨rfl, hb⟩
      have S5 := Lib.hid (S4.out.below hb)
      have B5 := Lib.hid (B4.out.step B4.out.size (Bls.of hb))
      clear S4 B4
      clear hb
      dsimp only
      cases hq : nthG (fmul y.s ei) q.big
      case true =>
        have R3 := Lib.hid (show RR = ⟨y.x.d, clE y i, y.x.u, y.x.v⟩ by have h := R2.out; rw [hq, if_pos rfl] at h; exact h)
        go_wp2_with fail
        exact bodyPost_ret (results_none rfl _ _ _) rfl ⟨rfl, by rw [R3.out]; exact S5.out, B5.out⟩
      case false =>
        have R3 := Lib.hid (show RR = clL q.n q.ru q.big l m' (i + 1) (clN q.n q.ru l y i) by have h := R2.out; rw [hq, if_neg (by decide)] at h; exact h)
        clear R2
        obtain ⟨a1, a2, a3⟩ := S5.out.cells.facts
        obtain ⟨sd, cd⟩ := S5.out.atD (i := i) hin
        rw [← HED.out.2.1] at cd
        have ld := S5.out.d.lt
        have fd := S5.out.d.frozen
        go_upto_region 8 with (fail)
        go_wp2_with fail
        refine (HypotF (fmul y.s ei) sf di sd (fmul_lt _ _) HED.out.2.2.2 _).mono ?_
        rintro r wb ⟨⟨sh, rfl⟩, hb⟩
        clear a1 a2 a3 cd ld fd
        have S6 := Lib.hid (S5.out.below hb)
        have B6 := Lib.hid (B5.out.step B5.out.size (Bls.of hb))
        clear S5 B5
        clear hb
        dsimp only
        obtain ⟨hh, hhh⟩ : ∃ x, x = hypW (fmul y.s ei) di := ⟨_, rfl⟩
        rw [← hhh]
        have HH := Lib.hid (show hh = hypW (fmul y.s ei) di ∧ hh < 18446744073709551616 from ⟨hhh, hhh ▸ hypW_lt _ _⟩)
        clear hhh
        obtain ⟨a1, a2, a3⟩ := S6.out.cells.facts
        obtain ⟨sd, cd⟩ := S6.out.atD (i := i) hin
        rw [← HED.out.2.1] at cd
        have ld := S6.out.d.lt
        have fd := S6.out.d.frozen
        go_upto_region 10 with (fail)
        clear a1 a2 a3 cd ld fd
        obtain ⟨w7, hw7⟩ : ∃ x, x = wb.setCell ⟨q.bd, i, none⟩ (.float .f64 (raw hh sh)) := ⟨_, rfl⟩
        rw [← hw7]
        have S7 := Lib.hid (hw7 ▸ (show StW (wb.setCell ⟨q.bd, i, none⟩ (.float .f64 (raw hh sh))) X q ⟨y.x.d.set i hh, clE y i, y.x.u, y.x.v⟩ from S6.out.setD i hh sh HH.out.2))
        have B7 := Lib.hid (hw7 ▸ B6.out.set (s := q.bd) (by simp) _ _)
        clear hw7 S6 B6
        go_upto_region 11 with (first | (refine wpList_flt rfl rfl rfl rfl rfl ?_; intro K hK st nt; go_frame; refine hK _ _ ?_; clear hK K))
        have hb : Below w7.heap.size w7 (w7.drewN nt) := below_drewN nt (Below.refl _ _)
        generalize w7.drewN nt = wc at *
        have S8 := Lib.hid (S7.out.below hb)
        have B8 := Lib.hid (B7.out.step B7.out.size (Bls.of hb))
        clear S7 B7
        clear hb
        simp only [fdiv_rawl, fdiv_rawr]
        go_upto_region 12 with (first | (refine wpList_flt rfl rfl rfl rfl rfl ?_; intro K hK _ _; go_frame; refine hK _ _ ?_; clear hK K))
        rename_i sv nv su nu
        simp only [fmul_rawl, fmul_rawr, fdiv_rawl, fdiv_rawr]
        have hb : Below wc.heap.size wc (wc.drewN (nv + nu)) := below_drewN _ (Below.refl _ _)
        generalize wc.drewN (nv + nu) = wd at *
        have S9 := Lib.hid (S8.out.below hb)
        have B9 := Lib.hid (B8.out.step B8.out.size (Bls.of hb))
        clear S8 B8
        clear hb
        obtain ⟨sz, hsz⟩ := neg_raw (fmul (fmul y.s ei) (fdiv 4607182418800017408 hh)) su (fmul_lt _ _)
        rw [hsz]
        clear hsz
        obtain ⟨cc, hcc⟩ : ∃ x, x = fmul di (fdiv 4607182418800017408 hh) := ⟨_, rfl⟩
        obtain ⟨zz, hzz⟩ : ∃ x, x = fneg (fmul (fmul y.s ei) (fdiv 4607182418800017408 hh)) := ⟨_, rfl⟩
        rw [← hcc, ← hzz]
        have HC := Lib.hid (show cc = clC y i ∧ zz = clZ y i ∧ hh = clH y i ∧ cc < 18446744073709551616 ∧ zz < 18446744073709551616 by
          have e1 : hh = clH y i := by unfold clH clF; rw [← HED.out.1, ← HED.out.2.1]; exact HH.out.1
          refine ⟨?_, ?_, e1, hcc ▸ fmul_lt _ _, hzz ▸ fneg_lt (fmul_lt _ _)⟩
          · unfold clC; rw [← HED.out.2.1, ← e1]; exact hcc
          · unfold clZ clF; rw [← HED.out.1, ← e1]; exact hzz)
        clear hcc hzz
        have hdr : Below wd.heap.size wd wd.drew := below_drewN 1 (Below.refl _ _)
        have S10 := Lib.hid (S9.out.below hdr)
        have B10 := Lib.hid (B9.out.step B9.out.size (Bls.of hdr))
        clear S9 B9
        have hl1 := HL9.out.1
        have hl2 := HL9.out.2
        refine wp_region_items 10 [(true, 0), (true, 1), (true, 2), (true, 3), (true, 4), (true, 5), (true, 6), (true, 7), (true, 8), (false, 9)] (fun W => ∀ i, W.cell? ⟨X, i, none⟩ = ([.slice (some ⟨q.bd, 0, none⟩) q.n q.dc, .slice (some ⟨q.be, 0, none⟩) q.ne q.ec, .int .i64 q.ru, .int .i64 q.n, .slice q.ua (q.ru * q.n) q.uc, .int .i64 q.rv, .int .i64 q.n, .slice q.va (q.rv * q.n) q.vc, .float .f64 (raw q.big q.sb)] : List Value)[i]?) (by kernel_rfl) (by kernel_rfl) S10.out.cells.cell ?_
        generalize wd.drew = we at *
        clear hdr
        iterate 9 (refine iW_take (v := ?_) rfl rfl ?_ ?_; rotate_left; (next => (intro w' hSw; (try dsimp only at hSw); go_simp; (try (rw [if_pos (by omega)]; go_simp)); (try with_reducible rfl))); (simp only [Act.put, List.setIfInBounds_toArray, List.set_cons_zero, List.set_cons_succ]))
        refine iW_mid rfl rfl ?_
        go_simp
        refine (by_any _ cc sv zz sz).mono ?_
        rintro r wf ⟨⟨fv, rfl, hT⟩, hb⟩
        have HT := Lib.hid (fun h0 => hT q.bu (S10.out.ult h0))
        have S11 := Lib.hid (S10.out.below hb)
        have B11 := Lib.hid (B10.out.step B10.out.size (Bls.of hb))
        clear S10 B10
        refine ⟨S11.out.cells.cell, ?_⟩
        clear hT hb hl1 hl2
        refine iW_nil ?_
        go_simp
        go_wp2_with fail
        have HCol := Lib.hid (cols_any wf l0 i fv (rotA cc zz) (rotB cc zz) S11.out.u (by have := HK.out; have := HI.out; omega) HIK.out.1 S11.out.hn.2.2.2.1 S11.out.hn.2.2.1 HT.out (rotAB cc zz))
        rw [S11.out.u.len] at HCol
        refine HCol.out.mono ?_
        rintro r wg ⟨rfl, hu, hb⟩
        have R4 := Lib.hid (show colsL y.x.u q.n l0 i (rotA cc zz) (rotB cc zz) q.ru = (clN q.n q.ru l y i).x.u by unfold clN; dsimp only; rw [← HC.out.1, ← HC.out.2.1, show l - 1 = l0 by have := HK.out; omega]; rfl)
        have S9 := Lib.hid (show StW wg X q (clN q.n q.ru l y i).x by have h := S11.out.putU hu hb; dsimp only at h; rw [R4.out, HC.out.2.2.1] at h; exact h)
        have B9 := Lib.hid (B11.out.step B11.out.size (Bls.ofBel hb (by simp)))
        clear hu hb HCol HT S11 B11
        dsimp only
        go_wp2_with fail
        refine NoPanic.normal ?_
        go_wp2_with fail
        go_roundw
        case rel => exact ⟨i + 1, m', clN q.n q.ru l y i, sv, sz, by have := HI.out; omega, by have := HI.out; omega, by rw [HC.out.1]; rfl, by rw [HC.out.2.1]; rfl, by go_num, (show clC y i < 18446744073709551616 from HC.out.1 ▸ HC.out.2.2.2.1), (show clZ y i < 18446744073709551616 from HC.out.2.1 ▸ HC.out.2.2.2.2), R3.out, S9.out, B9.out⟩
        case measure => have := HIK.out; simp [intOf]; omega
    case neg =>
      have hm0 : m = 0 := by have := HI.out; omega
      subst hm0
      have R3 := Lib.hid (show RR = y.x from R1.out)
      go_wp2_with fail
      exact bodyPost_end (results_none rfl _ _ _) rfl ⟨rfl, by rw [R3.out]; exact S1.out, B1.out⟩
end Go.Proofs.Ytdljnhdhigbefaa
