/- Layer 17, the document: values, and columns of two matrices, sorted in place (printed by gen_uu.py). No condition but on lengths and places. -/
import Derived.Test.YtdljnhdhigbefaaZz17
import Derived.Test.YtdljnhdhigbefaaZz12
import Derived.Test.YtdljnhdhigbefaaZz16
namespace Go.Proofs.Ytdljnhdhigbefaa
open Go Go.RowKit
set_option maxRecDepth 1000000

structure SoR (w W : World) (q : SoP) (l u v : List Nat) : Prop where
  x4 : Box W w.heap.size [.int .i64 q.ru, .int .i64 q.n, .slice q.ua (q.ru * q.n) q.uc]
  x5 : Box W (w.heap.size + 1) [.int .i64 q.rv, .int .i64 q.n, .slice q.va (q.rv * q.n) q.vc]
  f : FS W q.wa q.wb l
  fl : l.length = q.n
  fw : Words l
  u : MxF W q.ru q.n q.ua q.uc q.ub u
  v : MxF W q.rv q.n q.va q.vc q.vb v
  bls : Bls [q.wb, q.ub, q.vb] w.heap.size w W
  nd : (q.wb ≠ w.heap.size ∧ q.wb ≠ w.heap.size + 1 ∧ q.ub ≠ w.heap.size ∧ q.ub ≠ w.heap.size + 1 ∧ q.vb ≠ w.heap.size ∧ q.vb ≠ w.heap.size + 1) ∧ q.wb ≠ q.ub ∧ q.wb ≠ q.vb ∧ q.ub ≠ q.vb
  hn : q.n ≤ 512 ∧ q.ru ≤ 512 ∧ q.rv ≤ 512
section
variable {w W W' : World} {q : SoP} {l u v : List Nat}
theorem SoR.step (h : SoR w W q l u v) (hb : Below W.heap.size W W') : SoR w W' q l u v := ⟨h.x4.below hb, h.x5.below hb, h.f.below hb, h.fl, h.fw, h.u.below hb, h.v.below hb, h.bls.step h.bls.size (Bls.of hb), h.nd, h.hn⟩
theorem SoR.putU (h : SoR w W q l u v) {u' : List Nat} (hu : MxF W' q.ru q.n q.ua q.uc q.ub u') (hb : Bel W.heap.size q.ub W W') : SoR w W' q l u' v := by
  obtain ⟨⟨n1, n2, n3, n4, n5, n6⟩, n7, n8, n9⟩ := h.nd
  exact ⟨h.x4.bel (Ne.symm n3) hb, h.x5.bel (Ne.symm n4) hb, h.f.belU n7 hb, h.fl, h.fw, hu, h.v.bel (fun _ e => n9 e.symm) hb, h.bls.step h.bls.size (Bls.ofBel hb (by simp)), h.nd, h.hn⟩
theorem SoR.putV (h : SoR w W q l u v) {v' : List Nat} (hv : MxF W' q.rv q.n q.va q.vc q.vb v') (hb : Bel W.heap.size q.vb W W') : SoR w W' q l u v' := by
  obtain ⟨⟨n1, n2, n3, n4, n5, n6⟩, n7, n8, n9⟩ := h.nd
  exact ⟨h.x4.bel (Ne.symm n5) hb, h.x5.bel (Ne.symm n6) hb, h.f.belU n8 hb, h.fl, h.fw, h.u.bel (fun _ e => n9 e) hb, hv, h.bls.step h.bls.size (Bls.ofBel hb (by simp)), h.nd, h.hn⟩
theorem SoR.setW (h : SoR w W q l u v) (j x s : Nat) (hx : x < 18446744073709551616) : SoR w (W.setCell ⟨q.wb, j, none⟩ (.float .f64 (raw x s))) q (l.set j x) u v := by
  obtain ⟨⟨n1, n2, n3, n4, n5, n6⟩, n7, n8, n9⟩ := h.nd
  have hb : Bel W.heap.size q.wb W (W.setCell ⟨q.wb, j, none⟩ (.float .f64 (raw x s))) := (Bel.refl _ _ _).set _ _
  refine ⟨h.x4.bel (Ne.symm n1) hb, h.x5.bel (Ne.symm n2) hb, ?_, by rw [List.length_set]; exact h.fl, words_setG h.fw hx, h.u.bel (fun _ e => n7 e.symm) hb, h.v.bel (fun _ e => n8 e.symm) hb, h.bls.set (by simp) _ _, h.nd, h.hn⟩
  rcases h.f with h0 | ⟨h1, h2⟩
  · exact .inl (by rw [h0]; rfl)
  · exact .inr ⟨h1, h2.set j x s⟩
end
set_option maxHeartbeats 16000000 in
theorem RSort17 (w : World) (q : SoP) (l u v : List Nat) (hl : FS w q.wa q.wb l) (hfl : l.length = q.n) (hfw : Words l) (hu : MxF w q.ru q.n q.ua q.uc q.ub u) (hv : MxF w q.rv q.n q.va q.vc q.vb v) (hnd : (q.wb ≠ w.heap.size ∧ q.wb ≠ w.heap.size + 1 ∧ q.ub ≠ w.heap.size ∧ q.ub ≠ w.heap.size + 1 ∧ q.vb ≠ w.heap.size ∧ q.vb ≠ w.heap.size + 1) ∧ q.wb ≠ q.ub ∧ q.wb ≠ q.vb ∧ q.ub ≠ q.vb) (hn : q.n ≤ 512 ∧ q.ru ≤ 512 ∧ q.rv ≤ 512) :
    Calls Try.prog 65 #[.slice q.wa q.n q.wc, .agg #[.int .i64 q.ru, .int .i64 q.n, .slice q.ua (q.ru * q.n) q.uc], .agg #[.int .i64 q.rv, .int .i64 q.n, .slice q.va (q.rv * q.n) q.vc]] w fun e w' => e = .returned (.tuple #[]) ∧ FS w' q.wa q.wb (sortG q.n q.ru q.rv l u v q.n).1 ∧ MxF w' q.ru q.n q.ua q.uc q.ub (sortG q.n q.ru q.rv l u v q.n).2.1 ∧ MxF w' q.rv q.n q.va q.vc q.vb (sortG q.n q.ru q.rv l u v q.n).2.2 ∧ Bls [q.wb, q.ub, q.vb] w.heap.size w w' := by
  obtain ⟨W0, hW0⟩ : ∃ W0, W0 = (w.alloc (.cells #[.int .i64 q.ru, .int .i64 q.n, .slice q.ua (q.ru * q.n) q.uc] 26)).alloc (.cells #[.int .i64 q.rv, .int .i64 q.n, .slice q.va (q.rv * q.n) q.vc] 26) := ⟨_, rfl⟩
  have hB0 : Below w.heap.size w W0 := hW0 ▸ ((Below.refl _ _).alloc (Nat.le_refl _) _).alloc (by simp) _
  have x4 : Box W0 w.heap.size [.int .i64 q.ru, .int .i64 q.n, .slice q.ua (q.ru * q.n) q.uc] := hW0 ▸ (Box.newA w [.int .i64 q.ru, .int .i64 q.n, .slice q.ua (q.ru * q.n) q.uc] _ rfl).alloc _
  have x5 : Box W0 (w.heap.size + 1) [.int .i64 q.rv, .int .i64 q.n, .slice q.va (q.rv * q.n) q.vc] := hW0 ▸ Box.newA _ [.int .i64 q.rv, .int .i64 q.n, .slice q.va (q.rv * q.n) q.vc] _ (by simp)
  have S0 := Lib.hid (show SoR w W0 q l u v from ⟨x4, x5, hl.below hB0, hfl, hfw, hu.below hB0, hv.below hB0, Bls.of hB0, hnd, hn⟩)
  have HN := Lib.hid hn
  clear hB0 x4 x5 hl hfl hfw hu hv hnd hn
  obtain ⟨n, hqn⟩ : ∃ n, n = q.n := ⟨_, rfl⟩
  have HQ := Lib.hid hqn
  have H51 := Lib.hid (show n ≤ 512 from hqn ▸ HN.out.1)
  have t9 : (Value.slice q.wa (q.n : Nat) q.wc) = .slice q.wa n q.wc := by rw [hqn]
  rw [t9]
  clear t9 hqn
  go_enter Try.func65, Try.ntmps65
  go_upto_region 1 with (fail)
  rw [← hW0]
  clear hW0
  go_wp2_with fail
  go_loopw [6] (fun s71 wr => ∃ i : Nat, s71 = .int .i64 i ∧ i ≤ n ∧ SoR w wr q (sortG q.n q.ru q.rv l u v i).1 (sortG q.n q.ru q.rv l u v i).2.1 (sortG q.n q.ru q.rv l u v i).2.2) (fun s71 _ => n - (intOf s71).toNat)
  case atStart => exact ⟨0, rfl, Nat.zero_le _, S0.out⟩
  case round =>
    clear S0
    obtain ⟨i, rfl, hi, hS⟩ := hrel
    by_cases hlt : i < n
    case pos =>
      obtain ⟨L, hL⟩ : ∃ x, x = (sortG q.n q.ru q.rv l u v i).1 := ⟨_, rfl⟩
      obtain ⟨U, hU⟩ : ∃ x, x = (sortG q.n q.ru q.rv l u v i).2.1 := ⟨_, rfl⟩
      obtain ⟨V, hV⟩ : ∃ x, x = (sortG q.n q.ru q.rv l u v i).2.2 := ⟨_, rfl⟩
      rw [← hL, ← hU, ← hV] at hS
      have hLn : L.length = n := hS.fl.trans HQ.out.symm
      obtain ⟨K, hK⟩ : ∃ K, K = maxL L L.length (i + 1) i := ⟨_, rfl⟩
      have hKn : K < n := by have := maxL_bnd L L.length (i + 1) i (by omega); rw [← hK] at this; omega
      have HR := Lib.hid (show sortG q.n q.ru q.rv l u v (i + 1) = (swapL L i K, swcL U q.n i K q.ru, swcL V q.n i K q.rv) by rw [sortG, ← hL, ← hU, ← hV, ← hK])
      obtain ⟨hwa, _⟩ := hS.f.flb (by omega)
      have HS := Lib.hid hS
      have HK := Lib.hid hK
      have HKn := Lib.hid hKn
      have HLn := Lib.hid hLn
      have HLt := Lib.hid hlt
      clear hS hK hKn hL hU hV hLn
      rw [hwa]
      have HWA := Lib.hid hwa
      clear hwa
      go_wp2_with fail
      go_loopw [7, 8] (fun s13 s14 wr => ∃ j k f : Nat, s13 = .int .i64 k ∧ s14 = .int .i64 j ∧ k < n ∧ j ≤ n ∧ L.length ≤ j + f ∧ maxL L f j k = K ∧ SoR w wr q L U V) (fun _ s14 _ => n - (intOf s14).toNat)
      case atStart =>
        exact ⟨i + 1, i, L.length, rfl, congrArg (Value.int .i64) (w64p (by have := H51.out; omega)), hlt, hlt, by omega, HK.out.symm, HS.out⟩
      case round =>
        clear HS
        obtain ⟨j, k, f, rfl, rfl, hk, hj, hf, hmax, hS⟩ := hrel
        have hLn := HLn.out
        obtain ⟨_, hfb⟩ := hS.f.flb (by omega)
        have hblt := hfb.lt
        have hbfz := hfb.frozen
        by_cases hjl : j < n
        case pos =>
          have hj9 : j < 1000 := by have := H51.out; omega
          obtain ⟨g, hg1, hg2, hg3⟩ := maxL_step (w := L) (f := f) (j := j) (k := k) hf (by omega)
          rw [hg3] at hmax
          obtain ⟨s1, c1⟩ := hfb.at (i := j) (by omega)
          obtain ⟨s2, c2⟩ := hfb.at (i := k) (by omega)
          have HSk := Lib.hid (show _ ∧ _ ∧ _ from ⟨hS, hmax, hg2⟩)
          clear hS hmax hg1 hg2 hg3 hfb hf hLn
          cases hq : flt (L.getD k 0) (L.getD j 0)
          case false =>
            rw [hq] at HSk
            generalize L.getD j 0 = vj at *
            generalize L.getD k 0 = vk at *
            go_wp2_with fail
            refine wp_region_nqb 9 (fun _ _ _ => False) (by kernel_rfl) (by kernel_rfl) ?_
            intro C R hc hb' hb2 hd hR
            simp only [List.take_succ_cons, List.take_zero]
            repeat (
              first
                | (refine nqW_plain (fun K hK => ?_))
                | (refine nqW_step (fun K hK => ?_); go_simp)
              first
                | (refine nq_move rfl ?_; go_simp; refine hK _ ?_; clear hK K)
                | (refine nq_assign rfl ?_; go_simp; refine hK _ ?_; clear hK K)
                | (refine nq_flt rfl rfl rfl rfl hd ?_; intro _; go_frame; refine hK _ ?_; clear hK K)
                | (refine nq_same ?_; intro w' hw'; go_simp; (try go_bits); refine hK _ ?_; clear hK K hw' w')
                | (refine nq_same ?_; intro w' hw'; go_simp; rw [if_pos (by omega)]; go_simp; (try go_bits); refine hK _ ?_; clear hK K hw' w')
                | (go_simp; refine hK _ ?_; clear hK K))
            refine nqW_nil (hR _ ?_)
            clear hc hb' hb2 hd hR
            intro w' hw'
            simp only [List.drop]
            have HSw := Lib.hid (HSk.out.1.step hw')
            clear c1 c2 hw' hblt hbfz
            go_wp2
            go_roundw
            case rel => exact ⟨j + 1, k, g, rfl, by go_num, hk, hjl, HSk.out.2.2, HSk.out.2.1, HSw.out⟩
            case measure => simp [intOf]; omega
          case true =>
            rw [hq] at HSk
            generalize L.getD j 0 = vj at *
            generalize L.getD k 0 = vk at *
            go_wp2_with fail
            refine wp_region_nqb 9 (fun _ _ _ => False) (by kernel_rfl) (by kernel_rfl) ?_
            intro C R hc hb' hb2 hd hR
            simp only [List.take_succ_cons, List.take_zero]
            repeat (
              first
                | (refine nqW_plain (fun K hK => ?_))
                | (refine nqW_step (fun K hK => ?_); go_simp)
              first
                | (refine nq_move rfl ?_; go_simp; refine hK _ ?_; clear hK K)
                | (refine nq_assign rfl ?_; go_simp; refine hK _ ?_; clear hK K)
                | (refine nq_flt rfl rfl rfl rfl hd ?_; intro _; go_frame; refine hK _ ?_; clear hK K)
                | (refine nq_same ?_; intro w' hw'; go_simp; (try go_bits); refine hK _ ?_; clear hK K hw' w')
                | (refine nq_same ?_; intro w' hw'; go_simp; rw [if_pos (by omega)]; go_simp; (try go_bits); refine hK _ ?_; clear hK K hw' w')
                | (go_simp; refine hK _ ?_; clear hK K))
            refine nqW_nil (hR _ ?_)
            clear hc hb' hb2 hd hR
            intro w' hw'
            simp only [List.drop]
            have HSw := Lib.hid (HSk.out.1.step hw')
            clear c1 c2 hw' hblt hbfz
            go_wp2
            go_roundw
            case rel => exact ⟨j + 1, j, g, rfl, by go_num, hjl, hjl, HSk.out.2.2, HSk.out.2.1, HSw.out⟩
            case measure => simp [intOf]; omega
        case neg =>
          obtain rfl : k = K := (maxL_end (by omega)).symm.trans hmax
          clear hmax hf
          obtain ⟨s1, c1⟩ := hfb.at (i := i) (by omega)
          obtain ⟨s2, c2⟩ := hfb.at (i := k) (by omega)
          obtain ⟨vi, hvi⟩ : ∃ x, x = L.getD i 0 := ⟨_, rfl⟩
          obtain ⟨vk, hvk⟩ : ∃ x, x = L.getD k 0 := ⟨_, rfl⟩
          rw [← hvi] at c1
          rw [← hvk] at c2
          have HV := Lib.hid (show _ ∧ _ ∧ vi < 18446744073709551616 ∧ vk < 18446744073709551616 from ⟨hvi, hvk, hvi ▸ hS.fw.at _, hvk ▸ hS.fw.at _⟩)
          have HS4 := Lib.hid hS
          have HLn2 := Lib.hid hLn
          clear hS hfb hLn hvi hvk
          go_upto_region 12 with (fail)
          clear c1 c2 hblt hbfz
          obtain ⟨y2, hy2⟩ : ∃ x, x = wr.setCell ⟨q.wb, i, none⟩ (.float .f64 (raw vk s2)) := ⟨_, rfl⟩
          rw [← hy2]
          have HS4b := Lib.hid (show SoR w y2 q (L.set i vk) U V from hy2 ▸ HS4.out.setW i vk s2 HV.out.2.2.2)
          clear hy2 HS4
          obtain ⟨_, hfb⟩ := HS4b.out.f.flb (by rw [List.length_set]; have := HLn2.out; omega)
          have hblt := hfb.lt
          have hbfz := hfb.frozen
          obtain ⟨s3, c3⟩ := hfb.at (i := k) (by rw [List.length_set]; have := HLn2.out; omega)
          clear hfb
          go_upto_region 13 with (fail)
          clear c3 hblt hbfz
          obtain ⟨w5, hw5⟩ : ∃ x, x = y2.setCell ⟨q.wb, k, none⟩ (.float .f64 (raw vi s1)) := ⟨_, rfl⟩
          rw [← hw5]
          have HS5 := Lib.hid (show SoR w w5 q (swapL L i k) U V from by rw [hw5, swapL, ← HV.out.1, ← HV.out.2.1]; exact HS4b.out.setW k vi s1 HV.out.2.2.1)
          clear hw5 HS4b
          obtain ⟨q1, q2, q3⟩ := HS5.out.x4.facts
          go_wp2_with fail
          clear q1 q2 q3
          have HCol := Lib.hid (exch17_any _ i k HS5.out.u (by rw [← HQ.out]; exact HLt.out) (by rw [← HQ.out]; exact hk) HS5.out.hn.2.1 HS5.out.hn.1)
          rw [HS5.out.u.len] at HCol
          refine HCol.out.mono ?_
          rintro e w6 ⟨rfl, hu, hb⟩
          have HS6 := Lib.hid (HS5.out.putU hu hb)
          clear hu hb HCol HS5
          dsimp only
          obtain ⟨q1, q2, q3⟩ := HS6.out.x5.facts
          go_wp2_with fail
          clear q1 q2 q3
          have HCol := Lib.hid (exch17_any _ i k HS6.out.v (by rw [← HQ.out]; exact HLt.out) (by rw [← HQ.out]; exact hk) HS6.out.hn.2.2 HS6.out.hn.1)
          rw [HS6.out.v.len] at HCol
          refine HCol.out.mono ?_
          rintro e w7 ⟨rfl, hu, hb⟩
          have HS7 := Lib.hid (HS6.out.putV hu hb)
          clear hu hb HCol HS6
          dsimp only
          have HSi := Lib.hid (show SoR w w7 q (sortG q.n q.ru q.rv l u v (i + 1)).1 (sortG q.n q.ru q.rv l u v (i + 1)).2.1 (sortG q.n q.ru q.rv l u v (i + 1)).2.2 by rw [HR.out]; exact HS7.out)
          clear HS7
          have hi9 : i < 1000 := by have := H51.out; omega
          go_wp2_with fail
          go_roundw
          case rel => exact ⟨i + 1, by go_num, HLt.out, HSi.out⟩
          case measure => simp [intOf]; omega
    case neg =>
      have hin : n = i := by omega
      have HE := Lib.hid (hin.symm.trans HQ.out)
      subst hin
      have HS := Lib.hid hS
      clear hS
      go_wp2_with fail
      have h := HS.out
      rw [HE.out] at h
      exact bodyPost_end (results_none rfl _ _ _) rfl ⟨rfl, h.f, h.u, h.v, h.bls⟩
end Go.Proofs.Ytdljnhdhigbefaa

/- Layer 17, the document: may it be, and why can't it be solved (printed by gen_ux.py). No condition but on lengths. -/
namespace Go.Proofs.Ytdljnhdhigbefaa
open Go Go.RowKit
set_option maxRecDepth 1000000

set_option maxHeartbeats 2000000 in
theorem RMay17 (w : World) (da ea : Option Addr) (n m dc ec : Nat) (hn : n ≤ maxLen) (hm : m ≤ maxLen) :
    Calls Try.prog 22 #[.agg #[.slice da n dc, .slice ea m ec]] w fun e w' => e = .returned (.bool (mayT n m)) ∧ Below w.heap.size w w' := by
  unfold maxLen at hn hm
  unfold mayT
  have hB0 : Below w.heap.size w (w.alloc (.cells #[.slice da n dc, .slice ea m ec] 24)) := (Below.refl _ _).alloc (Nat.le_refl _) _
  by_cases h1 : n ≤ 512
  · have d1 : decide ((n : Int) ≤ 512) = true := decide_eq_true (by omega)
    rw [decide_eq_true h1]
    cases n with
    | zero =>
      by_cases hm0 : m = 0
      · subst hm0
        go_enter Try.func22, Try.ntmps22
        go_wp2
        go_ret
        exact ⟨rfl, hB0⟩
      · have e2 : ((m : Int) == 0) = false := by simp; omega
        have e3 : decide (m = 0 - 1) = false := decide_eq_false (by omega)
        rw [e3]
        go_enter Try.func22, Try.ntmps22
        go_wp2
        go_ret
        exact ⟨rfl, hB0⟩
    | succ n =>
      have e2 : ((m : Int) == (n : Int)) = decide (m = n + 1 - 1) := by rw [Bool.eq_iff_iff]; simp only [beq_iff_eq, decide_eq_true_eq]; omega
      have e3 : (((n + 1 : Nat) : Int) == 0) = false := by simp; omega
      have e4 : decide (0 < ((n + 1 : Nat) : Int)) = true := decide_eq_true (by omega)
      have e5 : ((n + 1 : Nat) : Int) - 1 = n := by omega
      have HE := Lib.hid e2
      clear e2
      go_enter Try.func22, Try.ntmps22
      go_wp2
      all_goals
        go_ret
        refine ⟨?_, hB0⟩
        rw [← HE.out]
        simp_all
  · have d1 : decide ((n : Int) ≤ 512) = false := decide_eq_false (by omega)
    rw [decide_eq_false h1]
    go_enter Try.func22, Try.ntmps22
    go_wp2
    go_ret
    exact ⟨rfl, hB0⟩
set_option maxHeartbeats 8000000 in
theorem RWrong17 (w : World) (da ea ua va : Option Addr) (nd dc ne ec nu uc nv vc : Nat) (ur uk vr vk : Int) (m1 m2 m3 f1 f2 f3 f4 : Bool)
    (M1 : ∀ W, Below w.heap.size w W → Calls Try.prog 22 #[.agg #[.slice da nd dc, .slice ea ne ec]] W fun e w' => e = .returned (.bool m1) ∧ Below W.heap.size W w')
    (M2 : ∀ W, Below w.heap.size w W → Calls Try.prog 61 #[.agg #[.int .i64 ur, .int .i64 uk, .slice ua nu uc]] W fun e w' => e = .returned (.bool m2) ∧ Below W.heap.size W w')
    (M3 : ∀ W, Below w.heap.size w W → Calls Try.prog 61 #[.agg #[.int .i64 vr, .int .i64 vk, .slice va nv vc]] W fun e w' => e = .returned (.bool m3) ∧ Below W.heap.size W w')
    (F1 : ∀ W, Below w.heap.size w W → Calls Try.prog 24 #[.slice da nd dc] W fun e w' => e = .returned (.bool f1) ∧ Below W.heap.size W w')
    (F2 : ∀ W, Below w.heap.size w W → Calls Try.prog 24 #[.slice ea ne ec] W fun e w' => e = .returned (.bool f2) ∧ Below W.heap.size W w')
    (F3 : ∀ W, Below w.heap.size w W → Calls Try.prog 24 #[.slice ua nu uc] W fun e w' => e = .returned (.bool f3) ∧ Below W.heap.size W w')
    (F4 : ∀ W, Below w.heap.size w W → Calls Try.prog 24 #[.slice va nv vc] W fun e w' => e = .returned (.bool f4) ∧ Below W.heap.size W w')
    : Calls Try.prog 18 #[.agg #[.slice da nd dc, .slice ea ne ec], .agg #[.int .i64 ur, .int .i64 uk, .slice ua nu uc], .agg #[.int .i64 vr, .int .i64 vk, .slice va nv vc]] w fun r w' => r = .returned (.int .i64 (wrongG m1 m2 m3 (decide (uk = (nd : Int))) (decide (vk = (nd : Int))) f1 f2 f3 f4)) ∧ Below w.heap.size w w' := by
  have HM1 := Lib.hid M1
  have HM2 := Lib.hid M2
  have HM3 := Lib.hid M3
  have HF1 := Lib.hid F1
  have HF2 := Lib.hid F2
  have HF3 := Lib.hid F3
  have HF4 := Lib.hid F4
  clear M1 M2 M3 F1 F2 F3 F4
  have t1 : (uk != (nd : Int)) = !decide (uk = (nd : Int)) := by rw [Bool.eq_iff_iff]; simp
  have t2 : (vk != (nd : Int)) = !decide (vk = (nd : Int)) := by rw [Bool.eq_iff_iff]; simp
  generalize decide (uk = (nd : Int)) = c1 at *
  generalize decide (vk = (nd : Int)) = c2 at *
  obtain ⟨W0, hW0⟩ : ∃ W0, W0 = (((w.alloc (.cells #[.slice da nd dc, .slice ea ne ec] 24)).alloc (.cells #[.int .i64 ur, .int .i64 uk, .slice ua nu uc] 26)).alloc (.cells #[.int .i64 vr, .int .i64 vk, .slice va nv vc] 26)) := ⟨_, rfl⟩
  have hB0 : Below w.heap.size w W0 := hW0 ▸ (((Below.refl _ _).alloc (Nat.le_refl _) _).alloc (by simp) _).alloc (by simp; omega) _
  have x0 : Box W0 w.heap.size [.slice da nd dc, .slice ea ne ec] := hW0 ▸ ((Box.newA w [.slice da nd dc, .slice ea ne ec] _ rfl).alloc _).alloc _
  have x1 : Box W0 (w.heap.size + 1) [.int .i64 ur, .int .i64 uk, .slice ua nu uc] := hW0 ▸ (Box.newA _ [.int .i64 ur, .int .i64 uk, .slice ua nu uc] _ (by simp)).alloc _
  have x2 : Box W0 (w.heap.size + 1 + 1) [.int .i64 vr, .int .i64 vk, .slice va nv vc] := hW0 ▸ Box.newA _ [.int .i64 vr, .int .i64 vk, .slice va nv vc] _ (by simp)
  have S0 := Lib.hid (show BoxU w W0 [(w.heap.size, [.slice da nd dc, .slice ea ne ec]), (w.heap.size + 1, [.int .i64 ur, .int .i64 uk, .slice ua nu uc]), (w.heap.size + 1 + 1, [.int .i64 vr, .int .i64 vk, .slice va nv vc])] from ⟨fun p hp => by
    simp only [List.mem_cons, List.not_mem_nil, or_false] at hp
    rcases hp with rfl | rfl | rfl
    · exact x0
    · exact x1
    · exact x2
    , hB0⟩)
  clear hB0 x0 x1 x2
  go_enter Try.func18, Try.ntmps18
  go_upto_region 1 with (fail)
  rw [← hW0]
  clear hW0
  obtain ⟨f01, f02, f03⟩ := (S0.out.get 0 rfl).facts
  obtain ⟨f11, f12, f13⟩ := (S0.out.get 1 rfl).facts
  obtain ⟨f21, f22, f23⟩ := (S0.out.get 2 rfl).facts
  go_wp2_with fail
  refine (HM1.out _ S0.out.below).mono ?_
  rintro e w1 ⟨rfl, hb⟩
  clear f01 f02 f03 f11 f12 f13 f21 f22 f23
  have S1 := Lib.hid (S0.out.step hb)
  clear hb S0
  cases m1
  case false =>
    obtain ⟨f01, f02, f03⟩ := (S1.out.get 0 rfl).facts
    obtain ⟨f11, f12, f13⟩ := (S1.out.get 1 rfl).facts
    obtain ⟨f21, f22, f23⟩ := (S1.out.get 2 rfl).facts
    go_wp2
    go_ret
    exact ⟨rfl, S1.out.below⟩
  case true =>
  obtain ⟨f01, f02, f03⟩ := (S1.out.get 0 rfl).facts
  obtain ⟨f11, f12, f13⟩ := (S1.out.get 1 rfl).facts
  obtain ⟨f21, f22, f23⟩ := (S1.out.get 2 rfl).facts
  go_wp2_with fail
  refine (HM2.out _ S1.out.below).mono ?_
  rintro e w2 ⟨rfl, hb⟩
  clear f01 f02 f03 f11 f12 f13 f21 f22 f23
  have S2 := Lib.hid (S1.out.step hb)
  clear hb S1
  cases m2
  case false =>
    obtain ⟨f01, f02, f03⟩ := (S2.out.get 0 rfl).facts
    obtain ⟨f11, f12, f13⟩ := (S2.out.get 1 rfl).facts
    obtain ⟨f21, f22, f23⟩ := (S2.out.get 2 rfl).facts
    go_wp2
    go_ret
    exact ⟨rfl, S2.out.below⟩
  case true =>
  obtain ⟨f01, f02, f03⟩ := (S2.out.get 0 rfl).facts
  obtain ⟨f11, f12, f13⟩ := (S2.out.get 1 rfl).facts
  obtain ⟨f21, f22, f23⟩ := (S2.out.get 2 rfl).facts
  go_wp2_with fail
  refine (HM3.out _ S2.out.below).mono ?_
  rintro e w3 ⟨rfl, hb⟩
  clear f01 f02 f03 f11 f12 f13 f21 f22 f23
  have S3 := Lib.hid (S2.out.step hb)
  clear hb S2
  cases m3
  case false =>
    obtain ⟨f01, f02, f03⟩ := (S3.out.get 0 rfl).facts
    obtain ⟨f11, f12, f13⟩ := (S3.out.get 1 rfl).facts
    obtain ⟨f21, f22, f23⟩ := (S3.out.get 2 rfl).facts
    go_wp2
    go_ret
    exact ⟨rfl, S3.out.below⟩
  case true =>
  cases c1
  case false =>
    obtain ⟨f01, f02, f03⟩ := (S3.out.get 0 rfl).facts
    obtain ⟨f11, f12, f13⟩ := (S3.out.get 1 rfl).facts
    obtain ⟨f21, f22, f23⟩ := (S3.out.get 2 rfl).facts
    go_wp2
    go_ret
    exact ⟨rfl, S3.out.below⟩
  case true =>
  cases c2
  case false =>
    obtain ⟨f01, f02, f03⟩ := (S3.out.get 0 rfl).facts
    obtain ⟨f11, f12, f13⟩ := (S3.out.get 1 rfl).facts
    obtain ⟨f21, f22, f23⟩ := (S3.out.get 2 rfl).facts
    go_wp2
    go_ret
    exact ⟨rfl, S3.out.below⟩
  case true =>
  obtain ⟨f01, f02, f03⟩ := (S3.out.get 0 rfl).facts
  obtain ⟨f11, f12, f13⟩ := (S3.out.get 1 rfl).facts
  obtain ⟨f21, f22, f23⟩ := (S3.out.get 2 rfl).facts
  go_wp2_with fail
  refine (HF1.out _ S3.out.below).mono ?_
  rintro e w4 ⟨rfl, hb⟩
  clear f01 f02 f03 f11 f12 f13 f21 f22 f23
  have S4 := Lib.hid (S3.out.step hb)
  clear hb S3
  cases f1
  case false =>
    obtain ⟨f01, f02, f03⟩ := (S4.out.get 0 rfl).facts
    obtain ⟨f11, f12, f13⟩ := (S4.out.get 1 rfl).facts
    obtain ⟨f21, f22, f23⟩ := (S4.out.get 2 rfl).facts
    go_wp2
    go_ret
    exact ⟨rfl, S4.out.below⟩
  case true =>
  obtain ⟨f01, f02, f03⟩ := (S4.out.get 0 rfl).facts
  obtain ⟨f11, f12, f13⟩ := (S4.out.get 1 rfl).facts
  obtain ⟨f21, f22, f23⟩ := (S4.out.get 2 rfl).facts
  go_wp2_with fail
  refine (HF2.out _ S4.out.below).mono ?_
  rintro e w5 ⟨rfl, hb⟩
  clear f01 f02 f03 f11 f12 f13 f21 f22 f23
  have S5 := Lib.hid (S4.out.step hb)
  clear hb S4
  cases f2
  case false =>
    obtain ⟨f01, f02, f03⟩ := (S5.out.get 0 rfl).facts
    obtain ⟨f11, f12, f13⟩ := (S5.out.get 1 rfl).facts
    obtain ⟨f21, f22, f23⟩ := (S5.out.get 2 rfl).facts
    go_wp2
    go_ret
    exact ⟨rfl, S5.out.below⟩
  case true =>
  obtain ⟨f01, f02, f03⟩ := (S5.out.get 0 rfl).facts
  obtain ⟨f11, f12, f13⟩ := (S5.out.get 1 rfl).facts
  obtain ⟨f21, f22, f23⟩ := (S5.out.get 2 rfl).facts
  go_wp2_with fail
  refine (HF3.out _ S5.out.below).mono ?_
  rintro e w6 ⟨rfl, hb⟩
  clear f01 f02 f03 f11 f12 f13 f21 f22 f23
  have S6 := Lib.hid (S5.out.step hb)
  clear hb S5
  cases f3
  case false =>
    obtain ⟨f01, f02, f03⟩ := (S6.out.get 0 rfl).facts
    obtain ⟨f11, f12, f13⟩ := (S6.out.get 1 rfl).facts
    obtain ⟨f21, f22, f23⟩ := (S6.out.get 2 rfl).facts
    go_wp2
    go_ret
    exact ⟨rfl, S6.out.below⟩
  case true =>
  obtain ⟨f01, f02, f03⟩ := (S6.out.get 0 rfl).facts
  obtain ⟨f11, f12, f13⟩ := (S6.out.get 1 rfl).facts
  obtain ⟨f21, f22, f23⟩ := (S6.out.get 2 rfl).facts
  go_wp2_with fail
  refine (HF4.out _ S6.out.below).mono ?_
  rintro e w7 ⟨rfl, hb⟩
  clear f01 f02 f03 f11 f12 f13 f21 f22 f23
  have S7 := Lib.hid (S6.out.step hb)
  clear hb S6
  cases f4
  case false =>
    obtain ⟨f01, f02, f03⟩ := (S7.out.get 0 rfl).facts
    obtain ⟨f11, f12, f13⟩ := (S7.out.get 1 rfl).facts
    obtain ⟨f21, f22, f23⟩ := (S7.out.get 2 rfl).facts
    go_wp2
    go_ret
    exact ⟨rfl, S7.out.below⟩
  case true =>
  obtain ⟨f01, f02, f03⟩ := (S7.out.get 0 rfl).facts
  obtain ⟨f11, f12, f13⟩ := (S7.out.get 1 rfl).facts
  obtain ⟨f21, f22, f23⟩ := (S7.out.get 2 rfl).facts
  go_wp2
  go_ret
  exact ⟨rfl, S7.out.below⟩
end Go.Proofs.Ytdljnhdhigbefaa

/- Layer 17: the law's few. No condition but on lengths. -/
namespace Go.Proofs.Ytdljnhdhigbefaa
open Go Go.RowKit
set_option maxRecDepth 1000000

set_option maxHeartbeats 2000000 in
theorem few17_any (w : World) (da ea ua va : Option Addr) (n m k l dc ec uc vc : Nat) (r c r' c' : Int) (hn : n ≤ maxLen) (hm : m ≤ maxLen) (hk : k ≤ maxLen) (hl : l ≤ maxLen) :
    Calls Try.prog 13 #[.agg #[.slice da n dc, .slice ea m ec], .agg #[.int .i64 r, .int .i64 c, .slice ua k uc], .agg #[.int .i64 r', .int .i64 c', .slice va l vc]] w fun e w' => e = .returned (.bool (decide (n ≤ 20) && decide (m ≤ 20) && decide (k ≤ 200) && decide (l ≤ 200))) ∧ Below w.heap.size w w' := by
  unfold maxLen at hn hm hk hl
  have hB0 : Below w.heap.size w (((w.alloc (.cells #[.slice da n dc, .slice ea m ec] 24)).alloc (.cells #[.int .i64 r, .int .i64 c, .slice ua k uc] 26)).alloc (.cells #[.int .i64 r', .int .i64 c', .slice va l vc] 26)) := (((Below.refl _ _).alloc (Nat.le_refl _) _).alloc (by simp) _).alloc (by simp; omega) _
  have h1 : decide ((n : Int) ≤ 20) = decide (n ≤ 20) := by rw [Bool.eq_iff_iff]; simp; omega
  have h2 : decide ((m : Int) ≤ 20) = decide (m ≤ 20) := by rw [Bool.eq_iff_iff]; simp; omega
  have h3 : decide ((k : Int) ≤ 200) = decide (k ≤ 200) := by rw [Bool.eq_iff_iff]; simp; omega
  have h4 : decide ((l : Int) ≤ 200) = decide (l ≤ 200) := by rw [Bool.eq_iff_iff]; simp; omega
  generalize decide (n ≤ 20) = b1 at *
  generalize decide (m ≤ 20) = b2 at *
  generalize decide (k ≤ 200) = b3 at *
  generalize decide (l ≤ 200) = b4 at *
  cases b1
  · go_enter Try.func13, Try.ntmps13
    go_wp2
    go_ret
    exact ⟨rfl, hB0⟩
  · cases b2
    · go_enter Try.func13, Try.ntmps13
      go_wp2
      go_ret
      exact ⟨rfl, hB0⟩
    · cases b3
      · go_enter Try.func13, Try.ntmps13
        go_wp2
        go_ret
        exact ⟨rfl, hB0⟩
      · cases b4
        all_goals
          go_enter Try.func13, Try.ntmps13
          go_wp2
          go_ret
          exact ⟨rfl, hB0⟩
end Go.Proofs.Ytdljnhdhigbefaa

/- Layer 17, plainly: what is solved keeps its lengths; what may be solved. No condition. -/
namespace Go.Proofs.Ytdljnhdhigbefaa
open Go Go.RowKit
set_option maxRecDepth 100000

def LnG (x y : GkS) : Prop := x.d.length = y.d.length ∧ x.e.length = y.e.length ∧ x.u.length = y.u.length ∧ x.v.length = y.v.length
theorem LnG.refl (x : GkS) : LnG x x := ⟨rfl, rfl, rfl, rfl⟩
theorem LnG.trans {x y z : GkS} (h : LnG x y) (k : LnG y z) : LnG x z := ⟨h.1.trans k.1, h.2.1.trans k.2.1, h.2.2.1.trans k.2.2.1, h.2.2.2.trans k.2.2.2⟩
theorem clN_ln (n ru l : Nat) (y : ClS) (i : Nat) : LnG (clN n ru l y i).x y.x := ⟨by simp [clN], by simp [clN, clE], by unfold clN rotL; exact colsL_len _ _ _ _ _ _ _, rfl⟩
theorem clL_ln (n ru big l : Nat) : ∀ (m i : Nat) (y : ClS), LnG (clL n ru big l m i y) y.x
  | 0, _, y => LnG.refl _
  | m + 1, i, y => by
    unfold clL
    split
    · exact ⟨rfl, by simp [clE], rfl, rfl⟩
    · exact (clL_ln n ru big l m (i + 1) _).trans (clN_ln n ru l y i)
theorem sgN_ln (n ru rv : Nat) (y : SgS) (j : Nat) : LnG (sgN n ru rv y j).x y.x := ⟨by simp [sgN], by simp [sgN], by unfold sgN rotL; exact colsL_len _ _ _ _ _ _ _, by unfold sgN rotL; exact colsL_len _ _ _ _ _ _ _⟩
theorem sgL_ln (n ru rv l : Nat) : ∀ (m : Nat) (y : SgS), LnG (sgL n ru rv l m y).x y.x
  | 0, y => LnG.refl _
  | m + 1, y => (sgN_ln n ru rv _ _).trans (sgL_ln n ru rv l m y)
theorem sweepG_ln (n ru rv : Nat) (x : GkS) (l k : Nat) : LnG (sweepG n ru rv x l k) x := by
  have h := sgL_ln n ru rv l (k - l) (sg0 x l k)
  have h2 : LnG (sweepG n ru rv x l k) (sgL n ru rv l (k - l) (sg0 x l k)).x := ⟨by simp [sweepG, sgE], by simp [sweepG, sgE], rfl, rfl⟩
  exact h2.trans h
theorem finG_ln (n rv : Nat) (x : GkS) (k : Nat) : LnG (finG n rv x k) x := by
  unfold finG
  split
  · exact ⟨by simp, rfl, rfl, colsL_len _ _ _ _ _ _ _⟩
  · exact LnG.refl _
theorem preG_ln (n ru big k : Nat) (x : GkS) : LnG (preG n ru big k x) x := by
  unfold preG
  split
  · exact clL_ln n ru big _ _ _ _
  · exact LnG.refl _
theorem valG_ln (n ru rv big k : Nat) : ∀ (f : Nat) (x : GkS), LnG (valG n ru rv big k f x).1 x
  | 0, x => by
    unfold valG
    split
    · exact (finG_ln n rv _ k).trans (preG_ln n ru big k x)
    · exact preG_ln n ru big k x
  | f + 1, x => by
    unfold valG
    split
    · exact (finG_ln n rv _ k).trans (preG_ln n ru big k x)
    · exact (valG_ln n ru rv big k f _).trans ((sweepG_ln n ru rv _ _ k).trans (preG_ln n ru big k x))
theorem solG_ln (n ru rv big : Nat) : ∀ (m : Nat) (x : GkS) (s : Nat), LnG (solG n ru rv big m x s).1 x
  | 0, x, s => LnG.refl _
  | m + 1, x, s => by
    unfold solG
    dsimp only
    split
    · exact (solG_ln n ru rv big m _ _).trans (valG_ln n ru rv big m 30 x)
    · exact valG_ln n ru rv big m 30 x
theorem sortG_ln (n ru rv : Nat) (w u v : List Nat) : ∀ i, (sortG n ru rv w u v i).1.length = w.length ∧ (sortG n ru rv w u v i).2.1.length = u.length ∧ (sortG n ru rv w u v i).2.2.length = v.length
  | 0 => ⟨rfl, rfl, rfl⟩
  | i + 1 => by
    obtain ⟨h1, h2, h3⟩ := sortG_ln n ru rv w u v i
    exact ⟨sortG_len n ru rv w u v (i + 1), (colsL_len _ _ _ _ _ _ _).trans h2, (colsL_len _ _ _ _ _ _ _).trans h3⟩
/-- Why it can't be solved. -/
def wG (d e u v : List Nat) (ur uk vr vk : Int) : Int := wrongG (mayT d.length e.length) (mayB ur uk u.length) (mayB vr vk v.length) (decide (uk = (d.length : Int))) (decide (vk = (d.length : Int))) (d.all ffin) (e.all ffin) (u.all ffin) (v.all ffin)
structure OkG (d e u v : List Nat) (ur uk vr vk : Int) (ru rv : Nat) : Prop where
  r : ur = ru ∧ vr = rv
  k : uk = d.length ∧ vk = d.length
  b : ru ≤ 512 ∧ rv ≤ 512 ∧ d.length ≤ 512
  t : mayT d.length e.length = true
  lu : u.length = ru * d.length
  lv : v.length = rv * d.length
  f : d.all ffin = true ∧ e.all ffin = true ∧ u.all ffin = true ∧ v.all ffin = true
theorem wG_zero {d e u v : List Nat} {ur uk vr vk : Int} (h : wG d e u v ur uk vr vk = 0) : ∃ ru rv : Nat, OkG d e u v ur uk vr vk ru rv := by
  unfold wG wrongG at h
  by_cases h1 : (mayT d.length e.length && mayB ur uk u.length && mayB vr vk v.length) = true
  · rw [if_pos h1] at h
    by_cases h2 : (decide (uk = (d.length : Int)) && decide (vk = (d.length : Int))) = true
    · rw [if_pos h2] at h
      by_cases h3 : (d.all ffin && e.all ffin && u.all ffin && v.all ffin) = true
      · simp only [Bool.and_eq_true, decide_eq_true_eq] at h1 h2 h3
        obtain ⟨⟨t1, t2⟩, t3⟩ := h1
        obtain ⟨a, b, e1, e2, a1, a2, a3⟩ := mayB_nat t2
        obtain ⟨a', b', e1', e2', a1', a2', a3'⟩ := mayB_nat t3
        have hb : b = d.length := by omega
        have hb' : b' = d.length := by omega
        subst hb
        subst hb'
        refine ⟨a, a', ⟨e1, e1'⟩, h2, ⟨a1, a1', a2⟩, t1, a3, a3', h3.1.1.1, h3.1.1.2, h3.1.2, h3.2⟩
      · rw [if_neg h3] at h; exact absurd h (by decide)
    · rw [if_neg h2] at h; exact absurd h (by decide)
  · rw [if_neg h1] at h; exact absurd h (by decide)
/-- What gk.Solve tells, whatever it is given. -/
structure GR where
  a : Option Addr
  a1 : Option Addr
  a2 : Option Addr
  n : Nat
  c : Nat
  l1 : Nat
  c1 : Nat
  l2 : Nat
  c2 : Nat
  r1 : Int
  k1 : Int
  r2 : Int
  k2 : Int
  m : Int
  code : Int
def GR.val (q : GR) : Value := .tuple #[.slice q.a q.n q.c, .agg #[.int .i64 q.r1, .int .i64 q.k1, .slice q.a1 q.l1 q.c1], .agg #[.int .i64 q.r2, .int .i64 q.k2, .slice q.a2 q.l2 q.c2], .int .i64 q.m, .int .i64 q.code]
def SG17 (d e u v : List Nat) (ur uk vr vk : Int) (W : World) (q : GR) : Prop :=
  (wG d e u v ur uk vr vk ≠ 0 ∧ q.n = 0 ∧ q.r1 = 0 ∧ q.k1 = 0 ∧ q.l1 = 0 ∧ q.r2 = 0 ∧ q.k2 = 0 ∧ q.l2 = 0 ∧ q.m = 0 ∧ q.code = wG d e u v ur uk vr vk) ∨
  (wG d e u v ur uk vr vk = 0 ∧ ∃ ru rv : Nat, OkG d e u v ur uk vr vk ru rv ∧ ∃ y, y = solG d.length ru rv (bigG d (0 :: e) d.length) d.length ⟨d, 0 :: e, u, v⟩ 0 ∧ q.m = (y.2.1 : Nat) ∧
    (((y.2.2 = true ∧ y.1.d.all ffin = true) ∧ q.n = d.length ∧ q.r1 = ru ∧ q.k1 = d.length ∧ q.l1 = ru * d.length ∧ q.r2 = rv ∧ q.k2 = d.length ∧ q.l2 = rv * d.length ∧ q.code = 0 ∧ Fls W q.a (sortG d.length ru rv y.1.d y.1.u y.1.v d.length).1 ∧ Fls W q.a1 (sortG d.length ru rv y.1.d y.1.u y.1.v d.length).2.1 ∧ Fls W q.a2 (sortG d.length ru rv y.1.d y.1.u y.1.v d.length).2.2) ∨
     (¬ (y.2.2 = true ∧ y.1.d.all ffin = true) ∧ q.n = 0 ∧ q.r1 = 0 ∧ q.k1 = 0 ∧ q.l1 = 0 ∧ q.r2 = 0 ∧ q.k2 = 0 ∧ q.l2 = 0 ∧ q.code = 7)))
theorem SG17.below {d e u v : List Nat} {ur uk vr vk : Int} {W W' : World} {q : GR} (h : SG17 d e u v ur uk vr vk W q) (hb : Below W.heap.size W W') : SG17 d e u v ur uk vr vk W' q := by
  rcases h with h | ⟨h0, ru, rv, h1, y, h3, h4, h | h⟩
  · exact .inl h
  · obtain ⟨a1, a2, a3, a4, a5, a6, a7, a8, a9, f0, f1, f2⟩ := h
    exact .inr ⟨h0, ru, rv, h1, y, h3, h4, .inl ⟨a1, a2, a3, a4, a5, a6, a7, a8, a9, f0.below hb, f1.below hb, f2.below hb⟩⟩
  · exact .inr ⟨h0, ru, rv, h1, y, h3, h4, .inr h⟩
theorem gs_any (w : World) (da ea ua va : Option Addr) (d e u v : List Nat) (dc ec uc vc : Nat) (ur uk vr vk : Int) (hd : Fls w da d) (he : Fls w ea e) (hu : Fls w ua u) (hv : Fls w va v) (hda : da = none → d = []) (hea : ea = none → e = [] ∧ ec = 0) (hua : ua = none → u = []) (hva : va = none → v = []) (hWd : Words d) (hWe : Words e) (hWu : Words u) (hWv : Words v) (hld : d.length ≤ maxLen) (hle : e.length ≤ maxLen) (hlu : u.length ≤ maxLen) (hlv : v.length ≤ maxLen) :
    Calls Try.prog 16 #[.agg #[.slice da d.length dc, .slice ea e.length ec], .agg #[.int .i64 ur, .int .i64 uk, .slice ua u.length uc], .agg #[.int .i64 vr, .int .i64 vk, .slice va v.length vc]] w fun x w' => ∃ q : GR, x = .returned q.val ∧ SG17 d e u v ur uk vr vk w' q ∧ Below w.heap.size w w' := by
  by_cases h0 : wG d e u v ur uk vr vk = 0
  · obtain ⟨ru, rv, ho⟩ := wG_zero h0
    obtain ⟨⟨r1, r2⟩, ⟨k1, k2⟩, ⟨b1, b2, b3⟩, ht, hu', hv', f1, f2, f3, f4⟩ := ho
    subst r1 r2 k1 k2
    refine (gsolve_ok w da ea ua va d e u v dc ec uc vc ru rv hd he hu hv hda hea hua hva hWd hWe hWu hWv b3 ht b1 b2 hu' hv' f1 f2 f3 f4).mono ?_
    intro x w' h
    unfold SolveGP SolveGQ at h
    split at h
    · rename_i hq
      obtain ⟨a, c, a1, c1, a2, c2, rfl, g0, g1, g2, hb⟩ := h
      exact ⟨⟨a, a1, a2, d.length, c, ru * d.length, c1, rv * d.length, c2, ru, d.length, rv, d.length, _, 0⟩, rfl, .inr ⟨h0, ru, rv, ⟨⟨rfl, rfl⟩, ⟨rfl, rfl⟩, ⟨b1, b2, b3⟩, ht, hu', hv', f1, f2, f3, f4⟩, _, rfl, rfl, .inl ⟨hq, rfl, rfl, rfl, rfl, rfl, rfl, rfl, rfl, g0, g1, g2⟩⟩, hb⟩
    · rename_i hq
      obtain ⟨rfl, hb⟩ := h
      exact ⟨⟨none, none, none, 0, 0, 0, 0, 0, 0, 0, 0, 0, 0, _, 7⟩, rfl, .inr ⟨h0, ru, rv, ⟨⟨rfl, rfl⟩, ⟨rfl, rfl⟩, ⟨b1, b2, b3⟩, ht, hu', hv', f1, f2, f3, f4⟩, _, rfl, rfl, .inr ⟨hq, rfl, rfl, rfl, rfl, rfl, rfl, rfl, rfl⟩⟩, hb⟩
  · have G : ∀ (a : Option Addr) (l : List Nat) (lc : Nat), Fls w a l → Words l → l.length ≤ maxLen → ∀ W, Below w.heap.size w W → Calls Try.prog 53 #[.slice a l.length lc] W fun e w' => e = .returned (.bool (l.all ffin)) ∧ Below W.heap.size W w' := fun a l lc h1 h2 h3 W h => (GFin_any W a l lc (h1.below h) h2 h3).mono (fun r w' ⟨h4, h5⟩ => ⟨h4, h5 ▸ Below.refl _ _⟩)
    refine (gsolve_err w da ea ua va d.length dc e.length ec u.length uc v.length vc ur uk vr vk (mayT d.length e.length) (mayB ur uk u.length) (mayB vr vk v.length) (d.all ffin) (e.all ffin) (u.all ffin) (v.all ffin)
      (fun W h => GMay_any W da ea d.length e.length dc ec hld hle) (fun W h => GmayM_any W ur uk ua u.length uc hlu) (fun W h => GmayM_any W vr vk va v.length vc hlv)
      (G da d dc hd hWd hld) (G ea e ec he hWe hle) (G ua u uc hu hWu hlu) (G va v vc hv hWv hlv) _ rfl h0).mono ?_
    rintro x w' ⟨rfl, hb⟩
    exact ⟨⟨none, none, none, 0, 0, 0, 0, 0, 0, 0, 0, 0, 0, 0, _⟩, rfl, .inl ⟨h0, rfl, rfl, rfl, rfl, rfl, rfl, rfl, rfl, rfl⟩, hb⟩
theorem rw_any (w : World) (da ea ua va : Option Addr) (d e u v : List Nat) (dc ec uc vc : Nat) (ur uk vr vk : Int) (hd : Fls w da d) (he : Fls w ea e) (hu : Fls w ua u) (hv : Fls w va v) (hld : d.length ≤ maxLen) (hle : e.length ≤ maxLen) (hlu : u.length ≤ maxLen) (hlv : v.length ≤ maxLen) :
    Calls Try.prog 18 #[.agg #[.slice da d.length dc, .slice ea e.length ec], .agg #[.int .i64 ur, .int .i64 uk, .slice ua u.length uc], .agg #[.int .i64 vr, .int .i64 vk, .slice va v.length vc]] w fun x w' => x = .returned (.int .i64 (wG d e u v ur uk vr vk)) ∧ Below w.heap.size w w' :=
  RWrong17 w da ea ua va d.length dc e.length ec u.length uc v.length vc ur uk vr vk (mayT d.length e.length) (mayB ur uk u.length) (mayB vr vk v.length) (d.all ffin) (e.all ffin) (u.all ffin) (v.all ffin)
    (fun W h => RMay17 W da ea d.length e.length dc ec hld hle) (fun W h => RMay9_any W ur uk ua u.length uc hlu) (fun W h => RMay9_any W vr vk va v.length vc hlv)
    (fun W h => RFin12 W da d dc (hd.below h) hld) (fun W h => RFin12 W ea e ec (he.below h) hle) (fun W h => RFin12 W ua u uc (hu.below h) hlu) (fun W h => RFin12 W va v vc (hv.below h) hlv)
theorem FlsU.none0 (W : World) (a : Option Addr) : Fls W a [] := fun h => absurd rfl h
theorem same_nilU (w : World) (a : Option Addr) (ca : Nat) :
    Calls Try.prog 17 #[.agg #[.int .i64 0, .int .i64 0, .slice a 0 ca], .agg #[.int .i64 0, .int .i64 0, .slice none 0 0]] w fun e w' => e = .returned (.bool true) ∧ Below w.heap.size w w' :=
  Same9F w 0 0 a none [] ca 0 (FlsU.none0 _ _) (FlsU.none0 _ _) (by simp)
end Go.Proofs.Ytdljnhdhigbefaa

/- 'GkFalls', plainly: without matrices, and with ones, the same values, which fall. No condition. -/
namespace Go.Proofs.Ytdljnhdhigbefaa
open Go Go.RowKit
set_option maxRecDepth 100000

theorem oneL_mem (n : Nat) : ∀ i, ∀ x ∈ oneL n i, x = 0 ∨ x = 4607182418800017408
  | 0, x, hx => .inl (List.mem_replicate.1 hx).2
  | i + 1, x, hx => by
    rw [oneL] at hx
    rcases List.mem_or_eq_of_mem_set hx with h | h
    · exact oneL_mem n i x h
    · exact .inr h
theorem oneL_words (n : Nat) : Words (oneL n n) := fun x hx => by
  rcases oneL_mem n n x hx with rfl | rfl <;> decide
theorem oneL_fin (n : Nat) : (oneL n n).all ffin = true := List.all_eq_true.2 fun x hx => by
  rcases oneL_mem n n x hx with rfl | rfl <;> kernel_rfl
theorem wG_none {d e : List Nat} (hn : d.length ≤ 512) : wG d e [] [] 0 d.length 0 d.length = wrongG (mayT d.length e.length) true true true true (d.all ffin) (e.all ffin) true true := by
  have h : mayB 0 (d.length : Int) 0 = true := mayB_of (a := 0) (b := d.length) (by omega) hn (by simp)
  unfold wG
  rw [List.length_nil, h, decide_eq_true rfl]
  rfl
theorem wG_one {d e : List Nat} (hn : d.length ≤ 512) : wG d e (oneL d.length d.length) (oneL d.length d.length) d.length d.length d.length d.length = wrongG (mayT d.length e.length) true true true true (d.all ffin) (e.all ffin) true true := by
  have h : mayB (d.length : Int) (d.length : Int) (oneL d.length d.length).length = true := mayB_of hn hn (oneL_len _ _)
  unfold wG
  rw [h, decide_eq_true rfl, oneL_fin]
theorem may_code {d e u v : List Nat} {ur uk vr vk : Int} (h : mayT d.length e.length = false) : wG d e u v ur uk vr vk = 2 := by
  unfold wG wrongG
  rw [h]
  rfl
structure FallG (n : Nat) (W : World) (q1 q2 : GR) : Prop where
  code : q1.code = q2.code
  m : q1.m = q2.m
  few : ∃ k : Nat, q1.m = k ∧ k ≤ 30 * n
  sz : q1.n = q2.n
  vals : ∃ l : List Nat, l.length = q1.n ∧ l.length ≤ n ∧ Fls W q1.a l ∧ Fls W q2.a l ∧ ∀ i, i < l.length → flt (l.getD i 0) 0 = false ∧ (0 < i → flt (l.getD (i - 1) 0) (l.getD i 0) = false)
theorem falls_pair {d e : List Nat} {W : World} {q1 q2 : GR} (hn : d.length ≤ 512) (h1 : SG17 d e [] [] 0 d.length 0 d.length W q1) (h2 : SG17 d e (oneL d.length d.length) (oneL d.length d.length) d.length d.length d.length d.length W q2) : FallG d.length W q1 q2 := by
  unfold SG17 at h1 h2
  rw [wG_none hn] at h1
  rw [wG_one hn] at h2
  rcases h1 with ⟨h0, a1, a2, a3, a4, a5, a6, a7, a8, a9⟩ | ⟨h0, ru, rv, ho, y, hy, hm, h1⟩
  · rcases h2 with ⟨_, b1, b2, b3, b4, b5, b6, b7, b8, b9⟩ | ⟨h0', _⟩
    · exact ⟨a9.trans b9.symm, a8.trans b8.symm, ⟨0, a8, Nat.zero_le _⟩, a1.trans b1.symm, [], a1.symm, Nat.zero_le _, FlsU.none0 _ _, FlsU.none0 _ _, fun i hi => absurd hi (Nat.not_lt_zero _)⟩
    · exact absurd h0' h0
  · rcases h2 with ⟨h0', _⟩ | ⟨_, ru', rv', ho', y', hy', hm', h2⟩
    · exact absurd h0 h0'
    obtain ⟨e1, e2⟩ := ho.r
    obtain ⟨e3, e4⟩ := ho'.r
    obtain rfl : ru = 0 := by omega
    obtain rfl : rv = 0 := by omega
    obtain rfl : ru' = d.length := by omega
    obtain rfl : rv' = d.length := by omega
    obtain ⟨g1, g2⟩ := solG_eq d.length 0 d.length 0 d.length (bigG d (0 :: e) d.length) d.length (x := ⟨d, 0 :: e, [], []⟩) (y := ⟨d, 0 :: e, oneL d.length d.length, oneL d.length d.length⟩) 0 ⟨rfl, rfl⟩
    have hfew := solG_few d.length 0 0 (bigG d (0 :: e) d.length) d.length ⟨d, 0 :: e, [], []⟩ 0
    have hln := solG_ln d.length 0 0 (bigG d (0 :: e) d.length) d.length ⟨d, 0 :: e, [], []⟩ 0
    have hsp := fun hok hf => falls_spec (n := d.length) (ru := 0) (rv := 0) (big := bigG d (0 :: e) d.length) (x := ⟨d, 0 :: e, [], []⟩) (u := y.1.u) (v := y.1.v) (s := 0) hln.1 rfl hok hf
    rw [← hy, ← hy'] at g1 g2
    rw [← hy] at hfew hln hsp
    have gd : y.1.d = y'.1.d := g1.1
    have hq1 : q1.m = q2.m := by rw [hm, hm', g2]
    have hc : (y.2.2 = true ∧ y.1.d.all ffin = true) ↔ (y'.2.2 = true ∧ y'.1.d.all ffin = true) := by rw [g2, gd]
    rcases h1 with ⟨k, a1, a2, a3, a4, a5, a6, a7, a8, f0, f1, f2⟩ | ⟨k, a1, a2, a3, a4, a5, a6, a7, a8⟩
    · rcases h2 with ⟨k', b1, b2, b3, b4, b5, b6, b7, b8, f0', f1', f2'⟩ | ⟨k', _⟩
      · have hs : (sortG d.length d.length d.length y'.1.d y'.1.u y'.1.v d.length).1 = (sortG d.length 0 0 y.1.d y.1.u y.1.v d.length).1 := by rw [← gd]; exact sortG_eq _ _ _ _ _ _ _ _ _ _ _
        rw [hs] at f0'
        obtain ⟨s1, s2⟩ := hsp k.1 (List.all_eq_true.1 k.2)
        have hll : (sortG d.length 0 0 y.1.d y.1.u y.1.v d.length).1.length = d.length := (sortG_len _ _ _ _ _ _ _).trans hln.1
        exact ⟨a8.trans b8.symm, hq1, ⟨_, hm, by omega⟩, a1.trans b1.symm, _, hll.trans a1.symm, Nat.le_of_eq hll, f0, f0', fun i hi => ⟨s1 i (hll ▸ hi), fun h => s2 i h (hll ▸ hi)⟩⟩
      · exact absurd (hc.1 k) k'
    · rcases h2 with ⟨k', _⟩ | ⟨k', b1, b2, b3, b4, b5, b6, b7, b8⟩
      · exact absurd (hc.2 k') k
      · exact ⟨a8.trans b8.symm, hq1, ⟨_, hm, by omega⟩, a1.trans b1.symm, [], a1.symm, Nat.zero_le _, FlsU.none0 _ _, FlsU.none0 _ _, fun i hi => absurd hi (Nat.not_lt_zero _)⟩
end Go.Proofs.Ytdljnhdhigbefaa
