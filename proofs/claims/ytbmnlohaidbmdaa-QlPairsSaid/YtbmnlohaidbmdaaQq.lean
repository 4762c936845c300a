/- The document's layer 12: values, and columns, sorted in place. No condition but on lengths and places. -/
import Derived.Test.YtbmnlohaidbmdaaQo
namespace Go.Proofs.Ytbmnlohaidbmdaa
open Go Go.RowKit
set_option maxRecDepth 1000000

theorem w64n {x : Int} (m : Nat) (e : x = (m : Int)) (h : m ≤ 9223372036854775807) : wrap64 x = x := by subst e; unfold wrap64; omega
theorem wi64n {x : Int} (m : Nat) (e : x = (m : Int)) (h : m ≤ 9223372036854775807) : IntKind.i64.wrap x = x := by subst e; rw [IntKind.wrap_i64]; omega
/-- What the sorting holds on to. -/
structure SrSt (w W : World) (rows n : Nat) (a za : Option Addr) (wb zb c zc N M : Nat) (cols : Int) (l z : List Nat) : Prop where
  f : FS W a wb l
  g : FS W za zb z
  bz : Box W w.heap.size [.int .i64 rows, .int .i64 cols, .slice za M zc]
  bls : Bls [wb, zb] w.heap.size w W
  fl : l.length = N
  gl : z.length = M
section
variable {w W W' : World} {n rows wb zb c zc N M : Nat} {cols : Int} {a za : Option Addr} {l z : List Nat}
theorem SrSt.below (h : SrSt w W rows n a za wb zb c zc N M cols l z) (hb : Below W.heap.size W W') : SrSt w W' rows n a za wb zb c zc N M cols l z :=
  ⟨h.f.below hb, h.g.below hb, h.bz.below hb, h.bls.step h.bls.size (Bls.of hb), h.fl, h.gl⟩
theorem SrSt.setW (h : SrSt w W rows n a za wb zb c zc N M cols l z) (h1 : wb ≠ w.heap.size) (h2 : zb ≠ wb) (j v s : Nat) : SrSt w (W.setCell ⟨wb, j, none⟩ (.float .f64 (raw v s))) rows n a za wb zb c zc N M cols (l.set j v) z :=
  ⟨h.f.set j v s, h.g.other h2 _ _, h.bz.set_other (Ne.symm h1) _ _, h.bls.set (by simp) _ _, by rw [List.length_set]; exact h.fl, h.gl⟩
theorem SrSt.setZ (h : SrSt w W rows n a za wb zb c zc N M cols l z) (h1 : zb ≠ w.heap.size) (h2 : wb ≠ zb) (j v s : Nat) : SrSt w (W.setCell ⟨zb, j, none⟩ (.float .f64 (raw v s))) rows n a za wb zb c zc N M cols l (z.set j v) :=
  ⟨h.f.other h2 _ _, h.g.set j v s, h.bz.set_other (Ne.symm h1) _ _, h.bls.set (by simp) _ _, h.fl, by rw [List.length_set]; exact h.gl⟩
end
set_option maxHeartbeats 16000000 in
theorem RSort12 (w : World) (a za : Option Addr) (wb zb : Nat) (l zl : List Nat) (cap zc rows : Nat) (cols : Int) (hl : FS w a wb l) (hz : FS w za zb zl) (hn : l.length ≤ 512) (hr : rows ≤ 512) (hzl : zl.length = rows * l.length) (hwb : l ≠ [] → wb ≠ zb) (hw0 : wb ≠ w.heap.size) (hz0 : zb ≠ w.heap.size) :
    Calls Try.prog 21 #[.slice a l.length cap, .agg #[.int .i64 rows, .int .i64 cols, .slice za zl.length zc]] w fun e w' => e = .returned (.tuple #[]) ∧ FS w' a wb (sortQ l.length rows l zl l.length).1 ∧ FS w' za zb (sortQ l.length rows l zl l.length).2 ∧ Bls [wb, zb] w.heap.size w w' := by
  have hrc : rows * l.length ≤ 262144 := Nat.le_trans (Nat.mul_le_mul hr hn) (by decide)
  have HN := Lib.hid (show (l ≠ [] → wb ≠ zb) ∧ wb ≠ w.heap.size ∧ zb ≠ w.heap.size from ⟨hwb, hw0, hz0⟩)
  obtain ⟨W0, hW0⟩ : ∃ W0, W0 = w.alloc (.cells #[.int .i64 rows, .int .i64 cols, .slice za zl.length zc] 26) := ⟨_, rfl⟩
  have hB0 : Below w.heap.size w W0 := hW0 ▸ (Below.refl _ _).alloc (Nat.le_refl _) _
  have hB0' : Below w.heap.size w (w.alloc (.cells #[.int .i64 rows, .int .i64 cols, .slice za zl.length zc] 26)) := (Below.refl _ _).alloc (Nat.le_refl _) _
  have HS0 := Lib.hid (show SrSt w W0 rows l.length a za wb zb cap zc l.length zl.length cols l zl from ⟨hl.below hB0, hz.below hB0, hW0 ▸ Box.newA w [_, _, _] _ rfl, Bls.of hB0, rfl, rfl⟩)
  have HL := Lib.hid hzl
  have hln : l.length ≤ 9223372036854775807 := by omega
  clear hl hz hzl hwb hw0 hz0 hB0 hB0'
  go_enter Try.func21, Try.ntmps21
  go_wp2_with fail
  rw [← hW0]
  clear hW0
  go_loopw [5] (fun s5 wr => ∃ i : Nat, s5 = .int .i64 i ∧ i ≤ l.length ∧ SrSt w wr rows l.length a za wb zb cap zc l.length zl.length cols (sortQ l.length rows l zl i).1 (sortQ l.length rows l zl i).2) (fun s5 _ => l.length - (intOf s5).toNat)
  case atStart => exact ⟨0, rfl, Nat.zero_le _, HS0.out⟩
  case round =>
    obtain ⟨i, rfl, hi, hS⟩ := hrel
    by_cases hlt : i < l.length
    · have hlt' : decide ((i : Int) < (l.length : Int)) = true := decide_eq_true (by omega)
      obtain ⟨rfl, _⟩ := hS.f.flb (by rw [hS.fl]; omega)
      obtain ⟨K, hK⟩ : ∃ K, K = minL (sortQ l.length rows l zl i).1 (sortQ l.length rows l zl i).1.length (i + 1) i := ⟨_, rfl⟩
      have hKn : K < l.length := by
        have := minL_bnd (sortQ l.length rows l zl i).1 (sortQ l.length rows l zl i).1.length (i + 1) i (by rw [hS.fl]; exact hlt)
        rw [← hK, hS.fl] at this
        exact this
      have hR : sortQ l.length rows l zl (i + 1) = (swapL (sortQ l.length rows l zl i).1 i K, swapC (sortQ l.length rows l zl i).2 l.length i K rows) := by rw [sortQ, ← hK]
      generalize (sortQ l.length rows l zl i).1 = L at *
      generalize (sortQ l.length rows l zl i).2 = Z at *
      have HR := Lib.hid hR
      have HK := Lib.hid hK
      have HS := Lib.hid hS
      clear hR hK hS
      go_wp2_with fail
      go_loopw [6, 7] (fun s6 s7 wr => ∃ j k f : Nat, s6 = .int .i64 k ∧ s7 = .int .i64 j ∧ k < l.length ∧ j ≤ l.length ∧ l.length ≤ j + f ∧ minL L f j k = K ∧ SrSt w wr rows l.length (some ⟨wb, 0, none⟩) za wb zb cap zc l.length zl.length cols L Z) (fun _ s7 _ => l.length - (intOf s7).toNat)
      case atStart =>
        have := HS.out.fl
        exact ⟨i + 1, i, L.length, rfl, by go_num, hlt, hlt, by omega, HK.out.symm, HS.out⟩
      case round =>
        obtain ⟨j, k, f, rfl, rfl, hk, hj, hf, hmin, hS⟩ := hrel
        have hLn := hS.fl
        obtain ⟨_, hfb⟩ := hS.f.flb (by rw [hS.fl]; omega)
        have hblt := hfb.lt
        have hbfz := hfb.frozen
        by_cases hjl : j < l.length
        · obtain ⟨g, hg1, hg2, hg3⟩ := minL_step (w := L) (f := f) (j := j) (k := k) (by omega) (by omega)
          rw [hg3] at hmin
          obtain ⟨s1, c1⟩ := hfb.at (i := j) (by omega)
          obtain ⟨s2, c2⟩ := hfb.at (i := k) (by omega)
          have HSk := Lib.hid (show _ ∧ _ ∧ _ from ⟨hS, hmin, hg2⟩)
          clear hS hmin hg1 hg2 hg3 hfb hf
          have HLn := Lib.hid hLn
          clear hLn
          cases hq : flt (L.getD j 0) (L.getD k 0)
          · rw [hq] at HSk
            generalize L.getD j 0 = vj at *
            generalize L.getD k 0 = vk at *
            go_wp2_with fail
            refine wp_region_nqb 8 (fun _ _ _ => False) (by kernel_rfl) (by kernel_rfl) ?_
            intro C R hc hb' hb2 hd hR
            simp only [List.take_succ_cons, List.take_zero]
            repeat (
              first
                | (refine nqW_plain (fun K hK => ?_))
                | (refine nqW_step (fun K hK => ?_); go_simp)
              first
                | (refine nq_move rfl ?_; go_simp; refine hK _ ?_; clear hK K)
                | (refine nq_assign rfl ?_; go_simp; refine hK _ ?_; clear hK K)
                | (refine nq_flt rfl rfl rfl rfl hd ?_; intro _; go_frame; refine hK _ ?_; clear hK K)
                | (refine nq_same ?_; intro w' hw'; go_simp; (try go_bits); refine hK _ ?_; clear hK K hw' w')
                | (refine nq_same ?_; intro w' hw'; go_simp; rw [if_pos (by omega)]; go_simp; (try go_bits); refine hK _ ?_; clear hK K hw' w')
                | (go_simp; refine hK _ ?_; clear hK K))
            refine nqW_nil (hR _ ?_)
            clear hc hb' hb2 hd hR
            intro w' hw'
            simp only [List.drop]
            have HSw := Lib.hid (HSk.out.1.below hw')
            clear c1 c2 hw' hblt hbfz
            go_wp2
            go_roundw
            case rel => exact ⟨j + 1, k, g, rfl, by go_num, hk, hjl, HLn.out ▸ HSk.out.2.2, HSk.out.2.1, HSw.out⟩
            case measure => simp [intOf]; omega
          · rw [hq] at HSk
            generalize L.getD j 0 = vj at *
            generalize L.getD k 0 = vk at *
            go_wp2_with fail
            refine wp_region_nqb 8 (fun _ _ _ => False) (by kernel_rfl) (by kernel_rfl) ?_
            intro C R hc hb' hb2 hd hR
            simp only [List.take_succ_cons, List.take_zero]
            repeat (
              first
                | (refine nqW_plain (fun K hK => ?_))
                | (refine nqW_step (fun K hK => ?_); go_simp)
              first
                | (refine nq_move rfl ?_; go_simp; refine hK _ ?_; clear hK K)
                | (refine nq_assign rfl ?_; go_simp; refine hK _ ?_; clear hK K)
                | (refine nq_flt rfl rfl rfl rfl hd ?_; intro _; go_frame; refine hK _ ?_; clear hK K)
                | (refine nq_same ?_; intro w' hw'; go_simp; (try go_bits); refine hK _ ?_; clear hK K hw' w')
                | (refine nq_same ?_; intro w' hw'; go_simp; rw [if_pos (by omega)]; go_simp; (try go_bits); refine hK _ ?_; clear hK K hw' w')
                | (go_simp; refine hK _ ?_; clear hK K))
            refine nqW_nil (hR _ ?_)
            clear hc hb' hb2 hd hR
            intro w' hw'
            simp only [List.drop]
            have HSw := Lib.hid (HSk.out.1.below hw')
            clear c1 c2 hw' hblt hbfz
            go_wp2
            go_roundw
            case rel => exact ⟨j + 1, j, g, rfl, by go_num, hjl, hjl, HLn.out ▸ HSk.out.2.2, HSk.out.2.1, HSw.out⟩
            case measure => simp [intOf]; omega
        · obtain rfl : k = K := (minL_end (by omega)).symm.trans hmin
          clear hmin hf
          by_cases hik : i = k
          · subst hik
            clear hfb hblt hbfz hLn
            obtain ⟨_, hfb⟩ := hS.f.flb (by rw [hS.fl]; omega)
            obtain ⟨s1, c1⟩ := hfb.at (i := i) (by rw [hS.fl]; omega)
            have hblt := hfb.lt
            have hbfz := hfb.frozen
            have n1 := HN.out.1 (by intro e; rw [e] at hlt; exact absurd hlt (Nat.not_lt_zero _))
            have HS5 := Lib.hid (show SrSt w ((wr.setCell ⟨wb, i, none⟩ (.float .f64 (raw (L.getD i 0) s1))).setCell ⟨wb, i, none⟩ (.float .f64 (raw (L.getD i 0) s1))) rows l.length (some ⟨wb, 0, none⟩) za wb zb cap zc l.length zl.length cols (swapL L i i) Z from (hS.setW HN.out.2.1 (Ne.symm n1) _ _ _).setW HN.out.2.1 (Ne.symm n1) _ _ _)
            clear hS hfb n1
            generalize L.getD i 0 = vi at *
            obtain ⟨q1, q2, q3⟩ := HS5.out.bz.facts
            go_wp2_with fail
            clear c1 hblt hbfz q1 q2 q3
            generalize (wr.setCell ⟨wb, i, none⟩ (.float .f64 (raw vi s1))).setCell ⟨wb, i, none⟩ (.float .f64 (raw vi s1)) = w5 at *
            go_loopw [9] (fun s9 wr => ∃ r : Nat, s9 = .int .i64 r ∧ r ≤ rows ∧ SrSt w wr rows l.length (some ⟨wb, 0, none⟩) za wb zb cap zc l.length zl.length cols (swapL L i i) (swapC Z l.length i i r)) (fun s9 _ => rows - (intOf s9).toNat)
            case atStart => exact ⟨0, rfl, Nat.zero_le _, HS5.out⟩
            case round =>
              obtain ⟨r, rfl, hrr, hS⟩ := hrel
              obtain ⟨q1, q2, q3⟩ := hS.bz.facts
              by_cases hrl : r < rows
              · have hZ0 : 0 < (swapC Z l.length i i r).length := by have := place_ltq hrl hlt; rw [hS.gl, HL.out]; omega
                obtain ⟨rfl, hzb⟩ := hS.g.flb hZ0
                have hpi : r * l.length + i < zl.length := by rw [HL.out]; exact place_ltq hrl hlt
                obtain ⟨s3, c3⟩ := hzb.at (i := r * l.length + i) (by rw [hS.gl]; exact hpi)
                have hzlt := hzb.lt
                have hzfz := hzb.frozen
                have hrc2 : r * l.length ≤ 262144 := Nat.le_trans (Nat.mul_le_mul (show r ≤ 512 by omega) hn) (by decide)
                have hm1 : (r : Int) * (l.length : Int) = ((r * l.length : Nat) : Int) := (Int.natCast_mul _ _).symm
                have hm2 : ((r : Int) * (l.length : Int) + (i : Int)).toNat = r * l.length + i := by rw [hm1]; omega
                have hm3 : 0 ≤ (r : Int) * (l.length : Int) + (i : Int) := by rw [hm1]; omega
                have hm4 : (r : Int) * (l.length : Int) + (i : Int) < (zl.length : Int) := by rw [hm1]; omega
                have hv1 : IntKind.i64.wrap ((r : Int) * (l.length : Int)) = (r : Int) * (l.length : Int) := by rw [hm1, IntKind.wrap_i64]; omega
                have hv2 : IntKind.i64.wrap ((r : Int) * (l.length : Int) + (i : Int)) = (r : Int) * (l.length : Int) + (i : Int) := by rw [hm1, IntKind.wrap_i64]; omega
                have n1 := HN.out.1 (by intro e; rw [e] at hlt; exact absurd hlt (Nat.not_lt_zero _))
                have HS7 := Lib.hid (fun (W : World) (h : Below wr.heap.size wr W) => (show SrSt w ((W.setCell ⟨zb, r * l.length + i, none⟩ (.float .f64 (raw ((swapC Z l.length i i r).getD (r * l.length + i) 0) s3))).setCell ⟨zb, r * l.length + i, none⟩ (.float .f64 (raw ((swapC Z l.length i i r).getD (r * l.length + i) 0) s3))) rows l.length (some ⟨wb, 0, none⟩) (some ⟨zb, 0, none⟩) wb zb cap zc l.length zl.length cols (swapL L i i) (swapC Z l.length i i (r + 1)) from ((hS.below h).setZ HN.out.2.2 n1 _ _ _).setZ HN.out.2.2 n1 _ _ _))
                have HSr := Lib.hid (show _ ∧ _ from ⟨hS.bz, hzb⟩)
                obtain ⟨hw1', hw2'⟩ : (wrap64 ((r : Int) * (l.length : Int)) = (r : Int) * (l.length : Int)) ∧ (wrap64 ((r : Int) * (l.length : Int) + (i : Int)) = (r : Int) * (l.length : Int) + (i : Int)) := ⟨w64n _ hm1 (by omega), w64n (r * l.length + i) (by rw [hm1]; omega) (by omega)⟩
                clear hS hzb hZ0 hpi hm1 hrc2 n1
                generalize (swapC Z l.length i i r).getD (r * l.length + i) 0 = ui at *
                go_wp2_with fail
                refine wp_region_nqb 16 (fun _ _ _ => False) (by kernel_rfl) (by kernel_rfl) ?_
                intro C R hc hb' hb2 hd hR
                simp only [List.take_succ_cons, List.take_zero]
                repeat (
                  first
                    | (refine nqW_plain (fun K hK => ?_))
                    | (refine nqW_step (fun K hK => ?_); go_simp)
                  first
                    | (refine nq_move rfl ?_; go_simp; refine hK _ ?_; clear hK K)
                    | (refine nq_assign rfl ?_; go_simp; refine hK _ ?_; clear hK K)
                    | (refine nq_flt rfl rfl rfl rfl hd ?_; intro _; go_frame; refine hK _ ?_; clear hK K)
                    | (refine nq_same ?_; intro w' hw'; go_simp; (try go_bits); refine hK _ ?_; clear hK K hw' w')
                    | (refine nq_same ?_; intro w' hw'; go_simp; rw [if_pos (by omega)]; go_simp; (try go_bits); refine hK _ ?_; clear hK K hw' w')
                    | (go_simp; refine hK _ ?_; clear hK K))
                refine nqW_nil (hR _ ?_)
                clear hc hb' hb2 hd hR
                intro w' hw'
                simp only [List.drop]
                have HS8 := Lib.hid (HS7.out _ hw')
                have hbz := HSr.out.1.below hw'
                have d3 := ((below_cells hw').1 _ (r * l.length + i) hzlt).trans c3
                have hzb2 := HSr.out.2.below hw'
                clear q1 q2 q3 c3 hzlt hzfz hw'
                have hzlt := hzb2.lt
                have hzfz := hzb2.frozen
                obtain ⟨q1, q2, q3⟩ := hbz.facts
                have hbz3 : zb ≠ w.heap.size := HN.out.2.2
                have hbz4 : w.heap.size ≠ zb := Ne.symm HN.out.2.2
                clear hzb2 hbz
                go_wp2
                go_roundw
                case rel => exact ⟨r + 1, by go_num, hrl, HS8.out⟩
                case measure => simp [intOf]; omega
              · obtain rfl : r = rows := by omega
                have HSr := Lib.hid hS
                clear hS
                go_wp2
                go_roundw
                case rel => exact ⟨i + 1, by go_num, hlt, by rw [HR.out]; exact HSr.out⟩
                case measure => simp [intOf]; omega
          · clear hfb hblt hbfz hLn
            obtain ⟨_, hfb⟩ := hS.f.flb (by rw [hS.fl]; omega)
            obtain ⟨s1, c1⟩ := hfb.at (i := i) (by rw [hS.fl]; omega)
            obtain ⟨s2, c2⟩ := hfb.at (i := k) (by rw [hS.fl]; omega)
            have hblt := hfb.lt
            have hbfz := hfb.frozen
            have n1 := HN.out.1 (by intro e; rw [e] at hlt; exact absurd hlt (Nat.not_lt_zero _))
            have HS5 := Lib.hid (show SrSt w ((wr.setCell ⟨wb, i, none⟩ (.float .f64 (raw (L.getD k 0) s2))).setCell ⟨wb, k, none⟩ (.float .f64 (raw (L.getD i 0) s1))) rows l.length (some ⟨wb, 0, none⟩) za wb zb cap zc l.length zl.length cols (swapL L i k) Z from (hS.setW HN.out.2.1 (Ne.symm n1) _ _ _).setW HN.out.2.1 (Ne.symm n1) _ _ _)
            clear hS hfb n1
            generalize L.getD i 0 = vi at *
            generalize L.getD k 0 = vk at *
            have hik' : ¬ k = i := fun h => hik h.symm
            obtain ⟨q1, q2, q3⟩ := HS5.out.bz.facts
            go_wp2_with fail
            clear c1 c2 hblt hbfz q1 q2 q3
            generalize (wr.setCell ⟨wb, i, none⟩ (.float .f64 (raw vk s2))).setCell ⟨wb, k, none⟩ (.float .f64 (raw vi s1)) = w5 at *
            go_loopw [9] (fun s9 wr => ∃ r : Nat, s9 = .int .i64 r ∧ r ≤ rows ∧ SrSt w wr rows l.length (some ⟨wb, 0, none⟩) za wb zb cap zc l.length zl.length cols (swapL L i k) (swapC Z l.length i k r)) (fun s9 _ => rows - (intOf s9).toNat)
            case atStart => exact ⟨0, rfl, Nat.zero_le _, HS5.out⟩
            case round =>
              obtain ⟨r, rfl, hrr, hS⟩ := hrel
              obtain ⟨q1, q2, q3⟩ := hS.bz.facts
              by_cases hrl : r < rows
              · have hZ0 : 0 < (swapC Z l.length i k r).length := by have := place_ltq hrl hlt; rw [hS.gl, HL.out]; omega
                obtain ⟨rfl, hzb⟩ := hS.g.flb hZ0
                have hpi : r * l.length + i < zl.length := by rw [HL.out]; exact place_ltq hrl hlt
                have hpk : r * l.length + k < zl.length := by rw [HL.out]; exact place_ltq hrl hk
                obtain ⟨s3, c3⟩ := hzb.at (i := r * l.length + i) (by rw [hS.gl]; exact hpi)
                obtain ⟨s4, c4⟩ := hzb.at (i := r * l.length + k) (by rw [hS.gl]; exact hpk)
                have hzlt := hzb.lt
                have hzfz := hzb.frozen
                have hrc2 : r * l.length ≤ 262144 := Nat.le_trans (Nat.mul_le_mul (show r ≤ 512 by omega) hn) (by decide)
                have hm1 : (r : Int) * (l.length : Int) = ((r * l.length : Nat) : Int) := (Int.natCast_mul _ _).symm
                have hm2 : ((r : Int) * (l.length : Int) + (i : Int)).toNat = r * l.length + i := by rw [hm1]; omega
                have hm3 : 0 ≤ (r : Int) * (l.length : Int) + (i : Int) := by rw [hm1]; omega
                have hm4 : (r : Int) * (l.length : Int) + (i : Int) < (zl.length : Int) := by rw [hm1]; omega
                have hn2 : ((r : Int) * (l.length : Int) + (k : Int)).toNat = r * l.length + k := by rw [hm1]; omega
                have hn3 : 0 ≤ (r : Int) * (l.length : Int) + (k : Int) := by rw [hm1]; omega
                have hn4 : (r : Int) * (l.length : Int) + (k : Int) < (zl.length : Int) := by rw [hm1]; omega
                have hik2 : ¬ r * l.length + k = r * l.length + i := by omega
                have hv1 : IntKind.i64.wrap ((r : Int) * (l.length : Int)) = (r : Int) * (l.length : Int) := by rw [hm1, IntKind.wrap_i64]; omega
                have hv2 : IntKind.i64.wrap ((r : Int) * (l.length : Int) + (i : Int)) = (r : Int) * (l.length : Int) + (i : Int) := by rw [hm1, IntKind.wrap_i64]; omega
                have hv3 : IntKind.i64.wrap ((r : Int) * (l.length : Int) + (k : Int)) = (r : Int) * (l.length : Int) + (k : Int) := by rw [hm1, IntKind.wrap_i64]; omega
                have n1 := HN.out.1 (by intro e; rw [e] at hlt; exact absurd hlt (Nat.not_lt_zero _))
                have HS7 := Lib.hid (fun (W : World) (h : Below wr.heap.size wr W) => (show SrSt w ((W.setCell ⟨zb, r * l.length + i, none⟩ (.float .f64 (raw ((swapC Z l.length i k r).getD (r * l.length + k) 0) s4))).setCell ⟨zb, r * l.length + k, none⟩ (.float .f64 (raw ((swapC Z l.length i k r).getD (r * l.length + i) 0) s3))) rows l.length (some ⟨wb, 0, none⟩) (some ⟨zb, 0, none⟩) wb zb cap zc l.length zl.length cols (swapL L i k) (swapC Z l.length i k (r + 1)) from ((hS.below h).setZ HN.out.2.2 n1 _ _ _).setZ HN.out.2.2 n1 _ _ _))
                have HSr := Lib.hid (show _ ∧ _ from ⟨hS.bz, hzb⟩)
                obtain ⟨hw1', hw2', hw3'⟩ : (wrap64 ((r : Int) * (l.length : Int)) = (r : Int) * (l.length : Int)) ∧ (wrap64 ((r : Int) * (l.length : Int) + (i : Int)) = (r : Int) * (l.length : Int) + (i : Int)) ∧ (wrap64 ((r : Int) * (l.length : Int) + (k : Int)) = (r : Int) * (l.length : Int) + (k : Int)) := ⟨w64n _ hm1 (by omega), w64n (r * l.length + i) (by rw [hm1]; omega) (by omega), w64n (r * l.length + k) (by rw [hm1]; omega) (by omega)⟩
                clear hS hzb hZ0 hpi hm1 hrc2 n1 hpk
                generalize (swapC Z l.length i k r).getD (r * l.length + i) 0 = ui at *
                generalize (swapC Z l.length i k r).getD (r * l.length + k) 0 = uk at *
                go_wp2_with fail
                refine wp_region_nqb 16 (fun _ _ _ => False) (by kernel_rfl) (by kernel_rfl) ?_
                intro C R hc hb' hb2 hd hR
                simp only [List.take_succ_cons, List.take_zero]
                repeat (
                  first
                    | (refine nqW_plain (fun K hK => ?_))
                    | (refine nqW_step (fun K hK => ?_); go_simp)
                  first
                    | (refine nq_move rfl ?_; go_simp; refine hK _ ?_; clear hK K)
                    | (refine nq_assign rfl ?_; go_simp; refine hK _ ?_; clear hK K)
                    | (refine nq_flt rfl rfl rfl rfl hd ?_; intro _; go_frame; refine hK _ ?_; clear hK K)
                    | (refine nq_same ?_; intro w' hw'; go_simp; (try go_bits); refine hK _ ?_; clear hK K hw' w')
                    | (refine nq_same ?_; intro w' hw'; go_simp; rw [if_pos (by omega)]; go_simp; (try go_bits); refine hK _ ?_; clear hK K hw' w')
                    | (go_simp; refine hK _ ?_; clear hK K))
                refine nqW_nil (hR _ ?_)
                clear hc hb' hb2 hd hR
                intro w' hw'
                simp only [List.drop]
                have HS8 := Lib.hid (HS7.out _ hw')
                have hbz := HSr.out.1.below hw'
                have d3 := ((below_cells hw').1 _ (r * l.length + i) hzlt).trans c3
                have d4 := ((below_cells hw').1 _ (r * l.length + k) hzlt).trans c4
                have hzb2 := HSr.out.2.below hw'
                clear q1 q2 q3 c3 hzlt hzfz hw' c4
                have hzlt := hzb2.lt
                have hzfz := hzb2.frozen
                obtain ⟨q1, q2, q3⟩ := hbz.facts
                have hbz3 : zb ≠ w.heap.size := HN.out.2.2
                have hbz4 : w.heap.size ≠ zb := Ne.symm HN.out.2.2
                clear hzb2 hbz
                go_wp2
                go_roundw
                case rel => exact ⟨r + 1, by go_num, hrl, HS8.out⟩
                case measure => simp [intOf]; omega
              · obtain rfl : r = rows := by omega
                have HSr := Lib.hid hS
                clear hS
                go_wp2
                go_roundw
                case rel => exact ⟨i + 1, by go_num, hlt, by rw [HR.out]; exact HSr.out⟩
                case measure => simp [intOf]; omega
    · obtain rfl : i = l.length := by omega
      have HSr := Lib.hid (show _ ∧ _ ∧ _ from ⟨hS.f, hS.g, hS.bls⟩)
      clear hS
      go_wp2
      exact bodyPost_end (results_none rfl _ _ _) rfl ⟨rfl, HSr.out⟩
end Go.Proofs.Ytbmnlohaidbmdaa
