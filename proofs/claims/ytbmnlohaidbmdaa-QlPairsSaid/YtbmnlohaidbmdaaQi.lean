/- Layer 12: values, and columns, sorted: what is finite is. No condition but on lengths. -/
import Derived.Test.YtbmnlohaidbmdaaQh
namespace Go.Proofs.Ytbmnlohaidbmdaa
open Go Go.RowKit
set_option maxRecDepth 1000000

/-- What the sorting holds on to. -/
structure SoSt (w W : World) (n rows : Nat) (a za : Option Addr) (wb zb c zc N M : Nat) (l z : List Nat) : Prop where
  f : FS W a wb l
  g : FS W za zb z
  bz : Box W w.heap.size [.int .i64 rows, .int .i64 n, .slice za M zc]
  br : Box W (w.heap.size + 1) [.int .i64 0, .int .i64 0, .slice none 0 0]
  bel : Below w.heap.size w W
  fl : l.length = N
  gl : z.length = M
section
variable {w W W' : World} {n rows wb zb c zc N M : Nat} {a za : Option Addr} {l z : List Nat}
theorem SoSt.below (h : SoSt w W n rows a za wb zb c zc N M l z) (hb : Below W.heap.size W W') : SoSt w W' n rows a za wb zb c zc N M l z :=
  ⟨h.f.below hb, h.g.below hb, h.bz.below hb, h.br.below hb, below_step h.bel h.bel.size hb, h.fl, h.gl⟩
theorem FS.other {b m : Nat} {a : Option Addr} {l : List Nat} (h : FS W a b l) (hm : b ≠ m) (j : Nat) (u : Value) : FS (W.setCell ⟨m, j, none⟩ u) a b l := h.imp id (fun ⟨h1, h2⟩ => ⟨h1, h2.other hm j u⟩)
theorem FS.put3 {b m : Nat} {a : Option Addr} {l : List Nat} (h : FS W a b l) (hm : b ≠ m) (v0 v1 v2 : Value) : FS (((W.setCell ⟨m, 0, none⟩ v0).setCell ⟨m, 1, none⟩ v1).setCell ⟨m, 2, none⟩ v2) a b l := ((h.other hm 0 v0).other hm 1 v1).other hm 2 v2
theorem FS.set {b : Nat} {a : Option Addr} {l : List Nat} (h : FS W a b l) (j v s : Nat) : FS (W.setCell ⟨b, j, none⟩ (.float .f64 (raw v s))) a b (l.set j v) := by
  rcases h with rfl | ⟨h1, h2⟩
  · exact .inl (by simp)
  · exact .inr ⟨h1, h2.set j v s⟩
theorem SoSt.setW (h : SoSt w W n rows a za wb zb c zc N M l z) (h1 : w.heap.size + 1 < wb) (h2 : zb ≠ wb) (j v s : Nat) : SoSt w (W.setCell ⟨wb, j, none⟩ (.float .f64 (raw v s))) n rows a za wb zb c zc N M (l.set j v) z :=
  ⟨h.f.set j v s, h.g.other h2 _ _, h.bz.set_other (by omega) _ _, h.br.set_other (by omega) _ _, below_set h.bel (by omega) _ _, by rw [List.length_set]; exact h.fl, h.gl⟩
theorem SoSt.setZ (h : SoSt w W n rows a za wb zb c zc N M l z) (h1 : w.heap.size + 1 < zb) (h2 : wb ≠ zb) (j v s : Nat) : SoSt w (W.setCell ⟨zb, j, none⟩ (.float .f64 (raw v s))) n rows a za wb zb c zc N M l (z.set j v) :=
  ⟨h.f.other h2 _ _, h.g.set j v s, h.bz.set_other (by omega) _ _, h.br.set_other (by omega) _ _, below_set h.bel (by omega) _ _, h.fl, by rw [List.length_set]; exact h.gl⟩
end
def SortedP (w : World) (l zl : List Nat) (rows : Nat) (e : Ending) (w' : World) : Prop :=
  ∃ a cap za zc b zb, e = .returned (.tuple #[.slice a l.length cap, .agg #[.int .i64 rows, .int .i64 l.length, .slice za zl.length zc], .int .i64 0]) ∧ FS w' a b (sortQ l.length rows l zl l.length).1 ∧ FS w' za zb (sortQ l.length rows l zl l.length).2 ∧ Below w.heap.size w w' ∧ w.heap.size ≤ b ∧ w.heap.size ≤ zb
set_option maxHeartbeats 16000000 in
theorem Sorted_ok (w : World) (a za : Option Addr) (l zl : List Nat) (cap zc rows : Nat) (hl : Fls w a l) (hz : Fls w za zl) (ha : a = none → l = []) (hza : za = none → zl = []) (hW : Words l) (hn : l.length ≤ 512) (hr : rows ≤ 512) (hzl : zl.length = rows * l.length) (hfin : l.all ffin = true) :
    Calls Try.prog 18 #[.slice a l.length cap, .agg #[.int .i64 rows, .int .i64 l.length, .slice za zl.length zc]] w (SortedP w l zl rows) := by
  have hrc : rows * l.length ≤ 262144 := Nat.le_trans (Nat.mul_le_mul hr hn) (by decide)
  have HM := Lib.hid (fun W => mayB_of hr hn hzl ▸ QMay_any W (rows : Int) (l.length : Int) za zl.length zc (by unfold maxLen; omega))
  have HF := Lib.hid (fun W (h : Below w.heap.size w W) => hfin ▸ QFin_any W a l cap (hl.below h) hW (by unfold maxLen; omega))
  have HC := Lib.hid (fun W (h : Below w.heap.size w W) => Clone_any W a l cap (hl.below h) (by omega) ha)
  have HZ := Lib.hid (fun W (h : Below w.heap.size w W) => Clone_any W za zl zc (hz.below h) (by omega) hza)
  have HL := Lib.hid hzl
  have t1 : ((l.length : Int) != (l.length : Int)) = false := bne_self_eq_false _
  obtain ⟨W0, hW0⟩ : ∃ W0, W0 = ((w.alloc (.cells #[.int .i64 rows, .int .i64 l.length, .slice za zl.length zc] 26)).alloc (.cells #[.int .i64 0, .int .i64 0, .slice none 0 0] 26)) := ⟨_, rfl⟩
  have hB0 : Below w.heap.size w W0 := hW0 ▸ ((Below.refl _ _).alloc (Nat.le_refl _) _).alloc (by simp) _
  have x3 : Box W0 w.heap.size [.int .i64 rows, .int .i64 l.length, .slice za zl.length zc] := hW0 ▸ (Box.newA w [_, _, _] _ rfl).alloc _
  have x5 : Box W0 (w.heap.size + 1) [.int .i64 0, .int .i64 0, .slice none 0 0] := hW0 ▸ Box.newA _ [_, _, _] _ (by simp)
  have HX := Lib.hid (show _ ∧ _ ∧ _ from ⟨hB0, x3, x5⟩)
  clear hl hz ha hza hW hzl hfin hB0 x3 x5
  go_enter Try.func18, Try.ntmps18
  go_wp2_with fail
  rw [← hW0]
  clear hW0
  obtain ⟨hB0, x3, x5⟩ := HX.out
  refine (HM.out _).mono ?_
  rintro e W1 ⟨rfl, hb1⟩
  have hB1 := below_step hB0 hB0.size hb1
  have y3 := x3.below hb1
  have y5 := x5.below hb1
  have hs1 := y5.lt
  obtain ⟨q1, q2, q3⟩ := y3.facts
  have HY := Lib.hid (show _ ∧ _ ∧ _ from ⟨hB1, y3, y5⟩)
  clear HX hB0 x3 x5 y3 hb1 y5 hB1
  go_wp2_with fail
  refine (HF.out _ HY.out.1).mono ?_
  rintro e W2 ⟨rfl, rfl⟩
  go_wp2_with fail
  refine (HC.out _ HY.out.1).mono ?_
  rintro e W2 ⟨⟨v, rfl, hO⟩, hb2⟩
  obtain ⟨hB1, y3, y5⟩ := HY.out
  have hB2 := below_step hB1 hB1.size hb2
  replace y3 := y3.below hb2
  replace y5 := y5.below hb2
  have hs5 := y5.lt
  have hs2 := hb2.size
  clear q1 q2 q3
  obtain ⟨q1, q2, q3⟩ := y3.facts
  obtain ⟨a1, wb, cap1, rfl, k1, k2, k3, hF, k4⟩ := hO.fs
  have HY2 := Lib.hid (show _ ∧ _ ∧ _ ∧ _ from ⟨hB2, y3, y5, hF⟩)
  clear hb2 hB2 y3 y5 hF hO HY
  go_wp2_with fail
  refine (HZ.out _ HY2.out.1).mono ?_
  rintro e W3 ⟨⟨v, rfl, hO⟩, hb3⟩
  obtain ⟨hB2, y3, y5, hF⟩ := HY2.out
  have hB3 := below_step hB2 hB2.size hb3
  replace y3 := y3.below hb3
  replace y5 := y5.below hb3
  replace hF := hF.below hb3
  have hs3 := hb3.size
  clear q1 q2 q3
  obtain ⟨q1, q2, q3⟩ := y3.facts
  obtain ⟨za1, zb, zcap1, rfl, j1, j2, j3, hG, j4⟩ := hO.fs
  have HS0 := Lib.hid (show SoSt w (W3.setCell ⟨w.heap.size, 2, none⟩ (.slice za1 zl.length zcap1)) l.length rows a1 za1 wb zb cap1 zcap1 l.length zl.length l zl from
    ⟨hF.other (by omega) _ _, hG.other (by omega) _ _, y3.set 2 _, y5.set_other (by omega) _ _, below_set hB3 (Nat.le_refl _) _ _, rfl, rfl⟩)
  have HN := Lib.hid (show (l ≠ [] → wb ≠ zb) ∧ w.heap.size + 1 < wb ∧ w.heap.size + 1 < zb from ⟨fun h => (by have := k4 h; omega), by omega, by omega⟩)
  have HJ := Lib.hid (show zl.length ≤ zcap1 ∧ zcap1 ≤ maxLen from ⟨j1, j2⟩)
  clear hb3 hB3 y5 hF hG hO HY2 HZ HC HF HM hB2 y3 hB1
  clear k1 k2 k3 k4 j1 j2 j3 j4 hs1 hs2 hs3 hs5
  go_wp2_with fail
  clear q1 q2 q3 t1
  go_loopw [37] (fun s37 wr => ∃ i : Nat, s37 = .int .i64 i ∧ i ≤ l.length ∧ SoSt w wr l.length rows a1 za1 wb zb cap1 zcap1 l.length zl.length (sortQ l.length rows l zl i).1 (sortQ l.length rows l zl i).2) (fun s37 _ => l.length - (intOf s37).toNat)
  case atStart => exact ⟨0, rfl, Nat.zero_le _, HS0.out⟩
  case round =>
    obtain ⟨i, rfl, hi, hS⟩ := hrel
    by_cases hlt : i < l.length
    · have hlt' : decide ((i : Int) < (l.length : Int)) = true := decide_eq_true (by omega)
      obtain ⟨rfl, _⟩ := hS.f.flb (by rw [hS.fl]; omega)
      obtain ⟨K, hK⟩ : ∃ K, K = minL (sortQ l.length rows l zl i).1 (sortQ l.length rows l zl i).1.length (i + 1) i := ⟨_, rfl⟩
      have hKn : K < l.length := by
        have := minL_bnd (sortQ l.length rows l zl i).1 (sortQ l.length rows l zl i).1.length (i + 1) i (by rw [hS.fl]; exact hlt)
        rw [← hK, hS.fl] at this
        exact this
      have hR : sortQ l.length rows l zl (i + 1) = (swapL (sortQ l.length rows l zl i).1 i K, swapC (sortQ l.length rows l zl i).2 l.length i K rows) := by rw [sortQ, ← hK]
      generalize (sortQ l.length rows l zl i).1 = L at *
      generalize (sortQ l.length rows l zl i).2 = Z at *
      have HR := Lib.hid hR
      have HK := Lib.hid hK
      have HS := Lib.hid hS
      clear hR hK hS
      go_wp2_with fail
      go_loopw [8, 9] (fun s8 s9 wr => ∃ j k f : Nat, s8 = .int .i64 k ∧ s9 = .int .i64 j ∧ k < l.length ∧ j ≤ l.length ∧ l.length ≤ j + f ∧ minL L f j k = K ∧ SoSt w wr l.length rows (some ⟨wb, 0, none⟩) za1 wb zb cap1 zcap1 l.length zl.length L Z) (fun _ s9 _ => l.length - (intOf s9).toNat)
      case atStart =>
        have := HS.out.fl
        exact ⟨i + 1, i, L.length, rfl, by go_num, hlt, hlt, by omega, HK.out.symm, HS.out⟩
      case round =>
        obtain ⟨j, k, f, rfl, rfl, hk, hj, hf, hmin, hS⟩ := hrel
        have hLn := hS.fl
        obtain ⟨_, hfb⟩ := hS.f.flb (by rw [hS.fl]; omega)
        have hblt := hfb.lt
        have hbfz := hfb.frozen
        by_cases hjl : j < l.length
        · obtain ⟨g, hg1, hg2, hg3⟩ := minL_step (w := L) (f := f) (j := j) (k := k) (by omega) (by omega)
          rw [hg3] at hmin
          obtain ⟨s1, c1⟩ := hfb.at (i := j) (by omega)
          obtain ⟨s2, c2⟩ := hfb.at (i := k) (by omega)
          have HSk := Lib.hid (show _ ∧ _ ∧ _ from ⟨hS, hmin, hg2⟩)
          clear hS hmin hg1 hg2 hg3 hfb hf
          have HLn := Lib.hid hLn
          clear hLn
          cases hq : flt (L.getD j 0) (L.getD k 0)
          · rw [hq] at HSk
            generalize L.getD j 0 = vj at *
            generalize L.getD k 0 = vk at *
            go_wp2_with fail
            refine wp_region_nqb 8 (fun _ _ _ => False) (by kernel_rfl) (by kernel_rfl) ?_
            intro C R hc hb' hb2 hd hR
            simp only [List.take_succ_cons, List.take_zero]
            repeat (
              first
                | (refine nqW_plain (fun K hK => ?_))
                | (refine nqW_step (fun K hK => ?_); go_simp)
              first
                | (refine nq_move rfl ?_; go_simp; refine hK _ ?_; clear hK K)
                | (refine nq_assign rfl ?_; go_simp; refine hK _ ?_; clear hK K)
                | (refine nq_flt rfl rfl rfl rfl hd ?_; intro _; go_frame; refine hK _ ?_; clear hK K)
                | (refine nq_same ?_; intro w' hw'; go_simp; (try go_bits); refine hK _ ?_; clear hK K hw' w')
                | (refine nq_same ?_; intro w' hw'; go_simp; rw [if_pos (by omega)]; go_simp; (try go_bits); refine hK _ ?_; clear hK K hw' w')
                | (go_simp; refine hK _ ?_; clear hK K))
            refine nqW_nil (hR _ ?_)
            clear hc hb' hb2 hd hR
            intro w' hw'
            simp only [List.drop]
            have HSw := Lib.hid (HSk.out.1.below hw')
            clear c1 c2 hw' hblt hbfz
            go_wp2
            go_roundw
            case rel => exact ⟨j + 1, k, g, rfl, by go_num, hk, hjl, HLn.out ▸ HSk.out.2.2, HSk.out.2.1, HSw.out⟩
            case measure => simp [intOf]; omega
          · rw [hq] at HSk
            generalize L.getD j 0 = vj at *
            generalize L.getD k 0 = vk at *
            go_wp2_with fail
            refine wp_region_nqb 8 (fun _ _ _ => False) (by kernel_rfl) (by kernel_rfl) ?_
            intro C R hc hb' hb2 hd hR
            simp only [List.take_succ_cons, List.take_zero]
            repeat (
              first
                | (refine nqW_plain (fun K hK => ?_))
                | (refine nqW_step (fun K hK => ?_); go_simp)
              first
                | (refine nq_move rfl ?_; go_simp; refine hK _ ?_; clear hK K)
                | (refine nq_assign rfl ?_; go_simp; refine hK _ ?_; clear hK K)
                | (refine nq_flt rfl rfl rfl rfl hd ?_; intro _; go_frame; refine hK _ ?_; clear hK K)
                | (refine nq_same ?_; intro w' hw'; go_simp; (try go_bits); refine hK _ ?_; clear hK K hw' w')
                | (refine nq_same ?_; intro w' hw'; go_simp; rw [if_pos (by omega)]; go_simp; (try go_bits); refine hK _ ?_; clear hK K hw' w')
                | (go_simp; refine hK _ ?_; clear hK K))
            refine nqW_nil (hR _ ?_)
            clear hc hb' hb2 hd hR
            intro w' hw'
            simp only [List.drop]
            have HSw := Lib.hid (HSk.out.1.below hw')
            clear c1 c2 hw' hblt hbfz
            go_wp2
            go_roundw
            case rel => exact ⟨j + 1, j, g, rfl, by go_num, hjl, hjl, HLn.out ▸ HSk.out.2.2, HSk.out.2.1, HSw.out⟩
            case measure => simp [intOf]; omega
        · obtain rfl : k = K := (minL_end (by omega)).symm.trans hmin
          clear hmin hf
          -- GEN
          by_cases hik : i = k
          · subst hik
            obtain ⟨w4, hw4⟩ : ∃ w4, w4 = wr.drew := ⟨_, rfl⟩
            have hS4 := hS.below (below_drewN 1 (Below.refl _ wr))
            rw [show wr.drewN 1 = wr.drew from rfl, ← hw4] at hS4
            clear hS hfb hblt hbfz hLn
            obtain ⟨_, hfb⟩ := hS4.f.flb (by rw [hS4.fl]; omega)
            obtain ⟨s1, c1⟩ := hfb.at (i := i) (by rw [hS4.fl]; omega)
            have hblt := hfb.lt
            have hbfz := hfb.frozen
            have n1 := HN.out.1 (by intro e; rw [e] at hlt; exact absurd hlt (Nat.not_lt_zero _))
            have HS5 := Lib.hid (show SoSt w ((w4.setCell ⟨wb, i, none⟩ (.float .f64 (raw (L.getD i 0) s1))).setCell ⟨wb, i, none⟩ (.float .f64 (raw (L.getD i 0) s1))) l.length rows (some ⟨wb, 0, none⟩) za1 wb zb cap1 zcap1 l.length zl.length (swapL L i i) Z from (hS4.setW HN.out.2.1 (Ne.symm n1) _ _ _).setW HN.out.2.1 (Ne.symm n1) _ _ _)
            clear hS4 hfb n1
            generalize L.getD i 0 = vi at *
            go_wp2_with fail
            refine wp_region_swap 15 13 [(false, 0), (false, 1), (false, 2), (false, 3), (false, 4), (false, 5), (false, 6), (true, 7), (false, 8), (false, 9), (false, 10), (true, 11), (false, 12)] [14] (fun W => W.cell? ⟨wb, i, none⟩ = some (.float .f64 (raw vi s1))) rfl (by kernel_rfl) (by kernel_rfl) (hw4 ▸ c1) ?_
            refine thW_any (v := ?_) rfl rfl ?_ ?_; rotate_left; (next => (intro w'; go_simp; (try (rw [if_pos (by omega)]; go_simp)); (try with_reducible rfl))); (simp only [Act.put, List.setIfInBounds_toArray, List.set_cons_zero, List.set_cons_succ])
            refine thW_any (v := ?_) rfl rfl ?_ ?_; rotate_left; (next => (intro w'; go_simp; (try (rw [if_pos (by omega)]; go_simp)); (try with_reducible rfl))); (simp only [Act.put, List.setIfInBounds_toArray, List.set_cons_zero, List.set_cons_succ])
            refine thW_any (v := ?_) rfl rfl ?_ ?_; rotate_left; (next => (intro w'; go_simp; (try (rw [if_pos (by omega)]; go_simp)); (try with_reducible rfl))); (simp only [Act.put, List.setIfInBounds_toArray, List.set_cons_zero, List.set_cons_succ])
            refine thW_any (v := ?_) rfl rfl ?_ ?_; rotate_left; (next => (intro w'; go_simp; (try (rw [if_pos (by omega)]; go_simp)); (try with_reducible rfl))); (simp only [Act.put, List.setIfInBounds_toArray, List.set_cons_zero, List.set_cons_succ])
            refine thW_any (v := ?_) rfl rfl ?_ ?_; rotate_left; (next => (intro w'; go_simp; (try (rw [if_pos (by omega)]; go_simp)); (try with_reducible rfl))); (simp only [Act.put, List.setIfInBounds_toArray, List.set_cons_zero, List.set_cons_succ])
            refine thW_any (v := ?_) rfl rfl ?_ ?_; rotate_left; (next => (intro w'; go_simp; (try (rw [if_pos (by omega)]; go_simp)); (try with_reducible rfl))); (simp only [Act.put, List.setIfInBounds_toArray, List.set_cons_zero, List.set_cons_succ])
            refine thW_any (v := ?_) rfl rfl ?_ ?_; rotate_left; (next => (intro w'; go_simp; (try (rw [if_pos (by omega)]; go_simp)); (try with_reducible rfl))); (simp only [Act.put, List.setIfInBounds_toArray, List.set_cons_zero, List.set_cons_succ])
            refine thW_take (v := ?_) rfl rfl ?_ ?_; rotate_left; (next => (intro w' hSw; (try dsimp only at hSw); go_simp; (try (rw [if_pos (by omega)]; go_simp)); (try with_reducible rfl))); (simp only [Act.put, List.setIfInBounds_toArray, List.set_cons_zero, List.set_cons_succ])
            refine thW_any (v := ?_) rfl rfl ?_ ?_; rotate_left; (next => (intro w'; go_simp; (try (rw [if_pos (by omega)]; go_simp)); (try with_reducible rfl))); (simp only [Act.put, List.setIfInBounds_toArray, List.set_cons_zero, List.set_cons_succ])
            refine thW_any (v := ?_) rfl rfl ?_ ?_; rotate_left; (next => (intro w'; go_simp; (try (rw [if_pos (by omega)]; go_simp)); (try with_reducible rfl))); (simp only [Act.put, List.setIfInBounds_toArray, List.set_cons_zero, List.set_cons_succ])
            refine thW_any (v := ?_) rfl rfl ?_ ?_; rotate_left; (next => (intro w'; go_simp; (try (rw [if_pos (by omega)]; go_simp)); (try with_reducible rfl))); (simp only [Act.put, List.setIfInBounds_toArray, List.set_cons_zero, List.set_cons_succ])
            refine thW_take (v := ?_) rfl rfl ?_ ?_; rotate_left; (next => (intro w' hSw; (try dsimp only at hSw); go_simp; (try (rw [if_pos (by omega)]; go_simp)); (try with_reducible rfl))); (simp only [Act.put, List.setIfInBounds_toArray, List.set_cons_zero, List.set_cons_succ])
            refine thW_any (v := ?_) rfl rfl ?_ ?_; rotate_left; (next => (intro w'; go_simp; (try (rw [if_pos (by omega)]; go_simp)); (try with_reducible rfl))); (simp only [Act.put, List.setIfInBounds_toArray, List.set_cons_zero, List.set_cons_succ])
            refine thW_nil ?_
            refine ⟨rfl, ?_⟩
            unfold Oper.wp
            rw [← hw4]
            clear hw4
            go_simp
            refine tlW_take (v := ?_) rfl rfl ?_ ?_; rotate_left; (next => (intro w'; go_simp; (try (rw [if_pos (by omega)]; go_simp)); (try with_reducible rfl))); (simp only [Act.put, List.setIfInBounds_toArray, List.set_cons_zero, List.set_cons_succ])
            refine tlW_nil ?_
            (try simp only [List.drop])
            (try go_wp2)
            refine NoPanic.normal ?_
            clear c1 hblt hbfz
            generalize (w4.setCell ⟨wb, i, none⟩ (.float .f64 (raw vi s1))).setCell ⟨wb, i, none⟩ (.float .f64 (raw vi s1)) = w5 at *
            obtain ⟨q1, q2, q3⟩ := HS5.out.bz.facts
            go_wp2_with fail
            clear q1 q2 q3
            go_loopw [75] (fun s75 wr => ∃ r : Nat, s75 = .int .i64 r ∧ r ≤ rows ∧ SoSt w wr l.length rows (some ⟨wb, 0, none⟩) za1 wb zb cap1 zcap1 l.length zl.length (swapL L i i) (swapC Z l.length i i r)) (fun s75 _ => rows - (intOf s75).toNat)
            case atStart => exact ⟨0, rfl, Nat.zero_le _, HS5.out⟩
            case round =>
              obtain ⟨r, rfl, hrr, hS⟩ := hrel
              by_cases hrl : r < rows
              · have hZ0 : 0 < (swapC Z l.length i i r).length := by have := place_ltq hrl hlt; rw [hS.gl, HL.out]; omega
                obtain ⟨rfl, hzb⟩ := hS.g.flb hZ0
                have hpi := place_ltq hrl hlt
                obtain ⟨s3, c3⟩ := hzb.at (i := r * l.length + i) (by rw [hS.gl, HL.out]; exact hpi)
                obtain ⟨q1, q2, q3⟩ := hS.bz.facts
                have hzl := HL.out
                have hzc := HJ.out
                unfold maxLen at hzc
                have hrc2 : r * l.length ≤ 262144 := Nat.le_trans (Nat.mul_le_mul (show r ≤ 512 by omega) hn) (by decide)
                have hm1 : (r : Int) * (l.length : Int) = ((r * l.length : Nat) : Int) := (Int.natCast_mul _ _).symm
                have hw1 : IntKind.i64.wrap ((r : Int) * (l.length : Int)) = (r : Int) * (l.length : Int) := by rw [hm1, IntKind.wrap_i64]; omega
                have hm2 : ((r : Int) * (l.length : Int)).toNat = r * l.length := by rw [hm1, Int.toNat_natCast]
                have hm3 : 0 ≤ (r : Int) * (l.length : Int) := by omega
                have hm4 : (r : Int) * (l.length : Int) ≤ (zl.length : Int) := by omega
                have hm5 : (r : Int) * (l.length : Int) ≤ (zcap1 : Int) := by omega
                have hm6 : r * l.length ≤ zl.length := by omega
                have hm7 : r * l.length ≤ zcap1 := by omega
                have hm8 : i < zl.length - r * l.length := by omega
                have hm10 : ¬ zcap1 = r * l.length := by omega
                have hw1' : wrap64 ((r : Int) * (l.length : Int)) = (r : Int) * (l.length : Int) := by rw [hm1]; unfold wrap64; omega
                have HSr := Lib.hid hS
                clear hS hzb hZ0 hpi hm1 hzl hzc c3
                go_wp2_with fail
                clear q1 q2 q3 hw1'
                obtain ⟨w6, hw6⟩ : ∃ w6, w6 = wr.drew := ⟨_, rfl⟩
                have hS6 := HSr.out.below (below_drewN 1 (Below.refl _ wr))
                rw [show wr.drewN 1 = wr.drew from rfl, ← hw6] at hS6
                have hZ6 : 0 < (swapC Z l.length i i r).length := by have := place_ltq hrl hlt; rw [hS6.gl, HL.out]; omega
                obtain ⟨_, hzb⟩ := hS6.g.flb hZ6
                obtain ⟨s3, c3⟩ := hzb.at (i := r * l.length + i) (by have := place_ltq hrl hlt; rw [hS6.gl, HL.out]; exact this)
                have hzlt := hzb.lt
                have hzfz := hzb.frozen
                have n1 := HN.out.1 (by intro e; rw [e] at hlt; exact absurd hlt (Nat.not_lt_zero _))
                have HS7 := Lib.hid (show SoSt w ((w6.setCell ⟨zb, r * l.length + i, none⟩ (.float .f64 (raw ((swapC Z l.length i i r).getD (r * l.length + i) 0) s3))).setCell ⟨zb, r * l.length + i, none⟩ (.float .f64 (raw ((swapC Z l.length i i r).getD (r * l.length + i) 0) s3))) l.length rows (some ⟨wb, 0, none⟩) (some ⟨zb, 0, none⟩) wb zb cap1 zcap1 l.length zl.length (swapL L i i) (swapC Z l.length i i (r + 1)) from (hS6.setZ HN.out.2.2 n1 _ _ _).setZ HN.out.2.2 n1 _ _ _)
                clear hS6 hzb hZ6 n1
                generalize (swapC Z l.length i i r).getD (r * l.length + i) 0 = ui at *
                go_wp2_with fail
                refine wp_region_swap 15 13 [(false, 0), (false, 1), (false, 2), (false, 3), (false, 4), (false, 5), (false, 6), (true, 7), (false, 8), (false, 9), (false, 10), (true, 11), (false, 12)] [14] (fun W => W.cell? ⟨zb, r * l.length + i, none⟩ = some (.float .f64 (raw ui s3))) rfl (by kernel_rfl) (by kernel_rfl) (hw6 ▸ c3) ?_
                refine thW_any (v := ?_) rfl rfl ?_ ?_; rotate_left; (next => (intro w'; go_simp; (try (rw [if_pos (by omega)]; go_simp)); (try with_reducible rfl))); (simp only [Act.put, List.setIfInBounds_toArray, List.set_cons_zero, List.set_cons_succ])
                refine thW_any (v := ?_) rfl rfl ?_ ?_; rotate_left; (next => (intro w'; go_simp; (try (rw [if_pos (by omega)]; go_simp)); (try with_reducible rfl))); (simp only [Act.put, List.setIfInBounds_toArray, List.set_cons_zero, List.set_cons_succ])
                refine thW_any (v := ?_) rfl rfl ?_ ?_; rotate_left; (next => (intro w'; go_simp; (try (rw [if_pos (by omega)]; go_simp)); (try with_reducible rfl))); (simp only [Act.put, List.setIfInBounds_toArray, List.set_cons_zero, List.set_cons_succ])
                refine thW_any (v := ?_) rfl rfl ?_ ?_; rotate_left; (next => (intro w'; go_simp; (try (rw [if_pos (by omega)]; go_simp)); (try with_reducible rfl))); (simp only [Act.put, List.setIfInBounds_toArray, List.set_cons_zero, List.set_cons_succ])
                refine thW_any (v := ?_) rfl rfl ?_ ?_; rotate_left; (next => (intro w'; go_simp; (try (rw [if_pos (by omega)]; go_simp)); (try with_reducible rfl))); (simp only [Act.put, List.setIfInBounds_toArray, List.set_cons_zero, List.set_cons_succ])
                refine thW_any (v := ?_) rfl rfl ?_ ?_; rotate_left; (next => (intro w'; go_simp; (try (rw [if_pos (by omega)]; go_simp)); (try with_reducible rfl))); (simp only [Act.put, List.setIfInBounds_toArray, List.set_cons_zero, List.set_cons_succ])
                refine thW_any (v := ?_) rfl rfl ?_ ?_; rotate_left; (next => (intro w'; go_simp; (try (rw [if_pos (by omega)]; go_simp)); (try with_reducible rfl))); (simp only [Act.put, List.setIfInBounds_toArray, List.set_cons_zero, List.set_cons_succ])
                refine thW_take (v := ?_) rfl rfl ?_ ?_; rotate_left; (next => (intro w' hSw; (try dsimp only at hSw); go_simp; (try (rw [if_pos (by omega)]; go_simp)); (try with_reducible rfl))); (simp only [Act.put, List.setIfInBounds_toArray, List.set_cons_zero, List.set_cons_succ])
                refine thW_any (v := ?_) rfl rfl ?_ ?_; rotate_left; (next => (intro w'; go_simp; (try (rw [if_pos (by omega)]; go_simp)); (try with_reducible rfl))); (simp only [Act.put, List.setIfInBounds_toArray, List.set_cons_zero, List.set_cons_succ])
                refine thW_any (v := ?_) rfl rfl ?_ ?_; rotate_left; (next => (intro w'; go_simp; (try (rw [if_pos (by omega)]; go_simp)); (try with_reducible rfl))); (simp only [Act.put, List.setIfInBounds_toArray, List.set_cons_zero, List.set_cons_succ])
                refine thW_any (v := ?_) rfl rfl ?_ ?_; rotate_left; (next => (intro w'; go_simp; (try (rw [if_pos (by omega)]; go_simp)); (try with_reducible rfl))); (simp only [Act.put, List.setIfInBounds_toArray, List.set_cons_zero, List.set_cons_succ])
                refine thW_take (v := ?_) rfl rfl ?_ ?_; rotate_left; (next => (intro w' hSw; (try dsimp only at hSw); go_simp; (try (rw [if_pos (by omega)]; go_simp)); (try with_reducible rfl))); (simp only [Act.put, List.setIfInBounds_toArray, List.set_cons_zero, List.set_cons_succ])
                refine thW_any (v := ?_) rfl rfl ?_ ?_; rotate_left; (next => (intro w'; go_simp; (try (rw [if_pos (by omega)]; go_simp)); (try with_reducible rfl))); (simp only [Act.put, List.setIfInBounds_toArray, List.set_cons_zero, List.set_cons_succ])
                refine thW_nil ?_
                refine ⟨rfl, ?_⟩
                unfold Oper.wp
                rw [← hw6]
                clear hw6
                go_simp
                refine tlW_take (v := ?_) rfl rfl ?_ ?_; rotate_left; (next => (intro w'; go_simp; (try (rw [if_pos (by omega)]; go_simp)); (try with_reducible rfl))); (simp only [Act.put, List.setIfInBounds_toArray, List.set_cons_zero, List.set_cons_succ])
                refine tlW_nil ?_
                (try simp only [List.drop])
                (try go_wp2)
                refine NoPanic.normal ?_
                clear c3 hzlt hzfz
                go_wp2
                go_roundw
                case rel => exact ⟨r + 1, by go_num, hrl, HS7.out⟩
                case measure => simp [intOf]; omega
              · obtain rfl : r = rows := by omega
                have HSr := Lib.hid hS
                clear hS
                go_wp2
                go_roundw
                case rel => exact ⟨i + 1, by go_num, hlt, by rw [HR.out]; exact HSr.out⟩
                case measure => simp [intOf]; omega
          · obtain ⟨w4, hw4⟩ : ∃ w4, w4 = wr.drew := ⟨_, rfl⟩
            have hS4 := hS.below (below_drewN 1 (Below.refl _ wr))
            rw [show wr.drewN 1 = wr.drew from rfl, ← hw4] at hS4
            clear hS hfb hblt hbfz hLn
            obtain ⟨_, hfb⟩ := hS4.f.flb (by rw [hS4.fl]; omega)
            obtain ⟨s1, c1⟩ := hfb.at (i := i) (by rw [hS4.fl]; omega)
            obtain ⟨s2, c2⟩ := hfb.at (i := k) (by rw [hS4.fl]; omega)
            have hblt := hfb.lt
            have hbfz := hfb.frozen
            have n1 := HN.out.1 (by intro e; rw [e] at hlt; exact absurd hlt (Nat.not_lt_zero _))
            have HS5 := Lib.hid (show SoSt w ((w4.setCell ⟨wb, i, none⟩ (.float .f64 (raw (L.getD k 0) s2))).setCell ⟨wb, k, none⟩ (.float .f64 (raw (L.getD i 0) s1))) l.length rows (some ⟨wb, 0, none⟩) za1 wb zb cap1 zcap1 l.length zl.length (swapL L i k) Z from (hS4.setW HN.out.2.1 (Ne.symm n1) _ _ _).setW HN.out.2.1 (Ne.symm n1) _ _ _)
            clear hS4 hfb n1
            generalize L.getD i 0 = vi at *
            generalize L.getD k 0 = vk at *
            go_wp2_with fail
            have hik' : ¬ k = i := fun h => hik h.symm
            refine wp_region_swap 15 13 [(false, 0), (false, 1), (false, 2), (false, 3), (false, 4), (false, 5), (false, 6), (true, 7), (false, 8), (false, 9), (false, 10), (true, 11), (false, 12)] [14] (fun W => W.cell? ⟨wb, i, none⟩ = some (.float .f64 (raw vi s1)) ∧ W.cell? ⟨wb, k, none⟩ = some (.float .f64 (raw vk s2))) rfl (by kernel_rfl) (by kernel_rfl) (hw4 ▸ ⟨c1, c2⟩) ?_
            refine thW_any (v := ?_) rfl rfl ?_ ?_; rotate_left; (next => (intro w'; go_simp; (try (rw [if_pos (by omega)]; go_simp)); (try with_reducible rfl))); (simp only [Act.put, List.setIfInBounds_toArray, List.set_cons_zero, List.set_cons_succ])
            refine thW_any (v := ?_) rfl rfl ?_ ?_; rotate_left; (next => (intro w'; go_simp; (try (rw [if_pos (by omega)]; go_simp)); (try with_reducible rfl))); (simp only [Act.put, List.setIfInBounds_toArray, List.set_cons_zero, List.set_cons_succ])
            refine thW_any (v := ?_) rfl rfl ?_ ?_; rotate_left; (next => (intro w'; go_simp; (try (rw [if_pos (by omega)]; go_simp)); (try with_reducible rfl))); (simp only [Act.put, List.setIfInBounds_toArray, List.set_cons_zero, List.set_cons_succ])
            refine thW_any (v := ?_) rfl rfl ?_ ?_; rotate_left; (next => (intro w'; go_simp; (try (rw [if_pos (by omega)]; go_simp)); (try with_reducible rfl))); (simp only [Act.put, List.setIfInBounds_toArray, List.set_cons_zero, List.set_cons_succ])
            refine thW_any (v := ?_) rfl rfl ?_ ?_; rotate_left; (next => (intro w'; go_simp; (try (rw [if_pos (by omega)]; go_simp)); (try with_reducible rfl))); (simp only [Act.put, List.setIfInBounds_toArray, List.set_cons_zero, List.set_cons_succ])
            refine thW_any (v := ?_) rfl rfl ?_ ?_; rotate_left; (next => (intro w'; go_simp; (try (rw [if_pos (by omega)]; go_simp)); (try with_reducible rfl))); (simp only [Act.put, List.setIfInBounds_toArray, List.set_cons_zero, List.set_cons_succ])
            refine thW_any (v := ?_) rfl rfl ?_ ?_; rotate_left; (next => (intro w'; go_simp; (try (rw [if_pos (by omega)]; go_simp)); (try with_reducible rfl))); (simp only [Act.put, List.setIfInBounds_toArray, List.set_cons_zero, List.set_cons_succ])
            refine thW_take (v := ?_) rfl rfl ?_ ?_; rotate_left; (next => (intro w' hSw; (try dsimp only at hSw); go_simp; (try (rw [if_pos (by omega)]; go_simp)); (try with_reducible rfl))); (simp only [Act.put, List.setIfInBounds_toArray, List.set_cons_zero, List.set_cons_succ])
            refine thW_any (v := ?_) rfl rfl ?_ ?_; rotate_left; (next => (intro w'; go_simp; (try (rw [if_pos (by omega)]; go_simp)); (try with_reducible rfl))); (simp only [Act.put, List.setIfInBounds_toArray, List.set_cons_zero, List.set_cons_succ])
            refine thW_any (v := ?_) rfl rfl ?_ ?_; rotate_left; (next => (intro w'; go_simp; (try (rw [if_pos (by omega)]; go_simp)); (try with_reducible rfl))); (simp only [Act.put, List.setIfInBounds_toArray, List.set_cons_zero, List.set_cons_succ])
            refine thW_any (v := ?_) rfl rfl ?_ ?_; rotate_left; (next => (intro w'; go_simp; (try (rw [if_pos (by omega)]; go_simp)); (try with_reducible rfl))); (simp only [Act.put, List.setIfInBounds_toArray, List.set_cons_zero, List.set_cons_succ])
            refine thW_take (v := ?_) rfl rfl ?_ ?_; rotate_left; (next => (intro w' hSw; (try dsimp only at hSw); go_simp; (try (rw [if_pos (by omega)]; go_simp)); (try with_reducible rfl))); (simp only [Act.put, List.setIfInBounds_toArray, List.set_cons_zero, List.set_cons_succ])
            refine thW_any (v := ?_) rfl rfl ?_ ?_; rotate_left; (next => (intro w'; go_simp; (try (rw [if_pos (by omega)]; go_simp)); (try with_reducible rfl))); (simp only [Act.put, List.setIfInBounds_toArray, List.set_cons_zero, List.set_cons_succ])
            refine thW_nil ?_
            refine ⟨rfl, ?_⟩
            unfold Oper.wp
            rw [← hw4]
            clear hw4
            go_simp
            refine tlW_take (v := ?_) rfl rfl ?_ ?_; rotate_left; (next => (intro w'; go_simp; (try (rw [if_pos (by omega)]; go_simp)); (try with_reducible rfl))); (simp only [Act.put, List.setIfInBounds_toArray, List.set_cons_zero, List.set_cons_succ])
            refine tlW_nil ?_
            (try simp only [List.drop])
            (try go_wp2)
            refine NoPanic.normal ?_
            clear c1 c2 hblt hbfz
            generalize (w4.setCell ⟨wb, i, none⟩ (.float .f64 (raw vk s2))).setCell ⟨wb, k, none⟩ (.float .f64 (raw vi s1)) = w5 at *
            obtain ⟨q1, q2, q3⟩ := HS5.out.bz.facts
            go_wp2_with fail
            clear q1 q2 q3
            go_loopw [75] (fun s75 wr => ∃ r : Nat, s75 = .int .i64 r ∧ r ≤ rows ∧ SoSt w wr l.length rows (some ⟨wb, 0, none⟩) za1 wb zb cap1 zcap1 l.length zl.length (swapL L i k) (swapC Z l.length i k r)) (fun s75 _ => rows - (intOf s75).toNat)
            case atStart => exact ⟨0, rfl, Nat.zero_le _, HS5.out⟩
            case round =>
              obtain ⟨r, rfl, hrr, hS⟩ := hrel
              by_cases hrl : r < rows
              · have hZ0 : 0 < (swapC Z l.length i k r).length := by have := place_ltq hrl hlt; rw [hS.gl, HL.out]; omega
                obtain ⟨rfl, hzb⟩ := hS.g.flb hZ0
                have hpi := place_ltq hrl hlt
                have hpk := place_ltq hrl hk
                obtain ⟨s3, c3⟩ := hzb.at (i := r * l.length + i) (by rw [hS.gl, HL.out]; exact hpi)
                obtain ⟨s4, c4⟩ := hzb.at (i := r * l.length + k) (by rw [hS.gl, HL.out]; exact hpk)
                obtain ⟨q1, q2, q3⟩ := hS.bz.facts
                have hzl := HL.out
                have hzc := HJ.out
                unfold maxLen at hzc
                have hrc2 : r * l.length ≤ 262144 := Nat.le_trans (Nat.mul_le_mul (show r ≤ 512 by omega) hn) (by decide)
                have hm1 : (r : Int) * (l.length : Int) = ((r * l.length : Nat) : Int) := (Int.natCast_mul _ _).symm
                have hw1 : IntKind.i64.wrap ((r : Int) * (l.length : Int)) = (r : Int) * (l.length : Int) := by rw [hm1, IntKind.wrap_i64]; omega
                have hm2 : ((r : Int) * (l.length : Int)).toNat = r * l.length := by rw [hm1, Int.toNat_natCast]
                have hm3 : 0 ≤ (r : Int) * (l.length : Int) := by omega
                have hm4 : (r : Int) * (l.length : Int) ≤ (zl.length : Int) := by omega
                have hm5 : (r : Int) * (l.length : Int) ≤ (zcap1 : Int) := by omega
                have hm6 : r * l.length ≤ zl.length := by omega
                have hm7 : r * l.length ≤ zcap1 := by omega
                have hm8 : i < zl.length - r * l.length := by omega
                have hm10 : ¬ zcap1 = r * l.length := by omega
                have hm9 : k < zl.length - r * l.length := by omega
                have hw1' : wrap64 ((r : Int) * (l.length : Int)) = (r : Int) * (l.length : Int) := by rw [hm1]; unfold wrap64; omega
                have HSr := Lib.hid hS
                clear hS hzb hZ0 hpi hm1 hzl hzc c3 hpk c4
                go_wp2_with fail
                clear q1 q2 q3 hw1'
                obtain ⟨w6, hw6⟩ : ∃ w6, w6 = wr.drew := ⟨_, rfl⟩
                have hS6 := HSr.out.below (below_drewN 1 (Below.refl _ wr))
                rw [show wr.drewN 1 = wr.drew from rfl, ← hw6] at hS6
                have hZ6 : 0 < (swapC Z l.length i k r).length := by have := place_ltq hrl hlt; rw [hS6.gl, HL.out]; omega
                obtain ⟨_, hzb⟩ := hS6.g.flb hZ6
                obtain ⟨s3, c3⟩ := hzb.at (i := r * l.length + i) (by have := place_ltq hrl hlt; rw [hS6.gl, HL.out]; exact this)
                obtain ⟨s4, c4⟩ := hzb.at (i := r * l.length + k) (by have := place_ltq hrl hk; rw [hS6.gl, HL.out]; exact this)
                have hzlt := hzb.lt
                have hzfz := hzb.frozen
                have n1 := HN.out.1 (by intro e; rw [e] at hlt; exact absurd hlt (Nat.not_lt_zero _))
                have HS7 := Lib.hid (show SoSt w ((w6.setCell ⟨zb, r * l.length + i, none⟩ (.float .f64 (raw ((swapC Z l.length i k r).getD (r * l.length + k) 0) s4))).setCell ⟨zb, r * l.length + k, none⟩ (.float .f64 (raw ((swapC Z l.length i k r).getD (r * l.length + i) 0) s3))) l.length rows (some ⟨wb, 0, none⟩) (some ⟨zb, 0, none⟩) wb zb cap1 zcap1 l.length zl.length (swapL L i k) (swapC Z l.length i k (r + 1)) from (hS6.setZ HN.out.2.2 n1 _ _ _).setZ HN.out.2.2 n1 _ _ _)
                clear hS6 hzb hZ6 n1
                generalize (swapC Z l.length i k r).getD (r * l.length + i) 0 = ui at *
                generalize (swapC Z l.length i k r).getD (r * l.length + k) 0 = uk at *
                go_wp2_with fail
                have hik2 : ¬ r * l.length + k = r * l.length + i := by omega
                refine wp_region_swap 15 13 [(false, 0), (false, 1), (false, 2), (false, 3), (false, 4), (false, 5), (false, 6), (true, 7), (false, 8), (false, 9), (false, 10), (true, 11), (false, 12)] [14] (fun W => W.cell? ⟨zb, r * l.length + i, none⟩ = some (.float .f64 (raw ui s3)) ∧ W.cell? ⟨zb, r * l.length + k, none⟩ = some (.float .f64 (raw uk s4))) rfl (by kernel_rfl) (by kernel_rfl) (hw6 ▸ ⟨c3, c4⟩) ?_
                refine thW_any (v := ?_) rfl rfl ?_ ?_; rotate_left; (next => (intro w'; go_simp; (try (rw [if_pos (by omega)]; go_simp)); (try with_reducible rfl))); (simp only [Act.put, List.setIfInBounds_toArray, List.set_cons_zero, List.set_cons_succ])
                refine thW_any (v := ?_) rfl rfl ?_ ?_; rotate_left; (next => (intro w'; go_simp; (try (rw [if_pos (by omega)]; go_simp)); (try with_reducible rfl))); (simp only [Act.put, List.setIfInBounds_toArray, List.set_cons_zero, List.set_cons_succ])
                refine thW_any (v := ?_) rfl rfl ?_ ?_; rotate_left; (next => (intro w'; go_simp; (try (rw [if_pos (by omega)]; go_simp)); (try with_reducible rfl))); (simp only [Act.put, List.setIfInBounds_toArray, List.set_cons_zero, List.set_cons_succ])
                refine thW_any (v := ?_) rfl rfl ?_ ?_; rotate_left; (next => (intro w'; go_simp; (try (rw [if_pos (by omega)]; go_simp)); (try with_reducible rfl))); (simp only [Act.put, List.setIfInBounds_toArray, List.set_cons_zero, List.set_cons_succ])
                refine thW_any (v := ?_) rfl rfl ?_ ?_; rotate_left; (next => (intro w'; go_simp; (try (rw [if_pos (by omega)]; go_simp)); (try with_reducible rfl))); (simp only [Act.put, List.setIfInBounds_toArray, List.set_cons_zero, List.set_cons_succ])
                refine thW_any (v := ?_) rfl rfl ?_ ?_; rotate_left; (next => (intro w'; go_simp; (try (rw [if_pos (by omega)]; go_simp)); (try with_reducible rfl))); (simp only [Act.put, List.setIfInBounds_toArray, List.set_cons_zero, List.set_cons_succ])
                refine thW_any (v := ?_) rfl rfl ?_ ?_; rotate_left; (next => (intro w'; go_simp; (try (rw [if_pos (by omega)]; go_simp)); (try with_reducible rfl))); (simp only [Act.put, List.setIfInBounds_toArray, List.set_cons_zero, List.set_cons_succ])
                refine thW_take (v := ?_) rfl rfl ?_ ?_; rotate_left; (next => (intro w' hSw; (try dsimp only at hSw); go_simp; (try (rw [if_pos (by omega)]; go_simp)); (try with_reducible rfl))); (simp only [Act.put, List.setIfInBounds_toArray, List.set_cons_zero, List.set_cons_succ])
                refine thW_any (v := ?_) rfl rfl ?_ ?_; rotate_left; (next => (intro w'; go_simp; (try (rw [if_pos (by omega)]; go_simp)); (try with_reducible rfl))); (simp only [Act.put, List.setIfInBounds_toArray, List.set_cons_zero, List.set_cons_succ])
                refine thW_any (v := ?_) rfl rfl ?_ ?_; rotate_left; (next => (intro w'; go_simp; (try (rw [if_pos (by omega)]; go_simp)); (try with_reducible rfl))); (simp only [Act.put, List.setIfInBounds_toArray, List.set_cons_zero, List.set_cons_succ])
                refine thW_any (v := ?_) rfl rfl ?_ ?_; rotate_left; (next => (intro w'; go_simp; (try (rw [if_pos (by omega)]; go_simp)); (try with_reducible rfl))); (simp only [Act.put, List.setIfInBounds_toArray, List.set_cons_zero, List.set_cons_succ])
                refine thW_take (v := ?_) rfl rfl ?_ ?_; rotate_left; (next => (intro w' hSw; (try dsimp only at hSw); go_simp; (try (rw [if_pos (by omega)]; go_simp)); (try with_reducible rfl))); (simp only [Act.put, List.setIfInBounds_toArray, List.set_cons_zero, List.set_cons_succ])
                refine thW_any (v := ?_) rfl rfl ?_ ?_; rotate_left; (next => (intro w'; go_simp; (try (rw [if_pos (by omega)]; go_simp)); (try with_reducible rfl))); (simp only [Act.put, List.setIfInBounds_toArray, List.set_cons_zero, List.set_cons_succ])
                refine thW_nil ?_
                refine ⟨rfl, ?_⟩
                unfold Oper.wp
                rw [← hw6]
                clear hw6
                go_simp
                refine tlW_take (v := ?_) rfl rfl ?_ ?_; rotate_left; (next => (intro w'; go_simp; (try (rw [if_pos (by omega)]; go_simp)); (try with_reducible rfl))); (simp only [Act.put, List.setIfInBounds_toArray, List.set_cons_zero, List.set_cons_succ])
                refine tlW_nil ?_
                (try simp only [List.drop])
                (try go_wp2)
                refine NoPanic.normal ?_
                clear c3 c4 hzlt hzfz
                go_wp2
                go_roundw
                case rel => exact ⟨r + 1, by go_num, hrl, HS7.out⟩
                case measure => simp [intOf]; omega
              · obtain rfl : r = rows := by omega
                have HSr := Lib.hid hS
                clear hS
                go_wp2
                go_roundw
                case rel => exact ⟨i + 1, by go_num, hlt, by rw [HR.out]; exact HSr.out⟩
                case measure => simp [intOf]; omega
    · obtain rfl : i = l.length := by omega
      have HSr := Lib.hid (show _ ∧ _ ∧ _ from ⟨hS, hS.f, hS.g⟩)
      obtain ⟨q1, q2, q3⟩ := hS.bz.facts
      obtain ⟨p1, p2, p3⟩ := hS.br.facts
      clear hS
      have q4 : w.heap.size < wr.heap.size := q1
      go_wp2_with fail
      refine wp_region_nqb 3 (fun _ _ _ => False) (by kernel_rfl) (by kernel_rfl) ?_
      intro C R hc hb' hb2 hd hR
      simp only [List.take_succ_cons, List.take_zero]
      repeat (
        first
          | (refine nqW_plain (fun K hK => ?_))
          | (refine nqW_step (fun K hK => ?_); go_simp)
        first
          | (refine nq_move rfl ?_; go_simp; refine hK _ ?_; clear hK K)
          | (refine nq_assign rfl ?_; go_simp; refine hK _ ?_; clear hK K)
          | (refine nq_flt rfl rfl rfl rfl hd ?_; intro _; go_frame; refine hK _ ?_; clear hK K)
          | (refine nq_same ?_; intro w' hw'; go_simp; (try go_bits); refine hK _ ?_; clear hK K hw' w')
          | (refine nq_same ?_; intro w' hw'; go_simp; rw [if_pos (by omega)]; go_simp; (try go_bits); refine hK _ ?_; clear hK K hw' w')
          | (go_simp; refine hK _ ?_; clear hK K))
      refine nqW_nil (hR _ ?_)
      clear hc hb' hb2 hd hR
      intro w' hw'
      simp only [List.drop]
      have hSw := HSr.out.1.below hw'
      have hf1 := HSr.out.2.1.below hw'
      have hg1 := HSr.out.2.2.below hw'
      have HE := Lib.hid (show _ ∧ _ ∧ _ ∧ _ from ⟨hSw.br, hSw.bel, hf1, hg1⟩)
      clear q1 q2 q3 p1 p2 p3 q4
      obtain ⟨p1, p2, p3⟩ := hSw.br.facts
      clear hSw hf1 hg1 hw'
      go_wp2
      have hne : w.heap.size ≤ w.heap.size + 1 := Nat.le_succ _
      obtain ⟨hbr, hbl, hf1, hg1⟩ := HE.out
      exact bodyPost_ret (results_three rfl (rv_tmp rfl) (rv_cell (g := w.heap.size + 1) rfl (hbr.put3 _ _ _) rfl Try.underlying26 (by kernel_rfl)) (rv_tmp rfl)) rfl ⟨_, _, _, _, wb, zb, rfl, FS.put3 hf1 (by have := HN.out.2.1; omega) _ _ _, FS.put3 hg1 (by have := HN.out.2.2; omega) _ _ _, below_put3 hbl hne _ _ _, by have := HN.out.2.1; omega, by have := HN.out.2.2; omega⟩
end Go.Proofs.Ytbmnlohaidbmdaa
