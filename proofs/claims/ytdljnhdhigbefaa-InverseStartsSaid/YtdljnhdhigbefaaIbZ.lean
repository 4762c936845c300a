/- Layer 14: a factored tridiagonal solved (printed by gen_ib.py). No condition but on lengths. -/
import Derived.Test.YtdljnhdhigbefaaZz13
import Derived.Test.YtdljnhdhigbefaaUnZ
namespace Go.Proofs.Ytdljnhdhigbefaa
open Go Go.RowKit
set_option maxRecDepth 1000000
set_option linter.unusedSimpArgs false

set_option maxHeartbeats 32000000 in
theorem isolve_ok (w : World) (aa ab ac al ak ay : Option Addr) (A B C L y : List Nat) (sw : List Bool) (n k ca cb cc cl cs cy : Nat) (hA : Fls w aa A) (hB : Fls w ab B) (hC : Fls w ac C) (hL : Fls w al L) (hS : Bos w ak sw) (hy : Fls w ay y) (hay : ay = none → y = []) (hW : Words y) (hn : n ≤ 512) (l0 : y.length = n) (l1 : A.length = n) (l2 : B.length = n) (l3 : C.length = n) (l4 : L.length = k) (l5 : sw.length = k) (hk : k = n - 1) :
    Calls Try.prog 27 #[.agg #[.slice aa n ca, .slice ab n cb, .slice ac n cc, .slice al k cl, .slice ak k cs], .slice ay n cy] w fun r w' => ∃ a c b, r = .returned (.tuple #[.slice a n c, .int .i64 0]) ∧ FS w' a b (solI A B C L sw y) ∧ w.heap.size ≤ b ∧ Words (solI A B C L sw y) ∧ Below w.heap.size w w' := by
  have HCl := Lib.hid (fun W (h : Below w.heap.size w W) => l0 ▸ Clone_any W ay y cy (hy.below h) (by omega) hay)
  have HF := Lib.hid (show _ ∧ _ ∧ _ ∧ _ ∧ _ from ⟨hA, hB, hC, hL, hS⟩)
  have HLn := Lib.hid (show _ ∧ _ ∧ _ ∧ _ ∧ _ ∧ _ ∧ _ from ⟨l0, l1, l2, l3, l4, l5, hk⟩)
  have HW := Lib.hid hW
  have x0 : Box (w.alloc (.cells #[.slice aa n ca, .slice ab n cb, .slice ac n cc, .slice al k cl, .slice ak k cs] 45)) w.heap.size [.slice aa n ca, .slice ab n cb, .slice ac n cc, .slice al k cl, .slice ak k cs] := Box.newA w [.slice aa n ca, .slice ab n cb, .slice ac n cc, .slice al k cl, .slice ak k cs] _ rfl
  have hB0 : Below w.heap.size w (w.alloc (.cells #[.slice aa n ca, .slice ab n cb, .slice ac n cc, .slice al k cl, .slice ak k cs] 45)) := (Below.refl _ _).alloc (Nat.le_refl _) _
  obtain ⟨W0, hW0⟩ : ∃ W0, W0 = w.alloc (.cells #[.slice aa n ca, .slice ab n cb, .slice ac n cc, .slice al k cl, .slice ak k cs] 45) := ⟨_, rfl⟩
  rw [← hW0] at x0 hB0
  have X0 := Lib.hid x0
  have HB := Lib.hid hB0
  have t1 : ((n : Int) != (n : Int)) = false := bne_self_eq_false _
  have t4 : ¬ (512 : Int) < (n : Int) := by omega
  clear x0 hB0 hA hB hC hL hS hy hay hW l0 l1 l2 l3 l4 l5
  by_cases hn1 : 1 < n
  case pos =>
    have t2 : ((k : Int) != (k : Int)) = false := bne_self_eq_false _
    have t3 : (0 : Int) < (n : Int) - 1 := by omega
    have t5 : (n : Int) - 1 = (k : Int) := by omega
    clear hk
    go_enter Try.func27, Try.ntmps27
    go_upto_region 1 with (fail)
    rw [← hW0]
    clear hW0
    obtain ⟨f1, f2, f3⟩ := X0.out.facts
    go_upto_region 4 with (fail)
    clear f1 f2 f3 t1 t4 t2 t3 t5
    go_wp2_with fail
    refine (HCl.out _ HB.out).mono ?_
    rintro e_ w1 ⟨⟨sv, rfl, hO⟩, hb⟩
    obtain ⟨by_, yb, cp, rfl, k1, k2, k3, hF, k4⟩ := hO.fs
    rw [HLn.out.1]
    have S := Lib.hid (show InS w w1 w.heap.size [.slice aa n ca, .slice ab n cb, .slice ac n cc, .slice al k cl, .slice ak k cs] by_ yb n y from ⟨X0.out.below hb, hF, HLn.out.1, HW.out, ⟨Nat.le_refl _, by have := X0.out.lt; omega, by have := X0.out.lt; omega⟩, below_step HB.out HB.out.size hb⟩)
    clear hb hO hF k1 k2 k3 k4 X0 HB HCl HW
    dsimp only
    go_upto_region 5 with (fail)
    obtain ⟨f1, f2, f3⟩ := S.out.box.facts
    go_wp2_with fail
    clear f1 f2 f3
    go_loopw [62] (fun s62 wr => ∃ i : Nat, s62 = .int .i64 i ∧ i ≤ k ∧ InS w wr w.heap.size [.slice aa n ca, .slice ab n cb, .slice ac n cc, .slice al k cl, .slice ak k cs] by_ yb n (fwL sw L y i)) (fun s62 _ => k - (intOf s62).toNat)
    case atStart => exact ⟨0, rfl, Nat.zero_le _, S.out⟩
    case round =>
      obtain ⟨i, rfl, hi, hS⟩ := hrel
      replace S := Lib.hid hS
      have HI := Lib.hid hi
      clear hS hi
      by_cases hlt : i < k
      case pos =>
        have HN := Lib.hid (show i < n ∧ i + 1 < n ∧ 0 < n ∧ i < 1000 from by have := HLn.out.2.2.2.2.2.2; omega)
        obtain ⟨i1, hi1⟩ : ∃ i1, i1 = i + 1 := ⟨_, rfl⟩
        have hi9 : i < 1000 := HN.out.2.2.2
        have hz1 : wrap64 ((i : Int) + 1) = (i1 : Int) := by unfold wrap64; omega
        have hz2 : IntKind.i64.wrap ((i : Int) + 1) = (i1 : Int) := by rw [IntKind.wrap_i64]; omega
        have HI1 := Lib.hid hi1
        have hin := HN.out.1
        have hi1n : i1 < n := by rw [hi1]; exact HN.out.2.1
        clear hi1
        obtain ⟨e1, _⟩ := S.out.addr HN.out.2.2.1
        subst e1
        obtain ⟨bl, ol, sl, e2, hbl, cl0⟩ := FlsI.at (HF.out.2.2.2.1) (show i < L.length by rw [HLn.out.2.2.2.2.1]; exact hlt)
        obtain ⟨bk, ok, e3, hbk, ck0⟩ := Bos.at (HF.out.2.2.2.2) (show i < sw.length by rw [HLn.out.2.2.2.2.2.1]; exact hlt)
        subst e2 e3
        obtain ⟨b, hb⟩ : ∃ b, b = sw.getD i false := ⟨_, rfl⟩
        obtain ⟨lv, hlv⟩ : ∃ lv, lv = L.getD i 0 := ⟨_, rfl⟩
        rw [← hb] at ck0
        rw [← hlv] at cl0
        have HCL := Lib.hid (show _ ∧ _ ∧ _ ∧ _ from ⟨hbl, cl0, hbk, ck0⟩)
        have HBL := Lib.hid (And.intro hb hlv)
        clear hbl cl0 hbk ck0 hb hlv
        have hfw : fwL sw L y (i + 1) = fwI b lv (fwL sw L y i) i := by rw [HBL.out.1, HBL.out.2]; rfl
        have HFW := Lib.hid hfw
        clear hfw
        obtain ⟨Y, hY⟩ : ∃ Y, Y = fwL sw L y i := ⟨_, rfl⟩
        rw [← hY] at S HFW
        clear hY
        have ck : wr.cell? ⟨bk, ok + i, none⟩ = some (.bool b) := ((below_cells S.out.below).1 _ _ HCL.out.2.2.1).trans HCL.out.2.2.2
        go_upto_region 8 with (fail)
        clear ck
        cases b
        case false =>
          obtain ⟨Z, hZ⟩ : ∃ Z, Z = Y := ⟨_, rfl⟩
          rw [← hZ] at S
          have HFZ := Lib.hid (show fwL sw L y (i + 1) = Z.set (i + 1) (fsub (Z.getD (i + 1) 0) (fmul lv (Z.getD i 0))) from by rw [HFW.out, hZ]; rfl)
          clear hZ
          go_upto_region 10 with (fail)
          have hdr := below_drewN 1 (Below.refl wr.heap.size wr)
          replace S := Lib.hid (show InS w wr.drew _ _ _ _ n Z from S.out.step hdr)
          clear hdr
          obtain ⟨zi, hzi⟩ : ∃ v, v = Z.getD i 0 := ⟨_, rfl⟩
          obtain ⟨zj, hzj⟩ : ∃ v, v = Z.getD i1 0 := ⟨_, rfl⟩
          have HZI := Lib.hid (And.intro hzi hzj)
          obtain ⟨s5, c5⟩ := S.out.at hin
          rw [← hzi] at c5
          have c6 := ((below_cells S.out.below).1 _ _ HCL.out.1).trans HCL.out.2.1
          clear hzi hzj
          refine wp_region_items 9 [(true, 0), (true, 1), (true, 2), (true, 3), (true, 4), (true, 5), (true, 6), (true, 7), (true, 8)] (fun W => (∀ j, W.cell? ⟨w.heap.size, j, none⟩ = ([.slice aa n ca, .slice ab n cb, .slice ac n cc, .slice (some ⟨bl, ol, none⟩) k cl, .slice (some ⟨bk, ok, none⟩) k cs] : List Value)[j]?) ∧ W.cell? ⟨yb, i, none⟩ = some (.float .f64 (raw zi s5)) ∧ W.cell? ⟨bl, ol + i, none⟩ = some (.float .f64 (raw lv sl))) (by kernel_rfl) (by kernel_rfl) ⟨S.out.box.cell, c5, c6⟩ ?_
          generalize wr.drew = y0 at *
          clear c5 c6
          iterate 9 (refine iW_take (v := ?_) rfl rfl ?_ ?_; rotate_left; (next => (intro w' hSw; (try dsimp only at hSw); go_simp; (try (rw [if_pos (by omega)]; go_simp)); (try with_reducible rfl))); (simp only [Act.put, List.setIfInBounds_toArray, List.set_cons_zero, List.set_cons_succ]))
          refine iW_nil ?_
          go_simp
          go_wp2_with (first | (refine wpList_flt rfl rfl rfl rfl rfl ?_; intro K hK s6 n6; go_frame; refine hK _ _ ?_; clear hK K))
          refine NoPanic.normal ?_
          (try simp only [fadd_rawl, fadd_rawr, fsub_rawl, fsub_rawr, fmul_rawl, fmul_rawr, fdiv_rawl, fdiv_rawr])
          have hb := below_drewN n6 (Below.refl y0.heap.size y0)
          replace S := Lib.hid (S.out.step hb)
          generalize y0.drewN n6 = y1 at *
          clear hb
          obtain ⟨pv, hpv⟩ : ∃ v, v = fmul lv zi := ⟨_, rfl⟩
          rw [← hpv]
          have HPV := Lib.hid hpv
          clear hpv
          obtain ⟨s7, c7⟩ := S.out.at hi1n
          rw [← HZI.out.2] at c7
          have g1 := (S.out.addr HN.out.2.2.1).2.lt
          have g2 := (S.out.addr HN.out.2.2.1).2.frozen
          go_wp2_with (first | (refine wpList_flt rfl rfl rfl rfl rfl ?_; intro K hK s8 n8; go_frame; refine hK _ _ ?_; clear hK K))
          (try simp only [fadd_rawl, fadd_rawr, fsub_rawl, fsub_rawr, fmul_rawl, fmul_rawr, fdiv_rawl, fdiv_rawr])
          go_roundw
          case rel =>
            have h := (S.out.step (below_drewN n8 (Below.refl y1.heap.size y1))).set i1 (fsub zj pv) s8 (fsub_lt _ _)
            rw [HPV.out, HZI.out.1, HZI.out.2, HI1.out, ← HFZ.out] at h
            refine ⟨i + 1, by first | rfl | rw [HI1.out] | go_num, hlt, ?_⟩
            rw [HPV.out, HZI.out.1, HZI.out.2, HI1.out]
            exact h
          case measure => first | (simp [intOf]; omega) | (have := HI1.out; simp [intOf]; omega)
        case true =>
          go_upto_region 9 with (fail)
          obtain ⟨w2, hw2⟩ : ∃ w2, w2 = wr.drew := ⟨_, rfl⟩
          have S2 := Lib.hid (show InS w w2 _ _ _ _ n Y from hw2 ▸ (show InS w wr.drew _ _ _ _ n Y from S.out.step (below_drewN 1 (Below.refl _ _))))
          obtain ⟨s1, c1⟩ := S2.out.at hi1n
          obtain ⟨s2, c2⟩ := S2.out.at hin
          have g1 := (S2.out.addr HN.out.2.2.1).2.lt
          have g2 := (S2.out.addr HN.out.2.2.1).2.frozen
          obtain ⟨v1, hv1⟩ : ∃ v, v = Y.getD i1 0 := ⟨_, rfl⟩
          obtain ⟨v2, hv2⟩ : ∃ v, v = Y.getD i 0 := ⟨_, rfl⟩
          rw [← hv1] at c1
          rw [← hv2] at c2
          have HV := Lib.hid (show _ ∧ _ ∧ v1 < 18446744073709551616 ∧ v2 < 18446744073709551616 from ⟨hv1, hv2, hv1 ▸ S.out.wd.at _, hv2 ▸ S.out.wd.at _⟩)
          clear hv1 hv2 S
          have hii : i1 ≠ i := by have := HI1.out; omega
          refine wp_region_swap 17 15 [(false, 0), (false, 1), (false, 2), (false, 3), (false, 4), (false, 5), (false, 6), (false, 7), (false, 8), (true, 9), (false, 10), (false, 11), (false, 12), (true, 13), (false, 14)] [16] (fun W => W.cell? ⟨yb, i1, none⟩ = some (.float .f64 (raw v1 s1)) ∧ W.cell? ⟨yb, i, none⟩ = some (.float .f64 (raw v2 s2))) rfl (by kernel_rfl) (by kernel_rfl) (hw2 ▸ ⟨c1, c2⟩) ?_
          refine thW_any (v := ?_) rfl rfl ?_ ?_; rotate_left; (next => (intro w'; go_simp; (try (rw [if_pos (by omega)]; go_simp)); (try with_reducible rfl))); (simp only [Act.put, List.setIfInBounds_toArray, List.set_cons_zero, List.set_cons_succ])
          refine thW_any (v := ?_) rfl rfl ?_ ?_; rotate_left; (next => (intro w'; go_simp; (try (rw [if_pos (by omega)]; go_simp)); (try with_reducible rfl))); (simp only [Act.put, List.setIfInBounds_toArray, List.set_cons_zero, List.set_cons_succ])
          refine thW_any (v := ?_) rfl rfl ?_ ?_; rotate_left; (next => (intro w'; go_simp; (try (rw [if_pos (by omega)]; go_simp)); (try with_reducible rfl))); (simp only [Act.put, List.setIfInBounds_toArray, List.set_cons_zero, List.set_cons_succ])
          refine thW_any (v := ?_) rfl rfl ?_ ?_; rotate_left; (next => (intro w'; go_simp; (try (rw [if_pos (by omega)]; go_simp)); (try with_reducible rfl))); (simp only [Act.put, List.setIfInBounds_toArray, List.set_cons_zero, List.set_cons_succ])
          refine thW_any (v := ?_) rfl rfl ?_ ?_; rotate_left; (next => (intro w'; go_simp; (try (rw [if_pos (by omega)]; go_simp)); (try with_reducible rfl))); (simp only [Act.put, List.setIfInBounds_toArray, List.set_cons_zero, List.set_cons_succ])
          refine thW_any (v := ?_) rfl rfl ?_ ?_; rotate_left; (next => (intro w'; go_simp; (try (rw [if_pos (by omega)]; go_simp)); (try with_reducible rfl))); (simp only [Act.put, List.setIfInBounds_toArray, List.set_cons_zero, List.set_cons_succ])
          refine thW_any (v := ?_) rfl rfl ?_ ?_; rotate_left; (next => (intro w'; go_simp; (try (rw [if_pos (by omega)]; go_simp)); (try with_reducible rfl))); (simp only [Act.put, List.setIfInBounds_toArray, List.set_cons_zero, List.set_cons_succ])
          refine thW_any (v := ?_) rfl rfl ?_ ?_; rotate_left; (next => (intro w'; go_simp; (try (rw [if_pos (by omega)]; go_simp)); (try with_reducible rfl))); (simp only [Act.put, List.setIfInBounds_toArray, List.set_cons_zero, List.set_cons_succ])
          refine thW_any (v := ?_) rfl rfl ?_ ?_; rotate_left; (next => (intro w'; go_simp; (try (rw [if_pos (by omega)]; go_simp)); (try with_reducible rfl))); (simp only [Act.put, List.setIfInBounds_toArray, List.set_cons_zero, List.set_cons_succ])
          refine thW_take (v := ?_) rfl rfl ?_ ?_; rotate_left; (next => (intro w' hSw; (try dsimp only at hSw); go_simp; (try (rw [if_pos (by omega)]; go_simp)); (try with_reducible rfl))); (simp only [Act.put, List.setIfInBounds_toArray, List.set_cons_zero, List.set_cons_succ])
          refine thW_any (v := ?_) rfl rfl ?_ ?_; rotate_left; (next => (intro w'; go_simp; (try (rw [if_pos (by omega)]; go_simp)); (try with_reducible rfl))); (simp only [Act.put, List.setIfInBounds_toArray, List.set_cons_zero, List.set_cons_succ])
          refine thW_any (v := ?_) rfl rfl ?_ ?_; rotate_left; (next => (intro w'; go_simp; (try (rw [if_pos (by omega)]; go_simp)); (try with_reducible rfl))); (simp only [Act.put, List.setIfInBounds_toArray, List.set_cons_zero, List.set_cons_succ])
          refine thW_any (v := ?_) rfl rfl ?_ ?_; rotate_left; (next => (intro w'; go_simp; (try (rw [if_pos (by omega)]; go_simp)); (try with_reducible rfl))); (simp only [Act.put, List.setIfInBounds_toArray, List.set_cons_zero, List.set_cons_succ])
          refine thW_take (v := ?_) rfl rfl ?_ ?_; rotate_left; (next => (intro w' hSw; (try dsimp only at hSw); go_simp; (try (rw [if_pos (by omega)]; go_simp)); (try with_reducible rfl))); (simp only [Act.put, List.setIfInBounds_toArray, List.set_cons_zero, List.set_cons_succ])
          refine thW_any (v := ?_) rfl rfl ?_ ?_; rotate_left; (next => (intro w'; go_simp; (try (rw [if_pos (by omega)]; go_simp)); (try with_reducible rfl))); (simp only [Act.put, List.setIfInBounds_toArray, List.set_cons_zero, List.set_cons_succ])
          refine thW_nil ?_
          refine ⟨rfl, ?_⟩
          unfold Oper.wp
          rw [← hw2]
          clear hw2
          go_simp
          refine tlW_take (v := ?_) rfl rfl ?_ ?_; rotate_left; (next => (intro w'; go_simp; (try (rw [if_pos (by omega)]; go_simp)); (try with_reducible rfl))); (simp only [Act.put, List.setIfInBounds_toArray, List.set_cons_zero, List.set_cons_succ])
          refine tlW_nil ?_
          (try simp only [List.drop])
          go_wp2_with fail
          refine NoPanic.normal ?_
          obtain ⟨w3, hw3⟩ : ∃ x, x = (w2.setCell ⟨yb, i, none⟩ (.float .f64 (raw v1 s1))).setCell ⟨yb, i1, none⟩ (.float .f64 (raw v2 s2)) := ⟨_, rfl⟩
          rw [← hw3]
          have S := Lib.hid (show InS w w3 _ _ _ _ n (swapL Y i (i + 1)) from by have h := (S2.out.set i v1 s1 HV.out.2.2.1).set i1 v2 s2 HV.out.2.2.2; rw [HV.out.1, HV.out.2.1, HI1.out] at h; rw [hw3, HV.out.1, HV.out.2.1, HI1.out]; exact h)
          clear hw3 S2 c1 c2 g1 g2 HV hii
          obtain ⟨Z, hZ⟩ : ∃ Z, Z = (swapL Y i (i + 1)) := ⟨_, rfl⟩
          rw [← hZ] at S
          have HFZ := Lib.hid (show fwL sw L y (i + 1) = Z.set (i + 1) (fsub (Z.getD (i + 1) 0) (fmul lv (Z.getD i 0))) from by rw [HFW.out, hZ]; rfl)
          clear hZ
          go_upto_region 10 with (fail)
          have hdr := below_drewN 1 (Below.refl w3.heap.size w3)
          replace S := Lib.hid (show InS w w3.drew _ _ _ _ n Z from S.out.step hdr)
          clear hdr
          obtain ⟨zi, hzi⟩ : ∃ v, v = Z.getD i 0 := ⟨_, rfl⟩
          obtain ⟨zj, hzj⟩ : ∃ v, v = Z.getD i1 0 := ⟨_, rfl⟩
          have HZI := Lib.hid (And.intro hzi hzj)
          obtain ⟨s5, c5⟩ := S.out.at hin
          rw [← hzi] at c5
          have c6 := ((below_cells S.out.below).1 _ _ HCL.out.1).trans HCL.out.2.1
          clear hzi hzj
          refine wp_region_items 9 [(true, 0), (true, 1), (true, 2), (true, 3), (true, 4), (true, 5), (true, 6), (true, 7), (true, 8)] (fun W => (∀ j, W.cell? ⟨w.heap.size, j, none⟩ = ([.slice aa n ca, .slice ab n cb, .slice ac n cc, .slice (some ⟨bl, ol, none⟩) k cl, .slice (some ⟨bk, ok, none⟩) k cs] : List Value)[j]?) ∧ W.cell? ⟨yb, i, none⟩ = some (.float .f64 (raw zi s5)) ∧ W.cell? ⟨bl, ol + i, none⟩ = some (.float .f64 (raw lv sl))) (by kernel_rfl) (by kernel_rfl) ⟨S.out.box.cell, c5, c6⟩ ?_
          generalize w3.drew = y0 at *
          clear c5 c6
          iterate 9 (refine iW_take (v := ?_) rfl rfl ?_ ?_; rotate_left; (next => (intro w' hSw; (try dsimp only at hSw); go_simp; (try (rw [if_pos (by omega)]; go_simp)); (try with_reducible rfl))); (simp only [Act.put, List.setIfInBounds_toArray, List.set_cons_zero, List.set_cons_succ]))
          refine iW_nil ?_
          go_simp
          go_wp2_with (first | (refine wpList_flt rfl rfl rfl rfl rfl ?_; intro K hK s6 n6; go_frame; refine hK _ _ ?_; clear hK K))
          refine NoPanic.normal ?_
          (try simp only [fadd_rawl, fadd_rawr, fsub_rawl, fsub_rawr, fmul_rawl, fmul_rawr, fdiv_rawl, fdiv_rawr])
          have hb := below_drewN n6 (Below.refl y0.heap.size y0)
          replace S := Lib.hid (S.out.step hb)
          generalize y0.drewN n6 = y1 at *
          clear hb
          obtain ⟨pv, hpv⟩ : ∃ v, v = fmul lv zi := ⟨_, rfl⟩
          rw [← hpv]
          have HPV := Lib.hid hpv
          clear hpv
          obtain ⟨s7, c7⟩ := S.out.at hi1n
          rw [← HZI.out.2] at c7
          have g1 := (S.out.addr HN.out.2.2.1).2.lt
          have g2 := (S.out.addr HN.out.2.2.1).2.frozen
          go_wp2_with (first | (refine wpList_flt rfl rfl rfl rfl rfl ?_; intro K hK s8 n8; go_frame; refine hK _ _ ?_; clear hK K))
          (try simp only [fadd_rawl, fadd_rawr, fsub_rawl, fsub_rawr, fmul_rawl, fmul_rawr, fdiv_rawl, fdiv_rawr])
          go_roundw
          case rel =>
            have h := (S.out.step (below_drewN n8 (Below.refl y1.heap.size y1))).set i1 (fsub zj pv) s8 (fsub_lt _ _)
            rw [HPV.out, HZI.out.1, HZI.out.2, HI1.out, ← HFZ.out] at h
            refine ⟨i + 1, by first | rfl | rw [HI1.out] | go_num, hlt, ?_⟩
            rw [HPV.out, HZI.out.1, HZI.out.2, HI1.out]
            exact h
          case measure => first | (simp [intOf]; omega) | (have := HI1.out; simp [intOf]; omega)
      case neg =>
        have hik : i = k := by have := HI.out; omega
        have HE := Lib.hid (show fwL sw L y i = fwL sw L y (n - 1) from by rw [hik, HLn.out.2.2.2.2.2.2])
        clear hik HI
        replace S := Lib.hid (show InS w wr w.heap.size [.slice aa n ca, .slice ab n cb, .slice ac n cc, .slice al k cl, .slice ak k cs] by_ yb n (fwL sw L y (n - 1)) from HE.out ▸ S.out)
        clear HE
        have HR := Lib.hid (show bkL A B C n n (fwL sw L y (n - 1)) = solI A B C L sw y from by unfold solI; rw [HLn.out.1])
        go_wp2_with fail
        go_loopw [10] (fun s10 wr => ∃ (m : Nat) (J : Int) (Y : List Nat), s10 = .int .i64 J ∧ J = (m : Int) - 1 ∧ m ≤ n ∧ bkL A B C n m Y = solI A B C L sw y ∧ InS w wr w.heap.size [.slice aa n ca, .slice ab n cb, .slice ac n cc, .slice al k cl, .slice ak k cs] by_ yb n Y) (fun s10 _ => (intOf s10 + 1).toNat)
        case atStart => exact ⟨n, _, _, rfl, by first | rfl | (unfold wrap64; omega) | (rw [IntKind.wrap_i64]; omega), Nat.le_refl _, HR.out, S.out⟩
        case round =>
          obtain ⟨m, J, Y, rfl, hJ, hm, hR, hS⟩ := hrel
          replace S := Lib.hid hS
          replace HR := Lib.hid hR
          clear hS hR
          by_cases hm0 : 0 < m
          case pos =>
            obtain ⟨i, hi⟩ : ∃ i, m = i + 1 := ⟨m - 1, by omega⟩
            subst hi
            obtain rfl : J = (i : Int) := by omega
            clear hm0 hJ
            have HM := Lib.hid hm
            clear hm
            have hin : i < n := HM.out
            have hi9 : i < 1000 := by omega
            have hn0 : 0 < n := by omega
            have HR2 := Lib.hid (show bkL A B C n i (Y.set i (fdiv (bkS B C Y n i) (A.getD i 0))) = solI A B C L sw y from HR.out)
            clear HR
            obtain ⟨e1, _⟩ := S.out.addr hn0
            subst e1
            obtain ⟨ba, oa, sa, e2, hba, ca0⟩ := FlsI.at HF.out.1 (show i < A.length by rw [HLn.out.2.1]; exact hin)
            subst e2
            have HCA := Lib.hid (And.intro hba ca0)
            clear hba ca0
            obtain ⟨i1, hi1⟩ : ∃ i1, i1 = i + 1 := ⟨_, rfl⟩
            have hz1 : wrap64 ((i : Int) + 1) = (i1 : Int) := by unfold wrap64; omega
            have hz2 : IntKind.i64.wrap ((i : Int) + 1) = (i1 : Int) := by rw [IntKind.wrap_i64]; omega
            have HI1 := Lib.hid hi1
            obtain ⟨i2, hi2⟩ : ∃ i2, i2 = i + 2 := ⟨_, rfl⟩
            have hz3 : wrap64 ((i : Int) + 2) = (i2 : Int) := by unfold wrap64; omega
            have hz4 : IntKind.i64.wrap ((i : Int) + 2) = (i2 : Int) := by rw [IntKind.wrap_i64]; omega
            have HI2 := Lib.hid hi2
            clear hi1 hi2
            obtain ⟨s0, c0⟩ := S.out.at hin
            obtain ⟨yi, hyi⟩ : ∃ v, v = Y.getD i 0 := ⟨_, rfl⟩
            rw [← hyi] at c0
            have HYI := Lib.hid hyi
            clear hyi
            go_upto_region 17 with (fail)
            clear c0
            by_cases h1 : i1 < n
            case neg =>
              have h1n : ¬ (i1 : Int) < (n : Int) := by omega
              have h2n : ¬ (i2 : Int) < (n : Int) := by have := HI1.out; have := HI2.out; omega
              have HBK : bkS B C Y n i = yi := by
                have p1 : ¬ i + 1 < n := by have := HI1.out; omega
                have p2 : ¬ i + 2 < n := by have := HI1.out; omega
                unfold bkS; rw [if_neg p1, if_neg p2, HYI.out]
              replace HBK := Lib.hid HBK
              obtain ⟨f1, f2, f3⟩ := S.out.box.facts
              obtain ⟨s7, c7⟩ := S.out.at hin
              have g1 := (S.out.addr hn0).2.lt
              have g2 := (S.out.addr hn0).2.frozen
              have c8 := ((below_cells S.out.below).1 _ _ HCA.out.1).trans HCA.out.2
              obtain ⟨av, hav⟩ : ∃ v, v = A.getD i 0 := ⟨_, rfl⟩
              rw [← hav] at c8
              have HAV := Lib.hid hav
              clear hav
              go_upto_region 23 with (fail)
              go_wp2_with (first | (refine wpList_flt rfl rfl rfl rfl rfl ?_; intro K hK s8 n8; go_frame; refine hK _ _ ?_; clear hK K))
              (try simp only [fadd_rawl, fadd_rawr, fsub_rawl, fsub_rawr, fmul_rawl, fmul_rawr, fdiv_rawl, fdiv_rawr])
              go_roundw
              case rel =>
                have h := (S.out.step (below_drewN n8 (Below.refl wr.heap.size wr))).set i (fdiv (yi) av) s8 (fdiv_lt _ _)
                refine ⟨i, _, Y.set i (fdiv (yi) av), rfl, by first | rfl | (unfold wrap64; omega) | (rw [IntKind.wrap_i64]; omega), by omega, by rw [← HBK.out, HAV.out]; exact HR2.out, h⟩
              case measure => simp [intOf]
            case pos =>
              have hi1n : i1 < n := h1
              have h1n : (i1 : Int) < (n : Int) := by omega
              obtain ⟨bb, ob, sb, e2, hbx, cx0⟩ := FlsI.at HF.out.2.1 (show i < B.length by rw [HLn.out.2.2.1]; exact hin)
              subst e2
              have HCB := Lib.hid (And.intro hbx cx0)
              clear hbx cx0
              go_upto_region 18 with (fail)
              have hdr := below_drewN 1 (Below.refl wr.heap.size wr)
              replace S := Lib.hid (show InS w wr.drew _ _ _ _ n Y from S.out.step hdr)
              clear hdr
              obtain ⟨xv1, hxv⟩ : ∃ v, v = B.getD i 0 := ⟨_, rfl⟩
              obtain ⟨yv1, hyv⟩ : ∃ v, v = Y.getD i1 0 := ⟨_, rfl⟩
              have HV1 := Lib.hid (And.intro hxv hyv)
              obtain ⟨s5, c5⟩ := S.out.at hi1n
              rw [← hyv] at c5
              have c6 := ((below_cells S.out.below).1 _ _ HCB.out.1).trans HCB.out.2
              rw [← hxv] at c6
              clear hxv hyv
              refine wp_region_items 10 [(true, 0), (true, 1), (true, 2), (true, 3), (true, 4), (true, 5), (true, 6), (true, 7), (true, 8), (true, 9)] (fun W => (∀ j, W.cell? ⟨w.heap.size, j, none⟩ = ([.slice (some ⟨ba, oa, none⟩) n ca, .slice (some ⟨bb, ob, none⟩) n cb, .slice ac n cc, .slice al k cl, .slice ak k cs] : List Value)[j]?) ∧ W.cell? ⟨yb, i1, none⟩ = some (.float .f64 (raw yv1 s5)) ∧ W.cell? ⟨bb, ob + i, none⟩ = some (.float .f64 (raw xv1 sb))) (by kernel_rfl) (by kernel_rfl) ⟨S.out.box.cell, c5, c6⟩ ?_
              generalize wr.drew = q1 at *
              clear c5 c6
              iterate 10 (refine iW_take (v := ?_) rfl rfl ?_ ?_; rotate_left; (next => (intro w' hSw; (try dsimp only at hSw); go_simp; (try (rw [if_pos (by omega)]; go_simp)); (try with_reducible rfl))); (simp only [Act.put, List.setIfInBounds_toArray, List.set_cons_zero, List.set_cons_succ]))
              refine iW_nil ?_
              go_simp
              go_wp2_with (first | (refine wpList_flt rfl rfl rfl rfl rfl ?_; intro K hK s6 n6; go_frame; refine hK _ _ ?_; clear hK K))
              refine NoPanic.normal ?_
              (try simp only [fadd_rawl, fadd_rawr, fsub_rawl, fsub_rawr, fmul_rawl, fmul_rawr, fdiv_rawl, fdiv_rawr])
              have hb := below_drewN n6 (Below.refl q1.heap.size q1)
              replace S := Lib.hid (S.out.step hb)
              generalize q1.drewN n6 = r1 at *
              clear hb
              go_upto_region 20 with (first | (refine wpList_flt rfl rfl rfl rfl rfl ?_; intro K hK t1 m1; go_frame; refine hK _ _ ?_; clear hK K))
              (try simp only [fadd_rawl, fadd_rawr, fsub_rawl, fsub_rawr, fmul_rawl, fmul_rawr, fdiv_rawl, fdiv_rawr])
              have hb := below_drewN m1 (Below.refl r1.heap.size r1)
              replace S := Lib.hid (S.out.step hb)
              generalize r1.drewN m1 = u1_ at *
              clear hb
              by_cases h2 : i2 < n
              case neg =>
                have h2n : ¬ (i2 : Int) < (n : Int) := by omega
                have HBK : bkS B C Y n i = fsub (yi) (fmul xv1 yv1) := by
                  have p1 : i + 1 < n := by have := HI1.out; omega
                  have p2 : ¬ i + 2 < n := by have := HI2.out; omega
                  unfold bkS; rw [if_pos p1, if_neg p2, HYI.out, HV1.out.1, HV1.out.2, HI1.out]
                replace HBK := Lib.hid HBK
                obtain ⟨f1, f2, f3⟩ := S.out.box.facts
                obtain ⟨s7, c7⟩ := S.out.at hin
                have g1 := (S.out.addr hn0).2.lt
                have g2 := (S.out.addr hn0).2.frozen
                have c8 := ((below_cells S.out.below).1 _ _ HCA.out.1).trans HCA.out.2
                obtain ⟨av, hav⟩ : ∃ v, v = A.getD i 0 := ⟨_, rfl⟩
                rw [← hav] at c8
                have HAV := Lib.hid hav
                clear hav
                go_upto_region 23 with (fail)
                go_wp2_with (first | (refine wpList_flt rfl rfl rfl rfl rfl ?_; intro K hK s8 n8; go_frame; refine hK _ _ ?_; clear hK K))
                (try simp only [fadd_rawl, fadd_rawr, fsub_rawl, fsub_rawr, fmul_rawl, fmul_rawr, fdiv_rawl, fdiv_rawr])
                go_roundw
                case rel =>
                  have h := (S.out.step (below_drewN n8 (Below.refl u1_.heap.size u1_))).set i (fdiv (fsub (yi) (fmul xv1 yv1)) av) s8 (fdiv_lt _ _)
                  refine ⟨i, _, Y.set i (fdiv (fsub (yi) (fmul xv1 yv1)) av), rfl, by first | rfl | (unfold wrap64; omega) | (rw [IntKind.wrap_i64]; omega), by omega, by rw [← HBK.out, HAV.out]; exact HR2.out, h⟩
                case measure => simp [intOf]
              case pos =>
                have hi2n : i2 < n := h2
                have h2n : (i2 : Int) < (n : Int) := by omega
                obtain ⟨bc, oc, sc, e2, hbx, cx0⟩ := FlsI.at HF.out.2.2.1 (show i < C.length by rw [HLn.out.2.2.2.1]; exact hin)
                subst e2
                have HCC := Lib.hid (And.intro hbx cx0)
                clear hbx cx0
                go_upto_region 21 with (fail)
                have hdr := below_drewN 1 (Below.refl u1_.heap.size u1_)
                replace S := Lib.hid (show InS w u1_.drew _ _ _ _ n Y from S.out.step hdr)
                clear hdr
                obtain ⟨xv2, hxv⟩ : ∃ v, v = C.getD i 0 := ⟨_, rfl⟩
                obtain ⟨yv2, hyv⟩ : ∃ v, v = Y.getD i2 0 := ⟨_, rfl⟩
                have HV2 := Lib.hid (And.intro hxv hyv)
                obtain ⟨s5, c5⟩ := S.out.at hi2n
                rw [← hyv] at c5
                have c6 := ((below_cells S.out.below).1 _ _ HCC.out.1).trans HCC.out.2
                rw [← hxv] at c6
                clear hxv hyv
                refine wp_region_items 10 [(true, 0), (true, 1), (true, 2), (true, 3), (true, 4), (true, 5), (true, 6), (true, 7), (true, 8), (true, 9)] (fun W => (∀ j, W.cell? ⟨w.heap.size, j, none⟩ = ([.slice (some ⟨ba, oa, none⟩) n ca, .slice (some ⟨bb, ob, none⟩) n cb, .slice (some ⟨bc, oc, none⟩) n cc, .slice al k cl, .slice ak k cs] : List Value)[j]?) ∧ W.cell? ⟨yb, i2, none⟩ = some (.float .f64 (raw yv2 s5)) ∧ W.cell? ⟨bc, oc + i, none⟩ = some (.float .f64 (raw xv2 sc))) (by kernel_rfl) (by kernel_rfl) ⟨S.out.box.cell, c5, c6⟩ ?_
                generalize u1_.drew = q2 at *
                clear c5 c6
                iterate 10 (refine iW_take (v := ?_) rfl rfl ?_ ?_; rotate_left; (next => (intro w' hSw; (try dsimp only at hSw); go_simp; (try (rw [if_pos (by omega)]; go_simp)); (try with_reducible rfl))); (simp only [Act.put, List.setIfInBounds_toArray, List.set_cons_zero, List.set_cons_succ]))
                refine iW_nil ?_
                go_simp
                go_wp2_with (first | (refine wpList_flt rfl rfl rfl rfl rfl ?_; intro K hK s6 n6; go_frame; refine hK _ _ ?_; clear hK K))
                refine NoPanic.normal ?_
                (try simp only [fadd_rawl, fadd_rawr, fsub_rawl, fsub_rawr, fmul_rawl, fmul_rawr, fdiv_rawl, fdiv_rawr])
                have hb := below_drewN n6 (Below.refl q2.heap.size q2)
                replace S := Lib.hid (S.out.step hb)
                generalize q2.drewN n6 = r2 at *
                clear hb
                go_upto_region 23 with (first | (refine wpList_flt rfl rfl rfl rfl rfl ?_; intro K hK t2 m2; go_frame; refine hK _ _ ?_; clear hK K))
                (try simp only [fadd_rawl, fadd_rawr, fsub_rawl, fsub_rawr, fmul_rawl, fmul_rawr, fdiv_rawl, fdiv_rawr])
                have hb := below_drewN m2 (Below.refl r2.heap.size r2)
                replace S := Lib.hid (S.out.step hb)
                generalize r2.drewN m2 = u2_ at *
                clear hb
                have HBK : bkS B C Y n i = fsub (fsub (yi) (fmul xv1 yv1)) (fmul xv2 yv2) := by
                  have p1 : i + 1 < n := by have := HI1.out; omega
                  have p2 : i + 2 < n := by have := HI2.out; omega
                  unfold bkS; rw [if_pos p1, if_pos p2, HYI.out, HV1.out.1, HV1.out.2, HV2.out.1, HV2.out.2, HI1.out, HI2.out]
                replace HBK := Lib.hid HBK
                obtain ⟨f1, f2, f3⟩ := S.out.box.facts
                obtain ⟨s7, c7⟩ := S.out.at hin
                have g1 := (S.out.addr hn0).2.lt
                have g2 := (S.out.addr hn0).2.frozen
                have c8 := ((below_cells S.out.below).1 _ _ HCA.out.1).trans HCA.out.2
                obtain ⟨av, hav⟩ : ∃ v, v = A.getD i 0 := ⟨_, rfl⟩
                rw [← hav] at c8
                have HAV := Lib.hid hav
                clear hav
                go_upto_region 23 with (fail)
                go_wp2_with (first | (refine wpList_flt rfl rfl rfl rfl rfl ?_; intro K hK s8 n8; go_frame; refine hK _ _ ?_; clear hK K))
                (try simp only [fadd_rawl, fadd_rawr, fsub_rawl, fsub_rawr, fmul_rawl, fmul_rawr, fdiv_rawl, fdiv_rawr])
                go_roundw
                case rel =>
                  have h := (S.out.step (below_drewN n8 (Below.refl u2_.heap.size u2_))).set i (fdiv (fsub (fsub (yi) (fmul xv1 yv1)) (fmul xv2 yv2)) av) s8 (fdiv_lt _ _)
                  refine ⟨i, _, Y.set i (fdiv (fsub (fsub (yi) (fmul xv1 yv1)) (fmul xv2 yv2)) av), rfl, by first | rfl | (unfold wrap64; omega) | (rw [IntKind.wrap_i64]; omega), by omega, by rw [← HBK.out, HAV.out]; exact HR2.out, h⟩
                case measure => simp [intOf]
          case neg =>
            obtain rfl : m = 0 := by omega
            have hJ0 : ¬ (0 : Int) ≤ J := by omega
            clear hJ
            have HE := Lib.hid (show Y = solI A B C L sw y from HR.out)
            clear HR
            go_wp2_with fail
            have HX := S.out.f
            have HWs := S.out.wd
            rw [HE.out] at HX HWs
            exact bodyPost_ret (results_two rfl (rv_tmp rfl) (rv_tmp rfl)) rfl ⟨_, ⟨_, rfl⟩, yb, HX, S.out.lo.2.1, HWs, S.out.below⟩
  case neg =>
    have hk0 : k = 0 := by omega
    subst hk0
    clear hk
    have t3 : ¬ (0 : Int) < (n : Int) - 1 := by omega
    go_enter Try.func27, Try.ntmps27
    go_upto_region 1 with (fail)
    rw [← hW0]
    clear hW0
    obtain ⟨f1, f2, f3⟩ := X0.out.facts
    go_upto_region 4 with (fail)
    clear f1 f2 f3 t1 t4
    go_wp2_with fail
    refine (HCl.out _ HB.out).mono ?_
    rintro e_ w1 ⟨⟨sv, rfl, hO⟩, hb⟩
    obtain ⟨by_, yb, cp, rfl, k1, k2, k3, hF, k4⟩ := hO.fs
    rw [HLn.out.1]
    have S := Lib.hid (show InS w w1 w.heap.size [.slice aa n ca, .slice ab n cb, .slice ac n cc, .slice al 0 cl, .slice ak 0 cs] by_ yb n y from ⟨X0.out.below hb, hF, HLn.out.1, HW.out, ⟨Nat.le_refl _, by have := X0.out.lt; omega, by have := X0.out.lt; omega⟩, below_step HB.out HB.out.size hb⟩)
    clear hb hO hF k1 k2 k3 k4 X0 HB HCl HW
    dsimp only
    go_upto_region 5 with (fail)
    obtain ⟨f1, f2, f3⟩ := S.out.box.facts
    go_wp2_with fail
    clear f1 f2 f3
    go_loopw [62] (fun s62 wr => ∃ i : Nat, s62 = .int .i64 i ∧ i ≤ 0 ∧ InS w wr w.heap.size [.slice aa n ca, .slice ab n cb, .slice ac n cc, .slice al 0 cl, .slice ak 0 cs] by_ yb n (fwL sw L y i)) (fun s62 _ => 0 - (intOf s62).toNat)
    case atStart => exact ⟨0, rfl, Nat.zero_le _, S.out⟩
    case round =>
      obtain ⟨i, rfl, hi, hS⟩ := hrel
      replace S := Lib.hid hS
      have HI := Lib.hid hi
      clear hS hi
      have hik : i = 0 := by have := HI.out; omega
      have HE := Lib.hid (show fwL sw L y i = fwL sw L y (n - 1) from by rw [hik, show n - 1 = 0 by omega])
      have hlt : ¬ (i : Int) < 0 := by omega
      subst hik
      clear HI
      replace S := Lib.hid (show InS w wr w.heap.size [.slice aa n ca, .slice ab n cb, .slice ac n cc, .slice al 0 cl, .slice ak 0 cs] by_ yb n (fwL sw L y (n - 1)) from HE.out ▸ S.out)
      clear HE
      have HR := Lib.hid (show bkL A B C n n (fwL sw L y (n - 1)) = solI A B C L sw y from by unfold solI; rw [HLn.out.1])
      go_wp2_with fail
      go_loopw [10] (fun s10 wr => ∃ (m : Nat) (J : Int) (Y : List Nat), s10 = .int .i64 J ∧ J = (m : Int) - 1 ∧ m ≤ n ∧ bkL A B C n m Y = solI A B C L sw y ∧ InS w wr w.heap.size [.slice aa n ca, .slice ab n cb, .slice ac n cc, .slice al 0 cl, .slice ak 0 cs] by_ yb n Y) (fun s10 _ => (intOf s10 + 1).toNat)
      case atStart => exact ⟨n, _, _, rfl, by first | rfl | (unfold wrap64; omega) | (rw [IntKind.wrap_i64]; omega), Nat.le_refl _, HR.out, S.out⟩
      case round =>
        obtain ⟨m, J, Y, rfl, hJ, hm, hR, hS⟩ := hrel
        replace S := Lib.hid hS
        replace HR := Lib.hid hR
        clear hS hR
        by_cases hm0 : 0 < m
        case pos =>
          obtain ⟨i, hi⟩ : ∃ i, m = i + 1 := ⟨m - 1, by omega⟩
          subst hi
          obtain rfl : J = (i : Int) := by omega
          clear hm0 hJ
          have HM := Lib.hid hm
          clear hm
          have hin : i < n := HM.out
          have hi9 : i < 1000 := by omega
          have hn0 : 0 < n := by omega
          have HR2 := Lib.hid (show bkL A B C n i (Y.set i (fdiv (bkS B C Y n i) (A.getD i 0))) = solI A B C L sw y from HR.out)
          clear HR
          obtain ⟨e1, _⟩ := S.out.addr hn0
          subst e1
          obtain ⟨ba, oa, sa, e2, hba, ca0⟩ := FlsI.at HF.out.1 (show i < A.length by rw [HLn.out.2.1]; exact hin)
          subst e2
          have HCA := Lib.hid (And.intro hba ca0)
          clear hba ca0
          obtain ⟨i1, hi1⟩ : ∃ i1, i1 = i + 1 := ⟨_, rfl⟩
          have hz1 : wrap64 ((i : Int) + 1) = (i1 : Int) := by unfold wrap64; omega
          have hz2 : IntKind.i64.wrap ((i : Int) + 1) = (i1 : Int) := by rw [IntKind.wrap_i64]; omega
          have HI1 := Lib.hid hi1
          obtain ⟨i2, hi2⟩ : ∃ i2, i2 = i + 2 := ⟨_, rfl⟩
          have hz3 : wrap64 ((i : Int) + 2) = (i2 : Int) := by unfold wrap64; omega
          have hz4 : IntKind.i64.wrap ((i : Int) + 2) = (i2 : Int) := by rw [IntKind.wrap_i64]; omega
          have HI2 := Lib.hid hi2
          clear hi1 hi2
          obtain ⟨s0, c0⟩ := S.out.at hin
          obtain ⟨yi, hyi⟩ : ∃ v, v = Y.getD i 0 := ⟨_, rfl⟩
          rw [← hyi] at c0
          have HYI := Lib.hid hyi
          clear hyi
          go_upto_region 17 with (fail)
          clear c0
          by_cases h1 : i1 < n
          case neg =>
            have h1n : ¬ (i1 : Int) < (n : Int) := by omega
            have h2n : ¬ (i2 : Int) < (n : Int) := by have := HI1.out; have := HI2.out; omega
            have HBK : bkS B C Y n i = yi := by
              have p1 : ¬ i + 1 < n := by have := HI1.out; omega
              have p2 : ¬ i + 2 < n := by have := HI1.out; omega
              unfold bkS; rw [if_neg p1, if_neg p2, HYI.out]
            replace HBK := Lib.hid HBK
            obtain ⟨f1, f2, f3⟩ := S.out.box.facts
            obtain ⟨s7, c7⟩ := S.out.at hin
            have g1 := (S.out.addr hn0).2.lt
            have g2 := (S.out.addr hn0).2.frozen
            have c8 := ((below_cells S.out.below).1 _ _ HCA.out.1).trans HCA.out.2
            obtain ⟨av, hav⟩ : ∃ v, v = A.getD i 0 := ⟨_, rfl⟩
            rw [← hav] at c8
            have HAV := Lib.hid hav
            clear hav
            go_upto_region 23 with (fail)
            go_wp2_with (first | (refine wpList_flt rfl rfl rfl rfl rfl ?_; intro K hK s8 n8; go_frame; refine hK _ _ ?_; clear hK K))
            (try simp only [fadd_rawl, fadd_rawr, fsub_rawl, fsub_rawr, fmul_rawl, fmul_rawr, fdiv_rawl, fdiv_rawr])
            go_roundw
            case rel =>
              have h := (S.out.step (below_drewN n8 (Below.refl wr.heap.size wr))).set i (fdiv (yi) av) s8 (fdiv_lt _ _)
              refine ⟨i, _, Y.set i (fdiv (yi) av), rfl, by first | rfl | (unfold wrap64; omega) | (rw [IntKind.wrap_i64]; omega), by omega, by rw [← HBK.out, HAV.out]; exact HR2.out, h⟩
            case measure => simp [intOf]
          case pos =>
            have hi1n : i1 < n := h1
            have h1n : (i1 : Int) < (n : Int) := by omega
            obtain ⟨bb, ob, sb, e2, hbx, cx0⟩ := FlsI.at HF.out.2.1 (show i < B.length by rw [HLn.out.2.2.1]; exact hin)
            subst e2
            have HCB := Lib.hid (And.intro hbx cx0)
            clear hbx cx0
            go_upto_region 18 with (fail)
            have hdr := below_drewN 1 (Below.refl wr.heap.size wr)
            replace S := Lib.hid (show InS w wr.drew _ _ _ _ n Y from S.out.step hdr)
            clear hdr
            obtain ⟨xv1, hxv⟩ : ∃ v, v = B.getD i 0 := ⟨_, rfl⟩
            obtain ⟨yv1, hyv⟩ : ∃ v, v = Y.getD i1 0 := ⟨_, rfl⟩
            have HV1 := Lib.hid (And.intro hxv hyv)
            obtain ⟨s5, c5⟩ := S.out.at hi1n
            rw [← hyv] at c5
            have c6 := ((below_cells S.out.below).1 _ _ HCB.out.1).trans HCB.out.2
            rw [← hxv] at c6
            clear hxv hyv
            refine wp_region_items 10 [(true, 0), (true, 1), (true, 2), (true, 3), (true, 4), (true, 5), (true, 6), (true, 7), (true, 8), (true, 9)] (fun W => (∀ j, W.cell? ⟨w.heap.size, j, none⟩ = ([.slice (some ⟨ba, oa, none⟩) n ca, .slice (some ⟨bb, ob, none⟩) n cb, .slice ac n cc, .slice al 0 cl, .slice ak 0 cs] : List Value)[j]?) ∧ W.cell? ⟨yb, i1, none⟩ = some (.float .f64 (raw yv1 s5)) ∧ W.cell? ⟨bb, ob + i, none⟩ = some (.float .f64 (raw xv1 sb))) (by kernel_rfl) (by kernel_rfl) ⟨S.out.box.cell, c5, c6⟩ ?_
            generalize wr.drew = q1 at *
            clear c5 c6
            iterate 10 (refine iW_take (v := ?_) rfl rfl ?_ ?_; rotate_left; (next => (intro w' hSw; (try dsimp only at hSw); go_simp; (try (rw [if_pos (by omega)]; go_simp)); (try with_reducible rfl))); (simp only [Act.put, List.setIfInBounds_toArray, List.set_cons_zero, List.set_cons_succ]))
            refine iW_nil ?_
            go_simp
            go_wp2_with (first | (refine wpList_flt rfl rfl rfl rfl rfl ?_; intro K hK s6 n6; go_frame; refine hK _ _ ?_; clear hK K))
            refine NoPanic.normal ?_
            (try simp only [fadd_rawl, fadd_rawr, fsub_rawl, fsub_rawr, fmul_rawl, fmul_rawr, fdiv_rawl, fdiv_rawr])
            have hb := below_drewN n6 (Below.refl q1.heap.size q1)
            replace S := Lib.hid (S.out.step hb)
            generalize q1.drewN n6 = r1 at *
            clear hb
            go_upto_region 20 with (first | (refine wpList_flt rfl rfl rfl rfl rfl ?_; intro K hK t1 m1; go_frame; refine hK _ _ ?_; clear hK K))
            (try simp only [fadd_rawl, fadd_rawr, fsub_rawl, fsub_rawr, fmul_rawl, fmul_rawr, fdiv_rawl, fdiv_rawr])
            have hb := below_drewN m1 (Below.refl r1.heap.size r1)
            replace S := Lib.hid (S.out.step hb)
            generalize r1.drewN m1 = u1_ at *
            clear hb
            by_cases h2 : i2 < n
            case neg =>
              have h2n : ¬ (i2 : Int) < (n : Int) := by omega
              have HBK : bkS B C Y n i = fsub (yi) (fmul xv1 yv1) := by
                have p1 : i + 1 < n := by have := HI1.out; omega
                have p2 : ¬ i + 2 < n := by have := HI2.out; omega
                unfold bkS; rw [if_pos p1, if_neg p2, HYI.out, HV1.out.1, HV1.out.2, HI1.out]
              replace HBK := Lib.hid HBK
              obtain ⟨f1, f2, f3⟩ := S.out.box.facts
              obtain ⟨s7, c7⟩ := S.out.at hin
              have g1 := (S.out.addr hn0).2.lt
              have g2 := (S.out.addr hn0).2.frozen
              have c8 := ((below_cells S.out.below).1 _ _ HCA.out.1).trans HCA.out.2
              obtain ⟨av, hav⟩ : ∃ v, v = A.getD i 0 := ⟨_, rfl⟩
              rw [← hav] at c8
              have HAV := Lib.hid hav
              clear hav
              go_upto_region 23 with (fail)
              go_wp2_with (first | (refine wpList_flt rfl rfl rfl rfl rfl ?_; intro K hK s8 n8; go_frame; refine hK _ _ ?_; clear hK K))
              (try simp only [fadd_rawl, fadd_rawr, fsub_rawl, fsub_rawr, fmul_rawl, fmul_rawr, fdiv_rawl, fdiv_rawr])
              go_roundw
              case rel =>
                have h := (S.out.step (below_drewN n8 (Below.refl u1_.heap.size u1_))).set i (fdiv (fsub (yi) (fmul xv1 yv1)) av) s8 (fdiv_lt _ _)
                refine ⟨i, _, Y.set i (fdiv (fsub (yi) (fmul xv1 yv1)) av), rfl, by first | rfl | (unfold wrap64; omega) | (rw [IntKind.wrap_i64]; omega), by omega, by rw [← HBK.out, HAV.out]; exact HR2.out, h⟩
              case measure => simp [intOf]
            case pos =>
              have hi2n : i2 < n := h2
              have h2n : (i2 : Int) < (n : Int) := by omega
              obtain ⟨bc, oc, sc, e2, hbx, cx0⟩ := FlsI.at HF.out.2.2.1 (show i < C.length by rw [HLn.out.2.2.2.1]; exact hin)
              subst e2
              have HCC := Lib.hid (And.intro hbx cx0)
              clear hbx cx0
              go_upto_region 21 with (fail)
              have hdr := below_drewN 1 (Below.refl u1_.heap.size u1_)
              replace S := Lib.hid (show InS w u1_.drew _ _ _ _ n Y from S.out.step hdr)
              clear hdr
              obtain ⟨xv2, hxv⟩ : ∃ v, v = C.getD i 0 := ⟨_, rfl⟩
              obtain ⟨yv2, hyv⟩ : ∃ v, v = Y.getD i2 0 := ⟨_, rfl⟩
              have HV2 := Lib.hid (And.intro hxv hyv)
              obtain ⟨s5, c5⟩ := S.out.at hi2n
              rw [← hyv] at c5
              have c6 := ((below_cells S.out.below).1 _ _ HCC.out.1).trans HCC.out.2
              rw [← hxv] at c6
              clear hxv hyv
              refine wp_region_items 10 [(true, 0), (true, 1), (true, 2), (true, 3), (true, 4), (true, 5), (true, 6), (true, 7), (true, 8), (true, 9)] (fun W => (∀ j, W.cell? ⟨w.heap.size, j, none⟩ = ([.slice (some ⟨ba, oa, none⟩) n ca, .slice (some ⟨bb, ob, none⟩) n cb, .slice (some ⟨bc, oc, none⟩) n cc, .slice al 0 cl, .slice ak 0 cs] : List Value)[j]?) ∧ W.cell? ⟨yb, i2, none⟩ = some (.float .f64 (raw yv2 s5)) ∧ W.cell? ⟨bc, oc + i, none⟩ = some (.float .f64 (raw xv2 sc))) (by kernel_rfl) (by kernel_rfl) ⟨S.out.box.cell, c5, c6⟩ ?_
              generalize u1_.drew = q2 at *
              clear c5 c6
              iterate 10 (refine iW_take (v := ?_) rfl rfl ?_ ?_; rotate_left; (next => (intro w' hSw; (try dsimp only at hSw); go_simp; (try (rw [if_pos (by omega)]; go_simp)); (try with_reducible rfl))); (simp only [Act.put, List.setIfInBounds_toArray, List.set_cons_zero, List.set_cons_succ]))
              refine iW_nil ?_
              go_simp
              go_wp2_with (first | (refine wpList_flt rfl rfl rfl rfl rfl ?_; intro K hK s6 n6; go_frame; refine hK _ _ ?_; clear hK K))
              refine NoPanic.normal ?_
              (try simp only [fadd_rawl, fadd_rawr, fsub_rawl, fsub_rawr, fmul_rawl, fmul_rawr, fdiv_rawl, fdiv_rawr])
              have hb := below_drewN n6 (Below.refl q2.heap.size q2)
              replace S := Lib.hid (S.out.step hb)
              generalize q2.drewN n6 = r2 at *
              clear hb
              go_upto_region 23 with (first | (refine wpList_flt rfl rfl rfl rfl rfl ?_; intro K hK t2 m2; go_frame; refine hK _ _ ?_; clear hK K))
              (try simp only [fadd_rawl, fadd_rawr, fsub_rawl, fsub_rawr, fmul_rawl, fmul_rawr, fdiv_rawl, fdiv_rawr])
              have hb := below_drewN m2 (Below.refl r2.heap.size r2)
              replace S := Lib.hid (S.out.step hb)
              generalize r2.drewN m2 = u2_ at *
              clear hb
              have HBK : bkS B C Y n i = fsub (fsub (yi) (fmul xv1 yv1)) (fmul xv2 yv2) := by
                have p1 : i + 1 < n := by have := HI1.out; omega
                have p2 : i + 2 < n := by have := HI2.out; omega
                unfold bkS; rw [if_pos p1, if_pos p2, HYI.out, HV1.out.1, HV1.out.2, HV2.out.1, HV2.out.2, HI1.out, HI2.out]
              replace HBK := Lib.hid HBK
              obtain ⟨f1, f2, f3⟩ := S.out.box.facts
              obtain ⟨s7, c7⟩ := S.out.at hin
              have g1 := (S.out.addr hn0).2.lt
              have g2 := (S.out.addr hn0).2.frozen
              have c8 := ((below_cells S.out.below).1 _ _ HCA.out.1).trans HCA.out.2
              obtain ⟨av, hav⟩ : ∃ v, v = A.getD i 0 := ⟨_, rfl⟩
              rw [← hav] at c8
              have HAV := Lib.hid hav
              clear hav
              go_upto_region 23 with (fail)
              go_wp2_with (first | (refine wpList_flt rfl rfl rfl rfl rfl ?_; intro K hK s8 n8; go_frame; refine hK _ _ ?_; clear hK K))
              (try simp only [fadd_rawl, fadd_rawr, fsub_rawl, fsub_rawr, fmul_rawl, fmul_rawr, fdiv_rawl, fdiv_rawr])
              go_roundw
              case rel =>
                have h := (S.out.step (below_drewN n8 (Below.refl u2_.heap.size u2_))).set i (fdiv (fsub (fsub (yi) (fmul xv1 yv1)) (fmul xv2 yv2)) av) s8 (fdiv_lt _ _)
                refine ⟨i, _, Y.set i (fdiv (fsub (fsub (yi) (fmul xv1 yv1)) (fmul xv2 yv2)) av), rfl, by first | rfl | (unfold wrap64; omega) | (rw [IntKind.wrap_i64]; omega), by omega, by rw [← HBK.out, HAV.out]; exact HR2.out, h⟩
              case measure => simp [intOf]
        case neg =>
          obtain rfl : m = 0 := by omega
          have hJ0 : ¬ (0 : Int) ≤ J := by omega
          clear hJ
          have HE := Lib.hid (show Y = solI A B C L sw y from HR.out)
          clear HR
          go_wp2_with fail
          have HX := S.out.f
          have HWs := S.out.wd
          rw [HE.out] at HX HWs
          exact bodyPost_ret (results_two rfl (rv_tmp rfl) (rv_tmp rfl)) rfl ⟨_, ⟨_, rfl⟩, yb, HX, S.out.lo.2.1, HWs, S.out.below⟩
end Go.Proofs.Ytdljnhdhigbefaa
