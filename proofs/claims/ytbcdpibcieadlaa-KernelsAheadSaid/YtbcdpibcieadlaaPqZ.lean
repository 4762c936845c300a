/- 'plumblinelaw08.KernelsAhead', a square matrix small enough (printed by gen_pq.py). No condition but on lengths. -/
import Derived.Test.YtbcdpibcieadlaaZz26
import Derived.Test.YtbcdpibcieadlaaZz20
import Derived.Test.YtbcdpibcieadlaaZz29
import Derived.Test.YtbcdpibcieadlaaZz21
namespace Go.Proofs.Ytbcdpibcieadlaa
open Go Go.RowKit
set_option maxRecDepth 1000000

set_option maxHeartbeats 16000000 in
theorem ahead8_small (w : World) (a n b : Nat) (am : Option Addr) (zm : List Nat) (pm : Nat) (i : Int) (upper : Bool) (hm : MatP w n n am zm pm) (h0 : 0 < n)
    (Bm : ∀ W, Calls Try.prog 15 #[.agg #[.int .i64 n, .int .i64 n, .slice am zm.length pm]] W fun e w' => e = .returned (.bool false) ∧ Below W.heap.size W w') :
    Calls Try.prog 12 #[.float .f64 a, .agg #[.int .i64 n, .int .i64 n, .slice am zm.length pm], .float .f64 b, .int .i64 i, .bool upper] w fun e w' => e = .returned (.bool true) ∧ Below w.heap.size w w' := by
  have Hm := Lib.hid hm
  have HBm := Lib.hid Bm
  have H0 := Lib.hid h0
  have HQm := Lib.hid (fun W => RSquare_any n n am zm.length pm W)
  have t1 : ((n : Int) == 0) = false := by rw [beq_eq_false_iff_ne]; omega
  clear hm Bm h0
  obtain ⟨W0, hW0⟩ : ∃ W0, W0 = (w.alloc (.cells #[.int .i64 n, .int .i64 n, .slice am zm.length pm] 24)) := ⟨_, rfl⟩
  have hB0 : Below w.heap.size w W0 := hW0 ▸ (Below.refl _ _).alloc (Nat.le_refl _) _
  have x0 : Box W0 w.heap.size [.int .i64 n, .int .i64 n, .slice am zm.length pm] := hW0 ▸ (Box.newA w [.int .i64 n, .int .i64 n, .slice am zm.length pm] _ rfl)
  have S0 := Lib.hid (show BoxS w W0 [(w.heap.size, [.int .i64 n, .int .i64 n, .slice am zm.length pm])] from ⟨fun p hp => by
    simp only [List.mem_cons, List.not_mem_nil, or_false] at hp
    subst hp
    exact x0
    , hB0⟩)
  clear hB0 x0
  go_enter Try.func12, Try.ntmps12
  go_upto_region 1 with (fail)
  rw [← hW0]
  clear hW0
  obtain ⟨f01, f02, f03⟩ := (S0.out.get 0 rfl).facts
  go_wp2_with fail
  refine (HBm.out _).mono ?_
  rintro e w1 ⟨rfl, hb⟩
  have S1 := Lib.hid (S0.out.step hb)
  clear hb f01 f02 f03
  dsimp only
  obtain ⟨f01, f02, f03⟩ := (S1.out.get 0 rfl).facts
  go_wp2_with fail
  refine (HQm.out _).mono ?_
  rintro e w2 ⟨rfl, hb⟩
  have S2 := Lib.hid (S1.out.step hb)
  clear hb f01 f02 f03
  dsimp only
  simp only [decide_true]
  obtain ⟨f01, f02, f03⟩ := (S2.out.get 0 rfl).facts
  go_upto_if 44 with (fail)
  go_cut [3] from 43 to 44 (fun s3 wx => wx = w2 ∧ ∃ i0 : Nat, s3 = .int .i64 i0)
  case first =>
    by_cases hi : i < 0
    · go_wp2_with fail
      go_meet
      case rel => exact ⟨rfl, 0, rfl⟩
    · go_wp2_with fail
      go_meet
      case rel => exact ⟨rfl, i.toNat, by rw [Int.toNat_of_nonneg (by omega)]⟩
  case rest =>
    obtain ⟨hwc, i0, rfl⟩ := hcut
    subst hwc
    have hn0 : (n : Int) ≠ 0 := by have := H0.out; omega
    go_upto_region 7 with (fail)
    obtain ⟨k, hk, hkn⟩ : ∃ k : Nat, ((i0 : Int) % (n : Int)) = (k : Int) ∧ k < n := ⟨i0 % n, rfl, Nat.mod_lt _ H0.out⟩
    rw [hk]
    have HKn := Lib.hid hkn
    clear hk hkn hn0 t1 f01 f02 f03
    go_cut [12, 13, 14, 15] from 48 to 55 (fun s12 s13 s14 s15 wx => ∃ (K0 K1 : Nat → Nat) (V : Nat → Vw) (L : Nat → List Nat), s12 = .pointer (some ⟨K0 8, 0, none⟩) ∧ s13 = .pointer (some ⟨K0 9, 0, none⟩) ∧ s14 = .pointer (some ⟨K0 10, 0, none⟩) ∧ s15 = .pointer (some ⟨K0 11, 0, none⟩) ∧ VsW w wx [(w.heap.size, [.int .i64 n, .int .i64 n, .slice am zm.length pm]), (K0 8, [.pointer (V 1).p, .int .i64 (V 1).r, .int .i64 (V 1).c, .int .i64 (V 1).o, .int .i64 (V 1).d, .int .i64 (V 1).u]), (K0 9, [.pointer (V 3).p, .int .i64 (V 3).r, .int .i64 (V 3).c, .int .i64 (V 3).o, .int .i64 (V 3).d, .int .i64 (V 3).u]), (K0 10, [.pointer (V 5).p, .int .i64 (V 5).r, .int .i64 (V 5).c, .int .i64 (V 5).o, .int .i64 (V 5).d, .int .i64 (V 5).u]), (K0 11, [.pointer (V 7).p, .int .i64 (V 7).r, .int .i64 (V 7).c, .int .i64 (V 7).o, .int .i64 (V 7).d, .int .i64 (V 7).u])] [(V 1, K1 1, L 1), (V 3, K1 3, L 3), (V 5, K1 5, L 5), (V 7, K1 7, L 7)] ∧ ∀ c ∈ [1, 3, 5, 7], OfP (V c) (K0 c) n n zm (L c) ∧ OfI (V c) n n ∧ (L c).length = n * n)
    case first =>
      have hdr : Below wc.heap.size wc wc.drew := below_drewN 1 (Below.refl _ wc)
      have S3 := Lib.hid (S2.out.step hdr)
      clear hdr
      obtain ⟨J, hJ⟩ : ∃ J : List Nat → List Nat → Act → World → Prop, J = (fun rc pd A W => ∃ (s : Nat → Value) (K0 K1 : Nat → Nat) (V : Nat → Vw) (L : Nat → List Nat), AhJ w W n zm rc pd s K0 K1 V L ∧ Box W w.heap.size [.int .i64 n, .int .i64 n, .slice am zm.length pm] ∧ A = { tmps := #[.float .f64 a, .agg #[.int .i64 n, .int .i64 n, .slice am zm.length pm], .float .f64 b, .int .i64 k, .bool upper, undef, .pointer (some ⟨w.heap.size, 0, none⟩), undef, undef, undef, .bool false, .int .i64 n, s 8, s 9, s 10, s 11, undef, undef, undef, undef, undef, undef, undef, undef, undef, undef, undef, undef, .agg #[.int .i64 n, .int .i64 n, .slice am zm.length pm], .bool false, .bool false, .agg #[.int .i64 n, .int .i64 n, .slice am zm.length pm], .bool true, .bool false, .bool false, .bool false, .pointer (some ⟨w.heap.size, 0, none⟩), .int .i64 n, .bool false, .bool false, undef, .pointer (some ⟨w.heap.size, 0, none⟩), .int .i64 n, u43, u44, .int .i64 i0, .int .i64 n, .int .i64 k, .agg #[.int .i64 n, .int .i64 n, .slice am zm.length pm], s 1, .agg #[.int .i64 n, .int .i64 n, .slice am zm.length pm], s 3, .agg #[.int .i64 n, .int .i64 n, .slice am zm.length pm], s 5, .agg #[.int .i64 n, .int .i64 n, .slice am zm.length pm], s 7, undef, undef, undef, undef, undef, undef, undef, undef, undef, undef, undef, undef, undef, undef, undef, undef, undef, undef, undef, undef, undef, undef, undef, undef, undef, undef, undef, undef, undef, undef, undef, undef, undef, undef, undef, undef, undef, undef, undef, undef, undef, undef, undef, undef, undef, undef, undef, undef, undef, undef, undef, undef, undef, undef, undef, undef, undef, undef, undef, undef, undef, undef, undef, undef, undef, undef, undef, undef, undef, undef, undef, undef, undef, undef, undef, undef, undef, undef, undef, undef, undef, undef, undef, undef, undef, undef, undef, undef, undef, undef, undef, undef, undef, undef, undef, undef, undef, undef, undef, undef, undef, undef, undef, undef, undef, undef, undef, undef, undef, undef, undef, undef, undef, undef, undef, undef, undef, undef, undef, undef, undef, undef, undef, undef, undef, undef, undef, undef, undef, undef, undef, undef, undef, undef, undef, undef, undef, undef, undef, undef, undef, undef, undef, undef, undef, undef, undef, undef, undef, undef, undef, undef, undef, undef, undef, undef, undef, undef, undef, undef, undef, undef, undef, undef], defers := [] }) := ⟨_, rfl⟩
      have HJ := Lib.hid hJ
      clear hJ
      refine wp_region_inv 12 [(true, 0), (true, 2), (true, 4), (true, 6)] [1, 3, 5, 7] [8, 9, 10, 11] (fun W => (∀ i, W.cell? ⟨w.heap.size, i, none⟩ = ([.int .i64 n, .int .i64 n, .slice am zm.length pm] : List Value)[i]?) ∧ Box W w.heap.size [.int .i64 n, .int .i64 n, .slice am zm.length pm]) J (by kernel_rfl) (by kernel_rfl) ⟨(S3.out.get 0 rfl).cell, S3.out.get 0 rfl⟩ ?_ ?_ ?_ ?_
      · skip
        iterate 4 (refine iW_take (v := ?_) rfl rfl ?_ ?_; rotate_left; (next => (intro w' hSw; (try dsimp only at hSw); go_simp; (try (rw [if_pos (by omega)]; go_simp)); (try with_reducible rfl))); (simp only [Act.put, List.setIfInBounds_toArray, List.set_cons_zero, List.set_cons_succ]))
        refine iW_nil ?_
        rw [HJ.out]
        exact ⟨fun _ => undef, fun _ => 0, fun _ => 0, fun _ => Vw.none, fun _ => [], AhJ.start S3.out.below (S3.out.get 0 rfl).lt _ _ _ _ _, S3.out.get 0 rfl, rfl⟩
      · intro c rc pd A W hsuf hsub hSW hJ'
        rw [HJ.out] at hJ'
        obtain ⟨s, K0, K1, V, L, hA, _, rfl⟩ := hJ'
        have HA := Lib.hid hA
        have HX := Lib.hid hSW.2
        have hcp : ∀ x ∈ [1, 3, 5, 7], x ∉ pd := fun x hx h => absurd ((subsL_sub _ _ hsub).subset h) (by clear h; revert x; decide)
        have HCP := Lib.hid hcp
        simp only [sufs, List.mem_cons, List.cons.injEq, List.not_mem_nil, or_false, reduceCtorEq] at hsuf
        clear hA hSW hcp hsub
        rcases hsuf with ⟨rfl, rfl⟩ | ⟨rfl, rfl⟩ | ⟨rfl, rfl⟩ | ⟨rfl, rfl⟩
        · refine opW_take rfl rfl ?_
          go_simp
          refine (Hm.out.of false _ HA.out.below).mono ?_
          rintro e W' ⟨⟨v, st, sb, ws, rfl, k1, k2, hSt, hP, hI, hl⟩, hb⟩
          refine ⟨⟨(HX.out.below hb).cell, HX.out.below hb⟩, ?_⟩
          rw [HJ.out]
          exact ⟨_, _, _, _, _, HA.out.made (by decide) (by decide) (HCP.out _ (by decide)) k1 k2 hSt hP hI hl hb, HX.out.below hb, rfl⟩
        · refine opW_take rfl rfl ?_
          go_simp
          refine (Hm.out.of false _ HA.out.below).mono ?_
          rintro e W' ⟨⟨v, st, sb, ws, rfl, k1, k2, hSt, hP, hI, hl⟩, hb⟩
          refine ⟨⟨(HX.out.below hb).cell, HX.out.below hb⟩, ?_⟩
          rw [HJ.out]
          exact ⟨_, _, _, _, _, HA.out.made (by decide) (by decide) (HCP.out _ (by decide)) k1 k2 hSt hP hI hl hb, HX.out.below hb, rfl⟩
        · refine opW_take rfl rfl ?_
          go_simp
          refine (Hm.out.of false _ HA.out.below).mono ?_
          rintro e W' ⟨⟨v, st, sb, ws, rfl, k1, k2, hSt, hP, hI, hl⟩, hb⟩
          refine ⟨⟨(HX.out.below hb).cell, HX.out.below hb⟩, ?_⟩
          rw [HJ.out]
          exact ⟨_, _, _, _, _, HA.out.made (by decide) (by decide) (HCP.out _ (by decide)) k1 k2 hSt hP hI hl hb, HX.out.below hb, rfl⟩
        · refine opW_take rfl rfl ?_
          go_simp
          refine (Hm.out.of false _ HA.out.below).mono ?_
          rintro e W' ⟨⟨v, st, sb, ws, rfl, k1, k2, hSt, hP, hI, hl⟩, hb⟩
          refine ⟨⟨(HX.out.below hb).cell, HX.out.below hb⟩, ?_⟩
          rw [HJ.out]
          exact ⟨_, _, _, _, _, HA.out.made (by decide) (by decide) (HCP.out _ (by decide)) k1 k2 hSt hP hI hl hb, HX.out.below hb, rfl⟩
      · intro q rc pd A W hsuf hsub hq hSW hJ'
        rw [HJ.out] at hJ'
        obtain ⟨s, K0, K1, V, L, hA, _, rfl⟩ := hJ'
        have HA := Lib.hid hA
        have HX := Lib.hid hSW.2
        have hq8 := (subsL_sub _ _ hsub).subset hq
        have HN := Lib.hid ((subsL_sub _ _ hsub).nodup (by decide))
        have HR := Lib.hid (show ∀ x ∈ [8, 9, 10, 11], x ∉ rc from fun x hx h => absurd ((sufs_sub _ _ hsuf).subset h) (by clear h; revert x; decide))
        clear hA hSW hsuf hsub hq
        simp only [List.mem_cons, List.not_mem_nil, or_false] at hq8
        rcases hq8 with rfl | rfl | rfl | rfl
        · refine opW_take rfl rfl ?_
          go_simp
          have hb : Below W.heap.size W (W.alloc (.cells #[.pointer none, .int .i64 0, .int .i64 0, .int .i64 0, .int .i64 0, .int .i64 0] 29)) := (Below.refl _ _).alloc (Nat.le_refl _) _
          refine ⟨⟨(HX.out.below hb).cell, HX.out.below hb⟩, ?_⟩
          rw [HJ.out]
          exact ⟨_, _, _, _, _, HA.out.boxed (by decide) HN.out (HR.out _ (by decide)) _, HX.out.below hb, rfl⟩
        · refine opW_take rfl rfl ?_
          go_simp
          have hb : Below W.heap.size W (W.alloc (.cells #[.pointer none, .int .i64 0, .int .i64 0, .int .i64 0, .int .i64 0, .int .i64 0] 29)) := (Below.refl _ _).alloc (Nat.le_refl _) _
          refine ⟨⟨(HX.out.below hb).cell, HX.out.below hb⟩, ?_⟩
          rw [HJ.out]
          exact ⟨_, _, _, _, _, HA.out.boxed (by decide) HN.out (HR.out _ (by decide)) _, HX.out.below hb, rfl⟩
        · refine opW_take rfl rfl ?_
          go_simp
          have hb : Below W.heap.size W (W.alloc (.cells #[.pointer none, .int .i64 0, .int .i64 0, .int .i64 0, .int .i64 0, .int .i64 0] 29)) := (Below.refl _ _).alloc (Nat.le_refl _) _
          refine ⟨⟨(HX.out.below hb).cell, HX.out.below hb⟩, ?_⟩
          rw [HJ.out]
          exact ⟨_, _, _, _, _, HA.out.boxed (by decide) HN.out (HR.out _ (by decide)) _, HX.out.below hb, rfl⟩
        · refine opW_take rfl rfl ?_
          go_simp
          have hb : Below W.heap.size W (W.alloc (.cells #[.pointer none, .int .i64 0, .int .i64 0, .int .i64 0, .int .i64 0, .int .i64 0] 29)) := (Below.refl _ _).alloc (Nat.le_refl _) _
          refine ⟨⟨(HX.out.below hb).cell, HX.out.below hb⟩, ?_⟩
          rw [HJ.out]
          exact ⟨_, _, _, _, _, HA.out.boxed (by decide) HN.out (HR.out _ (by decide)) _, HX.out.below hb, rfl⟩
      · intro A W hJ'
        rw [HJ.out] at hJ'
        obtain ⟨s, K0, K1, V, L, hA, x0, rfl⟩ := hJ'
        have HD := Lib.hid (hA.done x0)
        have HP := Lib.hid (show ∀ c ∈ [1, 3, 5, 7], OfP (V c) (K0 c) n n zm (L c) ∧ OfI (V c) n n ∧ (L c).length = n * n from fun c hc => (hA.call c hc (by simp)).2.2)
        obtain ⟨⟨e8, z8⟩, _⟩ := hA.al 8 (by decide) (by simp)
        obtain ⟨⟨e9, z9⟩, _⟩ := hA.al 9 (by decide) (by simp)
        obtain ⟨⟨e10, z10⟩, _⟩ := hA.al 10 (by decide) (by simp)
        obtain ⟨⟨e11, z11⟩, _⟩ := hA.al 11 (by decide) (by simp)
        have e1 := (hA.call 1 (by decide) (by simp)).1
        have e3 := (hA.call 3 (by decide) (by simp)).1
        have e5 := (hA.call 5 (by decide) (by simp)).1
        have e7 := (hA.call 7 (by decide) (by simp)).1
        rw [e8, e9, e10, e11, e1, e3, e5, e7]
        clear e8 e9 e10 e11 e1 e3 e5 e7 x0
        unfold Vw.val
        have n8_9 := (hA.ne 8 (by decide) 9 (by decide) (by simp) (by simp) (by simp) (by simp) (by decide)).1
        have n9_8 := fun h => n8_9 (Eq.symm h)
        have n8_10 := (hA.ne 8 (by decide) 10 (by decide) (by simp) (by simp) (by simp) (by simp) (by decide)).1
        have n10_8 := fun h => n8_10 (Eq.symm h)
        have n8_11 := (hA.ne 8 (by decide) 11 (by decide) (by simp) (by simp) (by simp) (by simp) (by decide)).1
        have n11_8 := fun h => n8_11 (Eq.symm h)
        have n9_10 := (hA.ne 9 (by decide) 10 (by decide) (by simp) (by simp) (by simp) (by simp) (by decide)).1
        have n10_9 := fun h => n9_10 (Eq.symm h)
        have n9_11 := (hA.ne 9 (by decide) 11 (by decide) (by simp) (by simp) (by simp) (by simp) (by decide)).1
        have n11_9 := fun h => n9_11 (Eq.symm h)
        have n10_11 := (hA.ne 10 (by decide) 11 (by decide) (by simp) (by simp) (by simp) (by simp) (by decide)).1
        have n11_10 := fun h => n10_11 (Eq.symm h)
        obtain ⟨c8, d8, g8⟩ := z8.facts
        obtain ⟨c9, d9, g9⟩ := z9.facts
        obtain ⟨c10, d10, g10⟩ := z10.facts
        obtain ⟨c11, d11, g11⟩ := z11.facts
        clear hA z8 z9 z10 z11
        go_simp
        go_wp2
        refine NoPanic.normal ?_
        go_wp2_with fail
        go_meet
        case rel => exact ⟨K0, K1, V, L, rfl, rfl, rfl, rfl, HD.out, HP.out⟩
    case rest =>
      obtain ⟨K0, K1, V, L, rfl, rfl, rfl, rfl, hT, hP⟩ := hcut
      have hP1 := hP 1 (by decide)
      have hP3 := hP 3 (by decide)
      have hP5 := hP 5 (by decide)
      have hP7 := hP 7 (by decide)
      clear hP
      generalize K0 8 = p8 at *
      generalize K0 9 = p9 at *
      generalize K0 10 = p10 at *
      generalize K0 11 = p11 at *
      generalize K0 1 = st1 at *
      generalize K1 1 = sb1 at *
      generalize V 1 = v1 at *
      generalize L 1 = l1 at *
      have HP1 := Lib.hid hP1
      clear hP1
      generalize K0 3 = st3 at *
      generalize K1 3 = sb3 at *
      generalize V 3 = v3 at *
      generalize L 3 = l3 at *
      have HP3 := Lib.hid hP3
      clear hP3
      generalize K0 5 = st5 at *
      generalize K1 5 = sb5 at *
      generalize V 5 = v5 at *
      generalize L 5 = l5 at *
      have HP5 := Lib.hid hP5
      clear hP5
      generalize K0 7 = st7 at *
      generalize K1 7 = sb7 at *
      generalize V 7 = v7 at *
      generalize L 7 = l7 at *
      have HP7 := Lib.hid hP7
      clear hP7
      have T0 := Lib.hid hT
      clear hT S2 HBm HQm
      have A0 := Lib.hid (AhW.of T0.out (fun x hx => by
        simp only [List.mem_cons, List.not_mem_nil, or_false] at hx
        rcases hx with rfl | rfl | rfl | rfl
        · exact HP1.out.1.some
        · exact HP3.out.1.some
        · exact HP5.out.1.some
        · exact HP7.out.1.some
        ))
      clear T0
      go_upto_region 8 with (fail)
      have hdr : Below wc.heap.size wc wc.drew := below_drewN 1 (Below.refl _ wc)
      have T1 := Lib.hid (A0.out.step hdr)
      refine wp_region_items 7 [(true, 0), (true, 1), (true, 2), (true, 4), (true, 5), (false, 3), (false, 6)] (fun W => (∀ i, W.cell? ⟨p8, i, none⟩ = ([.pointer v1.p, .int .i64 v1.r, .int .i64 v1.c, .int .i64 v1.o, .int .i64 v1.d, .int .i64 v1.u] : List Value)[i]?)) (by kernel_rfl) (by kernel_rfl) (T1.out.get 1 rfl).cell ?_
      generalize wc.drew = y1 at *
      clear hdr
      iterate 5 (refine iW_take (v := ?_) rfl rfl ?_ ?_; rotate_left; (next => (intro w' hSw; (try dsimp only at hSw); go_simp; (try (rw [if_pos (by omega)]; go_simp)); (try with_reducible rfl))); (simp only [Act.put, List.setIfInBounds_toArray, List.set_cons_zero, List.set_cons_succ]))
      refine iW_mid rfl rfl ?_
      go_simp
      refine (T_any v1 _).mono ?_
      rintro e y2 ⟨rfl, hb⟩
      have T3 := Lib.hid (T1.out.step hb)
      refine ⟨(T3.out.get 1 rfl).cell, ?_⟩
      clear hb
      refine iW_mid rfl rfl ?_
      go_simp
      refine (Gemm_any _ a b v1 v1.T v1 sb1 sb1 sb1 l1 l1 l1 (T3.out.vw 0 rfl).1 (T_ok (T3.out.vw 0 rfl).1) (T3.out.vw 0 rfl).1 (T3.out.vw 0 rfl).2 (T3.out.vw 0 rfl).2 (T3.out.vw 0 rfl).2).mono ?_
      rintro e y4 ⟨he, m1, hok, hR, hW, hb⟩
      rw [gemm_code HP1.out.1 HP1.out.1.turn HP1.out.1, show fitGm n n n n n n = true by simp [fitGm], if_pos rfl] at he
      obtain rfl := he
      have R1 := Lib.hid (gemm_good HP1.out.1 HP1.out.1.turn HP1.out.1 HP1.out.2.1 HP1.out.2.2 Hm.out.hn (by simp [fitGm]) hR)
      have T5 := Lib.hid (AhW.put (ls := []) T3.out hok hW hb)
      refine ⟨(T5.out.get 1 rfl).cell, ?_⟩
      clear hok hR hW hb
      refine iW_nil ?_
      go_simp
      go_wp2_with fail
      refine NoPanic.normal ?_
      have HB3 := Lib.hid (show v3.Bnd 0 from ofI_bnd HP3.out.1 HP3.out.2.1 Hm.out.hr Hm.out.hr)
      have HB7 := Lib.hid (show v7.Bnd 0 from ofI_bnd HP7.out.1 HP7.out.2.1 Hm.out.hr Hm.out.hr)
      have HB1 := Lib.hid (show v1.Bnd 0 from ofI_bnd HP1.out.1 HP1.out.2.1 Hm.out.hr Hm.out.hr)
      go_upto_region 9 with (fail)
      have hdr : Below y4.heap.size y4 y4.drew := below_drewN 1 (Below.refl _ y4)
      have T6 := Lib.hid (T5.out.step hdr)
      refine wp_region_items 11 [(true, 0), (true, 1), (true, 5), (true, 6), (false, 2), (false, 3), (true, 4), (false, 7), (false, 8), (true, 10), (true, 9)] (fun W => (∀ i, W.cell? ⟨p9, i, none⟩ = ([.pointer v3.p, .int .i64 v3.r, .int .i64 v3.c, .int .i64 v3.o, .int .i64 v3.d, .int .i64 v3.u] : List Value)[i]?)) (by kernel_rfl) (by kernel_rfl) (T6.out.get 2 rfl).cell ?_
      generalize y4.drew = y6 at *
      clear hdr
      iterate 4 (refine iW_take (v := ?_) rfl rfl ?_ ?_; rotate_left; (next => (intro w' hSw; (try dsimp only at hSw); go_simp; (try (rw [if_pos (by omega)]; go_simp)); (try with_reducible rfl))); (simp only [Act.put, List.setIfInBounds_toArray, List.set_cons_zero, List.set_cons_succ]))
      refine iW_mid rfl rfl ?_
      go_simp
      refine (Row_any v3 k _ 0 HB3.out (by decide)).mono ?_
      rintro e y7 ⟨rfl, hb⟩
      have T8 := Lib.hid (T6.out.step hb)
      refine ⟨(T8.out.get 2 rfl).cell, ?_⟩
      clear hb
      refine iW_mid rfl rfl ?_
      go_simp
      refine (Matrix_any _ (v3.row k) sb3 l3 (row_ok (T8.out.vw 1 rfl).1 _)).mono ?_
      rintro e y9 ⟨sv, rfl, hO, hb⟩
      rw [list_eq9 (HP3.out.1.row HKn.out) (by rw [rwL_len, Nat.one_mul])] at hO
      obtain ⟨ar, pr, rfl, hA⟩ := T8.out.own hb hO (rwL_words Hm.out.words n k)
      have T10 := Lib.hid (hA)
      refine ⟨(T10.out.get 2 rfl).cell, ?_⟩
      clear hb hO hA
      refine iW_take (v := .slice ar (rwL zm n k).length pr) rfl rfl (fun w' hSw => ?_) ?_
      · go_simp
        rfl
      (simp only [Act.put, List.setIfInBounds_toArray, List.set_cons_zero, List.set_cons_succ])
      refine iW_mid rfl rfl ?_
      go_simp
      refine (Col_any v3 k _ 0 HB3.out (by decide)).mono ?_
      rintro e y11 ⟨rfl, hb⟩
      have T12 := Lib.hid (T10.out.step hb)
      refine ⟨(T12.out.get 2 rfl).cell, ?_⟩
      clear hb
      refine iW_mid rfl rfl ?_
      go_simp
      refine (Matrix_any _ (v3.col k) sb3 l3 (col_ok (T12.out.vw 1 rfl).1 _)).mono ?_
      rintro e y13 ⟨sv, rfl, hO, hb⟩
      rw [list_eq9 (HP3.out.1.col HKn.out) (by rw [clL_len, Nat.mul_one])] at hO
      obtain ⟨ac, pc, rfl, hA⟩ := T12.out.own hb hO (clL_words Hm.out.words n n k)
      have T14 := Lib.hid (hA)
      refine ⟨(T14.out.get 2 rfl).cell, ?_⟩
      clear hb hO hA
      iterate 1 (refine iW_take (v := ?_) rfl rfl ?_ ?_; rotate_left; (next => (intro w' hSw; (try dsimp only at hSw); go_simp; (try (rw [if_pos (by omega)]; go_simp)); (try with_reducible rfl))); (simp only [Act.put, List.setIfInBounds_toArray, List.set_cons_zero, List.set_cons_succ]))
      refine iW_take (v := .slice ac (clL zm n n k).length pc) rfl rfl (fun w' hSw => ?_) ?_
      · go_simp
        rfl
      (simp only [Act.put, List.setIfInBounds_toArray, List.set_cons_zero, List.set_cons_succ])
      refine iW_nil ?_
      go_simp
      go_wp2_with fail
      refine NoPanic.normal ?_
      go_upto_region 10 with (fail)
      obtain ⟨f01, f02, f03⟩ := (T14.out.get 0 rfl).facts
      go_wp2_with fail
      refine (Hm.out.of false _ T14.out.below).mono ?_
      rintro e y15 ⟨⟨u, ust, usb, uws, rfl, k1, k2, hSt, hP, hI, hl⟩, hb⟩
      have O1 := Lib.hid (hP.ok _ _ hSt)
      have PU := Lib.hid hP
      have T16 := Lib.hid (T14.out.step hb)
      clear hb k1 k2 hSt hP hI hl f01 f02 f03
      dsimp only
      go_wp2_with fail
      refine (T_any u _).mono ?_
      rintro e y17 ⟨rfl, hb⟩
      have O2 := Lib.hid (O1.out.below hb)
      have T18 := Lib.hid (T16.out.step hb)
      clear hb O1
      dsimp only
      go_wp2_with fail
      refine (Matrix_any _ u.T usb uws (T_ok O2.out)).mono ?_
      rintro e y19 ⟨sv, rfl, hO, hb⟩
      rw [list_eq9 PU.out.turn (turnL_len zm n n)] at hO
      obtain ⟨au, pu, rfl, hA⟩ := T18.out.own hb hO (turnL_words Hm.out.words n n)
      rw [PU.out.turn.er, PU.out.turn.ec]
      have T20 := Lib.hid (hA)
      clear hb hO hA O2 PU
      dsimp only
      go_upto_region 11 with (fail)
      have T22 := Lib.hid (T20.out.box [.int .i64 n, .int .i64 n, .slice au (turnL zm n n).length pu] 24)
      obtain ⟨bu, hbu⟩ : ∃ P, P = y19.heap.size := ⟨_, rfl⟩
      simp only [← hbu] at T22 ⊢
      generalize y19.alloc (.cells #[.int .i64 n, .int .i64 n, .slice au (turnL zm n n).length pu] 24) = y21 at *
      clear hbu
      have lr : (rwL zm n k).length = n := rwL_len _ _ _
      have lc : (clL zm n n k).length = n := clL_len _ _ _ _
      have lt : (turnL zm n n).length = n * n := turnL_len _ _ _
      have hnn : n * n ≤ 150 := by have h1 := Hm.out.hn; have h2 := Hm.out.hl; omega
      have HNN := Lib.hid hnn
      have tw : wrap64 ((n : Int) * (n : Int)) = (n : Int) * (n : Int) ∧ IntKind.i64.wrap ((n : Int) * (n : Int)) = (n : Int) * (n : Int) := by
        refine ⟨?_, ?_⟩
        · have h1 := w64m (n * n) (show (n : Int) * (n : Int) = ((n * n : Nat) : Int) by push_cast; rfl) (by omega)
          rw [h1]; push_cast; rfl
        · have h1 := wi64m (n * n) (show (n : Int) * (n : Int) = ((n * n : Nat) : Int) by push_cast; rfl) (by omega)
          rw [h1]; push_cast; rfl
      obtain ⟨tw1, tw2⟩ := tw
      clear hnn
      obtain ⟨f51, f52, f53⟩ := (T22.out.get 5 rfl).facts
      go_upto_region 13 with (fail)
      clear f51 f52 f53
      clear tw1 tw2 lr lc lt
      have hdr : Below y21.heap.size y21 y21.drew := below_drewN 1 (Below.refl _ y21)
      have T23 := Lib.hid (T22.out.step hdr)
      refine wp_region_items 9 [(true, 0), (true, 1), (true, 2), (true, 4), (true, 5), (true, 7), (false, 3), (false, 6), (false, 8)] (fun W => (∀ i, W.cell? ⟨p9, i, none⟩ = ([.pointer v3.p, .int .i64 v3.r, .int .i64 v3.c, .int .i64 v3.o, .int .i64 v3.d, .int .i64 v3.u] : List Value)[i]?)) (by kernel_rfl) (by kernel_rfl) (T23.out.get 2 rfl).cell ?_
      generalize y21.drew = y23 at *
      clear hdr
      iterate 6 (refine iW_take (v := ?_) rfl rfl ?_ ?_; rotate_left; (next => (intro w' hSw; (try dsimp only at hSw); go_simp; (try (rw [if_pos (by omega)]; go_simp)); (try with_reducible rfl))); (simp only [Act.put, List.setIfInBounds_toArray, List.set_cons_zero, List.set_cons_succ]))
      refine iW_mid rfl rfl ?_
      go_simp
      refine (Row_any v3 k _ 0 HB3.out (by decide)).mono ?_
      rintro e y24 ⟨rfl, hb⟩
      have T25 := Lib.hid (T23.out.step hb)
      refine ⟨(T25.out.get 2 rfl).cell, ?_⟩
      clear hb
      refine iW_mid rfl rfl ?_
      go_simp
      refine (Col_any v3 k _ 0 HB3.out (by decide)).mono ?_
      rintro e y26 ⟨rfl, hb⟩
      have T27 := Lib.hid (T25.out.step hb)
      refine ⟨(T27.out.get 2 rfl).cell, ?_⟩
      clear hb
      refine iW_mid rfl rfl ?_
      go_simp
      refine (Ger_any _ a (v3.row k) (v3.col k) v3 sb3 sb3 sb3 l3 l3 l3 (row_ok (T27.out.vw 1 rfl).1 _) (col_ok (T27.out.vw 1 rfl).1 _) (T27.out.vw 1 rfl).1 (T27.out.vw 1 rfl).2 (T27.out.vw 1 rfl).2 (T27.out.vw 1 rfl).2).mono ?_
      rintro e y28 ⟨he, m3, hok, hR, hW, hb⟩
      rw [ger_code (HP3.out.1.row HKn.out) (HP3.out.1.col HKn.out) HP3.out.1 (by rw [rwL_len, Nat.one_mul]) (by rw [clL_len, Nat.mul_one]), (show fitGe 1 n n 1 n n (rwL zm n k).length (clL zm n n k).length = true by unfold fitGe vec8; rw [rwL_len, clL_len]; simp), if_pos rfl] at he
      obtain rfl := he
      have R3 := Lib.hid (ger_good (HP3.out.1.row HKn.out) (HP3.out.1.col HKn.out) HP3.out.1 HP3.out.2.1 HP3.out.2.2 (by rw [rwL_len, Nat.one_mul]) (by rw [clL_len, Nat.mul_one]) Hm.out.hn (show fitGe 1 n n 1 n n (rwL zm n k).length (clL zm n n k).length = true by unfold fitGe vec8; rw [rwL_len, clL_len]; simp) hR)
      have T29 := Lib.hid (AhW.put (ls := [(v1, sb1, m1)]) T27.out hok hW hb)
      refine ⟨(T29.out.get 2 rfl).cell, ?_⟩
      clear hok hR hW hb
      refine iW_nil ?_
      go_simp
      go_wp2_with fail
      refine NoPanic.normal ?_
      go_upto_region 14 with (fail)
      obtain ⟨f31, f32, f33⟩ := (T29.out.get 3 rfl).facts
      go_wp2_with fail
      refine (Trmm_any _ upper false v5 v5 sb5 sb5 l5 l5 (T29.out.vw 2 rfl).1 (T29.out.vw 2 rfl).1 (T29.out.vw 2 rfl).2 (T29.out.vw 2 rfl).2).mono ?_
      rintro e y30 ⟨he, m5, hok, hR, hW, hb⟩
      rw [trmm_code HP5.out.1 HP5.out.1, show fitTr n n n = true by simp [fitTr], if_pos rfl] at he
      obtain rfl := he
      have R5 := Lib.hid (trmm_good HP5.out.1 HP5.out.1 HP5.out.2.1 HP5.out.2.2 Hm.out.hn (by simp [fitTr]) hR)
      have T31 := Lib.hid (AhW.put (ls := [(v1, sb1, m1), (v3, sb3, m3)]) T29.out hok hW hb)
      clear hok hR hW hb f31 f32 f33
      dsimp only
      go_upto_region 15 with (fail)
      have hdr : Below y30.heap.size y30 y30.drew := below_drewN 1 (Below.refl _ y30)
      have T32 := Lib.hid (T31.out.step hdr)
      refine wp_region_items 10 [(true, 0), (true, 1), (true, 2), (true, 3), (true, 5), (true, 6), (true, 7), (false, 4), (false, 8), (false, 9)] (fun W => (∀ i, W.cell? ⟨p11, i, none⟩ = ([.pointer v7.p, .int .i64 v7.r, .int .i64 v7.c, .int .i64 v7.o, .int .i64 v7.d, .int .i64 v7.u] : List Value)[i]?)) (by kernel_rfl) (by kernel_rfl) (T32.out.get 4 rfl).cell ?_
      generalize y30.drew = y32 at *
      clear hdr
      iterate 7 (refine iW_take (v := ?_) rfl rfl ?_ ?_; rotate_left; (next => (intro w' hSw; (try dsimp only at hSw); go_simp; (try (rw [if_pos (by omega)]; go_simp)); (try with_reducible rfl))); (simp only [Act.put, List.setIfInBounds_toArray, List.set_cons_zero, List.set_cons_succ]))
      refine iW_mid rfl rfl ?_
      go_simp
      refine (Row_any v7 k _ 0 HB7.out (by decide)).mono ?_
      rintro e y33 ⟨rfl, hb⟩
      have T34 := Lib.hid (T32.out.step hb)
      refine ⟨(T34.out.get 4 rfl).cell, ?_⟩
      clear hb
      refine iW_mid rfl rfl ?_
      go_simp
      refine (Col_any v7 k _ 0 HB7.out (by decide)).mono ?_
      rintro e y35 ⟨rfl, hb⟩
      have T36 := Lib.hid (T34.out.step hb)
      refine ⟨(T36.out.get 4 rfl).cell, ?_⟩
      clear hb
      refine iW_mid rfl rfl ?_
      go_simp
      refine (Gemv_any _ a b v7 (v7.row k) (v7.col k) sb7 sb7 sb7 l7 l7 l7 (T36.out.vw 3 rfl).1 (row_ok (T36.out.vw 3 rfl).1 _) (col_ok (T36.out.vw 3 rfl).1 _) (T36.out.vw 3 rfl).2 (T36.out.vw 3 rfl).2 (T36.out.vw 3 rfl).2).mono ?_
      rintro e y37 ⟨he, m7, hok, hR, hW, hb⟩
      rw [gemv_code HP7.out.1 (HP7.out.1.row HKn.out) (HP7.out.1.col HKn.out) (by rw [rwL_len, Nat.one_mul]) (by rw [clL_len, Nat.mul_one]), (show fitGv n n 1 n n 1 (rwL zm n k).length (clL zm n n k).length = true by unfold fitGv vec8; rw [rwL_len, clL_len]; simp), if_pos rfl] at he
      obtain rfl := he
      obtain ⟨hml, hR2⟩ := gemv_col HP7.out.1 HP7.out.2.1 HP7.out.2.2 HKn.out hR
      have hok2 := ok_of_part (T36.out.vw 3 rfl).1 hok ((HP7.out.1.col HKn.out).ep.trans HP7.out.1.ep.symm) HP7.out.1.some (hml.trans HP7.out.2.2.symm)
      have R7 := Lib.hid hR2
      have T38 := Lib.hid (AhW.put (ls := [(v1, sb1, m1), (v3, sb3, m3), (v5, sb5, m5)]) T36.out hok2 hW hb)
      refine ⟨(T38.out.get 4 rfl).cell, ?_⟩
      clear hok hR hW hb hml hR2 hok2
      refine iW_nil ?_
      go_simp
      go_wp2_with fail
      refine NoPanic.normal ?_
      go_upto_region 16 with (fail)
      obtain ⟨f01, f02, f03⟩ := (T38.out.get 0 rfl).facts
      go_wp2_with fail
      refine (Hm.out.of false _ T38.out.below).mono ?_
      rintro e y39 ⟨⟨u, ust, usb, uws, rfl, k1, k2, hSt, hP, hI, hl⟩, hb⟩
      have O1 := Lib.hid (hP.ok _ _ hSt)
      have PU := Lib.hid hP
      have T40 := Lib.hid (T38.out.step hb)
      clear hb k1 k2 hSt hP hI hl f01 f02 f03
      dsimp only
      go_wp2_with fail
      refine (T_any u _).mono ?_
      rintro e y41 ⟨rfl, hb⟩
      have O2 := Lib.hid (O1.out.below hb)
      have T42 := Lib.hid (T40.out.step hb)
      clear hb O1
      dsimp only
      go_wp2_with fail
      refine (Matrix_any _ u.T usb uws (T_ok O2.out)).mono ?_
      rintro e y43 ⟨sv, rfl, hO, hb⟩
      rw [list_eq9 PU.out.turn (turnL_len zm n n)] at hO
      obtain ⟨aq, pq, rfl, hA⟩ := T42.out.own hb hO (turnL_words Hm.out.words n n)
      rw [PU.out.turn.er, PU.out.turn.ec]
      have T44 := Lib.hid (hA)
      clear hb hO hA O2 PU
      dsimp only
      go_upto_region 17 with (fail)
      have T46 := Lib.hid (T44.out.box [.int .i64 n, .int .i64 n, .slice aq (turnL zm n n).length pq] 24)
      obtain ⟨bq, hbq⟩ : ∃ P, P = y43.heap.size := ⟨_, rfl⟩
      simp only [← hbq] at T46 ⊢
      generalize y43.alloc (.cells #[.int .i64 n, .int .i64 n, .slice aq (turnL zm n n).length pq] 24) = y45 at *
      clear hbq
      obtain ⟨f01, f02, f03⟩ := (T46.out.get 0 rfl).facts
      go_wp2_with fail
      have hz0 : zm ≠ [] := fun e => by have h1 := Hm.out.hn; have h2 := Nat.mul_pos H0.out H0.out; rw [e] at h1; simp at h1; omega
      refine (RCopyC_any _ n n am zm pm (Hm.out.fls _ T46.out.below) (show zm.length ≤ 262144 by have := Hm.out.hl; omega)).mono ?_
      rintro e y47 ⟨⟨ka, kb, kc, rfl, hMem, hc1, hc2⟩, hb⟩
      obtain ⟨rfl, hF⟩ := hMem.fs.flb (List.length_pos_iff.2 hz0)
      have F0 := Lib.hid hF
      have HC := Lib.hid (And.intro hc1 hc2)
      have T48 := Lib.hid (T46.out.mem hb hMem hz0)
      clear hb hMem hc1 hc2 hF hz0 f01 f02 f03
      dsimp only
      go_upto_region 18 with (fail)
      have F1 := Lib.hid (F0.out.below ((Below.refl _ y47).alloc (Nat.le_refl _) (.cells #[.int .i64 n, .int .i64 n, .slice (some ⟨kb, 0, none⟩) zm.length kc] 24)))
      clear F0
      have T50 := Lib.hid (T48.out.box [.int .i64 n, .int .i64 n, .slice (some ⟨kb, 0, none⟩) zm.length kc] 24)
      obtain ⟨bk, hbk⟩ : ∃ P, P = y47.heap.size := ⟨_, rfl⟩
      simp only [← hbk] at T50 ⊢
      generalize y47.alloc (.cells #[.int .i64 n, .int .i64 n, .slice (some ⟨kb, 0, none⟩) zm.length kc] 24) = y49 at *
      clear hbk
      obtain ⟨f01, f02, f03⟩ := (T50.out.get 0 rfl).facts
      go_wp2_with fail
      refine (RGemv_any _ a b n n am ar ac zm (rwL zm n k) (clL zm n n k) pm pr pc (Hm.out.fls _ T50.out.below) (T50.out.fls 0 rfl) (T50.out.fls 1 rfl) (show zm.length ≤ 262144 by have := Hm.out.hl; omega) Hm.out.hn (rwL_len _ _ _) (clL_len _ _ _ _) Hm.out.hp Hm.out.hm Hm.out.hr Hm.out.hr).mono ?_
      rintro e y51 ⟨⟨sv, rfl, hO⟩, hb⟩
      obtain ⟨al, pl, rfl, hA⟩ := T50.out.ownf hb hO
      have F2 := Lib.hid (F1.out.below hb)
      have T52 := Lib.hid (hA)
      clear hb hO hA F1 f01 f02 f03
      dsimp only
      go_upto_region 19 with (fail)
      have lg : (gemvR a zm n (rwL zm n k) b (clL zm n n k) n).length = n := gemvR_len _ _ _ _ _ _ _
      have hg0 : (gemvR a zm n (rwL zm n k) b (clL zm n n k) n) ≠ [] := fun e => by have h := H0.out; rw [e] at lg; simp at lg; omega
      obtain ⟨lb, lo, rfl, _, _⟩ := T52.out.fls 4 rfl hg0
      clear hg0
      have HG := Lib.hid lg
      obtain ⟨GL, hGL⟩ : ∃ GL, GL = (gemvR a zm n (rwL zm n k) b (clL zm n n k) n) := ⟨_, rfl⟩
      simp only [← hGL] at T52 lg HG ⊢
      have HGL := Lib.hid hGL
      clear hGL
      simp only [lg]
      clear lg
      go_wp2_with fail
      go_loopw [26] (fun si wr => ∃ i : Nat, i ≤ n ∧ si = .int .i64 i ∧ AhW w wr [(w.heap.size, [.int .i64 n, .int .i64 n, .slice am zm.length pm]), (p8, [.pointer v1.p, .int .i64 v1.r, .int .i64 v1.c, .int .i64 v1.o, .int .i64 v1.d, .int .i64 v1.u]), (p9, [.pointer v3.p, .int .i64 v3.r, .int .i64 v3.c, .int .i64 v3.o, .int .i64 v3.d, .int .i64 v3.u]), (p10, [.pointer v5.p, .int .i64 v5.r, .int .i64 v5.c, .int .i64 v5.o, .int .i64 v5.d, .int .i64 v5.u]), (p11, [.pointer v7.p, .int .i64 v7.r, .int .i64 v7.c, .int .i64 v7.o, .int .i64 v7.d, .int .i64 v7.u]), (bu, [.int .i64 n, .int .i64 n, .slice au (turnL zm n n).length pu]), (bq, [.int .i64 n, .int .i64 n, .slice aq (turnL zm n n).length pq]), (bk, [.int .i64 n, .int .i64 n, .slice (some ⟨kb, 0, none⟩) zm.length kc])] [(v1, sb1, m1), (v3, sb3, m3), (v5, sb5, m5), (v7, sb7, m7), (Vw.none, kb, [])] [(ar, rwL zm n k), (ac, clL zm n n k), (au, turnL zm n n), (aq, turnL zm n n), (some ⟨lb, lo, none⟩, GL)] ∧ Flb wr kb (pclL zm GL n k i)) (fun si _ => n - (intOf si).toNat)
      case atStart => exact ⟨0, Nat.zero_le _, rfl, T52.out, F2.out⟩
      case round =>
        obtain ⟨i, hi, rfl, hD, hF⟩ := hrel
        have D1 := Lib.hid hD
        have E1 := Lib.hid hF
        clear hD hF F2 T52
        by_cases hir : i < n
        · skip
          have HIR := Lib.hid hir
          have hi9 : i < 1000 := by have := Hm.out.hr; omega
          go_upto_region 22 with (fail)
          have hdr : Below wr.heap.size wr wr.drew := below_drewN 1 (Below.refl _ wr)
          have D2 := Lib.hid (D1.out.step hdr)
          have E2 := Lib.hid (E1.out.below hdr)
          clear D1 E1
          have lg := HG.out
          obtain ⟨sx, hsx⟩ := fls_at8 (D2.out.fls 4 rfl) (i := i) (by rw [lg]; exact hir)
          obtain ⟨gv, hgv⟩ : ∃ gv, gv = GL.getD i 0 := ⟨_, rfl⟩
          rw [← hgv] at hsx
          have HGV := Lib.hid hgv
          clear hgv
          obtain ⟨PP, hPP⟩ : ∃ PP, PP = i * n := ⟨_, rfl⟩
          have hpl := place8 hir HKn.out
          have hsz := Hm.out.hn
          have hs2 := Hm.out.hl
          have HB := Lib.hid (show PP + k < zm.length ∧ zm.length ≤ 150 by rw [hPP, hsz]; exact ⟨hpl, by omega⟩)
          obtain ⟨t11, t12, t2⟩ := idx8 hPP HB.out.1 HB.out.2
          have hpk : PP + k < zm.length := HB.out.1
          have HPP := Lib.hid hPP
          clear hPP hpl hsz hs2
          refine wp_region_items 11 [(true, 0), (true, 1), (true, 2), (true, 3), (true, 4), (true, 5), (true, 6), (true, 7), (true, 8), (true, 9), (true, 10)] (fun W => (∀ i, W.cell? ⟨bk, i, none⟩ = ([.int .i64 n, .int .i64 n, .slice (some ⟨kb, 0, none⟩) zm.length kc] : List Value)[i]?) ∧ W.cell? ⟨lb, lo + i, none⟩ = some (.float .f64 (raw gv sx))) (by kernel_rfl) (by kernel_rfl) ⟨(D2.out.get 7 rfl).cell, hsx⟩ ?_
          clear hsx
          generalize wr.drew = w2 at *
          clear hdr
          iterate 11 (refine iW_take (v := ?_) rfl rfl ?_ ?_; rotate_left; (next => (intro w' hSw; (try dsimp only at hSw); go_simp; (try (rw [if_pos (by omega)]; go_simp)); (try with_reducible rfl))); (simp only [Act.put, List.setIfInBounds_toArray, List.set_cons_zero, List.set_cons_succ]))
          refine iW_nil ?_
          have hF := E2.out
          have hF1 := hF.lt
          have hF2 := hF.frozen
          obtain ⟨sf, hF3⟩ := hF.at (i := PP + k) (by rw [pclL_len]; exact hpk)
          have E3 := Lib.hid (show Flb (w2.setCell ⟨kb, PP + k, none⟩ (.float .f64 (raw gv sx))) kb (pclL zm GL n k (i + 1)) by rw [pclL, ← HPP.out, ← HGV.out]; exact hF.set (PP + k) gv sx)
          have D3 := Lib.hid (show AhW w (w2.setCell ⟨kb, PP + k, none⟩ (.float .f64 (raw gv sx))) [(w.heap.size, [.int .i64 n, .int .i64 n, .slice am zm.length pm]), (p8, [.pointer v1.p, .int .i64 v1.r, .int .i64 v1.c, .int .i64 v1.o, .int .i64 v1.d, .int .i64 v1.u]), (p9, [.pointer v3.p, .int .i64 v3.r, .int .i64 v3.c, .int .i64 v3.o, .int .i64 v3.d, .int .i64 v3.u]), (p10, [.pointer v5.p, .int .i64 v5.r, .int .i64 v5.c, .int .i64 v5.o, .int .i64 v5.d, .int .i64 v5.u]), (p11, [.pointer v7.p, .int .i64 v7.r, .int .i64 v7.c, .int .i64 v7.o, .int .i64 v7.d, .int .i64 v7.u]), (bu, [.int .i64 n, .int .i64 n, .slice au (turnL zm n n).length pu]), (bq, [.int .i64 n, .int .i64 n, .slice aq (turnL zm n n).length pq]), (bk, [.int .i64 n, .int .i64 n, .slice (some ⟨kb, 0, none⟩) zm.length kc])] [(v1, sb1, m1), (v3, sb3, m3), (v5, sb5, m5), (v7, sb7, m7), (Vw.none, kb, [])] [(ar, rwL zm n k), (ac, clL zm n n k), (au, turnL zm n n), (aq, turnL zm n n), (some ⟨lb, lo, none⟩, GL)] from AhW.put (ls := [(v1, sb1, m1), (v3, sb3, m3), (v5, sb5, m5), (v7, sb7, m7)]) (cs := []) D2.out (us := []) (.inl rfl) (fun y hy => by cases hy) ((Bel.refl _ _ _).set _ _))
          clear hF
          go_simp
          go_wp2_with fail
          refine NoPanic.normal ?_
          go_wp2_with fail
          go_roundw
          case rel => exact ⟨i + 1, HIR.out, by go_num, D3.out, E3.out⟩
          case measure => simp [intOf]; omega
        · skip
          have hin : n = i := by omega
          have F9 := Lib.hid (show Flb wr kb (putclL zm GL n k) by rw [← pclL_all zm GL Hm.out.hn HKn.out]; exact hin.symm ▸ E1.out)
          subst hin
          clear E1 hir hi
          go_upto_region 23 with (fail)
          have hdr : Below wr.heap.size wr wr.drew := below_drewN 1 (Below.refl _ wr)
          have T53 := Lib.hid (D1.out.step hdr)
          have F154 := Lib.hid (F9.out.below hdr)
          refine wp_region_items 8 [(true, 0), (true, 1), (true, 3), (true, 4), (false, 2), (false, 5), (false, 6), (false, 7)] (fun W => (∀ i, W.cell? ⟨p8, i, none⟩ = ([.pointer v1.p, .int .i64 v1.r, .int .i64 v1.c, .int .i64 v1.o, .int .i64 v1.d, .int .i64 v1.u] : List Value)[i]?)) (by kernel_rfl) (by kernel_rfl) (T53.out.get 1 rfl).cell ?_
          generalize wr.drew = y54 at *
          clear hdr
          iterate 4 (refine iW_take (v := ?_) rfl rfl ?_ ?_; rotate_left; (next => (intro w' hSw; (try dsimp only at hSw); go_simp; (try (rw [if_pos (by omega)]; go_simp)); (try with_reducible rfl))); (simp only [Act.put, List.setIfInBounds_toArray, List.set_cons_zero, List.set_cons_succ]))
          refine iW_mid rfl rfl ?_
          go_simp
          refine (Row_any v1 k _ 0 HB1.out (by decide)).mono ?_
          rintro e y55 ⟨rfl, hb⟩
          have T56 := Lib.hid (T53.out.step hb)
          refine ⟨(T56.out.get 1 rfl).cell, ?_⟩
          have F157 := Lib.hid (F154.out.below hb)
          clear hb
          refine iW_mid rfl rfl ?_
          go_simp
          refine (Col_any v1 k _ 0 HB1.out (by decide)).mono ?_
          rintro e y58 ⟨rfl, hb⟩
          have T59 := Lib.hid (T56.out.step hb)
          refine ⟨(T59.out.get 1 rfl).cell, ?_⟩
          have F160 := Lib.hid (F157.out.below hb)
          clear hb
          refine iW_mid rfl rfl ?_
          go_simp
          refine (T_any (v1.col k) _).mono ?_
          rintro e y61 ⟨rfl, hb⟩
          have T62 := Lib.hid (T59.out.step hb)
          refine ⟨(T62.out.get 1 rfl).cell, ?_⟩
          have F163 := Lib.hid (F160.out.below hb)
          clear hb
          have HS := Lib.hid (Swap_any y61 (v1.row k) (v1.col k).T sb1 sb1 m1 m1 (fun X1 => X1) true (row_ok (T62.out.vw 0 rfl).1 _) (T_ok (col_ok (T62.out.vw 0 rfl).1 _)) (fun W hb => by
            have h := Shares_yes W (v1.row k) (v1.col k).T st1 sb1 m1 (HP1.out.1.row HKn.out).ep (HP1.out.1.col HKn.out).ep (row_ok ((T62.out.vw 0 rfl).1.below hb) _) (T_ok (col_ok ((T62.out.vw 0 rfl).1.below hb) _))
            rw [share_rc HP1.out.1.some (by rw [HP1.out.1.er]; exact HKn.out) (by rw [HP1.out.1.ec]; exact HKn.out)] at h
            exact h) (fun W W' X1 h1 h2 h3 => swap_same (y := (v1.col k).T) (HP1.out.1.row HKn.out).ep (HP1.out.1.col HKn.out).ep W W' X1 h1 h2 h3))
          rw [swap_no (HP1.out.1.row HKn.out).some (by show (v1.col k).p.isSome = true; exact (HP1.out.1.col HKn.out).some)] at HS
          refine iW_mid rfl rfl ?_
          go_simp
          refine (HS.out).mono ?_
          rintro e y64 ⟨rfl, _, h2⟩
          have hb := h2 (by decide)
          have T65 := Lib.hid (T62.out.step hb)
          refine ⟨(T65.out.get 1 rfl).cell, ?_⟩
          have F166 := Lib.hid (F163.out.below hb)
          clear hb h2 HS
          refine iW_nil ?_
          go_simp
          go_wp2_with fail
          refine NoPanic.normal ?_
          go_upto_region 24 with (fail)
          have hdr : Below y64.heap.size y64 y64.drew := below_drewN 1 (Below.refl _ y64)
          have T67 := Lib.hid (T65.out.step hdr)
          have F168 := Lib.hid (F166.out.below hdr)
          refine wp_region_items 52 [(true, 0), (true, 2), (true, 5), (true, 8), (false, 1), (false, 3), (true, 4), (false, 6), (true, 7), (false, 9), (true, 10), (true, 11), (true, 12), (true, 13), (false, 14), (true, 15), (true, 16), (true, 17), (true, 18), (true, 19), (true, 20), (true, 21), (true, 22), (true, 23), (false, 24), (false, 25), (true, 26), (true, 27), (true, 28), (true, 29), (true, 30), (true, 31), (true, 32), (false, 33), (false, 34), (true, 35), (true, 36), (true, 37), (true, 38), (true, 39), (true, 40), (false, 41), (false, 42), (true, 43), (true, 44), (true, 45), (true, 46), (false, 47), (true, 48), (true, 49), (false, 50), (true, 51)] (fun W => (∀ i, W.cell? ⟨w.heap.size, i, none⟩ = ([.int .i64 n, .int .i64 n, .slice am zm.length pm] : List Value)[i]?) ∧ (∀ i, W.cell? ⟨p8, i, none⟩ = ([.pointer v1.p, .int .i64 v1.r, .int .i64 v1.c, .int .i64 v1.o, .int .i64 v1.d, .int .i64 v1.u] : List Value)[i]?) ∧ (∀ i, W.cell? ⟨p9, i, none⟩ = ([.pointer v3.p, .int .i64 v3.r, .int .i64 v3.c, .int .i64 v3.o, .int .i64 v3.d, .int .i64 v3.u] : List Value)[i]?) ∧ (∀ i, W.cell? ⟨p10, i, none⟩ = ([.pointer v5.p, .int .i64 v5.r, .int .i64 v5.c, .int .i64 v5.o, .int .i64 v5.d, .int .i64 v5.u] : List Value)[i]?) ∧ (∀ i, W.cell? ⟨p11, i, none⟩ = ([.pointer v7.p, .int .i64 v7.r, .int .i64 v7.c, .int .i64 v7.o, .int .i64 v7.d, .int .i64 v7.u] : List Value)[i]?) ∧ (∀ i, W.cell? ⟨bq, i, none⟩ = ([.int .i64 n, .int .i64 n, .slice aq (turnL zm n n).length pq] : List Value)[i]?) ∧ (∀ i, W.cell? ⟨bk, i, none⟩ = ([.int .i64 n, .int .i64 n, .slice (some ⟨kb, 0, none⟩) zm.length kc] : List Value)[i]?)) (by kernel_rfl) (by kernel_rfl) ⟨(T67.out.get 0 rfl).cell, (T67.out.get 1 rfl).cell, (T67.out.get 2 rfl).cell, (T67.out.get 3 rfl).cell, (T67.out.get 4 rfl).cell, (T67.out.get 6 rfl).cell, (T67.out.get 7 rfl).cell⟩ ?_
          generalize y64.drew = y68 at *
          clear hdr
          iterate 4 (refine iW_take (v := ?_) rfl rfl ?_ ?_; rotate_left; (next => (intro w' hSw; (try dsimp only at hSw); go_simp; (try (rw [if_pos (by omega)]; go_simp)); (try with_reducible rfl))); (simp only [Act.put, List.setIfInBounds_toArray, List.set_cons_zero, List.set_cons_succ]))
          refine iW_mid rfl rfl ?_
          go_simp
          refine (num8_any 0 _).mono ?_
          rintro e w' ⟨rfl, rfl⟩
          refine ⟨⟨(T67.out.get 0 rfl).cell, (T67.out.get 1 rfl).cell, (T67.out.get 2 rfl).cell, (T67.out.get 3 rfl).cell, (T67.out.get 4 rfl).cell, (T67.out.get 6 rfl).cell, (T67.out.get 7 rfl).cell⟩, ?_⟩
          refine iW_mid rfl rfl ?_
          go_simp
          refine (num8_any 0 _).mono ?_
          rintro e w' ⟨rfl, rfl⟩
          refine ⟨⟨(T67.out.get 0 rfl).cell, (T67.out.get 1 rfl).cell, (T67.out.get 2 rfl).cell, (T67.out.get 3 rfl).cell, (T67.out.get 4 rfl).cell, (T67.out.get 6 rfl).cell, (T67.out.get 7 rfl).cell⟩, ?_⟩
          iterate 1 (refine iW_take (v := ?_) rfl rfl ?_ ?_; rotate_left; (next => (intro w' hSw; (try dsimp only at hSw); go_simp; (try (rw [if_pos (by omega)]; go_simp)); (try with_reducible rfl))); (simp only [Act.put, List.setIfInBounds_toArray, List.set_cons_zero, List.set_cons_succ]))
          refine iW_mid rfl rfl ?_
          go_simp
          refine (num8_any 0 _).mono ?_
          rintro e w' ⟨rfl, rfl⟩
          refine ⟨⟨(T67.out.get 0 rfl).cell, (T67.out.get 1 rfl).cell, (T67.out.get 2 rfl).cell, (T67.out.get 3 rfl).cell, (T67.out.get 4 rfl).cell, (T67.out.get 6 rfl).cell, (T67.out.get 7 rfl).cell⟩, ?_⟩
          iterate 1 (refine iW_take (v := ?_) rfl rfl ?_ ?_; rotate_left; (next => (intro w' hSw; (try dsimp only at hSw); go_simp; (try (rw [if_pos (by omega)]; go_simp)); (try with_reducible rfl))); (simp only [Act.put, List.setIfInBounds_toArray, List.set_cons_zero, List.set_cons_succ]))
          refine iW_mid rfl rfl ?_
          go_simp
          refine (num8_any 0 _).mono ?_
          rintro e w' ⟨rfl, rfl⟩
          refine ⟨⟨(T67.out.get 0 rfl).cell, (T67.out.get 1 rfl).cell, (T67.out.get 2 rfl).cell, (T67.out.get 3 rfl).cell, (T67.out.get 4 rfl).cell, (T67.out.get 6 rfl).cell, (T67.out.get 7 rfl).cell⟩, ?_⟩
          iterate 4 (refine iW_take (v := ?_) rfl rfl ?_ ?_; rotate_left; (next => (intro w' hSw; (try dsimp only at hSw); go_simp; (try (rw [if_pos (by omega)]; go_simp)); (try with_reducible rfl))); (simp only [Act.put, List.setIfInBounds_toArray, List.set_cons_zero, List.set_cons_succ]))
          refine iW_mid rfl rfl ?_
          go_simp
          refine (num8_any 8 _).mono ?_
          rintro e w' ⟨rfl, rfl⟩
          refine ⟨⟨(T67.out.get 0 rfl).cell, (T67.out.get 1 rfl).cell, (T67.out.get 2 rfl).cell, (T67.out.get 3 rfl).cell, (T67.out.get 4 rfl).cell, (T67.out.get 6 rfl).cell, (T67.out.get 7 rfl).cell⟩, ?_⟩
          iterate 9 (refine iW_take (v := ?_) rfl rfl ?_ ?_; rotate_left; (next => (intro w' hSw; (try dsimp only at hSw); go_simp; (try (rw [if_pos (by omega)]; go_simp)); (try with_reducible rfl))); (simp only [Act.put, List.setIfInBounds_toArray, List.set_cons_zero, List.set_cons_succ]))
          refine iW_mid rfl rfl ?_
          go_simp
          refine (RGemm_any _ a b n n n n n n am aq am zm (turnL zm n n) zm pm pq pm (Hm.out.fls _ T67.out.below) (T67.out.fls 3 rfl) (Hm.out.fls _ T67.out.below) (show zm.length ≤ 262144 by have := Hm.out.hl; omega) (show (turnL zm n n).length ≤ 262144 by rw [turnL_len]; have := HNN.out; omega) (show zm.length ≤ 262144 by have := Hm.out.hl; omega) Hm.out.hn (turnL_len _ _ _) Hm.out.hn Hm.out.hr Hm.out.hr Hm.out.hr Hm.out.hr Hm.out.hr Hm.out.hr rfl rfl rfl Hm.out.hp Hm.out.hm).mono ?_
          rintro e y69 ⟨⟨xa, xc, rfl, hF⟩, hb⟩
          have HZ := Lib.hid hF
          have T70 := Lib.hid (T67.out.step hb)
          refine ⟨⟨(T70.out.get 0 rfl).cell, (T70.out.get 1 rfl).cell, (T70.out.get 2 rfl).cell, (T70.out.get 3 rfl).cell, (T70.out.get 4 rfl).cell, (T70.out.get 6 rfl).cell, (T70.out.get 7 rfl).cell⟩, ?_⟩
          have F171 := Lib.hid (F168.out.below hb)
          clear hb hF
          refine iW_mid rfl rfl ?_
          go_simp
          refine (shows_any _ v1 sb1 m1 n n xa (fillL (gemmD a b zm n (turnL zm n n) n n zm n) n zm (n * n)) xc (T70.out.vw 0 rfl).1 (T70.out.vw 0 rfl).2 HP1.out.1.er HP1.out.1.ec HZ.out (fillL_words Hm.out.words (fun i j => gemmD_lt _ _ _ _ _ _ _ _ _ _ _) _) (by rw [fillL_len]; have := Hm.out.hl; omega) R1.out).mono ?_
          rintro e y72 ⟨rfl, hb⟩
          have T73 := Lib.hid (T70.out.step hb)
          refine ⟨⟨(T73.out.get 0 rfl).cell, (T73.out.get 1 rfl).cell, (T73.out.get 2 rfl).cell, (T73.out.get 3 rfl).cell, (T73.out.get 4 rfl).cell, (T73.out.get 6 rfl).cell, (T73.out.get 7 rfl).cell⟩, ?_⟩
          have F174 := Lib.hid (F171.out.below hb)
          clear hb HZ
          iterate 7 (refine iW_take (v := ?_) rfl rfl ?_ ?_; rotate_left; (next => (intro w' hSw; (try dsimp only at hSw); go_simp; (try (rw [if_pos (by omega)]; go_simp)); (try with_reducible rfl))); (simp only [Act.put, List.setIfInBounds_toArray, List.set_cons_zero, List.set_cons_succ]))
          refine iW_mid rfl rfl ?_
          go_simp
          refine (RGer_any _ a n n am ar ac zm (rwL zm n k) (clL zm n n k) pm pr pc (Hm.out.fls _ T73.out.below) (T73.out.fls 0 rfl) (T73.out.fls 1 rfl) (show zm.length ≤ 262144 by have := Hm.out.hl; omega) (by rw [rwL_len]; have := Hm.out.hr; omega) (by rw [clL_len]; have := Hm.out.hr; omega) Hm.out.hn Hm.out.hr Hm.out.hr (rwL_len _ _ _).symm (clL_len _ _ _ _).symm).mono ?_
          rintro e y75 ⟨⟨xa, xc, rfl, hF⟩, hb⟩
          have HZ := Lib.hid hF
          have T76 := Lib.hid (T73.out.step hb)
          refine ⟨⟨(T76.out.get 0 rfl).cell, (T76.out.get 1 rfl).cell, (T76.out.get 2 rfl).cell, (T76.out.get 3 rfl).cell, (T76.out.get 4 rfl).cell, (T76.out.get 6 rfl).cell, (T76.out.get 7 rfl).cell⟩, ?_⟩
          have F177 := Lib.hid (F174.out.below hb)
          clear hb hF
          refine iW_mid rfl rfl ?_
          go_simp
          refine (shows_any _ v3 sb3 m3 n n xa (fillL (gerD a (rwL zm n k) (clL zm n n k) zm n) n zm (n * n)) xc (T76.out.vw 1 rfl).1 (T76.out.vw 1 rfl).2 HP3.out.1.er HP3.out.1.ec HZ.out (fillL_words Hm.out.words (fun i j => gerD_lt _ _ _ _ _ _ _) _) (by rw [fillL_len]; have := Hm.out.hl; omega) R3.out).mono ?_
          rintro e y78 ⟨rfl, hb⟩
          have T79 := Lib.hid (T76.out.step hb)
          refine ⟨⟨(T79.out.get 0 rfl).cell, (T79.out.get 1 rfl).cell, (T79.out.get 2 rfl).cell, (T79.out.get 3 rfl).cell, (T79.out.get 4 rfl).cell, (T79.out.get 6 rfl).cell, (T79.out.get 7 rfl).cell⟩, ?_⟩
          have F180 := Lib.hid (F177.out.below hb)
          clear hb HZ
          iterate 6 (refine iW_take (v := ?_) rfl rfl ?_ ?_; rotate_left; (next => (intro w' hSw; (try dsimp only at hSw); go_simp; (try (rw [if_pos (by omega)]; go_simp)); (try with_reducible rfl))); (simp only [Act.put, List.setIfInBounds_toArray, List.set_cons_zero, List.set_cons_succ]))
          refine iW_mid rfl rfl ?_
          go_simp
          refine (RTrmm_any _ upper false n n n n am am zm zm pm pm (Hm.out.fls _ T79.out.below) (Hm.out.fls _ T79.out.below) Hm.out.hn Hm.out.hn (show zm.length ≤ 262144 by have := Hm.out.hl; omega) (show zm.length ≤ 262144 by have := Hm.out.hl; omega) Hm.out.hr Hm.out.hr rfl rfl).mono ?_
          rintro e y81 ⟨⟨xa, xc, rfl, hF⟩, hb⟩
          have HZ := Lib.hid hF
          have T82 := Lib.hid (T79.out.step hb)
          refine ⟨⟨(T82.out.get 0 rfl).cell, (T82.out.get 1 rfl).cell, (T82.out.get 2 rfl).cell, (T82.out.get 3 rfl).cell, (T82.out.get 4 rfl).cell, (T82.out.get 6 rfl).cell, (T82.out.get 7 rfl).cell⟩, ?_⟩
          have F183 := Lib.hid (F180.out.below hb)
          clear hb hF
          refine iW_mid rfl rfl ?_
          go_simp
          refine (shows_any _ v5 sb5 m5 n n xa (fillL (trmmD upper false zm n zm n n) n zm (n * n)) xc (T82.out.vw 2 rfl).1 (T82.out.vw 2 rfl).2 HP5.out.1.er HP5.out.1.ec HZ.out (fillL_words Hm.out.words (fun i j => trmmD_lt _ _ _ _ _ _ _ _ _) _) (by rw [fillL_len]; have := Hm.out.hl; omega) R5.out).mono ?_
          rintro e y84 ⟨rfl, hb⟩
          have T85 := Lib.hid (T82.out.step hb)
          refine ⟨⟨(T85.out.get 0 rfl).cell, (T85.out.get 1 rfl).cell, (T85.out.get 2 rfl).cell, (T85.out.get 3 rfl).cell, (T85.out.get 4 rfl).cell, (T85.out.get 6 rfl).cell, (T85.out.get 7 rfl).cell⟩, ?_⟩
          have F186 := Lib.hid (F183.out.below hb)
          clear hb HZ
          iterate 4 (refine iW_take (v := ?_) rfl rfl ?_ ?_; rotate_left; (next => (intro w' hSw; (try dsimp only at hSw); go_simp; (try (rw [if_pos (by omega)]; go_simp)); (try with_reducible rfl))); (simp only [Act.put, List.setIfInBounds_toArray, List.set_cons_zero, List.set_cons_succ]))
          have HS := Lib.hid (shows_any y84 v7 sb7 m7 n n (some ⟨kb, 0, none⟩) (putclL zm GL n k) kc (T85.out.vw 3 rfl).1 (T85.out.vw 3 rfl).2 HP7.out.1.er HP7.out.1.ec F186.out.fls (putclL_words Hm.out.words (by rw [HGL.out]; exact gemvR_words _ _ _ _ _ _ _) n k) (by rw [putclL_len]; have := HNN.out; omega) (by rw [HGL.out]; exact R7.out))
          rw [putclL_len, ← Hm.out.hn] at HS
          refine iW_mid rfl rfl ?_
          go_simp
          refine (HS.out).mono ?_
          rintro e y87 ⟨rfl, hb⟩
          have T88 := Lib.hid (T85.out.step hb)
          refine ⟨⟨(T88.out.get 0 rfl).cell, (T88.out.get 1 rfl).cell, (T88.out.get 2 rfl).cell, (T88.out.get 3 rfl).cell, (T88.out.get 4 rfl).cell, (T88.out.get 6 rfl).cell, (T88.out.get 7 rfl).cell⟩, ?_⟩
          have F189 := Lib.hid (F186.out.below hb)
          clear hb HS
          iterate 2 (refine iW_take (v := ?_) rfl rfl ?_ ?_; rotate_left; (next => (intro w' hSw; (try dsimp only at hSw); go_simp; (try (rw [if_pos (by omega)]; go_simp)); (try with_reducible rfl))); (simp only [Act.put, List.setIfInBounds_toArray, List.set_cons_zero, List.set_cons_succ]))
          refine iW_mid rfl rfl ?_
          go_simp
          refine (known08_any _).mono ?_
          rintro e y90 ⟨rfl, hb⟩
          have T91 := Lib.hid (T88.out.step hb)
          refine ⟨⟨(T91.out.get 0 rfl).cell, (T91.out.get 1 rfl).cell, (T91.out.get 2 rfl).cell, (T91.out.get 3 rfl).cell, (T91.out.get 4 rfl).cell, (T91.out.get 6 rfl).cell, (T91.out.get 7 rfl).cell⟩, ?_⟩
          have F192 := Lib.hid (F189.out.below hb)
          clear hb
          iterate 1 (refine iW_take (v := ?_) rfl rfl ?_ ?_; rotate_left; (next => (intro w' hSw; (try dsimp only at hSw); go_simp; (try (rw [if_pos (by omega)]; go_simp)); (try with_reducible rfl))); (simp only [Act.put, List.setIfInBounds_toArray, List.set_cons_zero, List.set_cons_succ]))
          refine iW_nil ?_
          go_simp
          go_wp2_with fail
          refine NoPanic.normal ?_
          go_wp2_with fail
          go_ret
          exact ⟨rfl, T91.out.below⟩
end Go.Proofs.Ytbcdpibcieadlaa
