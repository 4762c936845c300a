/- The statement's own function: views turned, and parts. -/
import Derived.Test.YtpjdibanjmmbkaaVm
import Derived.Test.YtpjdibanjmmbkaaVk
import Derived.Deep.RegionHeld3
import Derived.Test.YtpjdibanjmmbkaaNq2
namespace Go.Proofs.Ytpjdibanjmmbkaa
open Go Go.RowKit
set_option maxRecDepth 100000

set_option maxHeartbeats 8000000 in
theorem means_any (w : World) (r c : Int) (a : Option Addr) (zs : List Nat) (cap : Nat) (K A B C D i j : Int) (hZ : Cel w a zs) (hWd : Words zs) (hl : zs.length ≤ maxLen) :
    Calls Try.prog 6 #[.agg #[.int .i64 r, .int .i64 c, .slice a zs.length cap], .agg #[.int .i64 K, .int .i64 A, .int .i64 B, .int .i64 C, .int .i64 D], .int .i64 i, .int .i64 j] w fun e w' => e = .returned (.bool true) ∧ Below w.heap.size w w' := by
  have hB0 : Below w.heap.size w ((w.alloc (.cells #[.int .i64 r, .int .i64 c, .slice a zs.length cap] 40)).alloc (.cells #[.int .i64 K, .int .i64 A, .int .i64 B, .int .i64 C, .int .i64 D] 64)) := ((Below.refl _ _).alloc (Nat.le_refl _) _).alloc (by simp) _
  have x0 : Box ((w.alloc (.cells #[.int .i64 r, .int .i64 c, .slice a zs.length cap] 40)).alloc (.cells #[.int .i64 K, .int .i64 A, .int .i64 B, .int .i64 C, .int .i64 D] 64)) w.heap.size [.int .i64 r, .int .i64 c, .slice a zs.length cap] := (Box.newA w [_, _, _] _ rfl).alloc _
  have x1 : Box ((w.alloc (.cells #[.int .i64 r, .int .i64 c, .slice a zs.length cap] 40)).alloc (.cells #[.int .i64 K, .int .i64 A, .int .i64 B, .int .i64 C, .int .i64 D] 64)) (w.heap.size + 1) [.int .i64 K, .int .i64 A, .int .i64 B, .int .i64 C, .int .i64 D] := Box.newA _ [_, _, _, _, _] _ (by simp)
  go_enter Try.func6, Try.ntmps6
  go_wp2_with fail
  refine (known07 _).mono ?_
  rintro e w1 ⟨rfl, hb1⟩
  have y0 := x0.below hb1
  have y1 := x1.below hb1
  have hB1 := below_step hB0 hB0.size hb1
  clear x0 x1 hb1 hB0
  obtain ⟨a1, a2, a3⟩ := y0.facts
  cases hm : mayM r c zs.length
  case false =>
    have HO := Lib.hid (fun W => Of_no r c a zs.length cap W hl hm)
    clear hm
    cases hbg : decide (400 < zs.length)
    all_goals
      go_wp2_with fail
      refine (HO.out _).mono ?_
      rintro e w2 ⟨rfl, hb2⟩
      rw [show Vw.none.val = (.agg #[.pointer none, .int .i64 0, .int .i64 0, .int .i64 0, .int .i64 0, .int .i64 0]) from rfl]
      have z0 := y0.below hb2
      have hB2 := below_step hB1 hB1.size hb2
      have s2 := hB2.size
      clear a1 a2 a3 hb2
      have Z0 := z0.alloc (.cells #[.pointer none, .int .i64 0, .int .i64 0, .int .i64 0, .int .i64 0, .int .i64 0] 45)
      have hB3 : Below w.heap.size w (w2.alloc (.cells #[.pointer none, .int .i64 0, .int .i64 0, .int .i64 0, .int .i64 0, .int .i64 0] 45)) := hB2.alloc s2 _
      obtain ⟨a1, a2, a3⟩ := z0.facts
      go_wp2_with fail
      refine (big_any r c a zs.length cap _ hl).mono ?_
      rintro e w3 ⟨rfl, hb3⟩
      rw [hbg]
      have u0 := Z0.below hb3
      have hB4 := below_step hB3 hB3.size hb3
      clear a1 a2 a3 hb3
      obtain ⟨a1, a2, a3⟩ := u0.facts
      go_wp2_with (go_at_call 41; refine (num_any _ _).mono ?_; rintro e w' ⟨rfl, rfl⟩)
      refine (big_any r c a zs.length cap _ hl).mono ?_
      rintro e w4 ⟨rfl, hb4⟩
      rw [hbg]
      have hB5 := below_step hB4 hB4.size hb4
      go_wp2_with (go_at_call 41; refine (num_any _ _).mono ?_; rintro e w' ⟨rfl, rfl⟩)
      go_ret
      exact ⟨rfl, hB5⟩
  case true =>
    have hm2 := hm
    unfold mayM at hm2
    simp only [Bool.and_eq_true, okSz, decide_eq_true_eq] at hm2
    obtain ⟨R, rfl⟩ := Int.eq_ofNat_of_zero_le hm2.1.1.1
    obtain ⟨CC, rfl⟩ := Int.eq_ofNat_of_zero_le hm2.1.2.1
    have hR : R ≤ 512 := by omega
    have hC : CC ≤ 512 := by omega
    have hn : zs.length = R * CC := by have := hm2.2; rw [← Int.natCast_mul] at this; omega
    have HO := Lib.hid (fun (W : World) (hB : Below w.heap.size w W) => Of_yes R CC a zs cap W hR hC hn (hZ.below hB))
    have HN := Lib.hid hn
    clear hm hm2 hn
    cases hbg : decide (400 < zs.length)
    case true =>
      go_wp2_with fail
      refine (HO.out _ hB1).mono ?_
      rintro e w2 ⟨st, sb, rfl, _, _, hsto, hb2⟩
      rw [show (newV st R CC).val = (.agg #[.pointer (some ⟨st, 0, none⟩), .int .i64 R, .int .i64 CC, .int .i64 (0 : Nat), .int .i64 CC, .int .i64 (1 : Nat)]) from rfl]
      have z0 := y0.below hb2
      have hB2 := below_step hB1 hB1.size hb2
      have s2 := hB2.size
      clear a1 a2 a3 hb2
      obtain ⟨a1, a2, a3⟩ := z0.facts
      go_wp2_with fail
      have Z0 := z0.alloc (.cells #[.pointer (some ⟨st, 0, none⟩), .int .i64 R, .int .i64 CC, .int .i64 0, .int .i64 CC, .int .i64 1] 45)
      have hB3 : Below w.heap.size w (w2.alloc (.cells #[.pointer (some ⟨st, 0, none⟩), .int .i64 R, .int .i64 CC, .int .i64 0, .int .i64 CC, .int .i64 1] 45)) := hB2.alloc s2 _
      refine (big_any R CC a zs.length cap _ hl).mono ?_
      rintro e w3 ⟨rfl, hb3⟩
      rw [hbg]
      have u0 := Z0.below hb3
      have hB4 := below_step hB3 hB3.size hb3
      clear a1 a2 a3 hb3
      obtain ⟨a1, a2, a3⟩ := u0.facts
      go_wp2_with fail
      refine (big_any R CC a zs.length cap _ hl).mono ?_
      rintro e w4 ⟨rfl, hb4⟩
      rw [hbg]
      have hB5 := below_step hB4 hB4.size hb4
      go_wp2
      go_ret
      exact ⟨rfl, hB5⟩
    case false =>
      go_wp2_with fail
      refine (HO.out _ hB1).mono ?_
      rintro e w2 ⟨st, sb, rfl, hst, hsb, hsto, hb2⟩
      have hok := newV_ok hsto hR hC HN.out
      have hbnd := newV_bnd (st := st) hR hC
      generalize newV st R CC = v at hok hbnd ⊢
      rw [show v.val = (.agg #[.pointer v.p, .int .i64 v.r, .int .i64 v.c, .int .i64 v.o, .int .i64 v.d, .int .i64 v.u]) from rfl]
      have z0 := y0.below hb2
      have z1 := y1.below hb2
      have hB2 := below_step hB1 hB1.size hb2
      have s2 := hB2.size
      clear a1 a2 a3 hb2 hsto hst hsb
      obtain ⟨a1, a2, a3⟩ := z0.facts
      go_wp2_with fail
      have Z0 := z0.alloc (.cells #[.pointer v.p, .int .i64 v.r, .int .i64 v.c, .int .i64 v.o, .int .i64 v.d, .int .i64 v.u] 45)
      have Z1 := z1.alloc (.cells #[.pointer v.p, .int .i64 v.r, .int .i64 v.c, .int .i64 v.o, .int .i64 v.d, .int .i64 v.u] 45)
      have KM0 : KM w v w2.heap.size sb zs [(w.heap.size + 1, [.int .i64 K, .int .i64 A, .int .i64 B, .int .i64 C, .int .i64 D])] (w2.alloc (.cells #[.pointer v.p, .int .i64 v.r, .int .i64 v.c, .int .i64 v.o, .int .i64 v.d, .int .i64 v.u] 45)) := ⟨Box.newA _ _ _ rfl, hok.below ((Below.refl _ _).alloc (Nat.le_refl _) _), hB2.alloc s2 _, fun q hq => by simp only [List.mem_singleton] at hq; subst hq; exact Z1⟩
      generalize hbb : w2.heap.size = b at KM0 ⊢
      refine (big_any R CC a zs.length cap _ hl).mono ?_
      rintro e w3 ⟨rfl, hb3⟩
      rw [hbg]
      have K1 := KM0.step hb3
      clear a1 a2 a3 hb3 Z0 Z1 z0 z1 y0 y1 KM0 hB2 hB1
      go_wp2_with (go_at_call 41; refine (num_any _ _).mono ?_; rintro e w' ⟨rfl, rfl⟩)
      go_region_held3 (fun w' => KM w v b sb zs [(w.heap.size + 1, [.int .i64 K, .int .i64 A, .int .i64 B, .int .i64 C, .int .i64 D])] w' ∧ (∀ i, w'.cell? ⟨b, i, none⟩ = ([.pointer v.p, .int .i64 v.r, .int .i64 v.c, .int .i64 v.o, .int .i64 v.d, .int .i64 v.u])[i]?)) (first | exact KM.S (by assumption) | exact KM.S (KM.drew (by assumption)))
        (first
          | (go_at_call 42; with_reducible refine (mT (KM.L (by assumption)) _).mono ?_; rintro e w' ⟨rfl, hK'⟩)
          | (go_at_call 43; with_reducible refine (mRow (KM.L (by assumption)) hbnd _).mono ?_; rintro e w' ⟨rfl, hK'⟩)
          | (go_at_call 44; with_reducible refine (mCol (KM.L (by assumption)) hbnd _).mono ?_; rintro e w' ⟨rfl, hK'⟩)
          | (go_at_call 26; with_reducible refine (mSame1 (KM.L (by assumption))).mono ?_; rintro e w' ⟨rfl, hK'⟩)
          | (go_at_call 26; with_reducible refine (mSame2 (KM.L (by assumption)) _).mono ?_; rintro e w' ⟨rfl, hK'⟩))
      have K2 := KM.L (w := w) (v := v) (b := b) (sb := sb) (ws := zs) (bl := [(w.heap.size + 1, [.int .i64 K, .int .i64 A, .int .i64 B, .int .i64 C, .int .i64 D])]) (by assumption)
      obtain ⟨a1, a2, a3⟩ := K2.box.facts
      obtain ⟨a4, a5, a6⟩ := (K2.more (w.heap.size + 1, [.int .i64 K, .int .i64 A, .int .i64 B, .int .i64 C, .int .i64 D]) (by simp)).facts
      dsimp only at a4 a5 a6
      go_wp2_with fail
      refine (Part_any v A B C D _ 0 hbnd (by decide)).mono ?_
      rintro e w4 ⟨rfl, hb4⟩
      have K3 := K2.step hb4
      obtain ⟨q, hq⟩ : ∃ q, q = v.part A B C D := ⟨_, rfl⟩
      rw [← hq, show q.val = (.agg #[.pointer q.p, .int .i64 q.r, .int .i64 q.c, .int .i64 q.o, .int .i64 q.d, .int .i64 q.u]) from rfl]
      have hqok : ∀ W, v.Ok W sb zs → q.Ok W sb zs := fun W h => by rw [hq]; exact part_ok h _ _ _ _
      have hqT : ∀ W, v.Ok W sb zs → q.T.Ok W sb zs := fun W h => T_ok (hqok W h)
      have HQ := Lib.hid hq
      clear hq hb4 K2 a1 a2 a3 a4 a5 a6
      have K4 : KM w v b sb zs [(w.heap.size + 1, [.int .i64 K, .int .i64 A, .int .i64 B, .int .i64 C, .int .i64 D]), (w4.heap.size, [.pointer q.p, .int .i64 q.r, .int .i64 q.c, .int .i64 q.o, .int .i64 q.d, .int .i64 q.u])] (w4.alloc (.cells #[.pointer q.p, .int .i64 q.r, .int .i64 q.c, .int .i64 q.o, .int .i64 q.d, .int .i64 q.u] 45)) := by
        have h := K3.step ((Below.refl _ _).alloc (Nat.le_refl _) (.cells #[.pointer q.p, .int .i64 q.r, .int .i64 q.c, .int .i64 q.o, .int .i64 q.d, .int .i64 q.u] 45))
        refine ⟨h.box, h.ok, h.below, fun x hx => ?_⟩
        simp only [List.mem_cons, List.not_mem_nil, or_false] at hx
        rcases hx with rfl | rfl
        · exact h.more _ (by simp)
        · exact Box.newA _ _ _ rfl
      clear K3
      generalize hbq : w4.heap.size = bq at K4
      go_wp2
      generalize w4.alloc (.cells #[.pointer q.p, .int .i64 q.r, .int .i64 q.c, .int .i64 q.o, .int .i64 q.d, .int .i64 q.u] 45) = W4 at K4 ⊢
      obtain ⟨a1, a2, a3⟩ := K4.box.facts
      obtain ⟨a4, a5, a6⟩ := (K4.more (w.heap.size + 1, [.int .i64 K, .int .i64 A, .int .i64 B, .int .i64 C, .int .i64 D]) (by simp)).facts
      obtain ⟨a7, a8, a9⟩ := (K4.more (bq, [.pointer q.p, .int .i64 q.r, .int .i64 q.c, .int .i64 q.o, .int .i64 q.d, .int .i64 q.u]) (by simp)).facts
      dsimp only at a4 a5 a6 a7 a8 a9
      by_cases c1 : (q.r : Int) = C
      case neg =>
        have t1 : ((q.r : Int) != C) = true := by simp; exact c1
        have t1b : ((q.r : Int) == C) = false := by simp; exact c1
        refine wp_region_nqb 32 (VF zs) (by kernel_rfl) (by kernel_rfl) ?_
        intro Cw Rw hc hb' hb2 hd hRw
        simp only [List.take_succ_cons, List.take_zero]
        repeat (
          first
            | (refine nqW_skip rfl (fun K hK => ?_); go_frame; refine hK _ ?_; clear hK K)
            | ((first | (refine nqW_plain (fun K hK => ?_)) | (refine nqW_want rfl (fun K hK => ?_)) | (refine nqW_step (fun K hK => ?_); go_simp))
               first
                 | (refine nq_move rfl ?_; go_simp; refine hK _ ?_; clear hK K)
                 | (refine nq_assign rfl ?_; go_simp; refine hK _ ?_; clear hK K)
                 | (refine nq_flt rfl rfl rfl rfl hd ?_; intro _; go_frame; refine hK _ ?_; clear hK K)
                 | (refine nq_inC rfl ?_; intro w' hw'; go_simp; refine ⟨?_, ?_⟩; (next => (intro w2 hw2; go_at_call 27; exact (Rows_any _ _ _ _ _ _ w2).mono (fun e w3 ⟨he, hb⟩ => ⟨_, he, VF_rows _ q, hb2 _ _ hw2 hb⟩))); intro v hv; obtain rfl := hv.1 rfl q rfl; go_simp; refine hK _ ?_; clear hv hK K hw' w')
                 | (refine nq_inC rfl ?_; intro w' hw'; go_simp; refine ⟨?_, ?_⟩; (next => (intro w2 hw2; go_at_call 28; exact (Cols_any _ _ _ _ _ _ w2).mono (fun e w3 ⟨he, hb⟩ => ⟨_, he, VF_cols _ q, hb2 _ _ hw2 hb⟩))); intro v hv; obtain rfl := hv.2.1 rfl q rfl; go_simp; refine hK _ ?_; clear hv hK K hw' w')
                 | (refine nq_same ?_; intro w' hw'; go_simp; (try go_bits); refine hK _ ?_; clear hK K hw' w')
                 | (refine nq_same ?_; intro w' hw'; go_simp; rw [if_pos (by omega)]; go_simp; (try go_bits); refine hK _ ?_; clear hK K hw' w')
                 | (go_simp; refine hK _ ?_; clear hK K)))
        refine nqW_nil (hRw _ ?_)
        clear hc hb' hb2 hd hRw
        intro w' hw'
        simp only [List.drop_succ_cons, List.drop_zero, List.drop_nil]
        have K5 := K4.step hw'
        go_wp2
        go_ret
        exact ⟨rfl, K5.below⟩
      have t1 : ((q.r : Int) != C) = false := by simp; exact c1
      by_cases c2 : (q.c : Int) = D
      case neg =>
        clear c1
        have t2 : ((q.c : Int) != D) = true := by simp; exact c2
        have t2b : ((q.c : Int) == D) = false := by simp; exact c2
        refine wp_region_nqb 32 (VF zs) (by kernel_rfl) (by kernel_rfl) ?_
        intro Cw Rw hc hb' hb2 hd hRw
        simp only [List.take_succ_cons, List.take_zero]
        repeat (
          first
            | (refine nqW_skip rfl (fun K hK => ?_); go_frame; refine hK _ ?_; clear hK K)
            | ((first | (refine nqW_plain (fun K hK => ?_)) | (refine nqW_want rfl (fun K hK => ?_)) | (refine nqW_step (fun K hK => ?_); go_simp))
               first
                 | (refine nq_move rfl ?_; go_simp; refine hK _ ?_; clear hK K)
                 | (refine nq_assign rfl ?_; go_simp; refine hK _ ?_; clear hK K)
                 | (refine nq_flt rfl rfl rfl rfl hd ?_; intro _; go_frame; refine hK _ ?_; clear hK K)
                 | (refine nq_inC rfl ?_; intro w' hw'; go_simp; refine ⟨?_, ?_⟩; (next => (intro w2 hw2; go_at_call 27; exact (Rows_any _ _ _ _ _ _ w2).mono (fun e w3 ⟨he, hb⟩ => ⟨_, he, VF_rows _ q, hb2 _ _ hw2 hb⟩))); intro v hv; obtain rfl := hv.1 rfl q rfl; go_simp; refine hK _ ?_; clear hv hK K hw' w')
                 | (refine nq_inC rfl ?_; intro w' hw'; go_simp; refine ⟨?_, ?_⟩; (next => (intro w2 hw2; go_at_call 28; exact (Cols_any _ _ _ _ _ _ w2).mono (fun e w3 ⟨he, hb⟩ => ⟨_, he, VF_cols _ q, hb2 _ _ hw2 hb⟩))); intro v hv; obtain rfl := hv.2.1 rfl q rfl; go_simp; refine hK _ ?_; clear hv hK K hw' w')
                 | (refine nq_same ?_; intro w' hw'; go_simp; (try go_bits); refine hK _ ?_; clear hK K hw' w')
                 | (refine nq_same ?_; intro w' hw'; go_simp; rw [if_pos (by omega)]; go_simp; (try go_bits); refine hK _ ?_; clear hK K hw' w')
                 | (go_simp; refine hK _ ?_; clear hK K)))
        refine nqW_nil (hRw _ ?_)
        clear hc hb' hb2 hd hRw
        intro w' hw'
        simp only [List.drop_succ_cons, List.drop_zero, List.drop_nil]
        have K5 := K4.step hw'
        go_wp2
        go_ret
        exact ⟨rfl, K5.below⟩
      have t2 : ((q.c : Int) != D) = false := by simp; exact c2
      have HC := Lib.hid (And.intro c1 c2)
      clear c1 c2
      cases t3 : decide (i < 0)
      case true =>
        refine wp_region_nqb 32 (VF zs) (by kernel_rfl) (by kernel_rfl) ?_
        intro Cw Rw hc hb' hb2 hd hRw
        simp only [List.take_succ_cons, List.take_zero]
        repeat (
          first
            | (refine nqW_skip rfl (fun K hK => ?_); go_frame; refine hK _ ?_; clear hK K)
            | ((first | (refine nqW_plain (fun K hK => ?_)) | (refine nqW_want rfl (fun K hK => ?_)) | (refine nqW_step (fun K hK => ?_); go_simp))
               first
                 | (refine nq_move rfl ?_; go_simp; refine hK _ ?_; clear hK K)
                 | (refine nq_assign rfl ?_; go_simp; refine hK _ ?_; clear hK K)
                 | (refine nq_flt rfl rfl rfl rfl hd ?_; intro _; go_frame; refine hK _ ?_; clear hK K)
                 | (refine nq_inC rfl ?_; intro w' hw'; go_simp; refine ⟨?_, ?_⟩; (next => (intro w2 hw2; go_at_call 27; exact (Rows_any _ _ _ _ _ _ w2).mono (fun e w3 ⟨he, hb⟩ => ⟨_, he, VF_rows _ q, hb2 _ _ hw2 hb⟩))); intro v hv; obtain rfl := hv.1 rfl q rfl; go_simp; refine hK _ ?_; clear hv hK K hw' w')
                 | (refine nq_inC rfl ?_; intro w' hw'; go_simp; refine ⟨?_, ?_⟩; (next => (intro w2 hw2; go_at_call 28; exact (Cols_any _ _ _ _ _ _ w2).mono (fun e w3 ⟨he, hb⟩ => ⟨_, he, VF_cols _ q, hb2 _ _ hw2 hb⟩))); intro v hv; obtain rfl := hv.2.1 rfl q rfl; go_simp; refine hK _ ?_; clear hv hK K hw' w')
                 | (refine nq_same ?_; intro w' hw'; go_simp; (try go_bits); refine hK _ ?_; clear hK K hw' w')
                 | (refine nq_same ?_; intro w' hw'; go_simp; rw [if_pos (by omega)]; go_simp; (try go_bits); refine hK _ ?_; clear hK K hw' w')
                 | (go_simp; refine hK _ ?_; clear hK K)))
        refine nqW_nil (hRw _ ?_)
        clear hc hb' hb2 hd hRw
        intro w' hw'
        simp only [List.drop_succ_cons, List.drop_zero, List.drop_nil]
        have K5 := K4.step hw'
        go_wp2
        go_ret
        exact ⟨rfl, K5.below⟩
      cases t4 : decide (j < 0)
      case true =>
        refine wp_region_nqb 32 (VF zs) (by kernel_rfl) (by kernel_rfl) ?_
        intro Cw Rw hc hb' hb2 hd hRw
        simp only [List.take_succ_cons, List.take_zero]
        repeat (
          first
            | (refine nqW_skip rfl (fun K hK => ?_); go_frame; refine hK _ ?_; clear hK K)
            | ((first | (refine nqW_plain (fun K hK => ?_)) | (refine nqW_want rfl (fun K hK => ?_)) | (refine nqW_step (fun K hK => ?_); go_simp))
               first
                 | (refine nq_move rfl ?_; go_simp; refine hK _ ?_; clear hK K)
                 | (refine nq_assign rfl ?_; go_simp; refine hK _ ?_; clear hK K)
                 | (refine nq_flt rfl rfl rfl rfl hd ?_; intro _; go_frame; refine hK _ ?_; clear hK K)
                 | (refine nq_inC rfl ?_; intro w' hw'; go_simp; refine ⟨?_, ?_⟩; (next => (intro w2 hw2; go_at_call 27; exact (Rows_any _ _ _ _ _ _ w2).mono (fun e w3 ⟨he, hb⟩ => ⟨_, he, VF_rows _ q, hb2 _ _ hw2 hb⟩))); intro v hv; obtain rfl := hv.1 rfl q rfl; go_simp; refine hK _ ?_; clear hv hK K hw' w')
                 | (refine nq_inC rfl ?_; intro w' hw'; go_simp; refine ⟨?_, ?_⟩; (next => (intro w2 hw2; go_at_call 28; exact (Cols_any _ _ _ _ _ _ w2).mono (fun e w3 ⟨he, hb⟩ => ⟨_, he, VF_cols _ q, hb2 _ _ hw2 hb⟩))); intro v hv; obtain rfl := hv.2.1 rfl q rfl; go_simp; refine hK _ ?_; clear hv hK K hw' w')
                 | (refine nq_same ?_; intro w' hw'; go_simp; (try go_bits); refine hK _ ?_; clear hK K hw' w')
                 | (refine nq_same ?_; intro w' hw'; go_simp; rw [if_pos (by omega)]; go_simp; (try go_bits); refine hK _ ?_; clear hK K hw' w')
                 | (go_simp; refine hK _ ?_; clear hK K)))
        refine nqW_nil (hRw _ ?_)
        clear hc hb' hb2 hd hRw
        intro w' hw'
        simp only [List.drop_succ_cons, List.drop_zero, List.drop_nil]
        have K5 := K4.step hw'
        go_wp2
        go_ret
        exact ⟨rfl, K5.below⟩
      cases t5 : decide (C ≤ i)
      case true =>
        refine wp_region_nqb 32 (VF zs) (by kernel_rfl) (by kernel_rfl) ?_
        intro Cw Rw hc hb' hb2 hd hRw
        simp only [List.take_succ_cons, List.take_zero]
        repeat (
          first
            | (refine nqW_skip rfl (fun K hK => ?_); go_frame; refine hK _ ?_; clear hK K)
            | ((first | (refine nqW_plain (fun K hK => ?_)) | (refine nqW_want rfl (fun K hK => ?_)) | (refine nqW_step (fun K hK => ?_); go_simp))
               first
                 | (refine nq_move rfl ?_; go_simp; refine hK _ ?_; clear hK K)
                 | (refine nq_assign rfl ?_; go_simp; refine hK _ ?_; clear hK K)
                 | (refine nq_flt rfl rfl rfl rfl hd ?_; intro _; go_frame; refine hK _ ?_; clear hK K)
                 | (refine nq_inC rfl ?_; intro w' hw'; go_simp; refine ⟨?_, ?_⟩; (next => (intro w2 hw2; go_at_call 27; exact (Rows_any _ _ _ _ _ _ w2).mono (fun e w3 ⟨he, hb⟩ => ⟨_, he, VF_rows _ q, hb2 _ _ hw2 hb⟩))); intro v hv; obtain rfl := hv.1 rfl q rfl; go_simp; refine hK _ ?_; clear hv hK K hw' w')
                 | (refine nq_inC rfl ?_; intro w' hw'; go_simp; refine ⟨?_, ?_⟩; (next => (intro w2 hw2; go_at_call 28; exact (Cols_any _ _ _ _ _ _ w2).mono (fun e w3 ⟨he, hb⟩ => ⟨_, he, VF_cols _ q, hb2 _ _ hw2 hb⟩))); intro v hv; obtain rfl := hv.2.1 rfl q rfl; go_simp; refine hK _ ?_; clear hv hK K hw' w')
                 | (refine nq_same ?_; intro w' hw'; go_simp; (try go_bits); refine hK _ ?_; clear hK K hw' w')
                 | (refine nq_same ?_; intro w' hw'; go_simp; rw [if_pos (by omega)]; go_simp; (try go_bits); refine hK _ ?_; clear hK K hw' w')
                 | (go_simp; refine hK _ ?_; clear hK K)))
        refine nqW_nil (hRw _ ?_)
        clear hc hb' hb2 hd hRw
        intro w' hw'
        simp only [List.drop_succ_cons, List.drop_zero, List.drop_nil]
        have K5 := K4.step hw'
        go_wp2
        go_ret
        exact ⟨rfl, K5.below⟩
      cases t6 : decide (D ≤ j)
      case true =>
        refine wp_region_nqb 32 (VF zs) (by kernel_rfl) (by kernel_rfl) ?_
        intro Cw Rw hc hb' hb2 hd hRw
        simp only [List.take_succ_cons, List.take_zero]
        repeat (
          first
            | (refine nqW_skip rfl (fun K hK => ?_); go_frame; refine hK _ ?_; clear hK K)
            | ((first | (refine nqW_plain (fun K hK => ?_)) | (refine nqW_want rfl (fun K hK => ?_)) | (refine nqW_step (fun K hK => ?_); go_simp))
               first
                 | (refine nq_move rfl ?_; go_simp; refine hK _ ?_; clear hK K)
                 | (refine nq_assign rfl ?_; go_simp; refine hK _ ?_; clear hK K)
                 | (refine nq_flt rfl rfl rfl rfl hd ?_; intro _; go_frame; refine hK _ ?_; clear hK K)
                 | (refine nq_inC rfl ?_; intro w' hw'; go_simp; refine ⟨?_, ?_⟩; (next => (intro w2 hw2; go_at_call 27; exact (Rows_any _ _ _ _ _ _ w2).mono (fun e w3 ⟨he, hb⟩ => ⟨_, he, VF_rows _ q, hb2 _ _ hw2 hb⟩))); intro v hv; obtain rfl := hv.1 rfl q rfl; go_simp; refine hK _ ?_; clear hv hK K hw' w')
                 | (refine nq_inC rfl ?_; intro w' hw'; go_simp; refine ⟨?_, ?_⟩; (next => (intro w2 hw2; go_at_call 28; exact (Cols_any _ _ _ _ _ _ w2).mono (fun e w3 ⟨he, hb⟩ => ⟨_, he, VF_cols _ q, hb2 _ _ hw2 hb⟩))); intro v hv; obtain rfl := hv.2.1 rfl q rfl; go_simp; refine hK _ ?_; clear hv hK K hw' w')
                 | (refine nq_same ?_; intro w' hw'; go_simp; (try go_bits); refine hK _ ?_; clear hK K hw' w')
                 | (refine nq_same ?_; intro w' hw'; go_simp; rw [if_pos (by omega)]; go_simp; (try go_bits); refine hK _ ?_; clear hK K hw' w')
                 | (go_simp; refine hK _ ?_; clear hK K)))
        refine nqW_nil (hRw _ ?_)
        clear hc hb' hb2 hd hRw
        intro w' hw'
        simp only [List.drop_succ_cons, List.drop_zero, List.drop_nil]
        have K5 := K4.step hw'
        go_wp2
        go_ret
        exact ⟨rfl, K5.below⟩
      have n3 : 0 ≤ i := by simpa using t3
      have n4 : 0 ≤ j := by simpa using t4
      have n5 : i < C := by simpa using t5
      have n6 : j < D := by simpa using t6
      have hpg := part_get v zs (A := A) (B := B) (C := C) (D := D) (i := i) (j := j) (by rw [← HQ.out]; exact HC.out.1) (by rw [← HQ.out]; exact HC.out.2) n3 n5 n4 n6
      obtain ⟨g1, g2, g3, g4, g5⟩ := hpg
      rw [← HQ.out] at g1
      have HG := Lib.hid g1
      have W1 : wrap64 (A + i) = A + i := by have := hbnd.1; unfold wrap64; omega
      have W2 : wrap64 (B + j) = B + j := by have := hbnd.2.1; unfold wrap64; omega
      have u1 : ((nm (q.get zs i j) : Int) == (nm (v.get zs (wrap64 (A + i)) (wrap64 (B + j))) : Int)) = true := by rw [HG.out, W1, W2]; simp
      clear W1 W2
      clear n3 n4 n5 n6 g1 g2 g3 g4 g5
      refine wp_region_nqb 32 (VF zs) (by kernel_rfl) (by kernel_rfl) ?_
      intro Cw Rw hc hb' hb2 hd hRw
      simp only [List.take_succ_cons, List.take_zero]
      repeat (
        first
          | (refine nqW_skip rfl (fun K hK => ?_); go_frame; refine hK _ ?_; clear hK K)
          | ((first | (refine nqW_plain (fun K hK => ?_)) | (refine nqW_want rfl (fun K hK => ?_)) | (refine nqW_step (fun K hK => ?_); go_simp))
             first
               | (refine nq_move rfl ?_; go_simp; refine hK _ ?_; clear hK K)
               | (refine nq_assign rfl ?_; go_simp; refine hK _ ?_; clear hK K)
               | (refine nq_flt rfl rfl rfl rfl hd ?_; intro _; go_frame; refine hK _ ?_; clear hK K)
               | (refine nq_inC rfl ?_; intro w' hw'; go_simp; refine ⟨?_, ?_⟩; (next => (intro w2 hw2; go_at_call 27; exact (Rows_any _ _ _ _ _ _ w2).mono (fun e w3 ⟨he, hb⟩ => ⟨_, he, VF_rows _ q, hb2 _ _ hw2 hb⟩))); intro v hv; obtain rfl := hv.1 rfl q rfl; go_simp; refine hK _ ?_; clear hv hK K hw' w')
               | (refine nq_inC rfl ?_; intro w' hw'; go_simp; refine ⟨?_, ?_⟩; (next => (intro w2 hw2; go_at_call 28; exact (Cols_any _ _ _ _ _ _ w2).mono (fun e w3 ⟨he, hb⟩ => ⟨_, he, VF_cols _ q, hb2 _ _ hw2 hb⟩))); intro v hv; obtain rfl := hv.2.1 rfl q rfl; go_simp; refine hK _ ?_; clear hv hK K hw' w')
               | (refine nq_same ?_; intro w' hw'; go_simp; (try go_bits); refine hK _ ?_; clear hK K hw' w')
               | (refine nq_same ?_; intro w' hw'; go_simp; rw [if_pos (by omega)]; go_simp; (try go_bits); refine hK _ ?_; clear hK K hw' w')
               | (go_simp; refine hK _ ?_; clear hK K)))
      refine nqW_nil (hRw _ ?_)
      clear hc hb' hb2 hd hRw
      intro w' hw'
      simp only [List.drop_succ_cons, List.drop_zero, List.drop_nil]
      have K5 := K4.step hw'
      have hsm := K5.ok.small
      have u2 : ((nm (q.T.get zs j i) : Int) == (nm (q.get zs i j) : Int)) = true := by rw [T_get]; simp
      clear a1 a2 a3 a4 a5 a6 a7 a8 a9 t1 t2 t3 t4 t5 t6
      obtain ⟨a1, a2, a3⟩ := K5.box.facts
      obtain ⟨a4, a5, a6⟩ := (K5.more (w.heap.size + 1, [.int .i64 K, .int .i64 A, .int .i64 B, .int .i64 C, .int .i64 D]) (by simp)).facts
      obtain ⟨a7, a8, a9⟩ := (K5.more (bq, [.pointer q.p, .int .i64 q.r, .int .i64 q.c, .int .i64 q.o, .int .i64 q.d, .int .i64 q.u]) (by simp)).facts
      dsimp only at a4 a5 a6 a7 a8 a9
      go_wp2
      have hB10 : ∀ W, Below w'.heap.size w' W → v.Ok W sb zs := fun W h => K5.ok.below h
      refine wp_region_nqb 32 (VF zs) (by kernel_rfl) (by kernel_rfl) ?_
      intro Cw Rw hc hb' hb2 hd hRw
      simp only [List.take_succ_cons, List.take_zero]
      repeat (
        first
          | (refine nqW_skip rfl (fun K hK => ?_); go_frame; refine hK _ ?_; clear hK K)
          | ((first | (refine nqW_plain (fun K hK => ?_)) | (refine nqW_want rfl (fun K hK => ?_)) | (refine nqW_step (fun K hK => ?_); go_simp))
             first
               | (refine nq_move rfl ?_; go_simp; refine hK _ ?_; clear hK K)
               | (refine nq_assign rfl ?_; go_simp; refine hK _ ?_; clear hK K)
               | (refine nq_flt rfl rfl rfl rfl hd ?_; intro _; go_frame; refine hK _ ?_; clear hK K)
               | (refine nq_inC rfl ?_; intro w' hw'; go_simp; refine ⟨?_, ?_⟩; (next => (intro w2 hw2; go_at_call 34; exact (At_b w2 _ sb zs _ _ (by first | exact hB10 _ (hb' _ hw2) | exact hqok _ (hB10 _ (hb' _ hw2)) | exact hqT _ (hB10 _ (hb' _ hw2)))).mono (fun e w3 ⟨he, hb⟩ => ⟨_, he, VF_at _ _ _ _, hb2 _ _ hw2 hb⟩))); intro v hv; obtain rfl := hv.2.2.2.1 rfl _ _ _ rfl; go_simp; refine hK _ ?_; clear hv hK K hw' w')
               | (refine nq_inC rfl ?_; intro w' hw'; go_simp; refine ⟨?_, ?_⟩; (next => (intro w2 hw2; go_at_call 33; exact (Bits_b _ (get_word hWd _ _) w2).mono (fun e w3 ⟨he, hb⟩ => ⟨_, he, VF_bits _ _, hb2 _ _ hw2 hb⟩))); intro v hv; obtain rfl := hv.2.2.2.2 rfl _ rfl; go_simp; refine hK _ ?_; clear hv hK K hw' w')
               | (refine nq_inC rfl ?_; intro w' hw'; go_simp; refine ⟨?_, ?_⟩; (next => (intro w2 hw2; go_at_call 42; exact (T_b q w2).mono (fun e w3 ⟨he, hb⟩ => ⟨_, he, VF_T _ q, hb2 _ _ hw2 hb⟩))); intro v hv; obtain rfl := hv.2.2.1 rfl q rfl; go_simp; refine hK _ ?_; clear hv hK K hw' w')
               | (refine nq_same ?_; intro w' hw'; go_simp; (try go_bits); refine hK _ ?_; clear hK K hw' w')
               | (refine nq_same ?_; intro w' hw'; go_simp; rw [if_pos (by omega)]; go_simp; (try go_bits); refine hK _ ?_; clear hK K hw' w')
               | (go_simp; refine hK _ ?_; clear hK K)))
      refine nqW_nil (hRw _ ?_)
      clear hc hb' hb2 hd hRw
      intro w' hw'
      simp only [List.drop_succ_cons, List.drop_zero, List.drop_nil]
      have K6 := K5.step hw'
      go_wp2
      go_ret
      exact ⟨rfl, K6.below⟩
end Go.Proofs.Ytpjdibanjmmbkaa
