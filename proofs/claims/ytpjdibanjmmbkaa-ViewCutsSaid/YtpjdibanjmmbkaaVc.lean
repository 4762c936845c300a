/- The statement's own function: views cut of views show what the chapter says. -/
import Derived.Test.YtpjdibanjmmbkaaVs
import Derived.Test.YtpjdibanjmmbkaaVo
import Derived.Test.YtpjdibanjmmbkaaOn
import Derived.Test.YtpjdibanjmmbkaaRv9
import Derived.Test.YtpjdibanjmmbkaaNq6
namespace Go.Proofs.Ytpjdibanjmmbkaa
open Go Go.RowKit
set_option maxRecDepth 100000

/-- A vector's float is its list's. -/
theorem getVec_law (v : Vw) (ws : List Nat) (i : Int) : v.getVec ws i = if 0 ≤ i ∧ i < (lenV v.p v.r v.c : Nat) then (v.list ws).getD i.toNat 0 else 0 := by
  unfold Vw.getVec lenV
  cases hvv : vecV v.p v.r v.c
  · simp only [Bool.false_eq_true, if_false]
    rw [if_neg]
    omega
  · rw [if_pos rfl, if_pos rfl]
    by_cases hi : 0 ≤ i ∧ i < ((v.r * v.c : Nat) : Int)
    · rw [if_pos hi]
      obtain ⟨k, rfl⟩ := Int.eq_ofNat_of_zero_le hi.1
      have hk : k < v.r * v.c := by have := hi.2; omega
      rw [Int.toNat_natCast, list_getD v ws hk]
      unfold Vw.al
      by_cases hr : v.r = 1
      · rw [if_pos hr, if_pos hr]
        have hkc : k < v.c := by rw [hr, Nat.one_mul] at hk; exact hk
        rw [Nat.div_eq_of_lt hkc, Nat.mod_eq_of_lt hkc]
        rfl
      · rw [if_neg hr, if_neg hr]
        have hc1 : v.c = 1 := by
          unfold vecV at hvv
          simp only [Bool.and_eq_true, Bool.or_eq_true, decide_eq_true_eq] at hvv
          rcases hvv.2 with (h1 | h1) | h1
          · exact absurd h1 hr
          · exact h1
          · rw [h1.1] at hk; simp at hk
        rw [hc1, Nat.div_one, Nat.mod_one]
        rfl
    · rw [if_neg hi]
      have hno : inV v.r v.c (v.al i).1 (v.al i).2 = false := by
        unfold Vw.al inV
        simp only [decide_eq_false_iff_not]
        rintro ⟨h1, h2, h3, h4⟩
        apply hi
        have hvv2 := hvv
        unfold vecV at hvv2
        simp only [Bool.and_eq_true, Bool.or_eq_true, decide_eq_true_eq] at hvv2
        by_cases hr : v.r = 1
        · rw [if_pos hr] at h1 h2 h3 h4
          rw [hr, Nat.one_mul]
          exact ⟨h3, h4⟩
        · rw [if_neg hr] at h1 h2 h3 h4
          rcases hvv2.2 with (h5 | h5) | h5
          · exact absurd h5 hr
          · rw [h5, Nat.mul_one]; exact ⟨h1, h2⟩
          · rw [h5.1] at h2; omega
      unfold Vw.get
      rw [hno]
      rfl

theorem getVec_word {v : Vw} {ws : List Nat} (h : Words ws) (i : Int) : v.getVec ws i < 18446744073709551616 := by
  unfold Vw.getVec
  split
  · exact get_word h _ _
  · decide
theorem sameV_none {v : Vw} {w : World} {sb : Nat} {ws : List Nat} (h : v.Ok w sb ws) : sameV v Vw.none ws ws = !v.p.isSome := by
  rcases h with rfl | ⟨⟨st, e, _⟩, _⟩
  · exact sameV_refl _ _
  · unfold sameV
    rw [e]
    rfl

set_option maxHeartbeats 16000000 in
theorem cuts_in (w : World) (R C : Nat) (a : Option Addr) (zs : List Nat) (cap : Nat) (ka : Option Addr) (ks : List Stp) (kc : Nat) (i j leave : Int) (hZ : Cel w a zs) (hWd : Words zs) (hK : Stc w ka ks)
    (hR : R ≤ 512) (hC : C ≤ 512) (hn : zs.length = R * C) (hk : ks.length ≤ 12) (hb1 : zs.length ≤ 400) :
    Calls Try.prog 5 #[.agg #[.int .i64 R, .int .i64 C, .slice a zs.length cap], .slice ka ks.length kc, .int .i64 i, .int .i64 j, .int .i64 leave] w fun e w' => e = .returned (.bool true) ∧ Below w.heap.size w w' := by
  have hl : zs.length ≤ maxLen := by unfold maxLen; omega
  have HB1 := Lib.hid (fun W => big_any R C a zs.length cap W hl)
  rw [decide_eq_false (show ¬ 400 < zs.length by omega)] at HB1
  have HO1 := Lib.hid (fun (W : World) (hW : Below w.heap.size w W) => open_yes W R C a zs cap (hZ.below hW) hR hC hn)
  have hkd : decide (12 < (ks.length : Int)) = false := by simp; omega
  have hkd' : decide (12 < ks.length) = false := by simp; omega
  have HN := Lib.hid (show zs.length = R * C ∧ R ≤ 512 ∧ C ≤ 512 from ⟨hn, hR, hC⟩)
  have HKL := Lib.hid (show ks.length ≤ 12 ∧ zs.length ≤ 400 from ⟨hk, hb1⟩)
  clear hn hR hC hk hb1 hl
  have x0 : Box (w.alloc (.cells #[.int .i64 R, .int .i64 C, .slice a zs.length cap] 40)) w.heap.size [.int .i64 R, .int .i64 C, .slice a zs.length cap] := Box.newA w [_, _, _] _ rfl
  have hB0 : Below w.heap.size w (w.alloc (.cells #[.int .i64 R, .int .i64 C, .slice a zs.length cap] 40)) := (Below.refl _ _).alloc (Nat.le_refl _) _
  go_enter Try.func5, Try.ntmps5
  go_wp2_with fail
  refine (HB1.out _).mono ?_
  rintro e w1 ⟨rfl, hb1⟩
  have y0 := x0.below hb1
  have hB1 := below_step hB0 hB0.size hb1
  clear x0 hB0 hb1
  obtain ⟨a1, a2, a3⟩ := y0.facts
  go_wp2_with fail
  refine (HO1.out _ hB1).mono ?_
  rintro e w5 ⟨st, sb, da, dc, x, B1, rfl, hst, hsb, hst2, hsb2, hS1, hV1, hD1, hb5⟩
  obtain ⟨ea, en, ec, aa, ac, rfl, g1, g2, g3, g4⟩ := hV1
  have hV1 := RefV.lt (show RefV (fun b => B1 ≤ b) w5 da zs.length dc (newV st R C) _ from ⟨ea, en, ec, aa, ac, rfl, g1, g2, g3, g4⟩)
  clear g1 g2 g3 g4
  rw [show (newV st R C).r = R from rfl, show (newV st R C).c = C from rfl, show (newV st R C).p.isSome = true from rfl]
  rw [show (newV st R C).r = R from rfl, show (newV st R C).c = C from rfl, show (newV st R C).p.isSome = true from rfl] at hV1
  have hB5 := below_step hB1 hB1.size hb5
  have s5 := hB5.size
  have V7 : Box ((w5.alloc (.cells #[.pointer (some ⟨st, 0, none⟩), .int .i64 R, .int .i64 C, .int .i64 (0 : Nat), .int .i64 C, .int .i64 (1 : Nat)] 45)).alloc (.cells #[.slice ea en ec, .int .i64 R, .int .i64 C, .slice aa (R * C) ac, .bool true] 48)) w5.heap.size [.pointer (some ⟨st, 0, none⟩), .int .i64 R, .int .i64 C, .int .i64 (0 : Nat), .int .i64 C, .int .i64 (1 : Nat)] := (Box.newA _ _ _ rfl).alloc _
  have V8 : Box ((w5.alloc (.cells #[.pointer (some ⟨st, 0, none⟩), .int .i64 R, .int .i64 C, .int .i64 (0 : Nat), .int .i64 C, .int .i64 (1 : Nat)] 45)).alloc (.cells #[.slice ea en ec, .int .i64 R, .int .i64 C, .slice aa (R * C) ac, .bool true] 48)) (w5.heap.size + 1) [.slice ea en ec, .int .i64 R, .int .i64 C, .slice aa (R * C) ac, .bool true] := Box.newA _ [_, _, _, _, _] _ (by simp)
  have hA5 : Below w5.heap.size w5 ((w5.alloc (.cells #[.pointer (some ⟨st, 0, none⟩), .int .i64 R, .int .i64 C, .int .i64 (0 : Nat), .int .i64 C, .int .i64 (1 : Nat)] 45)).alloc (.cells #[.slice ea en ec, .int .i64 R, .int .i64 C, .slice aa (R * C) ac, .bool true] 48)) := ((Below.refl _ _).alloc (Nat.le_refl _) _).alloc (by simp) _
  have hz5 : ((w5.alloc (.cells #[.pointer (some ⟨st, 0, none⟩), .int .i64 R, .int .i64 C, .int .i64 (0 : Nat), .int .i64 C, .int .i64 (1 : Nat)] 45)).alloc (.cells #[.slice ea en ec, .int .i64 R, .int .i64 C, .slice aa (R * C) ac, .bool true] 48)).heap.size = w5.heap.size + 2 := by simp
  clear a1 a2 a3 y0 hb5 hB1
  go_wp2_with fail
  generalize ((w5.alloc (.cells #[.pointer (some ⟨st, 0, none⟩), .int .i64 R, .int .i64 C, .int .i64 (0 : Nat), .int .i64 C, .int .i64 (1 : Nat)] 45)).alloc (.cells #[.slice ea en ec, .int .i64 R, .int .i64 C, .slice aa (R * C) ac, .bool true] 48)) = W7 at *
  have hcu := cut_any W7 (newV st R C) _ da zs.length dc _ ka ks kc (hK.below (below_step hB5 s5 hA5)) HKL.out.1 (newV_bnd HN.out.2.1 HN.out.2.2) (hV1.below hA5)
  refine hcu.mono ?_
  clear hcu
  rintro e w8 ⟨x2, rfl, hV1d, hb8⟩
  obtain ⟨fa, fn, fc, ga, gc, rfl, g1, g2, g3, g4⟩ := hV1d
  have hV1d := (show RefV (fun b => (B1 ≤ b ∧ b < w5.heap.size) ∨ W7.heap.size ≤ b) w8 da zs.length dc (cutV (newV st R C) ks) _ from ⟨fa, fn, fc, ga, gc, rfl, g1, g2, g3, g4⟩)
  clear g1 g2 g3 g4
  have hok : ∀ W, Sto W (some ⟨st, 0, none⟩) sb zs → (cutV (newV st R C) ks).Ok W sb zs := fun W hW => cutV_ok ks (newV_ok hW HN.out.2.1 HN.out.2.2 HN.out.1)
  generalize cutV (newV st R C) ks = v at *
  have V7d := V7.below hb8
  have V8d := V8.below hb8
  have hB8 := below_step (below_step hB5 s5 hA5) (below_step hB5 s5 hA5).size hb8
  have h58 := below_step hA5 hA5.size hb8
  have s8 := hb8.size
  clear V7 V8 hV1
  obtain ⟨a1, a2, a3⟩ := V7d.facts
  obtain ⟨a4, a5, a6⟩ := V8d.facts
  go_wp2_with fail
  obtain ⟨W6x, hW6x⟩ : ∃ W6x, W6x = ((((((w8.setCell ⟨w5.heap.size, 0, none⟩ (.pointer v.p)).setCell ⟨w5.heap.size, 1, none⟩ (.int .i64 v.r)).setCell ⟨w5.heap.size, 2, none⟩ (.int .i64 v.c)).setCell ⟨w5.heap.size, 3, none⟩ (.int .i64 v.o)).setCell ⟨w5.heap.size, 4, none⟩ (.int .i64 v.d)).setCell ⟨w5.heap.size, 5, none⟩ (.int .i64 v.u)) := ⟨_, rfl⟩
  obtain ⟨W9, hW9⟩ : ∃ W9, W9 = (((((W6x.setCell ⟨w5.heap.size + 1, 0, none⟩ (.slice fa fn fc)).setCell ⟨w5.heap.size + 1, 1, none⟩ (.int .i64 v.r)).setCell ⟨w5.heap.size + 1, 2, none⟩ (.int .i64 v.c)).setCell ⟨w5.heap.size + 1, 3, none⟩ (.slice ga (v.r * v.c) gc)).setCell ⟨w5.heap.size + 1, 4, none⟩ (.bool v.p.isSome)) := ⟨_, rfl⟩
  rw [← hW6x, ← hW9]
  have hg1 : ∀ B, Bel B w5.heap.size w8 W6x := fun B => by rw [hW6x]; exact ((((((Bel.refl _ _ _).set _ _).set _ _).set _ _).set _ _).set _ _).set _ _
  have hg2 : ∀ B, Bel B (w5.heap.size + 1) W6x W9 := fun B => by rw [hW9]; exact Bel.refl5 B _ _ _ _ _
  have k7 : Box W9 w5.heap.size [.pointer v.p, .int .i64 v.r, .int .i64 v.c, .int .i64 v.o, .int .i64 v.d, .int .i64 v.u] := by rw [hW9, hW6x]; exact (V7d.put6 _ _ _ _ _ _).other5 (by omega) _ _ _ _ _
  have k8 : Box W9 (w5.heap.size + 1) [.slice fa fn fc, .int .i64 v.r, .int .i64 v.c, .slice ga (v.r * v.c) gc, .bool v.p.isSome] := by rw [hW9, hW6x]; exact (V8d.other6 (by omega) _ _ _ _ _ _).put5 _ _ _ _ _
  clear hW6x hW9 a1 a2 a3 a4 a5 a6 V7d V8d
  have hV1 := (hV1d.bel (s := w5.heap.size) (by omega) (hg1 _)).bel (s := w5.heap.size + 1) (by omega) (hg2 _)
  have h59 : Below w5.heap.size w5 W9 := (h58.trans ((hg1 _).below (Nat.le_refl _))).trans ((hg2 _).below (by omega))
  have hS1 := hS1.below h59
  have hC1 : Cel W9 da zs := (Cel.owns hD1).below h59
  have hB9 : Below w.heap.size w W9 := (hB8.trans ((hg1 _).below (by omega))).trans ((hg2 _).below (by omega))
  have hok1 := hok W9 hS1
  have hsm := hok1.small
  have hin1 := ok_pls hok1
  have HZ := Lib.hid (get_word (v := v) hWd i j)
  clear hV1d hS1 h58 h59 hD1 hg1 hg2 hB8 hok
  have HA := Lib.hid (fun (W : World) (hW : Below W9.heap.size W9 W) => At_b W v sb zs i j (hok1.below hW))
  have HG := Lib.hid (fun (W : World) (hW : Below W9.heap.size W9 W) => ref_get W v sb da zs dc _ i j (hok1.below hW) (hV1.below hW) (hC1.below hW))
  have HL := Lib.hid (fun (W : World) (hW : Below W9.heap.size W9 W) => ref_len W v da zs.length dc _ (hV1.below hW) hsm.1 hsm.2)
  have HV := Lib.hid (fun (W : World) (hW : Below W9.heap.size W9 W) => ref_vector W v da zs.length dc _ (hV1.below hW))
  have HL0 := Lib.hid (fun (W : World) => Len_any v.p v.r v.c v.o v.d v.u W hsm.1 hsm.2)
  have HV0 := Lib.hid (fun (W : World) => Vector_any v.p v.r v.c v.o v.d v.u W)
  obtain ⟨z, hz⟩ : ∃ z, z = v.get zs i j := ⟨_, rfl⟩
  obtain ⟨lb, hlb⟩ : ∃ lb, lb = lenV v.p v.r v.c := ⟨_, rfl⟩
  rw [← hz] at HA HG HZ
  rw [← hlb] at HL HL0
  have HLB := Lib.hid hlb
  clear hz hlb
  generalize vecV v.p v.r v.c = vb at HV HV0
  obtain ⟨a1, a2, a3⟩ := k7.facts
  obtain ⟨a4, a5, a6⟩ := k8.facts
  refine wp_region_nqd 39  (by kernel_rfl) (by kernel_rfl) ?_
  intro Cw Rw hc hb' hb2 hd hRw
  simp only [List.take_succ_cons, List.take_zero]
  repeat (
    first
      | (refine nqW_skip rfl (fun K hK => ?_); go_frame; refine hK _ ?_; clear hK K)
      | ((first | (refine nqW_plain (fun K hK => ?_)) | (refine nqW_want rfl (fun K hK => ?_)) | (refine nqW_step (fun K hK => ?_); go_simp))
         first
           | (refine nq_move rfl ?_; go_simp; refine hK _ ?_; clear hK K)
           | (refine nq_assign rfl ?_; go_simp; refine hK _ ?_; clear hK K)
           | (refine nq_flt rfl rfl rfl rfl hd ?_; intro _; go_frame; refine hK _ ?_; clear hK K)
           | (refine nq_inC rfl ?_; intro w' hw'; go_simp; refine fd_both (V := (.int .i64 v.r)) (by kernel_rfl) (fun w2 hw2 => ?_) ?_; (next => (go_at_call 27; exact (Rows_any v.p v.r v.c v.o v.d v.u w2).mono (fun e w3 ⟨he, hb⟩ => ⟨he, hb2 _ _ hw2 hb⟩))); (try go_simp); refine hK _ ?_; clear hK K hw' w')
           | (refine nq_inC rfl ?_; intro w' hw'; go_simp; refine fd_both (V := (.int .i64 v.c)) (by kernel_rfl) (fun w2 hw2 => ?_) ?_; (next => (go_at_call 28; exact (Cols_any v.p v.r v.c v.o v.d v.u w2).mono (fun e w3 ⟨he, hb⟩ => ⟨he, hb2 _ _ hw2 hb⟩))); (try go_simp); refine hK _ ?_; clear hK K hw' w')
           | (refine nq_inC rfl ?_; intro w' hw'; go_simp; refine fd_both (V := (.bool vb)) (by kernel_rfl) (fun w2 hw2 => ?_) ?_; (next => (go_at_call 29; exact (HV0.out w2).mono (fun e w3 ⟨he, hb⟩ => ⟨he, hb2 _ _ hw2 hb⟩))); (try go_simp); refine hK _ ?_; clear hK K hw' w')
           | (refine nq_inC rfl ?_; intro w' hw'; go_simp; refine fd_both (V := (.bool vb)) (by kernel_rfl) (fun w2 hw2 => ?_) ?_; (next => (go_at_call 30; exact (HV.out w2 (hb' _ hw2)).mono (fun e w3 ⟨he, hb⟩ => ⟨he, hb2 _ _ hw2 hb⟩))); (try go_simp); refine hK _ ?_; clear hK K hw' w')
           | (refine nq_inC rfl ?_; intro w' hw'; go_simp; refine fd_both (V := (.int .i64 lb)) (by kernel_rfl) (fun w2 hw2 => ?_) ?_; (next => (go_at_call 31; exact (HL0.out w2).mono (fun e w3 ⟨he, hb⟩ => ⟨he, hb2 _ _ hw2 hb⟩))); (try go_simp); refine hK _ ?_; clear hK K hw' w')
           | (refine nq_inC rfl ?_; intro w' hw'; go_simp; refine fd_both (V := (.int .i64 lb)) (by kernel_rfl) (fun w2 hw2 => ?_) ?_; (next => (go_at_call 32; exact (HL.out w2 (hb' _ hw2)).mono (fun e w3 ⟨he, hb⟩ => ⟨he, hb2 _ _ hw2 hb⟩))); (try go_simp); refine hK _ ?_; clear hK K hw' w')
           | (refine nq_inC rfl ?_; intro w' hw'; go_simp; refine fd_both (V := (.float .f64 z)) (by kernel_rfl) (fun w2 hw2 => ?_) ?_; (next => (go_at_call 34; exact (HA.out w2 (hb' _ hw2)).mono (fun e w3 ⟨he, hb⟩ => ⟨he, hb2 _ _ hw2 hb⟩))); (try go_simp); refine hK _ ?_; clear hK K hw' w')
           | (refine nq_inC rfl ?_; intro w' hw'; go_simp; refine fd_both (V := (.int .u64 (nm z))) (by kernel_rfl) (fun w2 hw2 => ?_) ?_; (next => (go_at_call 33; exact (Bits_b z HZ.out w2).mono (fun e w3 ⟨he, hb⟩ => ⟨he, hb2 _ _ hw2 hb⟩))); (try go_simp); refine hK _ ?_; clear hK K hw' w')
           | (refine nq_inC rfl ?_; intro w' hw'; go_simp; refine fd_both (V := (.float .f64 z)) (by kernel_rfl) (fun w2 hw2 => ?_) ?_; (next => (go_at_call 35; exact (HG.out w2 (hb' _ hw2)).mono (fun e w3 ⟨he, hb⟩ => ⟨he, hb2 _ _ hw2 hb⟩))); (try go_simp); refine hK _ ?_; clear hK K hw' w')
           | (refine nq_same ?_; intro w' hw'; go_simp; (try go_bits); refine hK _ ?_; clear hK K hw' w')
           | (refine nq_same ?_; intro w' hw'; go_simp; rw [if_pos (by omega)]; go_simp; (try go_bits); refine hK _ ?_; clear hK K hw' w')
           | (go_simp; refine hK _ ?_; clear hK K)))
  refine nqW_nil (hRw _ ?_)
  clear hc hb' hb2 hd hRw
  intro w' hw'
  simp only [List.drop]
  have k7 := k7.below hw'
  have k8 := k8.below hw'
  have hV1 := hV1.below hw'
  have hC1 := hC1.below hw'
  have hok1 := hok1.below hw'
  have hB9 := below_step hB9 hB9.size hw'
  clear a1 a2 a3 a4 a5 a6 HA HG HV HV0 HL0 HZ
  have hvl : (v.list zs).length ≤ maxLen := by rw [list_length]; exact Nat.le_trans (Nat.mul_le_mul hsm.1 hsm.2) (by decide)
  have hlaw := getVec_law v zs i
  rw [← HLB.out] at hlaw
  have hBX : ∃ Wx, Wx = w' := ⟨_, rfl⟩
  have sameNone : sameV v Vw.none zs zs = !v.p.isSome := sameV_none hok1
  have hlbl : lb ≤ v.r * v.c := by rw [HLB.out]; unfold lenV; split <;> omega
  have HLAW := Lib.hid hlaw
  have HS := Lib.hid sameNone
  have HBL := Lib.hid hlbl
  have HVL := Lib.hid hvl
  have HIN := Lib.hid hin1
  clear hlaw sameNone hlbl hvl hin1 hBX
  by_cases hi0 : 0 ≤ i
  case neg =>
    have t1 : decide (0 ≤ i) = false := decide_eq_false hi0
    have hyv : v.getVec zs i = 0 := by rw [HLAW.out, if_neg (fun h => hi0 h.1)]
    clear hi0 HLAW HL
    go_wp2
    have hB10 := hB9
    have sameNone := HS.out
    have hvl := HVL.out
    have hin1 := HIN.out
    generalize w' = W10 at *
    have hvw : 0 < 18446744073709551616 := by rw [← hyv]; exact getVec_word hWd i
    obtain ⟨a1, a2, a3⟩ := k7.facts
    obtain ⟨a4, a5, a6⟩ := k8.facts
    have s0 := (SB.refl (w0 := W10) (Nat.le_refl W10.heap.size)).S
    refine wp_region_items 37 [(true, 0), (true, 1), (true, 4), (false, 2), (false, 3), (false, 5), (true, 6), (true, 7), (true, 8), (true, 10), (false, 9), (false, 11), (false, 12), (true, 13), (true, 14), (true, 15), (true, 16), (true, 17), (false, 18), (true, 19), (true, 20), (true, 21), (true, 22), (false, 23), (true, 24), (true, 25), (true, 26), (true, 27), (true, 29), (true, 30), (true, 31), (false, 28), (true, 32), (true, 33), (true, 34), (false, 35), (true, 36)] (fun W => SB W10.heap.size W10 W ∧ ∀ b o, b < W10.heap.size → W.cell? ⟨b, o, none⟩ = W10.cell? ⟨b, o, none⟩) (by kernel_rfl) (by kernel_rfl) (SBS.drew s0) ?_
    iterate 3 (refine iW_take (v := ?_) rfl rfl ?_ ?_; rotate_left; (next => (intro w' hSw; (try dsimp only at hSw); go_simp; (try with_reducible rfl))); (simp only [Act.put, List.setIfInBounds_toArray, List.set_cons_zero, List.set_cons_succ]))
    clear s0
    have hs0 : Below W10.heap.size W10 W10.drew := below_drewN 1 (Below.refl _ _)
    have HHC := Lib.hid (fun W (h : Below W10.heap.size W10 W) => Get_any W v sb zs i (hok1.below h))
    rw [hyv] at HHC
    refine iW_mid rfl rfl ?_
    go_simp
    go_at_call 37
    refine (HHC.out _ hs0).mono ?_
    rintro e u' ⟨rfl, hbn⟩
    have hs1 : Below W10.heap.size W10 u' := below_step hs0 hs0.size hbn
    refine ⟨(SB.of hs1 hs1.size).S, ?_⟩
    refine iW_mid rfl rfl ?_
    go_simp
    go_at_call 33
    refine (Bits_b 0 hvw _).mono ?_
    rintro e u' ⟨rfl, hbn⟩
    have hs2 : Below W10.heap.size W10 u' := below_step hs1 hs1.size hbn
    refine ⟨(SB.of hs2 hs2.size).S, ?_⟩
    refine iW_mid rfl rfl ?_
    go_simp
    go_at_call 33
    refine (Bits_b 0 hvw _).mono ?_
    rintro e u' ⟨rfl, hbn⟩
    have hs3 : Below W10.heap.size W10 u' := below_step hs2 hs2.size hbn
    refine ⟨(SB.of hs3 hs3.size).S, ?_⟩
    iterate 4 (refine iW_take (v := ?_) rfl rfl ?_ ?_; rotate_left; (next => (intro w' hSw; (try dsimp only at hSw); go_simp; (try with_reducible rfl))); (simp only [Act.put, List.setIfInBounds_toArray, List.set_cons_zero, List.set_cons_succ]))
    refine iW_mid rfl rfl ?_
    go_simp
    go_at_call 38
    refine (Matrix_any _ v sb zs (hok1.below hs3)).mono ?_
    rintro e u' ⟨sv, rfl, hrow, hbn⟩
    obtain ⟨ma, mc, rfl, hM1⟩ := cel_of_row hrow
    clear hrow
    have hs4 : Below W10.heap.size W10 u' := below_step hs3 hs3.size hbn
    refine ⟨(SB.of hs4 hs4.size).S, ?_⟩
    refine iW_mid rfl rfl ?_
    go_simp
    go_at_call 25
    refine (ref_matrix _ v da zs dc _ (hV1.below hs4) (hC1.below hs4) hin1 hsm.1 hsm.2).mono ?_
    rintro e u' ⟨sv, rfl, hrow, hbn⟩
    obtain ⟨ma', mc', rfl, hM2⟩ := cel_of_row hrow
    clear hrow
    have hM1 := hM1.below hbn
    have hs5 : Below W10.heap.size W10 u' := below_step hs4 hs4.size hbn
    refine ⟨(SB.of hs5 hs5.size).S, ?_⟩
    refine iW_mid rfl rfl ?_
    go_simp
    go_at_call 24
    refine (SameMatrix_any _ v.r v.c v.r v.c ma ma' (v.list zs) (v.list zs) mc mc' hM1 hM2 (list_words hWd) (list_words hWd) hvl hvl).mono ?_
    rintro e u' ⟨rfl, hbn⟩
    rw [sameM_refl]
    have hs6 : Below W10.heap.size W10 u' := below_step hs5 hs5.size hbn
    refine ⟨(SB.of hs6 hs6.size).S, ?_⟩
    iterate 5 (refine iW_take (v := ?_) rfl rfl ?_ ?_; rotate_left; (next => (intro w' hSw; (try dsimp only at hSw); go_simp; (try with_reducible rfl))); (simp only [Act.put, List.setIfInBounds_toArray, List.set_cons_zero, List.set_cons_succ]))
    refine iW_mid rfl rfl ?_
    go_simp
    go_at_call 39
    refine (once_any _ v sb zs da dc _ _ leave (hok1.below hs6) (hV1.below hs6) (hC1.below hs6) hWd).mono ?_
    rintro e u' ⟨rfl, hbn⟩
    have hs7 : Below W10.heap.size W10 u' := below_step hs6 hs6.size hbn
    refine ⟨(SB.of hs7 hs7.size).S, ?_⟩
    iterate 4 (refine iW_take (v := ?_) rfl rfl ?_ ?_; rotate_left; (next => (intro w' hSw; (try dsimp only at hSw); go_simp; (try with_reducible rfl))); (simp only [Act.put, List.setIfInBounds_toArray, List.set_cons_zero, List.set_cons_succ]))
    refine iW_mid rfl rfl ?_
    go_simp
    go_at_call 39
    refine (once_any _ v sb zs da dc _ _ 0 (hok1.below hs7) (hV1.below hs7) (hC1.below hs7) hWd).mono ?_
    rintro e u' ⟨rfl, hbn⟩
    have hs8 : Below W10.heap.size W10 u' := below_step hs7 hs7.size hbn
    refine ⟨(SB.of hs8 hs8.size).S, ?_⟩
    iterate 7 (refine iW_take (v := ?_) rfl rfl ?_ ?_; rotate_left; (next => (intro w' hSw; (try dsimp only at hSw); go_simp; (try with_reducible rfl))); (simp only [Act.put, List.setIfInBounds_toArray, List.set_cons_zero, List.set_cons_succ]))
    refine iW_mid rfl rfl ?_
    go_simp
    go_at_call 26
    refine (Same_any _ v Vw.none sb sb zs zs (hok1.below hs8) (none_ok _ _ _)).mono ?_
    rintro e u' ⟨rfl, hbn⟩
    rw [sameNone]
    have hs9 : Below W10.heap.size W10 u' := below_step hs8 hs8.size hbn
    refine ⟨(SB.of hs9 hs9.size).S, ?_⟩
    iterate 3 (refine iW_take (v := ?_) rfl rfl ?_ ?_; rotate_left; (next => (intro w' hSw; (try dsimp only at hSw); go_simp; (try with_reducible rfl))); (simp only [Act.put, List.setIfInBounds_toArray, List.set_cons_zero, List.set_cons_succ]))
    refine iW_mid rfl rfl ?_
    go_simp
    go_at_call 21
    refine (known07 _).mono ?_
    rintro e u' ⟨rfl, hbn⟩
    have hs10 : Below W10.heap.size W10 u' := below_step hs9 hs9.size hbn
    refine ⟨(SB.of hs10 hs10.size).S, ?_⟩
    iterate 1 (refine iW_take (v := ?_) rfl rfl ?_ ?_; rotate_left; (next => (intro w' hSw; (try dsimp only at hSw); go_simp; (try with_reducible rfl))); (simp only [Act.put, List.setIfInBounds_toArray, List.set_cons_zero, List.set_cons_succ]))
    refine iW_nil ?_
    (try simp only [List.drop])
    have hBf := below_step hB10 hB10.size hs10
    go_wp2
    refine NoPanic.normal ?_
    go_wp2
    go_ret
    exact ⟨rfl, hBf⟩
  case pos =>
    have t1 : decide (0 ≤ i) = true := decide_eq_true hi0
    obtain ⟨a1, a2, a3⟩ := k8.facts
    go_wp2_with fail
    refine (HL.out _ hw').mono ?_
    rintro e w10 ⟨rfl, hb10⟩
    clear a1 a2 a3 HL
    have k7 := k7.below hb10
    have k8 := k8.below hb10
    have hV1 := hV1.below hb10
    have hC1 := hC1.below hb10
    have hok1 := hok1.below hb10
    have hB10 := below_step hB9 hB9.size hb10
    cases hlt : decide (i < (lb : Int))
    case false =>
      have hyv : v.getVec zs i = 0 := by rw [HLAW.out, if_neg (fun h => absurd (decide_eq_true h.2) (by rw [hlt]; decide))]
      clear hi0 HLAW
      go_wp2
      have sameNone := HS.out
      have hvl := HVL.out
      have hin1 := HIN.out
      generalize w10 = W10 at *
      have hvw : 0 < 18446744073709551616 := by rw [← hyv]; exact getVec_word hWd i
      obtain ⟨a1, a2, a3⟩ := k7.facts
      obtain ⟨a4, a5, a6⟩ := k8.facts
      have s0 := (SB.refl (w0 := W10) (Nat.le_refl W10.heap.size)).S
      refine wp_region_items 37 [(true, 0), (true, 1), (true, 4), (false, 2), (false, 3), (false, 5), (true, 6), (true, 7), (true, 8), (true, 10), (false, 9), (false, 11), (false, 12), (true, 13), (true, 14), (true, 15), (true, 16), (true, 17), (false, 18), (true, 19), (true, 20), (true, 21), (true, 22), (false, 23), (true, 24), (true, 25), (true, 26), (true, 27), (true, 29), (true, 30), (true, 31), (false, 28), (true, 32), (true, 33), (true, 34), (false, 35), (true, 36)] (fun W => SB W10.heap.size W10 W ∧ ∀ b o, b < W10.heap.size → W.cell? ⟨b, o, none⟩ = W10.cell? ⟨b, o, none⟩) (by kernel_rfl) (by kernel_rfl) (SBS.drew s0) ?_
      iterate 3 (refine iW_take (v := ?_) rfl rfl ?_ ?_; rotate_left; (next => (intro w' hSw; (try dsimp only at hSw); go_simp; (try with_reducible rfl))); (simp only [Act.put, List.setIfInBounds_toArray, List.set_cons_zero, List.set_cons_succ]))
      clear s0
      have hs0 : Below W10.heap.size W10 W10.drew := below_drewN 1 (Below.refl _ _)
      have HHC := Lib.hid (fun W (h : Below W10.heap.size W10 W) => Get_any W v sb zs i (hok1.below h))
      rw [hyv] at HHC
      refine iW_mid rfl rfl ?_
      go_simp
      go_at_call 37
      refine (HHC.out _ hs0).mono ?_
      rintro e u' ⟨rfl, hbn⟩
      have hs1 : Below W10.heap.size W10 u' := below_step hs0 hs0.size hbn
      refine ⟨(SB.of hs1 hs1.size).S, ?_⟩
      refine iW_mid rfl rfl ?_
      go_simp
      go_at_call 33
      refine (Bits_b 0 hvw _).mono ?_
      rintro e u' ⟨rfl, hbn⟩
      have hs2 : Below W10.heap.size W10 u' := below_step hs1 hs1.size hbn
      refine ⟨(SB.of hs2 hs2.size).S, ?_⟩
      refine iW_mid rfl rfl ?_
      go_simp
      go_at_call 33
      refine (Bits_b 0 hvw _).mono ?_
      rintro e u' ⟨rfl, hbn⟩
      have hs3 : Below W10.heap.size W10 u' := below_step hs2 hs2.size hbn
      refine ⟨(SB.of hs3 hs3.size).S, ?_⟩
      iterate 4 (refine iW_take (v := ?_) rfl rfl ?_ ?_; rotate_left; (next => (intro w' hSw; (try dsimp only at hSw); go_simp; (try with_reducible rfl))); (simp only [Act.put, List.setIfInBounds_toArray, List.set_cons_zero, List.set_cons_succ]))
      refine iW_mid rfl rfl ?_
      go_simp
      go_at_call 38
      refine (Matrix_any _ v sb zs (hok1.below hs3)).mono ?_
      rintro e u' ⟨sv, rfl, hrow, hbn⟩
      obtain ⟨ma, mc, rfl, hM1⟩ := cel_of_row hrow
      clear hrow
      have hs4 : Below W10.heap.size W10 u' := below_step hs3 hs3.size hbn
      refine ⟨(SB.of hs4 hs4.size).S, ?_⟩
      refine iW_mid rfl rfl ?_
      go_simp
      go_at_call 25
      refine (ref_matrix _ v da zs dc _ (hV1.below hs4) (hC1.below hs4) hin1 hsm.1 hsm.2).mono ?_
      rintro e u' ⟨sv, rfl, hrow, hbn⟩
      obtain ⟨ma', mc', rfl, hM2⟩ := cel_of_row hrow
      clear hrow
      have hM1 := hM1.below hbn
      have hs5 : Below W10.heap.size W10 u' := below_step hs4 hs4.size hbn
      refine ⟨(SB.of hs5 hs5.size).S, ?_⟩
      refine iW_mid rfl rfl ?_
      go_simp
      go_at_call 24
      refine (SameMatrix_any _ v.r v.c v.r v.c ma ma' (v.list zs) (v.list zs) mc mc' hM1 hM2 (list_words hWd) (list_words hWd) hvl hvl).mono ?_
      rintro e u' ⟨rfl, hbn⟩
      rw [sameM_refl]
      have hs6 : Below W10.heap.size W10 u' := below_step hs5 hs5.size hbn
      refine ⟨(SB.of hs6 hs6.size).S, ?_⟩
      iterate 5 (refine iW_take (v := ?_) rfl rfl ?_ ?_; rotate_left; (next => (intro w' hSw; (try dsimp only at hSw); go_simp; (try with_reducible rfl))); (simp only [Act.put, List.setIfInBounds_toArray, List.set_cons_zero, List.set_cons_succ]))
      refine iW_mid rfl rfl ?_
      go_simp
      go_at_call 39
      refine (once_any _ v sb zs da dc _ _ leave (hok1.below hs6) (hV1.below hs6) (hC1.below hs6) hWd).mono ?_
      rintro e u' ⟨rfl, hbn⟩
      have hs7 : Below W10.heap.size W10 u' := below_step hs6 hs6.size hbn
      refine ⟨(SB.of hs7 hs7.size).S, ?_⟩
      iterate 4 (refine iW_take (v := ?_) rfl rfl ?_ ?_; rotate_left; (next => (intro w' hSw; (try dsimp only at hSw); go_simp; (try with_reducible rfl))); (simp only [Act.put, List.setIfInBounds_toArray, List.set_cons_zero, List.set_cons_succ]))
      refine iW_mid rfl rfl ?_
      go_simp
      go_at_call 39
      refine (once_any _ v sb zs da dc _ _ 0 (hok1.below hs7) (hV1.below hs7) (hC1.below hs7) hWd).mono ?_
      rintro e u' ⟨rfl, hbn⟩
      have hs8 : Below W10.heap.size W10 u' := below_step hs7 hs7.size hbn
      refine ⟨(SB.of hs8 hs8.size).S, ?_⟩
      iterate 7 (refine iW_take (v := ?_) rfl rfl ?_ ?_; rotate_left; (next => (intro w' hSw; (try dsimp only at hSw); go_simp; (try with_reducible rfl))); (simp only [Act.put, List.setIfInBounds_toArray, List.set_cons_zero, List.set_cons_succ]))
      refine iW_mid rfl rfl ?_
      go_simp
      go_at_call 26
      refine (Same_any _ v Vw.none sb sb zs zs (hok1.below hs8) (none_ok _ _ _)).mono ?_
      rintro e u' ⟨rfl, hbn⟩
      rw [sameNone]
      have hs9 : Below W10.heap.size W10 u' := below_step hs8 hs8.size hbn
      refine ⟨(SB.of hs9 hs9.size).S, ?_⟩
      iterate 3 (refine iW_take (v := ?_) rfl rfl ?_ ?_; rotate_left; (next => (intro w' hSw; (try dsimp only at hSw); go_simp; (try with_reducible rfl))); (simp only [Act.put, List.setIfInBounds_toArray, List.set_cons_zero, List.set_cons_succ]))
      refine iW_mid rfl rfl ?_
      go_simp
      go_at_call 21
      refine (known07 _).mono ?_
      rintro e u' ⟨rfl, hbn⟩
      have hs10 : Below W10.heap.size W10 u' := below_step hs9 hs9.size hbn
      refine ⟨(SB.of hs10 hs10.size).S, ?_⟩
      iterate 1 (refine iW_take (v := ?_) rfl rfl ?_ ?_; rotate_left; (next => (intro w' hSw; (try dsimp only at hSw); go_simp; (try with_reducible rfl))); (simp only [Act.put, List.setIfInBounds_toArray, List.set_cons_zero, List.set_cons_succ]))
      refine iW_nil ?_
      (try simp only [List.drop])
      have hBf := below_step hB10 hB10.size hs10
      go_wp2
      refine NoPanic.normal ?_
      go_wp2
      go_ret
      exact ⟨rfl, hBf⟩
    case true =>
      have hyv0 : v.getVec zs i = (v.list zs).getD i.toNat 0 := by rw [HLAW.out, if_pos ⟨hi0, of_decide_eq_true hlt⟩]
      have hin1 := HIN.out
      obtain ⟨k, rfl⟩ := Int.eq_ofNat_of_zero_le hi0
      have hkl : k < v.r * v.c := by have := of_decide_eq_true hlt; have := HBL.out; omega
      rw [Int.toNat_natCast] at hyv0
      have hlt2 : decide (k < lb) = true := by have := of_decide_eq_true hlt; exact decide_eq_true (by omega)
      clear hi0 HLAW
      obtain ⟨a1, a2, a3⟩ := k8.facts
      go_wp2_with fail
      refine (ref_list _ v da zs dc _ hV1 hC1 hin1 hsm.1 hsm.2).mono ?_
      rintro e w11 ⟨sv, rfl, hrow, hb11⟩
      obtain ⟨la, lc, rfl, hL1⟩ := cel_of_row hrow
      clear hrow a1 a2 a3
      have hzl := list_length v zs
      have hLN : k < (v.list zs).length := by omega
      obtain ⟨bl, ol, rfl, hbl, hcl⟩ := hL1 (by intro e; rw [e] at hLN; exact absurd hLN (Nat.not_lt_zero _))
      have c1 := hcl k ((v.list zs).getD k 0) (by simp [hLN])
      obtain ⟨z2, hz2⟩ : ∃ z2, z2 = (v.list zs).getD k 0 := ⟨_, rfl⟩
      rw [← hz2] at c1 hyv0
      have hyv := hyv0
      have HZL := Lib.hid hzl
      clear hz2 hcl hyv0 hzl
      have k7 := k7.below hb11
      have k8 := k8.below hb11
      have hV1 := hV1.below hb11
      have hC1 := hC1.below hb11
      have hok1 := hok1.below hb11
      have hB10 := below_step hB10 hB10.size hb11
      go_wp2
      have sameNone := HS.out
      have hvl := HVL.out
      generalize w11 = W10 at *
      have hvw : z2 < 18446744073709551616 := by rw [← hyv]; exact getVec_word hWd (k : Int)
      obtain ⟨a1, a2, a3⟩ := k7.facts
      obtain ⟨a4, a5, a6⟩ := k8.facts
      have s0 := (SB.refl (w0 := W10) (Nat.le_refl W10.heap.size)).S
      refine wp_region_items 37 [(true, 0), (true, 1), (true, 4), (false, 2), (false, 3), (false, 5), (true, 6), (true, 7), (true, 8), (true, 10), (false, 9), (false, 11), (false, 12), (true, 13), (true, 14), (true, 15), (true, 16), (true, 17), (false, 18), (true, 19), (true, 20), (true, 21), (true, 22), (false, 23), (true, 24), (true, 25), (true, 26), (true, 27), (true, 29), (true, 30), (true, 31), (false, 28), (true, 32), (true, 33), (true, 34), (false, 35), (true, 36)] (fun W => SB W10.heap.size W10 W ∧ ∀ b o, b < W10.heap.size → W.cell? ⟨b, o, none⟩ = W10.cell? ⟨b, o, none⟩) (by kernel_rfl) (by kernel_rfl) (SBS.drew s0) ?_
      iterate 3 (refine iW_take (v := ?_) rfl rfl ?_ ?_; rotate_left; (next => (intro w' hSw; (try dsimp only at hSw); go_simp; (try with_reducible rfl))); (simp only [Act.put, List.setIfInBounds_toArray, List.set_cons_zero, List.set_cons_succ]))
      clear s0
      have hs0 : Below W10.heap.size W10 W10.drew := below_drewN 1 (Below.refl _ _)
      have HHC := Lib.hid (fun W (h : Below W10.heap.size W10 W) => Get_any W v sb zs (k : Int) (hok1.below h))
      rw [hyv] at HHC
      refine iW_mid rfl rfl ?_
      go_simp
      go_at_call 37
      refine (HHC.out _ hs0).mono ?_
      rintro e u' ⟨rfl, hbn⟩
      have hs1 : Below W10.heap.size W10 u' := below_step hs0 hs0.size hbn
      refine ⟨(SB.of hs1 hs1.size).S, ?_⟩
      refine iW_mid rfl rfl ?_
      go_simp
      go_at_call 33
      refine (Bits_b z2 hvw _).mono ?_
      rintro e u' ⟨rfl, hbn⟩
      have hs2 : Below W10.heap.size W10 u' := below_step hs1 hs1.size hbn
      refine ⟨(SB.of hs2 hs2.size).S, ?_⟩
      refine iW_mid rfl rfl ?_
      go_simp
      go_at_call 33
      refine (Bits_b z2 hvw _).mono ?_
      rintro e u' ⟨rfl, hbn⟩
      have hs3 : Below W10.heap.size W10 u' := below_step hs2 hs2.size hbn
      refine ⟨(SB.of hs3 hs3.size).S, ?_⟩
      iterate 4 (refine iW_take (v := ?_) rfl rfl ?_ ?_; rotate_left; (next => (intro w' hSw; (try dsimp only at hSw); go_simp; (try with_reducible rfl))); (simp only [Act.put, List.setIfInBounds_toArray, List.set_cons_zero, List.set_cons_succ]))
      refine iW_mid rfl rfl ?_
      go_simp
      go_at_call 38
      refine (Matrix_any _ v sb zs (hok1.below hs3)).mono ?_
      rintro e u' ⟨sv, rfl, hrow, hbn⟩
      obtain ⟨ma, mc, rfl, hM1⟩ := cel_of_row hrow
      clear hrow
      have hs4 : Below W10.heap.size W10 u' := below_step hs3 hs3.size hbn
      refine ⟨(SB.of hs4 hs4.size).S, ?_⟩
      refine iW_mid rfl rfl ?_
      go_simp
      go_at_call 25
      refine (ref_matrix _ v da zs dc _ (hV1.below hs4) (hC1.below hs4) hin1 hsm.1 hsm.2).mono ?_
      rintro e u' ⟨sv, rfl, hrow, hbn⟩
      obtain ⟨ma', mc', rfl, hM2⟩ := cel_of_row hrow
      clear hrow
      have hM1 := hM1.below hbn
      have hs5 : Below W10.heap.size W10 u' := below_step hs4 hs4.size hbn
      refine ⟨(SB.of hs5 hs5.size).S, ?_⟩
      refine iW_mid rfl rfl ?_
      go_simp
      go_at_call 24
      refine (SameMatrix_any _ v.r v.c v.r v.c ma ma' (v.list zs) (v.list zs) mc mc' hM1 hM2 (list_words hWd) (list_words hWd) hvl hvl).mono ?_
      rintro e u' ⟨rfl, hbn⟩
      rw [sameM_refl]
      have hs6 : Below W10.heap.size W10 u' := below_step hs5 hs5.size hbn
      refine ⟨(SB.of hs6 hs6.size).S, ?_⟩
      iterate 5 (refine iW_take (v := ?_) rfl rfl ?_ ?_; rotate_left; (next => (intro w' hSw; (try dsimp only at hSw); go_simp; (try with_reducible rfl))); (simp only [Act.put, List.setIfInBounds_toArray, List.set_cons_zero, List.set_cons_succ]))
      refine iW_mid rfl rfl ?_
      go_simp
      go_at_call 39
      refine (once_any _ v sb zs da dc _ _ leave (hok1.below hs6) (hV1.below hs6) (hC1.below hs6) hWd).mono ?_
      rintro e u' ⟨rfl, hbn⟩
      have hs7 : Below W10.heap.size W10 u' := below_step hs6 hs6.size hbn
      refine ⟨(SB.of hs7 hs7.size).S, ?_⟩
      iterate 4 (refine iW_take (v := ?_) rfl rfl ?_ ?_; rotate_left; (next => (intro w' hSw; (try dsimp only at hSw); go_simp; (try with_reducible rfl))); (simp only [Act.put, List.setIfInBounds_toArray, List.set_cons_zero, List.set_cons_succ]))
      refine iW_mid rfl rfl ?_
      go_simp
      go_at_call 39
      refine (once_any _ v sb zs da dc _ _ 0 (hok1.below hs7) (hV1.below hs7) (hC1.below hs7) hWd).mono ?_
      rintro e u' ⟨rfl, hbn⟩
      have hs8 : Below W10.heap.size W10 u' := below_step hs7 hs7.size hbn
      refine ⟨(SB.of hs8 hs8.size).S, ?_⟩
      iterate 7 (refine iW_take (v := ?_) rfl rfl ?_ ?_; rotate_left; (next => (intro w' hSw; (try dsimp only at hSw); go_simp; (try with_reducible rfl))); (simp only [Act.put, List.setIfInBounds_toArray, List.set_cons_zero, List.set_cons_succ]))
      refine iW_mid rfl rfl ?_
      go_simp
      go_at_call 26
      refine (Same_any _ v Vw.none sb sb zs zs (hok1.below hs8) (none_ok _ _ _)).mono ?_
      rintro e u' ⟨rfl, hbn⟩
      rw [sameNone]
      have hs9 : Below W10.heap.size W10 u' := below_step hs8 hs8.size hbn
      refine ⟨(SB.of hs9 hs9.size).S, ?_⟩
      iterate 3 (refine iW_take (v := ?_) rfl rfl ?_ ?_; rotate_left; (next => (intro w' hSw; (try dsimp only at hSw); go_simp; (try with_reducible rfl))); (simp only [Act.put, List.setIfInBounds_toArray, List.set_cons_zero, List.set_cons_succ]))
      refine iW_mid rfl rfl ?_
      go_simp
      go_at_call 21
      refine (known07 _).mono ?_
      rintro e u' ⟨rfl, hbn⟩
      have hs10 : Below W10.heap.size W10 u' := below_step hs9 hs9.size hbn
      refine ⟨(SB.of hs10 hs10.size).S, ?_⟩
      iterate 1 (refine iW_take (v := ?_) rfl rfl ?_ ?_; rotate_left; (next => (intro w' hSw; (try dsimp only at hSw); go_simp; (try with_reducible rfl))); (simp only [Act.put, List.setIfInBounds_toArray, List.set_cons_zero, List.set_cons_succ]))
      refine iW_nil ?_
      (try simp only [List.drop])
      have hBf := below_step hB10 hB10.size hs10
      go_wp2
      refine NoPanic.normal ?_
      go_wp2
      go_ret
      exact ⟨rfl, hBf⟩
end Go.Proofs.Ytpjdibanjmmbkaa
