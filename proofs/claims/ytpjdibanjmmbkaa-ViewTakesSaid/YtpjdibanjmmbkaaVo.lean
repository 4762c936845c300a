/- Every matrix has the view that shows it, or is refused. -/
import Derived.Test.YtpjdibanjmmbkaaVap
import Derived.Test.YtpjdibanjmmbkaaVk
import Derived.Test.YtpjdibanjmmbkaaVm
import Derived.Test.YtpjdibanjmmbkaaNq2
namespace Go.Proofs.Ytpjdibanjmmbkaa
open Go Go.RowKit
set_option maxRecDepth 100000

theorem sameN_refl (xs : List Nat) : ∀ n, sameN xs xs n = true
  | 0 => rfl
  | n + 1 => by unfold sameN; rw [sameN_refl xs n, sameF_refl]; rfl
theorem sameFs_refl (xs : List Nat) : sameFs xs xs = true := by unfold sameFs; rw [sameN_refl]; simp
theorem sameM_refl (r c : Int) (xs : List Nat) : sameM r c xs r c xs = true := by unfold sameM; rw [sameFs_refl]; simp
theorem newV_list {st R C : Nat} {zs : List Nat} (hn : zs.length = R * C) : (newV st R C).list zs = zs := by
  apply List.ext_getElem?
  intro k
  by_cases hk : k < R * C
  · have hC : 0 < C := by
      cases C with
      | zero => simp at hk
      | succ n => omega
    have h1 : k / C < R := by rw [Nat.div_lt_iff_lt_mul hC]; exact hk
    have h2 : k % C < C := Nat.mod_lt _ hC
    have h3 : inV R C (k / C : Nat) (k % C : Nat) = true := by
      generalize k / C = x at h1
      generalize k % C = y at h2
      unfold inV
      simp only [decide_eq_true_eq]
      omega
    unfold Vw.list
    rw [List.getElem?_map]
    show Option.map _ ((plcs C (R * C))[k]?) = _
    rw [plcs_get hk]
    show some ((newV st R C).get zs (k / C : Nat) (k % C : Nat)) = _
    unfold Vw.get newV
    dsimp only
    rw [h3, if_pos rfl, Int.toNat_natCast, Int.toNat_natCast, Nat.zero_add, Nat.mul_one]
    have h4 : k / C * C + k % C = k := by rw [Nat.mul_comm]; exact Nat.div_add_mod k C
    rw [h4]
    have hk' : k < zs.length := by omega
    simp [hk']
  · rw [List.getElem?_eq_none (by rw [list_length]; exact Nat.le_of_not_lt hk), List.getElem?_eq_none (by omega)]
theorem num_b (n : Int) (w : World) : Calls Try.prog 41 #[.int .i64 n] w fun e w' => e = .returned (.int .i64 n) ∧ Below w.heap.size w w' :=
  (num_any n w).mono fun _ _ ⟨he, hb⟩ => ⟨he, hb ▸ Below.refl _ _⟩

set_option maxHeartbeats 8000000 in
theorem viewOf_any (w : World) (r c : Int) (a : Option Addr) (zs : List Nat) (cap : Nat) (hZ : Cel w a zs) (hWd : Words zs) (hl : zs.length ≤ maxLen) :
    Calls Try.prog 8 #[.agg #[.int .i64 r, .int .i64 c, .slice a zs.length cap]] w fun e w' => e = .returned (.bool true) ∧ Below w.heap.size w w' := by
  have hB0 : Below w.heap.size w (w.alloc (.cells #[.int .i64 r, .int .i64 c, .slice a zs.length cap] 40)) := (Below.refl _ _).alloc (Nat.le_refl _) _
  have x0 : Box (w.alloc (.cells #[.int .i64 r, .int .i64 c, .slice a zs.length cap] 40)) w.heap.size [.int .i64 r, .int .i64 c, .slice a zs.length cap] := Box.newA w [_, _, _] _ rfl
  go_enter Try.func8, Try.ntmps8
  go_wp2_with fail
  refine (big_any r c a zs.length cap _ hl).mono ?_
  rintro e w1 ⟨rfl, hb1⟩
  have y0 := x0.below hb1
  have hB1 := below_step hB0 hB0.size hb1
  have Z1 := hZ.below hB1
  have s1 := hB1.size
  clear x0 hb1 hB0
  obtain ⟨a1, a2, a3⟩ := y0.facts
  cases hbg : decide (400 < zs.length)
  case true =>
    go_wp2_with fail
    refine (known07 _).mono ?_
    rintro e w2 ⟨rfl, hb2⟩
    have hB2 := below_step hB1 hB1.size hb2
    go_wp2
    go_ret
    exact ⟨rfl, hB2⟩
  have hl4 : zs.length ≤ 262144 := by have : ¬ 400 < zs.length := by simpa using hbg
                                      omega
  clear hbg
  go_wp2_with (at_builtin; refine wpList_append_cel rfl _ _ rfl a zs cap rfl rfl Z1 hl4 ?_; intro a' cap' w2 hown hb2; obtain ⟨a4, a5, a6⟩ := (y0.below hb2).facts)
  have y1 := y0.below hb2
  have hB2 := below_step hB1 hB1.size hb2
  have Z2 := Cel.owns hown
  have hfar : ∀ b off, zs ≠ [] → a' = some ⟨b, off, none⟩ → w1.heap.size ≤ b := fun b off hz e => by
    rcases hown.2 with ⟨_, h0⟩ | ⟨g, cap', cur, hv, hb, _⟩
    · exact absurd (List.eq_nil_of_length_eq_zero h0) hz
    · simp only [Value.slice.injEq] at hv
      rw [e] at hv
      simp only [Option.some.injEq, Addr.mk.injEq] at hv
      omega
  clear a1 a2 a3 a4 a5 a6 y0 hb2
  have s2 := hB2.size
  cases hm : mayM r c zs.length
  case false =>
    have HO := Lib.hid (fun W cap => Of_no r c a' zs.length cap W hl hm)
    have HM := Lib.hid hm
    clear hm
    refine (HO.out _ _).mono ?_
    rintro e w3 ⟨rfl, hb3⟩
    rw [show Vw.none.val = (.agg #[.pointer none, .int .i64 0, .int .i64 0, .int .i64 0, .int .i64 0, .int .i64 0]) from rfl]
    have z0 := y1.below hb3
    have hB3 := below_step hB2 hB2.size hb3
    have s3 := hB3.size
    clear hb3 y1
    have Z0 := z0.alloc (.cells #[.pointer none, .int .i64 0, .int .i64 0, .int .i64 0, .int .i64 0, .int .i64 0] 45)
    have hB4 : Below w.heap.size w (w3.alloc (.cells #[.pointer none, .int .i64 0, .int .i64 0, .int .i64 0, .int .i64 0, .int .i64 0] 45)) := hB3.alloc s3 _
    have v0 : Box (w3.alloc (.cells #[.pointer none, .int .i64 0, .int .i64 0, .int .i64 0, .int .i64 0, .int .i64 0] 45)) w3.heap.size [.pointer none, .int .i64 0, .int .i64 0, .int .i64 0, .int .i64 0, .int .i64 0] := Box.newA _ _ _ rfl
    obtain ⟨a1, a2, a3⟩ := z0.facts
    go_wp2_with fail
    generalize w3.heap.size = bv at v0 ⊢
    refine (May07_any r c a zs.length cap _ hl).mono ?_
    rintro e w4 ⟨rfl, hb4⟩
    rw [HM.out]
    have hB5 := below_step hB4 hB4.size hb4
    have v1 := v0.below hb4
    clear a1 a2 a3 hb4 v0
    obtain ⟨a1, a2, a3⟩ := v1.facts
    go_wp2_with fail
    refine (Same_any _ Vw.none Vw.none 0 0 [] [] (none_ok _ _ _) (none_ok _ _ _)).mono ?_
    rintro e w5 ⟨rfl, hb5⟩
    rw [sameV_refl]
    have hB6 := below_step hB5 hB5.size hb5
    go_wp2_with (go_at_call 41; refine (num_any _ _).mono ?_; rintro e w' ⟨rfl, rfl⟩)
    refine (known07 _).mono ?_
    rintro e w7 ⟨rfl, hb7⟩
    have hB7 := below_step hB6 hB6.size hb7
    go_wp2
    go_ret
    exact ⟨rfl, hB7⟩
  case true =>
    have hm2 := hm
    unfold mayM at hm2
    simp only [Bool.and_eq_true, okSz, decide_eq_true_eq] at hm2
    obtain ⟨R, rfl⟩ := Int.eq_ofNat_of_zero_le hm2.1.1.1
    obtain ⟨CC, rfl⟩ := Int.eq_ofNat_of_zero_le hm2.1.2.1
    have hR : R ≤ 512 := by omega
    have hC : CC ≤ 512 := by omega
    have hn : zs.length = R * CC := by have := hm2.2; rw [← Int.natCast_mul] at this; omega
    have HO1 := Lib.hid (fun (W : World) (hB : Below w2.heap.size w2 W) => Of_yes R CC a' zs cap' W hR hC hn (Z2.below hB))
    have HO2 := Lib.hid (fun (W : World) (hB : Below w.heap.size w W) => Of_yes R CC a zs cap W hR hC hn (hZ.below hB))
    have HM := Lib.hid hm
    have HN := Lib.hid hn
    clear hm hm2 hn
    refine (HO1.out _ (Below.refl _ _)).mono ?_
    rintro e w3 ⟨st, sb, rfl, hst, hsb, hsto, hb3⟩
    have hok := newV_ok hsto hR hC HN.out
    have hbnd := newV_bnd (st := st) hR hC
    have hpn : (newV st R CC).p.isNone = false := rfl
    generalize newV st R CC = v at hok hbnd hpn ⊢
    rw [show v.val = (.agg #[.pointer v.p, .int .i64 v.r, .int .i64 v.c, .int .i64 v.o, .int .i64 v.d, .int .i64 v.u]) from rfl]
    have z0 := y1.below hb3
    have hB3 := below_step hB2 hB2.size hb3
    have s3 := hB3.size
    have Z3 := Z2.below hb3
    have l3 : sb < w3.heap.size := by obtain ⟨_, _, _, k2, _⟩ := hsto; exact k2.lt
    have l0 : w.heap.size < w2.heap.size := y1.lt
    clear hb3 y1 hsto hst
    obtain ⟨a1, a2, a3⟩ := z0.facts
    go_wp2_with fail
    have V4 : Box (w3.alloc (.cells #[.pointer v.p, .int .i64 v.r, .int .i64 v.c, .int .i64 v.o, .int .i64 v.d, .int .i64 v.u] 45)) w3.heap.size [.pointer v.p, .int .i64 v.r, .int .i64 v.c, .int .i64 v.o, .int .i64 v.d, .int .i64 v.u] := Box.newA _ _ _ rfl
    have M4 := z0.alloc (.cells #[.pointer v.p, .int .i64 v.r, .int .i64 v.c, .int .i64 v.o, .int .i64 v.d, .int .i64 v.u] 45)
    have hB4 : Below w.heap.size w (w3.alloc (.cells #[.pointer v.p, .int .i64 v.r, .int .i64 v.c, .int .i64 v.o, .int .i64 v.d, .int .i64 v.u] 45)) := hB3.alloc s3 _
    have hA4 : Below w3.heap.size w3 (w3.alloc (.cells #[.pointer v.p, .int .i64 v.r, .int .i64 v.c, .int .i64 v.o, .int .i64 v.d, .int .i64 v.u] 45)) := (Below.refl _ _).alloc (Nat.le_refl _) _
    have O4 := hok.below hA4
    have Z4 := Z3.below hA4
    have lb : w.heap.size < w3.heap.size := z0.lt
    generalize w3.alloc (.cells #[.pointer v.p, .int .i64 v.r, .int .i64 v.c, .int .i64 v.o, .int .i64 v.d, .int .i64 v.u] 45) = W4 at V4 M4 hB4 O4 Z4 ⊢
    generalize w3.heap.size = bv at V4 l3 lb ⊢
    clear a1 a2 a3 hA4 z0 Z3 hok hB3 s3
    refine (May07_any R CC a zs.length cap _ hl).mono ?_
    rintro e w5 ⟨rfl, hb5⟩
    rw [HM.out]
    have V5 := V4.below hb5
    have M5 := M4.below hb5
    have hB5 := below_step hB4 hB4.size hb5
    have O5 := O4.below hb5
    have Z5 := Z4.below hb5
    clear V4 M4 hB4 O4 Z4 hb5
    obtain ⟨a1, a2, a3⟩ := V5.facts
    go_wp2_with fail
    refine (Fill_any _ v sb zs 4619567317775286272 O5).mono ?_
    rintro e w6 ⟨rfl, _, hbf⟩
    have V6 := V5.bel (by omega) hbf
    have M6 := M5.bel (by omega) hbf
    have hB6 : Below w.heap.size w w6 := hB5.trans ((hbf.mono hB5.size).below (by omega))
    have Z6 := Cel.bel Z2 Z5 hsb hbf
    have Y6 := hZ.below hB6
    clear a1 a2 a3 V5 M5 O5 Z5 hbf hB5
    obtain ⟨a1, a2, a3⟩ := M6.facts
    go_wp2_with fail
    refine (SameFloats_any _ a' a zs zs cap' cap Z6 Y6 hWd hWd hl hl).mono ?_
    rintro e w7 ⟨rfl, hb7⟩
    rw [sameFs_refl]
    have V7 := V6.below hb7
    have M7 := M6.below hb7
    have hB7 := below_step hB6 hB6.size hb7
    clear a1 a2 a3 V6 M6 hB6 Z6 Y6 hb7
    obtain ⟨a1, a2, a3⟩ := M7.facts
    go_wp2_with fail
    refine (HO2.out _ hB7).mono ?_
    rintro e w8 ⟨st2, sb2, rfl, hst2, hsb2, hsto2, hb8⟩
    have lv := V7.lt
    have V8 := V7.below hb8
    have M8 := M7.below hb8
    have hB8 := below_step hB7 hB7.size hb8
    have O8 := newV_ok (Sto.other6 hsto2 (show st2 ≠ bv by omega) (show sb2 ≠ bv by omega) (.pointer (some ⟨st2, 0, none⟩)) (.int .i64 R) (.int .i64 CC) (.int .i64 0) (.int .i64 CC) (.int .i64 1)) hR hC HN.out
    have hL := newV_list (st := st2) HN.out
    clear a1 a2 a3 V7 M7 hB7 hb8 hsto2 hst2 hsb2
    rw [show (newV st2 R CC).val = (.agg #[.pointer (some ⟨st2, 0, none⟩), .int .i64 R, .int .i64 CC, .int .i64 (0 : Nat), .int .i64 CC, .int .i64 (1 : Nat)]) from rfl]
    obtain ⟨a1, a2, a3⟩ := V8.facts
    go_wp2_with fail
    obtain ⟨W9, hW9⟩ : ∃ W9, W9 = ((((((w8.setCell ⟨bv, 0, none⟩ (.pointer (some ⟨st2, 0, none⟩))).setCell ⟨bv, 1, none⟩ (.int .i64 R)).setCell ⟨bv, 2, none⟩ (.int .i64 CC)).setCell ⟨bv, 3, none⟩ (.int .i64 0)).setCell ⟨bv, 4, none⟩ (.int .i64 CC)).setCell ⟨bv, 5, none⟩ (.int .i64 1)) := ⟨_, rfl⟩
    rw [← hW9]
    have V9 : Box W9 bv [.pointer (some ⟨st2, 0, none⟩), .int .i64 R, .int .i64 CC, .int .i64 0, .int .i64 CC, .int .i64 1] := by rw [hW9]; exact V8.put6 _ _ _ _ _ _
    have M9 : Box W9 w.heap.size [.int .i64 R, .int .i64 CC, .slice a zs.length cap] := by rw [hW9]; exact M8.other6 (by omega) _ _ _ _ _ _
    have hB9 : Below w.heap.size w W9 := by rw [hW9]; exact below_put6 hB8 (by omega) _ _ _ _ _ _
    have O9 : (newV st2 R CC).Ok W9 sb2 zs := by rw [hW9]; exact O8
    clear a1 a2 a3 V8 M8 hB8 O8 hW9
    refine (Matrix_any _ (newV st2 R CC) sb2 zs O9).mono ?_
    rintro e w10 ⟨sv, rfl, hrow, hb10⟩
    rw [hL] at hrow
    obtain ⟨a2', cap2, rfl, Z10⟩ := cel_of_row hrow
    rw [show (newV st2 R CC).r = R from rfl, show (newV st2 R CC).c = CC from rfl]
    have V10 := V9.below hb10
    have M10 := M9.below hb10
    have hB10 := below_step hB9 hB9.size hb10
    clear V9 M9 hB9 O9 hb10 hrow
    go_wp2_with fail
    have X11 : Box (w10.alloc (.cells #[.int .i64 R, .int .i64 CC, .slice a2' zs.length cap2] 40)) w10.heap.size [.int .i64 R, .int .i64 CC, .slice a2' zs.length cap2] := Box.newA w10 [_, _, _] _ rfl
    have V11 := V10.alloc (.cells #[.int .i64 R, .int .i64 CC, .slice a2' zs.length cap2] 40)
    have M11 := M10.alloc (.cells #[.int .i64 R, .int .i64 CC, .slice a2' zs.length cap2] 40)
    have hB11 : Below w.heap.size w (w10.alloc (.cells #[.int .i64 R, .int .i64 CC, .slice a2' zs.length cap2] 40)) := hB10.alloc hB10.size _
    have Z11 := Z10.below ((Below.refl _ _).alloc (Nat.le_refl _) (.cells #[.int .i64 R, .int .i64 CC, .slice a2' zs.length cap2] 40))
    have lx := X11.lt
    generalize w10.alloc (.cells #[.int .i64 R, .int .i64 CC, .slice a2' zs.length cap2] 40) = W11 at *
    generalize w10.heap.size = bx at *
    obtain ⟨a1, a2, a3⟩ := X11.facts
    obtain ⟨a4, a5, a6⟩ := V11.facts
    obtain ⟨a7, a8, a9⟩ := M11.facts
    have HSM := Lib.hid (fun (W : World) (hB : Below W11.heap.size W11 W) => SameMatrix_any W R CC R CC a2' a zs zs cap2 cap (Z11.below hB) ((hZ.below hB11).below hB) hWd hWd hl hl)
    rw [sameM_refl] at HSM
    refine wp_region_nqb 26 (FV [(41, .int .i64 0), (24, .bool true), (27, .int .i64 R), (28, .int .i64 CC), (21, .bool true)]) (by kernel_rfl) (by kernel_rfl) ?_
    intro Cw Rw hc hb' hb2 hd hRw
    simp only [List.take_succ_cons, List.take_zero]
    repeat (
      first
        | (refine nqW_skip rfl (fun K hK => ?_); go_frame; refine hK _ ?_; clear hK K)
        | ((first | (refine nqW_plain (fun K hK => ?_)) | (refine nqW_want rfl (fun K hK => ?_)) | (refine nqW_step (fun K hK => ?_); go_simp))
           first
             | (refine nq_move rfl ?_; go_simp; refine hK _ ?_; clear hK K)
             | (refine nq_assign rfl ?_; go_simp; refine hK _ ?_; clear hK K)
             | (refine nq_flt rfl rfl rfl rfl hd ?_; intro _; go_frame; refine hK _ ?_; clear hK K)
             | (refine nq_inC rfl ?_; intro w' hw'; go_simp; refine ⟨?_, ?_⟩; (next => (intro w2 hw2; go_at_call 41; exact (num_b _ w2).mono (fun e w3 ⟨he, hb⟩ => ⟨_, he, FV_in 0 rfl rfl, hb2 _ _ hw2 hb⟩))); intro v hv; obtain rfl := FV_out hv 0 rfl; go_simp; refine hK _ ?_; clear hv hK K hw' w')
             | (refine nq_inC rfl ?_; intro w' hw'; go_simp; refine ⟨?_, ?_⟩; (next => (intro w2 hw2; go_at_call 24; exact (HSM.out w2 (hb' _ hw2)).mono (fun e w3 ⟨he, hb⟩ => ⟨_, he, FV_in 1 rfl rfl, hb2 _ _ hw2 hb⟩))); intro v hv; obtain rfl := FV_out hv 1 rfl; go_simp; refine hK _ ?_; clear hv hK K hw' w')
             | (refine nq_inC rfl ?_; intro w' hw'; go_simp; refine ⟨?_, ?_⟩; (next => (intro w2 hw2; go_at_call 27; exact (Rows_any _ _ _ _ _ _ w2).mono (fun e w3 ⟨he, hb⟩ => ⟨_, he, FV_in 2 rfl rfl, hb2 _ _ hw2 hb⟩))); intro v hv; obtain rfl := FV_out hv 2 rfl; go_simp; refine hK _ ?_; clear hv hK K hw' w')
             | (refine nq_inC rfl ?_; intro w' hw'; go_simp; refine ⟨?_, ?_⟩; (next => (intro w2 hw2; go_at_call 28; exact (Cols_any _ _ _ _ _ _ w2).mono (fun e w3 ⟨he, hb⟩ => ⟨_, he, FV_in 3 rfl rfl, hb2 _ _ hw2 hb⟩))); intro v hv; obtain rfl := FV_out hv 3 rfl; go_simp; refine hK _ ?_; clear hv hK K hw' w')
             | (refine nq_inC rfl ?_; intro w' hw'; go_simp; refine ⟨?_, ?_⟩; (next => (intro w2 hw2; go_at_call 21; exact (known07 w2).mono (fun e w3 ⟨he, hb⟩ => ⟨_, he, FV_in 4 rfl rfl, hb2 _ _ hw2 hb⟩))); intro v hv; obtain rfl := FV_out hv 4 rfl; go_simp; refine hK _ ?_; clear hv hK K hw' w')
             | (refine nq_same ?_; intro w' hw'; go_simp; (try go_bits); refine hK _ ?_; clear hK K hw' w')
             | (refine nq_same ?_; intro w' hw'; go_simp; rw [if_pos (by omega)]; go_simp; (try go_bits); refine hK _ ?_; clear hK K hw' w')
             | (go_simp; refine hK _ ?_; clear hK K)))
    refine nqW_nil (hRw _ ?_)
    clear hc hb' hb2 hd hRw
    intro w' hw'
    simp only [List.drop]
    go_wp2
    go_ret
    exact ⟨rfl, below_step hB11 hB11.size hw'⟩
end Go.Proofs.Ytpjdibanjmmbkaa
