/- The sturm law's closed sentence holds: as many as may be, and one more; guarded pivots; bounds that are not finite. No condition. -/
import Derived.Test.YtogkmddhgfenkaaTn1
namespace Go.Proofs.Ytogkmddhgfenkaa
open Go Go.RowKit Go.Shelf
set_option maxRecDepth 100000

set_option maxHeartbeats 16000000 in
theorem nil13_any (w : World) : Calls Try.prog 13 #[] w fun e w' => e = .returned (.bool true) ∧ Below w.heap.size w w' := by
  have m1 := run_mk13 513 (by omega) w
  have m2 := run_mk13 512 (by omega) (w.alloc (.cells (List.replicate 513 (Value.float .f64 0)).toArray 35))
  have hA1 : Below w.heap.size w (w.alloc (.cells (List.replicate 513 (Value.float .f64 0)).toArray 35)) := (Below.refl _ _).alloc (Nat.le_refl _) _
  have hA2 : Below (w.alloc (.cells (List.replicate 513 (Value.float .f64 0)).toArray 35)).heap.size (w.alloc (.cells (List.replicate 513 (Value.float .f64 0)).toArray 35)) ((w.alloc (.cells (List.replicate 513 (Value.float .f64 0)).toArray 35)).alloc (.cells (List.replicate 512 (Value.float .f64 0)).toArray 35)) := (Below.refl _ _).alloc (Nat.le_refl _) _
  have B1 := (fls_rep w 513).below hA2
  have B2 := fls_rep (w.alloc (.cells (List.replicate 513 (Value.float .f64 0)).toArray 35)) 512
  have e1 : (w.alloc (.cells (List.replicate 513 (Value.float .f64 0)).toArray 35)).heap.size = w.heap.size + 1 := by simp
  rw [e1] at B2
  clear e1
  have hBw := below_step hA1 hA1.size hA2
  clear hA1 hA2
  generalize List.replicate 513 (Value.float .f64 0) = L1 at *
  generalize List.replicate 512 (Value.float .f64 0) = L2 at *
  simp only [show ((513 : Nat) : Int) = 513 from rfl] at m1
  simp only [show ((512 : Nat) : Int) = 512 from rfl] at m2
  go_enter Try.func13, Try.ntmps13
  go_wp2_with fail
  refine (Tri_any _ _ _ _ _ _ _).mono ?_
  rintro e w1 ⟨rfl, hb⟩
  replace hBw := below_step hBw hBw.size hb
  replace B1 := B1.below hb
  replace B2 := B2.below hb
  clear hb
  go_wp2_with fail
  refine (cn_a _ _ _ _ _ B1 B2).mono ?_
  rintro e w2 ⟨⟨z1, rfl⟩, hb⟩
  replace hBw := below_step hBw hBw.size hb
  replace B1 := B1.below hb
  replace B2 := B2.below hb
  clear hb
  replace B1 := B1.rep (m := 512) (by omega)
  replace B2 := B2.rep (m := 511) (by omega)
  go_wp2_with fail
  refine wp_region_nqd 11  (by kernel_rfl) (by kernel_rfl) ?_
  intro Cw Rw hc hb' hb2 hd hRw
  simp only [List.take_succ_cons, List.take_zero]
  repeat (
    first
      | (refine nqW_skip rfl (fun K hK => ?_); go_frame; refine hK _ ?_; clear hK K)
      | ((first | (refine nqW_plain (fun K hK => ?_)) | (refine nqW_want rfl (fun K hK => ?_)) | (refine nqW_step (fun K hK => ?_); go_simp))
         first
           | (refine nq_move rfl ?_; go_simp; refine hK _ ?_; clear hK K)
           | (refine nq_assign rfl ?_; go_simp; refine hK _ ?_; clear hK K)
           | (refine nq_flt rfl rfl rfl rfl hd ?_; intro _; go_frame; refine hK _ ?_; clear hK K)
           | (refine nq_inC rfl ?_; intro w' hw'; go_simp; refine fd_both (V := (.agg #[.slice (some ⟨w.heap.size, 0, none⟩) 512 513, .slice (some ⟨w.heap.size + 1, 0, none⟩) 511 512])) (by kernel_rfl) (fun w2 hw2 => ?_) ?_; (next => (go_at_call 56; exact (Tri_any w2 _ _ _ _ _ _).mono (fun e w3 ⟨he, hb⟩ => ⟨he, hb2 _ _ hw2 hb⟩))); (try go_simp); refine hK _ ?_; clear hK K hw' w')
           | (refine nq_inC rfl ?_; intro w' hw'; go_simp; refine fd_both (V := (.tuple #[.int .i64 512, .int .i64 0])) (by kernel_rfl) (fun w2 hw2 => ?_) ?_; (next => (go_at_call 44; exact (cn_b w2 _ _ _ _ (B1.below (hb' _ hw2)) (B2.below (hb' _ hw2))).mono (fun e w3 ⟨he, hb⟩ => ⟨he, hb2 _ _ hw2 hb⟩))); (try go_simp); refine hK _ ?_; clear hK K hw' w')
           | (refine nq_same ?_; intro w' hw'; go_simp; (try go_bits); refine hK _ ?_; clear hK K hw' w')
           | (refine nq_same ?_; intro w' hw'; go_simp; rw [if_pos (by omega)]; go_simp; (try go_bits); refine hK _ ?_; clear hK K hw' w')
           | (go_simp; refine hK _ ?_; clear hK K)))
  refine nqW_nil (hRw _ ?_)
  clear hc hb' hb2 hd hRw
  intro w' hw'
  simp only [List.drop]
  replace hBw := below_step hBw hBw.size hw'
  replace B1 := B1.below hw'
  replace B2 := B2.below hw'
  clear hw'
  clear B1 B2
  have hA : Below w'.heap.size w' ((w'.alloc (.cells #[.float .f64 9218868437227405311, .float .f64 9218868437227405311] 35)).alloc (.cells #[.float .f64 9218868437227405311] 35)) := ((Below.refl _ _).alloc (Nat.le_refl _) _).alloc (by simp) _
  have F1 : Fls ((w'.alloc (.cells #[.float .f64 9218868437227405311, .float .f64 9218868437227405311] 35)).alloc (.cells #[.float .f64 9218868437227405311] 35)) (some ⟨w'.heap.size, 0, none⟩) [9218868437227405311, 9218868437227405311] := fls_box (xs := [9218868437227405311, 9218868437227405311]) (show Box _ _ [.float .f64 9218868437227405311, .float .f64 9218868437227405311] from (Box.alloc (Box.newA _ [_, _] _ (by simp)) _)) (by kernel_rfl)
  have G1 : Fls ((w'.alloc (.cells #[.float .f64 9218868437227405311, .float .f64 9218868437227405311] 35)).alloc (.cells #[.float .f64 9218868437227405311] 35)) (some ⟨(w'.heap.size + 1), 0, none⟩) [9218868437227405311] := fls_box (xs := [9218868437227405311]) (show Box _ _ [.float .f64 9218868437227405311] from Box.newA _ [_] _ (by simp)) (by kernel_rfl)
  replace hBw := below_step hBw hBw.size hA
  clear hA
  go_wp2_with fail
  refine (Tri_any _ _ _ _ _ _ _).mono ?_
  rintro e w5 ⟨rfl, hb⟩
  replace hBw := below_step hBw hBw.size hb
  replace F1 := F1.below hb
  replace G1 := G1.below hb
  clear hb
  go_wp2_with fail
  refine (cn_c _ _ _ _ _ F1 G1).mono ?_
  rintro e w6 ⟨⟨x1, y1, rfl⟩, hb⟩
  replace hBw := below_step hBw hBw.size hb
  replace F1 := F1.below hb
  replace G1 := G1.below hb
  clear hb
  clear F1 G1
  have hA : Below w6.heap.size w6 ((w6.alloc (.cells #[.float .f64 9218868437227405311, .float .f64 9218868437227405311] 35)).alloc (.cells #[.float .f64 9218868437227405311] 35)) := ((Below.refl _ _).alloc (Nat.le_refl _) _).alloc (by simp) _
  have F1 : Fls ((w6.alloc (.cells #[.float .f64 9218868437227405311, .float .f64 9218868437227405311] 35)).alloc (.cells #[.float .f64 9218868437227405311] 35)) (some ⟨w6.heap.size, 0, none⟩) [9218868437227405311, 9218868437227405311] := fls_box (xs := [9218868437227405311, 9218868437227405311]) (show Box _ _ [.float .f64 9218868437227405311, .float .f64 9218868437227405311] from (Box.alloc (Box.newA _ [_, _] _ (by simp)) _)) (by kernel_rfl)
  have G1 : Fls ((w6.alloc (.cells #[.float .f64 9218868437227405311, .float .f64 9218868437227405311] 35)).alloc (.cells #[.float .f64 9218868437227405311] 35)) (some ⟨(w6.heap.size + 1), 0, none⟩) [9218868437227405311] := fls_box (xs := [9218868437227405311]) (show Box _ _ [.float .f64 9218868437227405311] from Box.newA _ [_] _ (by simp)) (by kernel_rfl)
  replace hBw := below_step hBw hBw.size hA
  clear hA
  go_wp2_with fail
  refine (Tri_any _ _ _ _ _ _ _).mono ?_
  rintro e w7 ⟨rfl, hb⟩
  replace hBw := below_step hBw hBw.size hb
  replace F1 := F1.below hb
  replace G1 := G1.below hb
  clear hb
  go_wp2_with fail
  refine (cn_d _ _ _ _ _ F1 G1).mono ?_
  rintro e w8 ⟨rfl, hb⟩
  replace hBw := below_step hBw hBw.size hb
  replace F1 := F1.below hb
  replace G1 := G1.below hb
  clear hb
  clear F1 G1
  have hA : Below w8.heap.size w8 ((w8.alloc (.cells #[.float .f64 0, .float .f64 0] 35)).alloc (.cells #[.float .f64 4607182418800017408] 35)) := ((Below.refl _ _).alloc (Nat.le_refl _) _).alloc (by simp) _
  have F1 : Fls ((w8.alloc (.cells #[.float .f64 0, .float .f64 0] 35)).alloc (.cells #[.float .f64 4607182418800017408] 35)) (some ⟨w8.heap.size, 0, none⟩) [0, 0] := fls_box (xs := [0, 0]) (show Box _ _ [.float .f64 0, .float .f64 0] from (Box.alloc (Box.newA _ [_, _] _ (by simp)) _)) (by kernel_rfl)
  have G1 : Fls ((w8.alloc (.cells #[.float .f64 0, .float .f64 0] 35)).alloc (.cells #[.float .f64 4607182418800017408] 35)) (some ⟨(w8.heap.size + 1), 0, none⟩) [4607182418800017408] := fls_box (xs := [4607182418800017408]) (show Box _ _ [.float .f64 4607182418800017408] from Box.newA _ [_] _ (by simp)) (by kernel_rfl)
  replace hBw := below_step hBw hBw.size hA
  clear hA
  go_wp2_with fail
  refine (Tri_any _ _ _ _ _ _ _).mono ?_
  rintro e w9 ⟨rfl, hb⟩
  replace hBw := below_step hBw hBw.size hb
  replace F1 := F1.below hb
  replace G1 := G1.below hb
  clear hb
  go_wp2_with fail
  refine (cn_e _ _ _ _ _ F1 G1).mono ?_
  rintro e w10 ⟨rfl, hb⟩
  replace hBw := below_step hBw hBw.size hb
  replace F1 := F1.below hb
  replace G1 := G1.below hb
  clear hb
  clear F1 G1
  go_wp2_with fail
  refine (cn_i _).mono ?_
  rintro e w11 ⟨rfl, hb⟩
  replace hBw := below_step hBw hBw.size hb
  clear hb
  have hA : Below w11.heap.size w11 (w11.alloc (.cells #[.float .f64 9322451228656926720] 35)) := (Below.refl _ _).alloc (Nat.le_refl _) _
  have F1 : Fls (w11.alloc (.cells #[.float .f64 9322451228656926720] 35)) (some ⟨w11.heap.size, 0, none⟩) [9322451228656926720] := fls_box (xs := [9322451228656926720]) (show Box _ _ [.float .f64 9322451228656926720] from Box.newA _ [_] _ (by simp)) (by kernel_rfl)
  replace hBw := below_step hBw hBw.size hA
  clear hA
  go_wp2_with fail
  refine (Tri_any _ _ _ _ _ _ _).mono ?_
  rintro e w12 ⟨rfl, hb⟩
  replace hBw := below_step hBw hBw.size hb
  replace F1 := F1.below hb
  clear hb
  go_wp2_with fail
  refine (cn_f _ _ _ F1).mono ?_
  rintro e w13 ⟨rfl, hb⟩
  replace hBw := below_step hBw hBw.size hb
  replace F1 := F1.below hb
  clear hb
  clear F1
  go_wp2_with fail
  refine (cn_j _).mono ?_
  rintro e w14 ⟨rfl, hb⟩
  replace hBw := below_step hBw hBw.size hb
  clear hb
  have hA : Below w14.heap.size w14 (w14.alloc (.cells #[.float .f64 9326954828284297216] 35)) := (Below.refl _ _).alloc (Nat.le_refl _) _
  have F1 : Fls (w14.alloc (.cells #[.float .f64 9326954828284297216] 35)) (some ⟨w14.heap.size, 0, none⟩) [9326954828284297216] := fls_box (xs := [9326954828284297216]) (show Box _ _ [.float .f64 9326954828284297216] from Box.newA _ [_] _ (by simp)) (by kernel_rfl)
  replace hBw := below_step hBw hBw.size hA
  clear hA
  go_wp2_with fail
  refine (Tri_any _ _ _ _ _ _ _).mono ?_
  rintro e w15 ⟨rfl, hb⟩
  replace hBw := below_step hBw hBw.size hb
  replace F1 := F1.below hb
  clear hb
  go_wp2_with fail
  refine (cn_g _ _ _ F1).mono ?_
  rintro e w16 ⟨rfl, hb⟩
  replace hBw := below_step hBw hBw.size hb
  replace F1 := F1.below hb
  clear hb
  clear F1
  have hA : Below w16.heap.size w16 (w16.alloc (.cells #[.float .f64 0] 35)) := (Below.refl _ _).alloc (Nat.le_refl _) _
  have F1 : Fls (w16.alloc (.cells #[.float .f64 0] 35)) (some ⟨w16.heap.size, 0, none⟩) [0] := fls_box (xs := [0]) (show Box _ _ [.float .f64 0] from Box.newA _ [_] _ (by simp)) (by kernel_rfl)
  replace hBw := below_step hBw hBw.size hA
  clear hA
  go_wp2_with fail
  refine (Tri_any _ _ _ _ _ _ _).mono ?_
  rintro e w17 ⟨rfl, hb⟩
  replace hBw := below_step hBw hBw.size hb
  replace F1 := F1.below hb
  clear hb
  go_wp2_with fail
  refine (cn_h _ _ _ F1).mono ?_
  rintro e w18 ⟨rfl, hb⟩
  replace hBw := below_step hBw hBw.size hb
  replace F1 := F1.below hb
  clear hb
  clear F1
  have HBw := Lib.hid hBw
  clear hBw
  go_wp2_with (first | (go_at_call 38; refine (num13_any _ _).mono ?_; rintro e w' ⟨rfl, rfl⟩) | (go_at_call 37; refine (float13_zero _).mono ?_; rintro e w' ⟨rfl, rfl⟩))
  refine (known13 _).mono ?_
  rintro e w19 ⟨rfl, hb⟩
  go_wp2
  go_ret
  exact ⟨rfl, below_step HBw.out HBw.out.size hb⟩
end Go.Proofs.Ytogkmddhgfenkaa
