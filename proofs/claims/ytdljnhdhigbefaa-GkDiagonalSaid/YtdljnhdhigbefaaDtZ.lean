/- 'GkDiagonal': noughts are made, and what is solved with them (printed by gen_dt.py). No condition but on lengths. -/
import Derived.Test.YtdljnhdhigbefaaDsZ
namespace Go.Proofs.Ytdljnhdhigbefaa
open Go Go.RowKit
set_option maxRecDepth 1000000

theorem run_mk17 (n : Nat) (h : n ≤ 262144) (w : World) : (Instr.makeSlice 22 (.int .i64 (n : Int)) (.int .i64 (n : Int))).run Try.prog w = .ok (.slice (some ⟨w.heap.size, 0, none⟩) n n) (w.alloc (.cells (List.replicate n (Value.float .f64 0)).toArray 40)) := by
  have := run_New n 1 (by omega) w
  simpa using this
theorem fls_rep17 (w : World) (n : Nat) : Fls (w.alloc (.cells (Array.replicate n (Value.float .f64 0)) 40)) (some ⟨w.heap.size, 0, none⟩) (List.replicate n 0) := by
  have h := (Flb.ofBox (zs := List.replicate n 0) (by rw [List.map_replicate]; exact Box.newA w _ 40 rfl) (fun x hx => by rw [(List.mem_replicate.1 hx).2]; kernel_rfl)).fls
  rw [List.toArray_replicate] at h
  exact h
set_option maxHeartbeats 32000000 in
theorem region5D_q (c1 c2 c5 c6 c7 c8 c9 c10 c11 c12 c13 c14 c15 c16 c17 c18 c19 c20 c21 c22 c23 c24 c25 c26 c27 c28 c29 c30 c31 c32 c33 c34 c35 c36 c37 c38 c39 c40 c41 c42 c43 c44 c45 c46 c47 c48 c49 c50 c51 c52 c53 c54 c55 c56 c57 c58 c59 c60 c61 c62 c63 c64 c65 c66 c67 c68 c69 c70 c71 c72 c73 c74 c75 c76 c77 c78 c79 c80 c81 c82 c83 c84 c85 c86 c87 c88 c89 c90 c91 c92 c93 c94 c95 c96 c97 c98 c99 c100 c101 c102 c103 c104 c105 c106 c107 c108 c109 : Value) (da : Option Addr) (d : List Nat) (dc b0 k : Nat) (W0 : World) (hX : Box W0 b0 [.int .i64 0, .int .i64 d.length, .slice none 0 0]) (hn : d.length ≤ 20) (hk : d.length = k + 1)
    (hG : ∀ W a, Below W0.heap.size W0 W → Fls W (some a) (List.replicate k 0) → Calls Try.prog 16 #[.agg #[.slice da d.length dc, .slice (some a) k k], .agg #[.int .i64 0, .int .i64 d.length, .slice none 0 0], .agg #[.int .i64 0, .int .i64 d.length, .slice none 0 0]] W fun x w' => ∃ q : GR, x = .returned q.val ∧ SG17 d (List.replicate k 0) [] [] 0 d.length 0 d.length w' q ∧ Below W.heap.size W w')
    (Q : Exit → Act → World → Prop) (hQ : ∀ (u5 u6 u7 u8 u9 u30 u31 u32 u33 u34 u35 u36 u37 u38 u39 u40 u41 u42 u43 : Value) (w' : World), (∃ q : GR, u5 = .slice q.a q.n q.c ∧ u8 = .int .i64 q.m ∧ u9 = .int .i64 q.code ∧ SG17 d (List.replicate k 0) [] [] 0 d.length 0 d.length w' q ∧ Below W0.heap.size W0 w') → Q .normal { tmps := #[.slice da d.length dc, c1, c2, .int .i64 d.length, .pointer (some ⟨b0, 0, none⟩), u5, u6, u7, u8, u9, c10, c11, c12, c13, c14, c15, c16, c17, c18, c19, c20, c21, c22, c23, c24, c25, c26, c27, c28, c29, u30, u31, u32, u33, u34, u35, u36, u37, u38, u39, u40, u41, u42, u43, c44, c45, c46, c47, c48, c49, c50, c51, c52, c53, c54, c55, c56, c57, c58, c59, c60, c61, c62, c63, c64, c65, c66, c67, c68, c69, c70, c71, c72, c73, c74, c75, c76, c77, c78, c79, c80, c81, c82, c83, c84, c85, c86, c87, c88, c89, c90, c91, c92, c93, c94, c95, c96, c97, c98, c99, c100, c101, c102, c103, c104, c105, c106, c107, c108, c109], defers := [] } w') :
    Code.wp Try.prog ((findRegion (Try.f5.body.getD .skip) 5).getD .skip) Q { tmps := #[.slice da d.length dc, c1, c2, .int .i64 d.length, .pointer (some ⟨b0, 0, none⟩), c5, c6, c7, c8, c9, c10, c11, c12, c13, c14, c15, c16, c17, c18, c19, c20, c21, c22, c23, c24, c25, c26, c27, c28, c29, c30, c31, c32, c33, c34, c35, c36, c37, c38, c39, c40, c41, c42, c43, c44, c45, c46, c47, c48, c49, c50, c51, c52, c53, c54, c55, c56, c57, c58, c59, c60, c61, c62, c63, c64, c65, c66, c67, c68, c69, c70, c71, c72, c73, c74, c75, c76, c77, c78, c79, c80, c81, c82, c83, c84, c85, c86, c87, c88, c89, c90, c91, c92, c93, c94, c95, c96, c97, c98, c99, c100, c101, c102, c103, c104, c105, c106, c107, c108, c109], defers := [] } W0 := by
  conv => arg 2; whnf
  have HG := Lib.hid hG
  have HQ := Lib.hid hQ
  have HX := Lib.hid hX
  have HN := Lib.hid hn
  have HBL := Lib.hid hX.lt
  have D0 := Lib.hid (show Below W0.heap.size W0 W0.drew from below_drewN 1 (Below.refl _ _))
  have hw := w64s hk (by omega)
  obtain ⟨hw1, hw2⟩ := hw
  have qM := fun W => run_mk17 k (by omega) W
  clear hG hQ hX hn hk
  refine wp_region_many 20 90 [(0, 0), (0, 1), (0, 2), (0, 5), (0, 6), (3, 14), (3, 15), (1, 3), (0, 4), (1, 7), (0, 8), (0, 9), (0, 10), (0, 11), (0, 12), (0, 13), (2, 14), (2, 15), (0, 16), (1, 17), (1, 18), (0, 19)] (fun W => ∀ i, W.cell? ⟨b0, i, none⟩ = ([.int .i64 0, .int .i64 d.length, .slice none 0 0] : List Value)[i]?) (by kernel_rfl) (by kernel_rfl) (HX.out.below D0.out).cell ?_
  generalize W0.drew = y0 at *
  iterate 5 (refine fm_take (v := ?_) rfl rfl ?_ ?_; rotate_left; (next => (intro w' hSw; (try dsimp only at hSw); go_simp; (try (rw [if_pos (by omega)]; go_simp)); (try with_reducible rfl))); (simp only [Act.put, List.setIfInBounds_toArray, List.set_cons_zero, List.set_cons_succ]))
  refine fm_from ?_
  refine fm_from ?_
  refine fm_one2 rfl ?_ ?_ ?_
  · skip
    refine opW_take rfl rfl ?_
    go_simp
    obtain ⟨x1, hy⟩ : ∃ x, x = y0.alloc (.cells (Array.replicate k (Value.float .f64 0)) 40) := ⟨_, rfl⟩
    rw [← hy]
    have hb : Below y0.heap.size y0 x1 := hy ▸ (Below.refl _ _).alloc (Nat.le_refl _) _
    have O1 := Lib.hid (show Fls x1 (some ⟨y0.heap.size, 0, none⟩) _ from hy ▸ fls_rep17 y0 k)
    clear hy
    have SZ1 := Lib.hid (show y0.heap.size ≤ x1.heap.size from hb.size)
    have D1 := Lib.hid (below_step D0.out D0.out.size hb)
    clear hb D0
    refine ⟨(HX.out.below D1.out).cell, ?_⟩
    iterate 1 (refine fm_take (v := ?_) rfl rfl ?_ ?_; rotate_left; (next => (intro w' hSw; (try dsimp only at hSw); go_simp; (try (rw [if_pos (by omega)]; go_simp)); (try with_reducible rfl))); (simp only [Act.put, List.setIfInBounds_toArray, List.set_cons_zero, List.set_cons_succ]))
    refine fm_one2 rfl ?_ ?_ ?_
    · skip
      refine opW_take rfl rfl ?_
      go_simp
      refine (HG.out _ _ D1.out O1.out).mono ?_
      rintro e_ x2 ⟨⟨a4, a5, a6, n4, c4_, l5, c5_, l6, c6_, r5, k5, r6, k6, m4, code⟩, rfl, hs, hb⟩
      have SGq := Lib.hid hs
      clear hs
      dsimp only [GR.val]
      replace O1 := Lib.hid (O1.out.below hb)
      have SZ2 := Lib.hid (show x1.heap.size ≤ x2.heap.size from hb.size)
      have D2 := Lib.hid (below_step D1.out D1.out.size hb)
      clear hb D1
      refine ⟨(HX.out.below D2.out).cell, ?_⟩
      iterate 6 (refine fm_take (v := ?_) rfl rfl ?_ ?_; rotate_left; (next => (intro w' hSw; (try dsimp only at hSw); go_simp; (try (rw [if_pos (by omega)]; go_simp)); (try with_reducible rfl))); (simp only [Act.put, List.setIfInBounds_toArray, List.set_cons_zero, List.set_cons_succ]))
      refine fm_now2 rfl rfl ?_ ?_
      · skip
        refine opW_take rfl rfl ?_
        go_simp
        obtain ⟨x3, hy⟩ : ∃ x, x = x2.alloc (.cells #[.int .i64 0, .int .i64 0, .slice none 0 0] 26) := ⟨_, rfl⟩
        rw [← hy]
        have hb : Below x2.heap.size x2 x3 := hy ▸ (Below.refl _ _).alloc (Nat.le_refl _) _
        have BZ := Lib.hid (show Box x3 x2.heap.size [.int .i64 0, .int .i64 0, .slice none 0 0] from hy ▸ Box.newA x2 [.int .i64 0, .int .i64 0, .slice none 0 0] _ rfl)
        have NZ := Lib.hid (show W0.heap.size ≤ x2.heap.size ∧ x2.heap.size < x3.heap.size from ⟨D2.out.size, by rw [hy]; simp⟩)
        clear hy
        replace O1 := Lib.hid (O1.out.below hb)
        replace SGq := Lib.hid (SGq.out.below hb)
        have SZ3 := Lib.hid (show x2.heap.size ≤ x3.heap.size from hb.size)
        have D3 := Lib.hid (below_step D2.out D2.out.size hb)
        clear hb D2
        refine ⟨(HX.out.below D3.out).cell, ?_⟩
        refine fm_now ?_
        refine opW_take rfl rfl ?_
        go_simp
        obtain ⟨x4, hy⟩ : ∃ x, x = x3.alloc (.cells #[.int .i64 0, .int .i64 0, .slice none 0 0] 26) := ⟨_, rfl⟩
        rw [← hy]
        have hb : Below x3.heap.size x3 x4 := hy ▸ (Below.refl _ _).alloc (Nat.le_refl _) _
        have BY := Lib.hid (show Box x4 x3.heap.size [.int .i64 0, .int .i64 0, .slice none 0 0] from hy ▸ Box.newA x3 [.int .i64 0, .int .i64 0, .slice none 0 0] _ rfl)
        have NY := Lib.hid (show W0.heap.size ≤ x3.heap.size ∧ x3.heap.size < x4.heap.size from ⟨D3.out.size, by rw [hy]; simp⟩)
        clear hy
        replace O1 := Lib.hid (O1.out.below hb)
        replace SGq := Lib.hid (SGq.out.below hb)
        replace BZ := Lib.hid (BZ.out.below hb)
        have SZ4 := Lib.hid (show x3.heap.size ≤ x4.heap.size from hb.size)
        have D4 := Lib.hid (below_step D3.out D3.out.size hb)
        clear hb D3
        refine ⟨(HX.out.below D4.out).cell, ?_⟩
        refine fm_skip rfl ?_
        refine fm_skip rfl ?_
        have eY := NY.out; have eZ := NZ.out; have e0 := HBL.out
        have ez1 := SZ1.out; have ez2 := SZ2.out; have ez3 := SZ3.out; have ez4 := SZ4.out
        have hyz : x3.heap.size ≠ x2.heap.size := by omega
        have NE := Lib.hid (show b0 ≠ x3.heap.size ∧ b0 ≠ x2.heap.size ∧ x3.heap.size ≠ x2.heap.size ∧ W0.heap.size ≤ x3.heap.size ∧ W0.heap.size ≤ x2.heap.size from ⟨by omega, by omega, hyz, by omega, by omega⟩)
        clear eY eZ e0 hyz NY NZ ez1 SZ1 ez2 SZ2 ez3 SZ3 ez4 SZ4
        iterate 1 (refine fm_take (v := ?_) rfl rfl ?_ ?_; rotate_left; (next => (intro w' hSw; (try dsimp only at hSw); go_simp; (try (rw [if_pos (by omega)]; go_simp)); (try with_reducible rfl))); (simp only [Act.put, List.setIfInBounds_toArray, List.set_cons_zero, List.set_cons_succ]))
        have HX9 := Lib.hid (HX.out.below D4.out)
        have hb1 := bel_put3U (W := x4) (x3.heap.size) (.int .i64 r5) (.int .i64 k5) (.slice a5 l5 c5_)
        have hp : Box (((x4.setCell ⟨x3.heap.size, 0, none⟩ (.int .i64 r5)).setCell ⟨x3.heap.size, 1, none⟩ (.int .i64 k5)).setCell ⟨x3.heap.size, 2, none⟩ (.slice a5 l5 c5_)) b0 _ ∧ Box (((x4.setCell ⟨x3.heap.size, 0, none⟩ (.int .i64 r5)).setCell ⟨x3.heap.size, 1, none⟩ (.int .i64 k5)).setCell ⟨x3.heap.size, 2, none⟩ (.slice a5 l5 c5_)) (x2.heap.size) [.int .i64 0, .int .i64 0, .slice none 0 0] ∧ SG17 d (List.replicate k 0) [] [] 0 d.length 0 d.length (((x4.setCell ⟨x3.heap.size, 0, none⟩ (.int .i64 r5)).setCell ⟨x3.heap.size, 1, none⟩ (.int .i64 k5)).setCell ⟨x3.heap.size, 2, none⟩ (.slice a5 l5 c5_)) _ ∧ Below W0.heap.size W0 (((x4.setCell ⟨x3.heap.size, 0, none⟩ (.int .i64 r5)).setCell ⟨x3.heap.size, 1, none⟩ (.int .i64 k5)).setCell ⟨x3.heap.size, 2, none⟩ (.slice a5 l5 c5_)) := ⟨HX9.out.bel NE.out.1 hb1, BZ.out.bel (fun e => NE.out.2.2.1 e.symm) hb1, SGq.out.put BY.out _ _ _, D4.out.trans ((hb1.mono D4.out.size).below NE.out.2.2.2.1)⟩
        have HP := Lib.hid hp
        clear hp hb1
        obtain ⟨o1, o2, o3⟩ := BY.out.facts
        refine fm_one ?_
        refine opW_take rfl rfl ?_
        go_simp
        refine ⟨HP.out.1.cell, ?_⟩
        clear o1 o2 o3
        generalize ((x4.setCell ⟨x3.heap.size, 0, none⟩ (.int .i64 r5)).setCell ⟨x3.heap.size, 1, none⟩ (.int .i64 k5)).setCell ⟨x3.heap.size, 2, none⟩ (.slice a5 l5 c5_) = v1 at *
        have hb2 := bel_put3U (W := v1) (x2.heap.size) (.int .i64 r6) (.int .i64 k6) (.slice a6 l6 c6_)
        have hp : Box (((v1.setCell ⟨x2.heap.size, 0, none⟩ (.int .i64 r6)).setCell ⟨x2.heap.size, 1, none⟩ (.int .i64 k6)).setCell ⟨x2.heap.size, 2, none⟩ (.slice a6 l6 c6_)) b0 _ ∧ SG17 d (List.replicate k 0) [] [] 0 d.length 0 d.length (((v1.setCell ⟨x2.heap.size, 0, none⟩ (.int .i64 r6)).setCell ⟨x2.heap.size, 1, none⟩ (.int .i64 k6)).setCell ⟨x2.heap.size, 2, none⟩ (.slice a6 l6 c6_)) _ ∧ Below W0.heap.size W0 (((v1.setCell ⟨x2.heap.size, 0, none⟩ (.int .i64 r6)).setCell ⟨x2.heap.size, 1, none⟩ (.int .i64 k6)).setCell ⟨x2.heap.size, 2, none⟩ (.slice a6 l6 c6_)) := ⟨HP.out.1.bel NE.out.2.1 hb2, HP.out.2.2.1.put HP.out.2.1 _ _ _, HP.out.2.2.2.trans ((hb2.mono HP.out.2.2.2.size).below NE.out.2.2.2.2)⟩
        have HP2 := Lib.hid hp
        clear hp hb2
        obtain ⟨o1, o2, o3⟩ := HP.out.2.1.facts
        refine fm_one ?_
        refine opW_take rfl rfl ?_
        go_simp
        refine ⟨HP2.out.1.cell, ?_⟩
        clear o1 o2 o3
        generalize ((v1.setCell ⟨x2.heap.size, 0, none⟩ (.int .i64 r6)).setCell ⟨x2.heap.size, 1, none⟩ (.int .i64 k6)).setCell ⟨x2.heap.size, 2, none⟩ (.slice a6 l6 c6_) = v2 at *
        iterate 1 (refine fm_take (v := ?_) rfl rfl ?_ ?_; rotate_left; (next => (intro w' hSw; (try dsimp only at hSw); go_simp; (try (rw [if_pos (by omega)]; go_simp)); (try with_reducible rfl))); (simp only [Act.put, List.setIfInBounds_toArray, List.set_cons_zero, List.set_cons_succ]))
        refine fm_nil ?_
        go_simp
        go_wp2_with fail
        refine NoPanic.normal ?_
        exact HQ.out _ _ _ _ _ _ _ _ _ _ _ _ _ _ _ _ _ _ _ _ ⟨_, rfl, rfl, rfl, HP2.out.2.1, HP2.out.2.2⟩
      · skip
        refine opW_take rfl rfl ?_
        go_simp
        obtain ⟨x5, hy⟩ : ∃ x, x = x2.alloc (.cells #[.int .i64 0, .int .i64 0, .slice none 0 0] 26) := ⟨_, rfl⟩
        rw [← hy]
        have hb : Below x2.heap.size x2 x5 := hy ▸ (Below.refl _ _).alloc (Nat.le_refl _) _
        have BY := Lib.hid (show Box x5 x2.heap.size [.int .i64 0, .int .i64 0, .slice none 0 0] from hy ▸ Box.newA x2 [.int .i64 0, .int .i64 0, .slice none 0 0] _ rfl)
        have NY := Lib.hid (show W0.heap.size ≤ x2.heap.size ∧ x2.heap.size < x5.heap.size from ⟨D2.out.size, by rw [hy]; simp⟩)
        clear hy
        replace O1 := Lib.hid (O1.out.below hb)
        replace SGq := Lib.hid (SGq.out.below hb)
        have SZ5 := Lib.hid (show x2.heap.size ≤ x5.heap.size from hb.size)
        have D5 := Lib.hid (below_step D2.out D2.out.size hb)
        clear hb D2
        refine ⟨(HX.out.below D5.out).cell, ?_⟩
        refine fm_skip rfl ?_
        refine fm_now ?_
        refine opW_take rfl rfl ?_
        go_simp
        obtain ⟨x6, hy⟩ : ∃ x, x = x5.alloc (.cells #[.int .i64 0, .int .i64 0, .slice none 0 0] 26) := ⟨_, rfl⟩
        rw [← hy]
        have hb : Below x5.heap.size x5 x6 := hy ▸ (Below.refl _ _).alloc (Nat.le_refl _) _
        have BZ := Lib.hid (show Box x6 x5.heap.size [.int .i64 0, .int .i64 0, .slice none 0 0] from hy ▸ Box.newA x5 [.int .i64 0, .int .i64 0, .slice none 0 0] _ rfl)
        have NZ := Lib.hid (show W0.heap.size ≤ x5.heap.size ∧ x5.heap.size < x6.heap.size from ⟨D5.out.size, by rw [hy]; simp⟩)
        clear hy
        replace O1 := Lib.hid (O1.out.below hb)
        replace SGq := Lib.hid (SGq.out.below hb)
        replace BY := Lib.hid (BY.out.below hb)
        have SZ6 := Lib.hid (show x5.heap.size ≤ x6.heap.size from hb.size)
        have D6 := Lib.hid (below_step D5.out D5.out.size hb)
        clear hb D5
        refine ⟨(HX.out.below D6.out).cell, ?_⟩
        refine fm_skip rfl ?_
        have eY := NY.out; have eZ := NZ.out; have e0 := HBL.out
        have ez1 := SZ1.out; have ez2 := SZ2.out; have ez5 := SZ5.out; have ez6 := SZ6.out
        have hyz : x2.heap.size ≠ x5.heap.size := by omega
        have NE := Lib.hid (show b0 ≠ x2.heap.size ∧ b0 ≠ x5.heap.size ∧ x2.heap.size ≠ x5.heap.size ∧ W0.heap.size ≤ x2.heap.size ∧ W0.heap.size ≤ x5.heap.size from ⟨by omega, by omega, hyz, by omega, by omega⟩)
        clear eY eZ e0 hyz NY NZ ez1 SZ1 ez2 SZ2 ez5 SZ5 ez6 SZ6
        iterate 1 (refine fm_take (v := ?_) rfl rfl ?_ ?_; rotate_left; (next => (intro w' hSw; (try dsimp only at hSw); go_simp; (try (rw [if_pos (by omega)]; go_simp)); (try with_reducible rfl))); (simp only [Act.put, List.setIfInBounds_toArray, List.set_cons_zero, List.set_cons_succ]))
        have HX9 := Lib.hid (HX.out.below D6.out)
        have hb1 := bel_put3U (W := x6) (x2.heap.size) (.int .i64 r5) (.int .i64 k5) (.slice a5 l5 c5_)
        have hp : Box (((x6.setCell ⟨x2.heap.size, 0, none⟩ (.int .i64 r5)).setCell ⟨x2.heap.size, 1, none⟩ (.int .i64 k5)).setCell ⟨x2.heap.size, 2, none⟩ (.slice a5 l5 c5_)) b0 _ ∧ Box (((x6.setCell ⟨x2.heap.size, 0, none⟩ (.int .i64 r5)).setCell ⟨x2.heap.size, 1, none⟩ (.int .i64 k5)).setCell ⟨x2.heap.size, 2, none⟩ (.slice a5 l5 c5_)) (x5.heap.size) [.int .i64 0, .int .i64 0, .slice none 0 0] ∧ SG17 d (List.replicate k 0) [] [] 0 d.length 0 d.length (((x6.setCell ⟨x2.heap.size, 0, none⟩ (.int .i64 r5)).setCell ⟨x2.heap.size, 1, none⟩ (.int .i64 k5)).setCell ⟨x2.heap.size, 2, none⟩ (.slice a5 l5 c5_)) _ ∧ Below W0.heap.size W0 (((x6.setCell ⟨x2.heap.size, 0, none⟩ (.int .i64 r5)).setCell ⟨x2.heap.size, 1, none⟩ (.int .i64 k5)).setCell ⟨x2.heap.size, 2, none⟩ (.slice a5 l5 c5_)) := ⟨HX9.out.bel NE.out.1 hb1, BZ.out.bel (fun e => NE.out.2.2.1 e.symm) hb1, SGq.out.put BY.out _ _ _, D6.out.trans ((hb1.mono D6.out.size).below NE.out.2.2.2.1)⟩
        have HP := Lib.hid hp
        clear hp hb1
        obtain ⟨o1, o2, o3⟩ := BY.out.facts
        refine fm_one ?_
        refine opW_take rfl rfl ?_
        go_simp
        refine ⟨HP.out.1.cell, ?_⟩
        clear o1 o2 o3
        generalize ((x6.setCell ⟨x2.heap.size, 0, none⟩ (.int .i64 r5)).setCell ⟨x2.heap.size, 1, none⟩ (.int .i64 k5)).setCell ⟨x2.heap.size, 2, none⟩ (.slice a5 l5 c5_) = v1 at *
        have hb2 := bel_put3U (W := v1) (x5.heap.size) (.int .i64 r6) (.int .i64 k6) (.slice a6 l6 c6_)
        have hp : Box (((v1.setCell ⟨x5.heap.size, 0, none⟩ (.int .i64 r6)).setCell ⟨x5.heap.size, 1, none⟩ (.int .i64 k6)).setCell ⟨x5.heap.size, 2, none⟩ (.slice a6 l6 c6_)) b0 _ ∧ SG17 d (List.replicate k 0) [] [] 0 d.length 0 d.length (((v1.setCell ⟨x5.heap.size, 0, none⟩ (.int .i64 r6)).setCell ⟨x5.heap.size, 1, none⟩ (.int .i64 k6)).setCell ⟨x5.heap.size, 2, none⟩ (.slice a6 l6 c6_)) _ ∧ Below W0.heap.size W0 (((v1.setCell ⟨x5.heap.size, 0, none⟩ (.int .i64 r6)).setCell ⟨x5.heap.size, 1, none⟩ (.int .i64 k6)).setCell ⟨x5.heap.size, 2, none⟩ (.slice a6 l6 c6_)) := ⟨HP.out.1.bel NE.out.2.1 hb2, HP.out.2.2.1.put HP.out.2.1 _ _ _, HP.out.2.2.2.trans ((hb2.mono HP.out.2.2.2.size).below NE.out.2.2.2.2)⟩
        have HP2 := Lib.hid hp
        clear hp hb2
        obtain ⟨o1, o2, o3⟩ := HP.out.2.1.facts
        refine fm_one ?_
        refine opW_take rfl rfl ?_
        go_simp
        refine ⟨HP2.out.1.cell, ?_⟩
        clear o1 o2 o3
        generalize ((v1.setCell ⟨x5.heap.size, 0, none⟩ (.int .i64 r6)).setCell ⟨x5.heap.size, 1, none⟩ (.int .i64 k6)).setCell ⟨x5.heap.size, 2, none⟩ (.slice a6 l6 c6_) = v2 at *
        iterate 1 (refine fm_take (v := ?_) rfl rfl ?_ ?_; rotate_left; (next => (intro w' hSw; (try dsimp only at hSw); go_simp; (try (rw [if_pos (by omega)]; go_simp)); (try with_reducible rfl))); (simp only [Act.put, List.setIfInBounds_toArray, List.set_cons_zero, List.set_cons_succ]))
        refine fm_nil ?_
        go_simp
        go_wp2_with fail
        refine NoPanic.normal ?_
        exact HQ.out _ _ _ _ _ _ _ _ _ _ _ _ _ _ _ _ _ _ _ _ ⟨_, rfl, rfl, rfl, HP2.out.2.1, HP2.out.2.2⟩
    · skip
      refine opW_take rfl rfl ?_
      go_simp
      obtain ⟨x7, hy⟩ : ∃ x, x = x1.alloc (.cells #[.int .i64 0, .int .i64 0, .slice none 0 0] 26) := ⟨_, rfl⟩
      rw [← hy]
      have hb : Below x1.heap.size x1 x7 := hy ▸ (Below.refl _ _).alloc (Nat.le_refl _) _
      have BZ := Lib.hid (show Box x7 x1.heap.size [.int .i64 0, .int .i64 0, .slice none 0 0] from hy ▸ Box.newA x1 [.int .i64 0, .int .i64 0, .slice none 0 0] _ rfl)
      have NZ := Lib.hid (show W0.heap.size ≤ x1.heap.size ∧ x1.heap.size < x7.heap.size from ⟨D1.out.size, by rw [hy]; simp⟩)
      clear hy
      replace O1 := Lib.hid (O1.out.below hb)
      have SZ7 := Lib.hid (show x1.heap.size ≤ x7.heap.size from hb.size)
      have D7 := Lib.hid (below_step D1.out D1.out.size hb)
      clear hb D1
      refine ⟨(HX.out.below D7.out).cell, ?_⟩
      refine fm_one1 ?_ ?_
      · skip
        refine opW_take rfl rfl ?_
        go_simp
        refine (HG.out _ _ D7.out O1.out).mono ?_
        rintro e_ x8 ⟨⟨a4, a5, a6, n4, c4_, l5, c5_, l6, c6_, r5, k5, r6, k6, m4, code⟩, rfl, hs, hb⟩
        have SGq := Lib.hid hs
        clear hs
        dsimp only [GR.val]
        replace O1 := Lib.hid (O1.out.below hb)
        replace BZ := Lib.hid (BZ.out.below hb)
        have SZ8 := Lib.hid (show x7.heap.size ≤ x8.heap.size from hb.size)
        have D8 := Lib.hid (below_step D7.out D7.out.size hb)
        clear hb D7
        refine ⟨(HX.out.below D8.out).cell, ?_⟩
        iterate 6 (refine fm_take (v := ?_) rfl rfl ?_ ?_; rotate_left; (next => (intro w' hSw; (try dsimp only at hSw); go_simp; (try (rw [if_pos (by omega)]; go_simp)); (try with_reducible rfl))); (simp only [Act.put, List.setIfInBounds_toArray, List.set_cons_zero, List.set_cons_succ]))
        refine fm_now ?_
        refine opW_take rfl rfl ?_
        go_simp
        obtain ⟨x9, hy⟩ : ∃ x, x = x8.alloc (.cells #[.int .i64 0, .int .i64 0, .slice none 0 0] 26) := ⟨_, rfl⟩
        rw [← hy]
        have hb : Below x8.heap.size x8 x9 := hy ▸ (Below.refl _ _).alloc (Nat.le_refl _) _
        have BY := Lib.hid (show Box x9 x8.heap.size [.int .i64 0, .int .i64 0, .slice none 0 0] from hy ▸ Box.newA x8 [.int .i64 0, .int .i64 0, .slice none 0 0] _ rfl)
        have NY := Lib.hid (show W0.heap.size ≤ x8.heap.size ∧ x8.heap.size < x9.heap.size from ⟨D8.out.size, by rw [hy]; simp⟩)
        clear hy
        replace O1 := Lib.hid (O1.out.below hb)
        replace SGq := Lib.hid (SGq.out.below hb)
        replace BZ := Lib.hid (BZ.out.below hb)
        have SZ9 := Lib.hid (show x8.heap.size ≤ x9.heap.size from hb.size)
        have D9 := Lib.hid (below_step D8.out D8.out.size hb)
        clear hb D8
        refine ⟨(HX.out.below D9.out).cell, ?_⟩
        refine fm_skip rfl ?_
        refine fm_skip rfl ?_
        have eY := NY.out; have eZ := NZ.out; have e0 := HBL.out
        have ez1 := SZ1.out; have ez7 := SZ7.out; have ez8 := SZ8.out; have ez9 := SZ9.out
        have hyz : x8.heap.size ≠ x1.heap.size := by omega
        have NE := Lib.hid (show b0 ≠ x8.heap.size ∧ b0 ≠ x1.heap.size ∧ x8.heap.size ≠ x1.heap.size ∧ W0.heap.size ≤ x8.heap.size ∧ W0.heap.size ≤ x1.heap.size from ⟨by omega, by omega, hyz, by omega, by omega⟩)
        clear eY eZ e0 hyz NY NZ ez1 SZ1 ez7 SZ7 ez8 SZ8 ez9 SZ9
        iterate 1 (refine fm_take (v := ?_) rfl rfl ?_ ?_; rotate_left; (next => (intro w' hSw; (try dsimp only at hSw); go_simp; (try (rw [if_pos (by omega)]; go_simp)); (try with_reducible rfl))); (simp only [Act.put, List.setIfInBounds_toArray, List.set_cons_zero, List.set_cons_succ]))
        have HX9 := Lib.hid (HX.out.below D9.out)
        have hb1 := bel_put3U (W := x9) (x8.heap.size) (.int .i64 r5) (.int .i64 k5) (.slice a5 l5 c5_)
        have hp : Box (((x9.setCell ⟨x8.heap.size, 0, none⟩ (.int .i64 r5)).setCell ⟨x8.heap.size, 1, none⟩ (.int .i64 k5)).setCell ⟨x8.heap.size, 2, none⟩ (.slice a5 l5 c5_)) b0 _ ∧ Box (((x9.setCell ⟨x8.heap.size, 0, none⟩ (.int .i64 r5)).setCell ⟨x8.heap.size, 1, none⟩ (.int .i64 k5)).setCell ⟨x8.heap.size, 2, none⟩ (.slice a5 l5 c5_)) (x1.heap.size) [.int .i64 0, .int .i64 0, .slice none 0 0] ∧ SG17 d (List.replicate k 0) [] [] 0 d.length 0 d.length (((x9.setCell ⟨x8.heap.size, 0, none⟩ (.int .i64 r5)).setCell ⟨x8.heap.size, 1, none⟩ (.int .i64 k5)).setCell ⟨x8.heap.size, 2, none⟩ (.slice a5 l5 c5_)) _ ∧ Below W0.heap.size W0 (((x9.setCell ⟨x8.heap.size, 0, none⟩ (.int .i64 r5)).setCell ⟨x8.heap.size, 1, none⟩ (.int .i64 k5)).setCell ⟨x8.heap.size, 2, none⟩ (.slice a5 l5 c5_)) := ⟨HX9.out.bel NE.out.1 hb1, BZ.out.bel (fun e => NE.out.2.2.1 e.symm) hb1, SGq.out.put BY.out _ _ _, D9.out.trans ((hb1.mono D9.out.size).below NE.out.2.2.2.1)⟩
        have HP := Lib.hid hp
        clear hp hb1
        obtain ⟨o1, o2, o3⟩ := BY.out.facts
        refine fm_one ?_
        refine opW_take rfl rfl ?_
        go_simp
        refine ⟨HP.out.1.cell, ?_⟩
        clear o1 o2 o3
        generalize ((x9.setCell ⟨x8.heap.size, 0, none⟩ (.int .i64 r5)).setCell ⟨x8.heap.size, 1, none⟩ (.int .i64 k5)).setCell ⟨x8.heap.size, 2, none⟩ (.slice a5 l5 c5_) = v1 at *
        have hb2 := bel_put3U (W := v1) (x1.heap.size) (.int .i64 r6) (.int .i64 k6) (.slice a6 l6 c6_)
        have hp : Box (((v1.setCell ⟨x1.heap.size, 0, none⟩ (.int .i64 r6)).setCell ⟨x1.heap.size, 1, none⟩ (.int .i64 k6)).setCell ⟨x1.heap.size, 2, none⟩ (.slice a6 l6 c6_)) b0 _ ∧ SG17 d (List.replicate k 0) [] [] 0 d.length 0 d.length (((v1.setCell ⟨x1.heap.size, 0, none⟩ (.int .i64 r6)).setCell ⟨x1.heap.size, 1, none⟩ (.int .i64 k6)).setCell ⟨x1.heap.size, 2, none⟩ (.slice a6 l6 c6_)) _ ∧ Below W0.heap.size W0 (((v1.setCell ⟨x1.heap.size, 0, none⟩ (.int .i64 r6)).setCell ⟨x1.heap.size, 1, none⟩ (.int .i64 k6)).setCell ⟨x1.heap.size, 2, none⟩ (.slice a6 l6 c6_)) := ⟨HP.out.1.bel NE.out.2.1 hb2, HP.out.2.2.1.put HP.out.2.1 _ _ _, HP.out.2.2.2.trans ((hb2.mono HP.out.2.2.2.size).below NE.out.2.2.2.2)⟩
        have HP2 := Lib.hid hp
        clear hp hb2
        obtain ⟨o1, o2, o3⟩ := HP.out.2.1.facts
        refine fm_one ?_
        refine opW_take rfl rfl ?_
        go_simp
        refine ⟨HP2.out.1.cell, ?_⟩
        clear o1 o2 o3
        generalize ((v1.setCell ⟨x1.heap.size, 0, none⟩ (.int .i64 r6)).setCell ⟨x1.heap.size, 1, none⟩ (.int .i64 k6)).setCell ⟨x1.heap.size, 2, none⟩ (.slice a6 l6 c6_) = v2 at *
        iterate 1 (refine fm_take (v := ?_) rfl rfl ?_ ?_; rotate_left; (next => (intro w' hSw; (try dsimp only at hSw); go_simp; (try (rw [if_pos (by omega)]; go_simp)); (try with_reducible rfl))); (simp only [Act.put, List.setIfInBounds_toArray, List.set_cons_zero, List.set_cons_succ]))
        refine fm_nil ?_
        go_simp
        go_wp2_with fail
        refine NoPanic.normal ?_
        exact HQ.out _ _ _ _ _ _ _ _ _ _ _ _ _ _ _ _ _ _ _ _ ⟨_, rfl, rfl, rfl, HP2.out.2.1, HP2.out.2.2⟩
      · skip
        refine opW_take rfl rfl ?_
        go_simp
        obtain ⟨x10, hy⟩ : ∃ x, x = x7.alloc (.cells #[.int .i64 0, .int .i64 0, .slice none 0 0] 26) := ⟨_, rfl⟩
        rw [← hy]
        have hb : Below x7.heap.size x7 x10 := hy ▸ (Below.refl _ _).alloc (Nat.le_refl _) _
        have BY := Lib.hid (show Box x10 x7.heap.size [.int .i64 0, .int .i64 0, .slice none 0 0] from hy ▸ Box.newA x7 [.int .i64 0, .int .i64 0, .slice none 0 0] _ rfl)
        have NY := Lib.hid (show W0.heap.size ≤ x7.heap.size ∧ x7.heap.size < x10.heap.size from ⟨D7.out.size, by rw [hy]; simp⟩)
        clear hy
        replace O1 := Lib.hid (O1.out.below hb)
        replace BZ := Lib.hid (BZ.out.below hb)
        have SZ10 := Lib.hid (show x7.heap.size ≤ x10.heap.size from hb.size)
        have D10 := Lib.hid (below_step D7.out D7.out.size hb)
        clear hb D7
        refine ⟨(HX.out.below D10.out).cell, ?_⟩
        refine fm_one ?_
        refine opW_take rfl rfl ?_
        go_simp
        refine (HG.out _ _ D10.out O1.out).mono ?_
        rintro e_ x11 ⟨⟨a4, a5, a6, n4, c4_, l5, c5_, l6, c6_, r5, k5, r6, k6, m4, code⟩, rfl, hs, hb⟩
        have SGq := Lib.hid hs
        clear hs
        dsimp only [GR.val]
        replace O1 := Lib.hid (O1.out.below hb)
        replace BY := Lib.hid (BY.out.below hb)
        replace BZ := Lib.hid (BZ.out.below hb)
        have SZ11 := Lib.hid (show x10.heap.size ≤ x11.heap.size from hb.size)
        have D11 := Lib.hid (below_step D10.out D10.out.size hb)
        clear hb D10
        refine ⟨(HX.out.below D11.out).cell, ?_⟩
        iterate 6 (refine fm_take (v := ?_) rfl rfl ?_ ?_; rotate_left; (next => (intro w' hSw; (try dsimp only at hSw); go_simp; (try (rw [if_pos (by omega)]; go_simp)); (try with_reducible rfl))); (simp only [Act.put, List.setIfInBounds_toArray, List.set_cons_zero, List.set_cons_succ]))
        refine fm_skip rfl ?_
        refine fm_skip rfl ?_
        have eY := NY.out; have eZ := NZ.out; have e0 := HBL.out
        have ez1 := SZ1.out; have ez7 := SZ7.out; have ez10 := SZ10.out; have ez11 := SZ11.out
        have hyz : x7.heap.size ≠ x1.heap.size := by omega
        have NE := Lib.hid (show b0 ≠ x7.heap.size ∧ b0 ≠ x1.heap.size ∧ x7.heap.size ≠ x1.heap.size ∧ W0.heap.size ≤ x7.heap.size ∧ W0.heap.size ≤ x1.heap.size from ⟨by omega, by omega, hyz, by omega, by omega⟩)
        clear eY eZ e0 hyz NY NZ ez1 SZ1 ez7 SZ7 ez10 SZ10 ez11 SZ11
        iterate 1 (refine fm_take (v := ?_) rfl rfl ?_ ?_; rotate_left; (next => (intro w' hSw; (try dsimp only at hSw); go_simp; (try (rw [if_pos (by omega)]; go_simp)); (try with_reducible rfl))); (simp only [Act.put, List.setIfInBounds_toArray, List.set_cons_zero, List.set_cons_succ]))
        have HX9 := Lib.hid (HX.out.below D11.out)
        have hb1 := bel_put3U (W := x11) (x7.heap.size) (.int .i64 r5) (.int .i64 k5) (.slice a5 l5 c5_)
        have hp : Box (((x11.setCell ⟨x7.heap.size, 0, none⟩ (.int .i64 r5)).setCell ⟨x7.heap.size, 1, none⟩ (.int .i64 k5)).setCell ⟨x7.heap.size, 2, none⟩ (.slice a5 l5 c5_)) b0 _ ∧ Box (((x11.setCell ⟨x7.heap.size, 0, none⟩ (.int .i64 r5)).setCell ⟨x7.heap.size, 1, none⟩ (.int .i64 k5)).setCell ⟨x7.heap.size, 2, none⟩ (.slice a5 l5 c5_)) (x1.heap.size) [.int .i64 0, .int .i64 0, .slice none 0 0] ∧ SG17 d (List.replicate k 0) [] [] 0 d.length 0 d.length (((x11.setCell ⟨x7.heap.size, 0, none⟩ (.int .i64 r5)).setCell ⟨x7.heap.size, 1, none⟩ (.int .i64 k5)).setCell ⟨x7.heap.size, 2, none⟩ (.slice a5 l5 c5_)) _ ∧ Below W0.heap.size W0 (((x11.setCell ⟨x7.heap.size, 0, none⟩ (.int .i64 r5)).setCell ⟨x7.heap.size, 1, none⟩ (.int .i64 k5)).setCell ⟨x7.heap.size, 2, none⟩ (.slice a5 l5 c5_)) := ⟨HX9.out.bel NE.out.1 hb1, BZ.out.bel (fun e => NE.out.2.2.1 e.symm) hb1, SGq.out.put BY.out _ _ _, D11.out.trans ((hb1.mono D11.out.size).below NE.out.2.2.2.1)⟩
        have HP := Lib.hid hp
        clear hp hb1
        obtain ⟨o1, o2, o3⟩ := BY.out.facts
        refine fm_one ?_
        refine opW_take rfl rfl ?_
        go_simp
        refine ⟨HP.out.1.cell, ?_⟩
        clear o1 o2 o3
        generalize ((x11.setCell ⟨x7.heap.size, 0, none⟩ (.int .i64 r5)).setCell ⟨x7.heap.size, 1, none⟩ (.int .i64 k5)).setCell ⟨x7.heap.size, 2, none⟩ (.slice a5 l5 c5_) = v1 at *
        have hb2 := bel_put3U (W := v1) (x1.heap.size) (.int .i64 r6) (.int .i64 k6) (.slice a6 l6 c6_)
        have hp : Box (((v1.setCell ⟨x1.heap.size, 0, none⟩ (.int .i64 r6)).setCell ⟨x1.heap.size, 1, none⟩ (.int .i64 k6)).setCell ⟨x1.heap.size, 2, none⟩ (.slice a6 l6 c6_)) b0 _ ∧ SG17 d (List.replicate k 0) [] [] 0 d.length 0 d.length (((v1.setCell ⟨x1.heap.size, 0, none⟩ (.int .i64 r6)).setCell ⟨x1.heap.size, 1, none⟩ (.int .i64 k6)).setCell ⟨x1.heap.size, 2, none⟩ (.slice a6 l6 c6_)) _ ∧ Below W0.heap.size W0 (((v1.setCell ⟨x1.heap.size, 0, none⟩ (.int .i64 r6)).setCell ⟨x1.heap.size, 1, none⟩ (.int .i64 k6)).setCell ⟨x1.heap.size, 2, none⟩ (.slice a6 l6 c6_)) := ⟨HP.out.1.bel NE.out.2.1 hb2, HP.out.2.2.1.put HP.out.2.1 _ _ _, HP.out.2.2.2.trans ((hb2.mono HP.out.2.2.2.size).below NE.out.2.2.2.2)⟩
        have HP2 := Lib.hid hp
        clear hp hb2
        obtain ⟨o1, o2, o3⟩ := HP.out.2.1.facts
        refine fm_one ?_
        refine opW_take rfl rfl ?_
        go_simp
        refine ⟨HP2.out.1.cell, ?_⟩
        clear o1 o2 o3
        generalize ((v1.setCell ⟨x1.heap.size, 0, none⟩ (.int .i64 r6)).setCell ⟨x1.heap.size, 1, none⟩ (.int .i64 k6)).setCell ⟨x1.heap.size, 2, none⟩ (.slice a6 l6 c6_) = v2 at *
        iterate 1 (refine fm_take (v := ?_) rfl rfl ?_ ?_; rotate_left; (next => (intro w' hSw; (try dsimp only at hSw); go_simp; (try (rw [if_pos (by omega)]; go_simp)); (try with_reducible rfl))); (simp only [Act.put, List.setIfInBounds_toArray, List.set_cons_zero, List.set_cons_succ]))
        refine fm_nil ?_
        go_simp
        go_wp2_with fail
        refine NoPanic.normal ?_
        exact HQ.out _ _ _ _ _ _ _ _ _ _ _ _ _ _ _ _ _ _ _ _ ⟨_, rfl, rfl, rfl, HP2.out.2.1, HP2.out.2.2⟩
    · skip
      refine opW_take rfl rfl ?_
      go_simp
      obtain ⟨x12, hy⟩ : ∃ x, x = x1.alloc (.cells #[.int .i64 0, .int .i64 0, .slice none 0 0] 26) := ⟨_, rfl⟩
      rw [← hy]
      have hb : Below x1.heap.size x1 x12 := hy ▸ (Below.refl _ _).alloc (Nat.le_refl _) _
      have BY := Lib.hid (show Box x12 x1.heap.size [.int .i64 0, .int .i64 0, .slice none 0 0] from hy ▸ Box.newA x1 [.int .i64 0, .int .i64 0, .slice none 0 0] _ rfl)
      have NY := Lib.hid (show W0.heap.size ≤ x1.heap.size ∧ x1.heap.size < x12.heap.size from ⟨D1.out.size, by rw [hy]; simp⟩)
      clear hy
      replace O1 := Lib.hid (O1.out.below hb)
      have SZ12 := Lib.hid (show x1.heap.size ≤ x12.heap.size from hb.size)
      have D12 := Lib.hid (below_step D1.out D1.out.size hb)
      clear hb D1
      refine ⟨(HX.out.below D12.out).cell, ?_⟩
      refine fm_one1 ?_ ?_
      · skip
        refine opW_take rfl rfl ?_
        go_simp
        refine (HG.out _ _ D12.out O1.out).mono ?_
        rintro e_ x13 ⟨⟨a4, a5, a6, n4, c4_, l5, c5_, l6, c6_, r5, k5, r6, k6, m4, code⟩, rfl, hs, hb⟩
        have SGq := Lib.hid hs
        clear hs
        dsimp only [GR.val]
        replace O1 := Lib.hid (O1.out.below hb)
        replace BY := Lib.hid (BY.out.below hb)
        have SZ13 := Lib.hid (show x12.heap.size ≤ x13.heap.size from hb.size)
        have D13 := Lib.hid (below_step D12.out D12.out.size hb)
        clear hb D12
        refine ⟨(HX.out.below D13.out).cell, ?_⟩
        iterate 6 (refine fm_take (v := ?_) rfl rfl ?_ ?_; rotate_left; (next => (intro w' hSw; (try dsimp only at hSw); go_simp; (try (rw [if_pos (by omega)]; go_simp)); (try with_reducible rfl))); (simp only [Act.put, List.setIfInBounds_toArray, List.set_cons_zero, List.set_cons_succ]))
        refine fm_skip rfl ?_
        refine fm_now ?_
        refine opW_take rfl rfl ?_
        go_simp
        obtain ⟨x14, hy⟩ : ∃ x, x = x13.alloc (.cells #[.int .i64 0, .int .i64 0, .slice none 0 0] 26) := ⟨_, rfl⟩
        rw [← hy]
        have hb : Below x13.heap.size x13 x14 := hy ▸ (Below.refl _ _).alloc (Nat.le_refl _) _
        have BZ := Lib.hid (show Box x14 x13.heap.size [.int .i64 0, .int .i64 0, .slice none 0 0] from hy ▸ Box.newA x13 [.int .i64 0, .int .i64 0, .slice none 0 0] _ rfl)
        have NZ := Lib.hid (show W0.heap.size ≤ x13.heap.size ∧ x13.heap.size < x14.heap.size from ⟨D13.out.size, by rw [hy]; simp⟩)
        clear hy
        replace O1 := Lib.hid (O1.out.below hb)
        replace SGq := Lib.hid (SGq.out.below hb)
        replace BY := Lib.hid (BY.out.below hb)
        have SZ14 := Lib.hid (show x13.heap.size ≤ x14.heap.size from hb.size)
        have D14 := Lib.hid (below_step D13.out D13.out.size hb)
        clear hb D13
        refine ⟨(HX.out.below D14.out).cell, ?_⟩
        refine fm_skip rfl ?_
        have eY := NY.out; have eZ := NZ.out; have e0 := HBL.out
        have ez1 := SZ1.out; have ez12 := SZ12.out; have ez13 := SZ13.out; have ez14 := SZ14.out
        have hyz : x1.heap.size ≠ x13.heap.size := by omega
        have NE := Lib.hid (show b0 ≠ x1.heap.size ∧ b0 ≠ x13.heap.size ∧ x1.heap.size ≠ x13.heap.size ∧ W0.heap.size ≤ x1.heap.size ∧ W0.heap.size ≤ x13.heap.size from ⟨by omega, by omega, hyz, by omega, by omega⟩)
        clear eY eZ e0 hyz NY NZ ez1 SZ1 ez12 SZ12 ez13 SZ13 ez14 SZ14
        iterate 1 (refine fm_take (v := ?_) rfl rfl ?_ ?_; rotate_left; (next => (intro w' hSw; (try dsimp only at hSw); go_simp; (try (rw [if_pos (by omega)]; go_simp)); (try with_reducible rfl))); (simp only [Act.put, List.setIfInBounds_toArray, List.set_cons_zero, List.set_cons_succ]))
        have HX9 := Lib.hid (HX.out.below D14.out)
        have hb1 := bel_put3U (W := x14) (x1.heap.size) (.int .i64 r5) (.int .i64 k5) (.slice a5 l5 c5_)
        have hp : Box (((x14.setCell ⟨x1.heap.size, 0, none⟩ (.int .i64 r5)).setCell ⟨x1.heap.size, 1, none⟩ (.int .i64 k5)).setCell ⟨x1.heap.size, 2, none⟩ (.slice a5 l5 c5_)) b0 _ ∧ Box (((x14.setCell ⟨x1.heap.size, 0, none⟩ (.int .i64 r5)).setCell ⟨x1.heap.size, 1, none⟩ (.int .i64 k5)).setCell ⟨x1.heap.size, 2, none⟩ (.slice a5 l5 c5_)) (x13.heap.size) [.int .i64 0, .int .i64 0, .slice none 0 0] ∧ SG17 d (List.replicate k 0) [] [] 0 d.length 0 d.length (((x14.setCell ⟨x1.heap.size, 0, none⟩ (.int .i64 r5)).setCell ⟨x1.heap.size, 1, none⟩ (.int .i64 k5)).setCell ⟨x1.heap.size, 2, none⟩ (.slice a5 l5 c5_)) _ ∧ Below W0.heap.size W0 (((x14.setCell ⟨x1.heap.size, 0, none⟩ (.int .i64 r5)).setCell ⟨x1.heap.size, 1, none⟩ (.int .i64 k5)).setCell ⟨x1.heap.size, 2, none⟩ (.slice a5 l5 c5_)) := ⟨HX9.out.bel NE.out.1 hb1, BZ.out.bel (fun e => NE.out.2.2.1 e.symm) hb1, SGq.out.put BY.out _ _ _, D14.out.trans ((hb1.mono D14.out.size).below NE.out.2.2.2.1)⟩
        have HP := Lib.hid hp
        clear hp hb1
        obtain ⟨o1, o2, o3⟩ := BY.out.facts
        refine fm_one ?_
        refine opW_take rfl rfl ?_
        go_simp
        refine ⟨HP.out.1.cell, ?_⟩
        clear o1 o2 o3
        generalize ((x14.setCell ⟨x1.heap.size, 0, none⟩ (.int .i64 r5)).setCell ⟨x1.heap.size, 1, none⟩ (.int .i64 k5)).setCell ⟨x1.heap.size, 2, none⟩ (.slice a5 l5 c5_) = v1 at *
        have hb2 := bel_put3U (W := v1) (x13.heap.size) (.int .i64 r6) (.int .i64 k6) (.slice a6 l6 c6_)
        have hp : Box (((v1.setCell ⟨x13.heap.size, 0, none⟩ (.int .i64 r6)).setCell ⟨x13.heap.size, 1, none⟩ (.int .i64 k6)).setCell ⟨x13.heap.size, 2, none⟩ (.slice a6 l6 c6_)) b0 _ ∧ SG17 d (List.replicate k 0) [] [] 0 d.length 0 d.length (((v1.setCell ⟨x13.heap.size, 0, none⟩ (.int .i64 r6)).setCell ⟨x13.heap.size, 1, none⟩ (.int .i64 k6)).setCell ⟨x13.heap.size, 2, none⟩ (.slice a6 l6 c6_)) _ ∧ Below W0.heap.size W0 (((v1.setCell ⟨x13.heap.size, 0, none⟩ (.int .i64 r6)).setCell ⟨x13.heap.size, 1, none⟩ (.int .i64 k6)).setCell ⟨x13.heap.size, 2, none⟩ (.slice a6 l6 c6_)) := ⟨HP.out.1.bel NE.out.2.1 hb2, HP.out.2.2.1.put HP.out.2.1 _ _ _, HP.out.2.2.2.trans ((hb2.mono HP.out.2.2.2.size).below NE.out.2.2.2.2)⟩
        have HP2 := Lib.hid hp
        clear hp hb2
        obtain ⟨o1, o2, o3⟩ := HP.out.2.1.facts
        refine fm_one ?_
        refine opW_take rfl rfl ?_
        go_simp
        refine ⟨HP2.out.1.cell, ?_⟩
        clear o1 o2 o3
        generalize ((v1.setCell ⟨x13.heap.size, 0, none⟩ (.int .i64 r6)).setCell ⟨x13.heap.size, 1, none⟩ (.int .i64 k6)).setCell ⟨x13.heap.size, 2, none⟩ (.slice a6 l6 c6_) = v2 at *
        iterate 1 (refine fm_take (v := ?_) rfl rfl ?_ ?_; rotate_left; (next => (intro w' hSw; (try dsimp only at hSw); go_simp; (try (rw [if_pos (by omega)]; go_simp)); (try with_reducible rfl))); (simp only [Act.put, List.setIfInBounds_toArray, List.set_cons_zero, List.set_cons_succ]))
        refine fm_nil ?_
        go_simp
        go_wp2_with fail
        refine NoPanic.normal ?_
        exact HQ.out _ _ _ _ _ _ _ _ _ _ _ _ _ _ _ _ _ _ _ _ ⟨_, rfl, rfl, rfl, HP2.out.2.1, HP2.out.2.2⟩
      · skip
        refine opW_take rfl rfl ?_
        go_simp
        obtain ⟨x15, hy⟩ : ∃ x, x = x12.alloc (.cells #[.int .i64 0, .int .i64 0, .slice none 0 0] 26) := ⟨_, rfl⟩
        rw [← hy]
        have hb : Below x12.heap.size x12 x15 := hy ▸ (Below.refl _ _).alloc (Nat.le_refl _) _
        have BZ := Lib.hid (show Box x15 x12.heap.size [.int .i64 0, .int .i64 0, .slice none 0 0] from hy ▸ Box.newA x12 [.int .i64 0, .int .i64 0, .slice none 0 0] _ rfl)
        have NZ := Lib.hid (show W0.heap.size ≤ x12.heap.size ∧ x12.heap.size < x15.heap.size from ⟨D12.out.size, by rw [hy]; simp⟩)
        clear hy
        replace O1 := Lib.hid (O1.out.below hb)
        replace BY := Lib.hid (BY.out.below hb)
        have SZ15 := Lib.hid (show x12.heap.size ≤ x15.heap.size from hb.size)
        have D15 := Lib.hid (below_step D12.out D12.out.size hb)
        clear hb D12
        refine ⟨(HX.out.below D15.out).cell, ?_⟩
        refine fm_one ?_
        refine opW_take rfl rfl ?_
        go_simp
        refine (HG.out _ _ D15.out O1.out).mono ?_
        rintro e_ x16 ⟨⟨a4, a5, a6, n4, c4_, l5, c5_, l6, c6_, r5, k5, r6, k6, m4, code⟩, rfl, hs, hb⟩
        have SGq := Lib.hid hs
        clear hs
        dsimp only [GR.val]
        replace O1 := Lib.hid (O1.out.below hb)
        replace BY := Lib.hid (BY.out.below hb)
        replace BZ := Lib.hid (BZ.out.below hb)
        have SZ16 := Lib.hid (show x15.heap.size ≤ x16.heap.size from hb.size)
        have D16 := Lib.hid (below_step D15.out D15.out.size hb)
        clear hb D15
        refine ⟨(HX.out.below D16.out).cell, ?_⟩
        iterate 6 (refine fm_take (v := ?_) rfl rfl ?_ ?_; rotate_left; (next => (intro w' hSw; (try dsimp only at hSw); go_simp; (try (rw [if_pos (by omega)]; go_simp)); (try with_reducible rfl))); (simp only [Act.put, List.setIfInBounds_toArray, List.set_cons_zero, List.set_cons_succ]))
        refine fm_skip rfl ?_
        refine fm_skip rfl ?_
        have eY := NY.out; have eZ := NZ.out; have e0 := HBL.out
        have ez1 := SZ1.out; have ez12 := SZ12.out; have ez15 := SZ15.out; have ez16 := SZ16.out
        have hyz : x1.heap.size ≠ x12.heap.size := by omega
        have NE := Lib.hid (show b0 ≠ x1.heap.size ∧ b0 ≠ x12.heap.size ∧ x1.heap.size ≠ x12.heap.size ∧ W0.heap.size ≤ x1.heap.size ∧ W0.heap.size ≤ x12.heap.size from ⟨by omega, by omega, hyz, by omega, by omega⟩)
        clear eY eZ e0 hyz NY NZ ez1 SZ1 ez12 SZ12 ez15 SZ15 ez16 SZ16
        iterate 1 (refine fm_take (v := ?_) rfl rfl ?_ ?_; rotate_left; (next => (intro w' hSw; (try dsimp only at hSw); go_simp; (try (rw [if_pos (by omega)]; go_simp)); (try with_reducible rfl))); (simp only [Act.put, List.setIfInBounds_toArray, List.set_cons_zero, List.set_cons_succ]))
        have HX9 := Lib.hid (HX.out.below D16.out)
        have hb1 := bel_put3U (W := x16) (x1.heap.size) (.int .i64 r5) (.int .i64 k5) (.slice a5 l5 c5_)
        have hp : Box (((x16.setCell ⟨x1.heap.size, 0, none⟩ (.int .i64 r5)).setCell ⟨x1.heap.size, 1, none⟩ (.int .i64 k5)).setCell ⟨x1.heap.size, 2, none⟩ (.slice a5 l5 c5_)) b0 _ ∧ Box (((x16.setCell ⟨x1.heap.size, 0, none⟩ (.int .i64 r5)).setCell ⟨x1.heap.size, 1, none⟩ (.int .i64 k5)).setCell ⟨x1.heap.size, 2, none⟩ (.slice a5 l5 c5_)) (x12.heap.size) [.int .i64 0, .int .i64 0, .slice none 0 0] ∧ SG17 d (List.replicate k 0) [] [] 0 d.length 0 d.length (((x16.setCell ⟨x1.heap.size, 0, none⟩ (.int .i64 r5)).setCell ⟨x1.heap.size, 1, none⟩ (.int .i64 k5)).setCell ⟨x1.heap.size, 2, none⟩ (.slice a5 l5 c5_)) _ ∧ Below W0.heap.size W0 (((x16.setCell ⟨x1.heap.size, 0, none⟩ (.int .i64 r5)).setCell ⟨x1.heap.size, 1, none⟩ (.int .i64 k5)).setCell ⟨x1.heap.size, 2, none⟩ (.slice a5 l5 c5_)) := ⟨HX9.out.bel NE.out.1 hb1, BZ.out.bel (fun e => NE.out.2.2.1 e.symm) hb1, SGq.out.put BY.out _ _ _, D16.out.trans ((hb1.mono D16.out.size).below NE.out.2.2.2.1)⟩
        have HP := Lib.hid hp
        clear hp hb1
        obtain ⟨o1, o2, o3⟩ := BY.out.facts
        refine fm_one ?_
        refine opW_take rfl rfl ?_
        go_simp
        refine ⟨HP.out.1.cell, ?_⟩
        clear o1 o2 o3
        generalize ((x16.setCell ⟨x1.heap.size, 0, none⟩ (.int .i64 r5)).setCell ⟨x1.heap.size, 1, none⟩ (.int .i64 k5)).setCell ⟨x1.heap.size, 2, none⟩ (.slice a5 l5 c5_) = v1 at *
        have hb2 := bel_put3U (W := v1) (x12.heap.size) (.int .i64 r6) (.int .i64 k6) (.slice a6 l6 c6_)
        have hp : Box (((v1.setCell ⟨x12.heap.size, 0, none⟩ (.int .i64 r6)).setCell ⟨x12.heap.size, 1, none⟩ (.int .i64 k6)).setCell ⟨x12.heap.size, 2, none⟩ (.slice a6 l6 c6_)) b0 _ ∧ SG17 d (List.replicate k 0) [] [] 0 d.length 0 d.length (((v1.setCell ⟨x12.heap.size, 0, none⟩ (.int .i64 r6)).setCell ⟨x12.heap.size, 1, none⟩ (.int .i64 k6)).setCell ⟨x12.heap.size, 2, none⟩ (.slice a6 l6 c6_)) _ ∧ Below W0.heap.size W0 (((v1.setCell ⟨x12.heap.size, 0, none⟩ (.int .i64 r6)).setCell ⟨x12.heap.size, 1, none⟩ (.int .i64 k6)).setCell ⟨x12.heap.size, 2, none⟩ (.slice a6 l6 c6_)) := ⟨HP.out.1.bel NE.out.2.1 hb2, HP.out.2.2.1.put HP.out.2.1 _ _ _, HP.out.2.2.2.trans ((hb2.mono HP.out.2.2.2.size).below NE.out.2.2.2.2)⟩
        have HP2 := Lib.hid hp
        clear hp hb2
        obtain ⟨o1, o2, o3⟩ := HP.out.2.1.facts
        refine fm_one ?_
        refine opW_take rfl rfl ?_
        go_simp
        refine ⟨HP2.out.1.cell, ?_⟩
        clear o1 o2 o3
        generalize ((v1.setCell ⟨x12.heap.size, 0, none⟩ (.int .i64 r6)).setCell ⟨x12.heap.size, 1, none⟩ (.int .i64 k6)).setCell ⟨x12.heap.size, 2, none⟩ (.slice a6 l6 c6_) = v2 at *
        iterate 1 (refine fm_take (v := ?_) rfl rfl ?_ ?_; rotate_left; (next => (intro w' hSw; (try dsimp only at hSw); go_simp; (try (rw [if_pos (by omega)]; go_simp)); (try with_reducible rfl))); (simp only [Act.put, List.setIfInBounds_toArray, List.set_cons_zero, List.set_cons_succ]))
        refine fm_nil ?_
        go_simp
        go_wp2_with fail
        refine NoPanic.normal ?_
        exact HQ.out _ _ _ _ _ _ _ _ _ _ _ _ _ _ _ _ _ _ _ _ ⟨_, rfl, rfl, rfl, HP2.out.2.1, HP2.out.2.2⟩
  · skip
    refine opW_take rfl rfl ?_
    go_simp
    obtain ⟨x17, hy⟩ : ∃ x, x = y0.alloc (.cells #[.int .i64 0, .int .i64 0, .slice none 0 0] 26) := ⟨_, rfl⟩
    rw [← hy]
    have hb : Below y0.heap.size y0 x17 := hy ▸ (Below.refl _ _).alloc (Nat.le_refl _) _
    have BZ := Lib.hid (show Box x17 y0.heap.size [.int .i64 0, .int .i64 0, .slice none 0 0] from hy ▸ Box.newA y0 [.int .i64 0, .int .i64 0, .slice none 0 0] _ rfl)
    have NZ := Lib.hid (show W0.heap.size ≤ y0.heap.size ∧ y0.heap.size < x17.heap.size from ⟨D0.out.size, by rw [hy]; simp⟩)
    clear hy
    have SZ17 := Lib.hid (show y0.heap.size ≤ x17.heap.size from hb.size)
    have D17 := Lib.hid (below_step D0.out D0.out.size hb)
    clear hb D0
    refine ⟨(HX.out.below D17.out).cell, ?_⟩
    refine fm_one1 ?_ ?_
    · skip
      refine opW_take rfl rfl ?_
      go_simp
      obtain ⟨x18, hy⟩ : ∃ x, x = x17.alloc (.cells (Array.replicate k (Value.float .f64 0)) 40) := ⟨_, rfl⟩
      rw [← hy]
      have hb : Below x17.heap.size x17 x18 := hy ▸ (Below.refl _ _).alloc (Nat.le_refl _) _
      have O1 := Lib.hid (show Fls x18 (some ⟨x17.heap.size, 0, none⟩) _ from hy ▸ fls_rep17 x17 k)
      clear hy
      replace BZ := Lib.hid (BZ.out.below hb)
      have SZ18 := Lib.hid (show x17.heap.size ≤ x18.heap.size from hb.size)
      have D18 := Lib.hid (below_step D17.out D17.out.size hb)
      clear hb D17
      refine ⟨(HX.out.below D18.out).cell, ?_⟩
      iterate 1 (refine fm_take (v := ?_) rfl rfl ?_ ?_; rotate_left; (next => (intro w' hSw; (try dsimp only at hSw); go_simp; (try (rw [if_pos (by omega)]; go_simp)); (try with_reducible rfl))); (simp only [Act.put, List.setIfInBounds_toArray, List.set_cons_zero, List.set_cons_succ]))
      refine fm_one1 ?_ ?_
      · skip
        refine opW_take rfl rfl ?_
        go_simp
        refine (HG.out _ _ D18.out O1.out).mono ?_
        rintro e_ x19 ⟨⟨a4, a5, a6, n4, c4_, l5, c5_, l6, c6_, r5, k5, r6, k6, m4, code⟩, rfl, hs, hb⟩
        have SGq := Lib.hid hs
        clear hs
        dsimp only [GR.val]
        replace O1 := Lib.hid (O1.out.below hb)
        replace BZ := Lib.hid (BZ.out.below hb)
        have SZ19 := Lib.hid (show x18.heap.size ≤ x19.heap.size from hb.size)
        have D19 := Lib.hid (below_step D18.out D18.out.size hb)
        clear hb D18
        refine ⟨(HX.out.below D19.out).cell, ?_⟩
        iterate 6 (refine fm_take (v := ?_) rfl rfl ?_ ?_; rotate_left; (next => (intro w' hSw; (try dsimp only at hSw); go_simp; (try (rw [if_pos (by omega)]; go_simp)); (try with_reducible rfl))); (simp only [Act.put, List.setIfInBounds_toArray, List.set_cons_zero, List.set_cons_succ]))
        refine fm_now ?_
        refine opW_take rfl rfl ?_
        go_simp
        obtain ⟨x20, hy⟩ : ∃ x, x = x19.alloc (.cells #[.int .i64 0, .int .i64 0, .slice none 0 0] 26) := ⟨_, rfl⟩
        rw [← hy]
        have hb : Below x19.heap.size x19 x20 := hy ▸ (Below.refl _ _).alloc (Nat.le_refl _) _
        have BY := Lib.hid (show Box x20 x19.heap.size [.int .i64 0, .int .i64 0, .slice none 0 0] from hy ▸ Box.newA x19 [.int .i64 0, .int .i64 0, .slice none 0 0] _ rfl)
        have NY := Lib.hid (show W0.heap.size ≤ x19.heap.size ∧ x19.heap.size < x20.heap.size from ⟨D19.out.size, by rw [hy]; simp⟩)
        clear hy
        replace O1 := Lib.hid (O1.out.below hb)
        replace SGq := Lib.hid (SGq.out.below hb)
        replace BZ := Lib.hid (BZ.out.below hb)
        have SZ20 := Lib.hid (show x19.heap.size ≤ x20.heap.size from hb.size)
        have D20 := Lib.hid (below_step D19.out D19.out.size hb)
        clear hb D19
        refine ⟨(HX.out.below D20.out).cell, ?_⟩
        refine fm_skip rfl ?_
        refine fm_skip rfl ?_
        have eY := NY.out; have eZ := NZ.out; have e0 := HBL.out
        have ez17 := SZ17.out; have ez18 := SZ18.out; have ez19 := SZ19.out; have ez20 := SZ20.out
        have hyz : x19.heap.size ≠ y0.heap.size := by omega
        have NE := Lib.hid (show b0 ≠ x19.heap.size ∧ b0 ≠ y0.heap.size ∧ x19.heap.size ≠ y0.heap.size ∧ W0.heap.size ≤ x19.heap.size ∧ W0.heap.size ≤ y0.heap.size from ⟨by omega, by omega, hyz, by omega, by omega⟩)
        clear eY eZ e0 hyz NY NZ ez17 SZ17 ez18 SZ18 ez19 SZ19 ez20 SZ20
        iterate 1 (refine fm_take (v := ?_) rfl rfl ?_ ?_; rotate_left; (next => (intro w' hSw; (try dsimp only at hSw); go_simp; (try (rw [if_pos (by omega)]; go_simp)); (try with_reducible rfl))); (simp only [Act.put, List.setIfInBounds_toArray, List.set_cons_zero, List.set_cons_succ]))
        have HX9 := Lib.hid (HX.out.below D20.out)
        have hb1 := bel_put3U (W := x20) (x19.heap.size) (.int .i64 r5) (.int .i64 k5) (.slice a5 l5 c5_)
        have hp : Box (((x20.setCell ⟨x19.heap.size, 0, none⟩ (.int .i64 r5)).setCell ⟨x19.heap.size, 1, none⟩ (.int .i64 k5)).setCell ⟨x19.heap.size, 2, none⟩ (.slice a5 l5 c5_)) b0 _ ∧ Box (((x20.setCell ⟨x19.heap.size, 0, none⟩ (.int .i64 r5)).setCell ⟨x19.heap.size, 1, none⟩ (.int .i64 k5)).setCell ⟨x19.heap.size, 2, none⟩ (.slice a5 l5 c5_)) (y0.heap.size) [.int .i64 0, .int .i64 0, .slice none 0 0] ∧ SG17 d (List.replicate k 0) [] [] 0 d.length 0 d.length (((x20.setCell ⟨x19.heap.size, 0, none⟩ (.int .i64 r5)).setCell ⟨x19.heap.size, 1, none⟩ (.int .i64 k5)).setCell ⟨x19.heap.size, 2, none⟩ (.slice a5 l5 c5_)) _ ∧ Below W0.heap.size W0 (((x20.setCell ⟨x19.heap.size, 0, none⟩ (.int .i64 r5)).setCell ⟨x19.heap.size, 1, none⟩ (.int .i64 k5)).setCell ⟨x19.heap.size, 2, none⟩ (.slice a5 l5 c5_)) := ⟨HX9.out.bel NE.out.1 hb1, BZ.out.bel (fun e => NE.out.2.2.1 e.symm) hb1, SGq.out.put BY.out _ _ _, D20.out.trans ((hb1.mono D20.out.size).below NE.out.2.2.2.1)⟩
        have HP := Lib.hid hp
        clear hp hb1
        obtain ⟨o1, o2, o3⟩ := BY.out.facts
        refine fm_one ?_
        refine opW_take rfl rfl ?_
        go_simp
        refine ⟨HP.out.1.cell, ?_⟩
        clear o1 o2 o3
        generalize ((x20.setCell ⟨x19.heap.size, 0, none⟩ (.int .i64 r5)).setCell ⟨x19.heap.size, 1, none⟩ (.int .i64 k5)).setCell ⟨x19.heap.size, 2, none⟩ (.slice a5 l5 c5_) = v1 at *
        have hb2 := bel_put3U (W := v1) (y0.heap.size) (.int .i64 r6) (.int .i64 k6) (.slice a6 l6 c6_)
        have hp : Box (((v1.setCell ⟨y0.heap.size, 0, none⟩ (.int .i64 r6)).setCell ⟨y0.heap.size, 1, none⟩ (.int .i64 k6)).setCell ⟨y0.heap.size, 2, none⟩ (.slice a6 l6 c6_)) b0 _ ∧ SG17 d (List.replicate k 0) [] [] 0 d.length 0 d.length (((v1.setCell ⟨y0.heap.size, 0, none⟩ (.int .i64 r6)).setCell ⟨y0.heap.size, 1, none⟩ (.int .i64 k6)).setCell ⟨y0.heap.size, 2, none⟩ (.slice a6 l6 c6_)) _ ∧ Below W0.heap.size W0 (((v1.setCell ⟨y0.heap.size, 0, none⟩ (.int .i64 r6)).setCell ⟨y0.heap.size, 1, none⟩ (.int .i64 k6)).setCell ⟨y0.heap.size, 2, none⟩ (.slice a6 l6 c6_)) := ⟨HP.out.1.bel NE.out.2.1 hb2, HP.out.2.2.1.put HP.out.2.1 _ _ _, HP.out.2.2.2.trans ((hb2.mono HP.out.2.2.2.size).below NE.out.2.2.2.2)⟩
        have HP2 := Lib.hid hp
        clear hp hb2
        obtain ⟨o1, o2, o3⟩ := HP.out.2.1.facts
        refine fm_one ?_
        refine opW_take rfl rfl ?_
        go_simp
        refine ⟨HP2.out.1.cell, ?_⟩
        clear o1 o2 o3
        generalize ((v1.setCell ⟨y0.heap.size, 0, none⟩ (.int .i64 r6)).setCell ⟨y0.heap.size, 1, none⟩ (.int .i64 k6)).setCell ⟨y0.heap.size, 2, none⟩ (.slice a6 l6 c6_) = v2 at *
        iterate 1 (refine fm_take (v := ?_) rfl rfl ?_ ?_; rotate_left; (next => (intro w' hSw; (try dsimp only at hSw); go_simp; (try (rw [if_pos (by omega)]; go_simp)); (try with_reducible rfl))); (simp only [Act.put, List.setIfInBounds_toArray, List.set_cons_zero, List.set_cons_succ]))
        refine fm_nil ?_
        go_simp
        go_wp2_with fail
        refine NoPanic.normal ?_
        exact HQ.out _ _ _ _ _ _ _ _ _ _ _ _ _ _ _ _ _ _ _ _ ⟨_, rfl, rfl, rfl, HP2.out.2.1, HP2.out.2.2⟩
      · skip
        refine opW_take rfl rfl ?_
        go_simp
        obtain ⟨x21, hy⟩ : ∃ x, x = x18.alloc (.cells #[.int .i64 0, .int .i64 0, .slice none 0 0] 26) := ⟨_, rfl⟩
        rw [← hy]
        have hb : Below x18.heap.size x18 x21 := hy ▸ (Below.refl _ _).alloc (Nat.le_refl _) _
        have BY := Lib.hid (show Box x21 x18.heap.size [.int .i64 0, .int .i64 0, .slice none 0 0] from hy ▸ Box.newA x18 [.int .i64 0, .int .i64 0, .slice none 0 0] _ rfl)
        have NY := Lib.hid (show W0.heap.size ≤ x18.heap.size ∧ x18.heap.size < x21.heap.size from ⟨D18.out.size, by rw [hy]; simp⟩)
        clear hy
        replace O1 := Lib.hid (O1.out.below hb)
        replace BZ := Lib.hid (BZ.out.below hb)
        have SZ21 := Lib.hid (show x18.heap.size ≤ x21.heap.size from hb.size)
        have D21 := Lib.hid (below_step D18.out D18.out.size hb)
        clear hb D18
        refine ⟨(HX.out.below D21.out).cell, ?_⟩
        refine fm_one ?_
        refine opW_take rfl rfl ?_
        go_simp
        refine (HG.out _ _ D21.out O1.out).mono ?_
        rintro e_ x22 ⟨⟨a4, a5, a6, n4, c4_, l5, c5_, l6, c6_, r5, k5, r6, k6, m4, code⟩, rfl, hs, hb⟩
        have SGq := Lib.hid hs
        clear hs
        dsimp only [GR.val]
        replace O1 := Lib.hid (O1.out.below hb)
        replace BY := Lib.hid (BY.out.below hb)
        replace BZ := Lib.hid (BZ.out.below hb)
        have SZ22 := Lib.hid (show x21.heap.size ≤ x22.heap.size from hb.size)
        have D22 := Lib.hid (below_step D21.out D21.out.size hb)
        clear hb D21
        refine ⟨(HX.out.below D22.out).cell, ?_⟩
        iterate 6 (refine fm_take (v := ?_) rfl rfl ?_ ?_; rotate_left; (next => (intro w' hSw; (try dsimp only at hSw); go_simp; (try (rw [if_pos (by omega)]; go_simp)); (try with_reducible rfl))); (simp only [Act.put, List.setIfInBounds_toArray, List.set_cons_zero, List.set_cons_succ]))
        refine fm_skip rfl ?_
        refine fm_skip rfl ?_
        have eY := NY.out; have eZ := NZ.out; have e0 := HBL.out
        have ez17 := SZ17.out; have ez18 := SZ18.out; have ez21 := SZ21.out; have ez22 := SZ22.out
        have hyz : x18.heap.size ≠ y0.heap.size := by omega
        have NE := Lib.hid (show b0 ≠ x18.heap.size ∧ b0 ≠ y0.heap.size ∧ x18.heap.size ≠ y0.heap.size ∧ W0.heap.size ≤ x18.heap.size ∧ W0.heap.size ≤ y0.heap.size from ⟨by omega, by omega, hyz, by omega, by omega⟩)
        clear eY eZ e0 hyz NY NZ ez17 SZ17 ez18 SZ18 ez21 SZ21 ez22 SZ22
        iterate 1 (refine fm_take (v := ?_) rfl rfl ?_ ?_; rotate_left; (next => (intro w' hSw; (try dsimp only at hSw); go_simp; (try (rw [if_pos (by omega)]; go_simp)); (try with_reducible rfl))); (simp only [Act.put, List.setIfInBounds_toArray, List.set_cons_zero, List.set_cons_succ]))
        have HX9 := Lib.hid (HX.out.below D22.out)
        have hb1 := bel_put3U (W := x22) (x18.heap.size) (.int .i64 r5) (.int .i64 k5) (.slice a5 l5 c5_)
        have hp : Box (((x22.setCell ⟨x18.heap.size, 0, none⟩ (.int .i64 r5)).setCell ⟨x18.heap.size, 1, none⟩ (.int .i64 k5)).setCell ⟨x18.heap.size, 2, none⟩ (.slice a5 l5 c5_)) b0 _ ∧ Box (((x22.setCell ⟨x18.heap.size, 0, none⟩ (.int .i64 r5)).setCell ⟨x18.heap.size, 1, none⟩ (.int .i64 k5)).setCell ⟨x18.heap.size, 2, none⟩ (.slice a5 l5 c5_)) (y0.heap.size) [.int .i64 0, .int .i64 0, .slice none 0 0] ∧ SG17 d (List.replicate k 0) [] [] 0 d.length 0 d.length (((x22.setCell ⟨x18.heap.size, 0, none⟩ (.int .i64 r5)).setCell ⟨x18.heap.size, 1, none⟩ (.int .i64 k5)).setCell ⟨x18.heap.size, 2, none⟩ (.slice a5 l5 c5_)) _ ∧ Below W0.heap.size W0 (((x22.setCell ⟨x18.heap.size, 0, none⟩ (.int .i64 r5)).setCell ⟨x18.heap.size, 1, none⟩ (.int .i64 k5)).setCell ⟨x18.heap.size, 2, none⟩ (.slice a5 l5 c5_)) := ⟨HX9.out.bel NE.out.1 hb1, BZ.out.bel (fun e => NE.out.2.2.1 e.symm) hb1, SGq.out.put BY.out _ _ _, D22.out.trans ((hb1.mono D22.out.size).below NE.out.2.2.2.1)⟩
        have HP := Lib.hid hp
        clear hp hb1
        obtain ⟨o1, o2, o3⟩ := BY.out.facts
        refine fm_one ?_
        refine opW_take rfl rfl ?_
        go_simp
        refine ⟨HP.out.1.cell, ?_⟩
        clear o1 o2 o3
        generalize ((x22.setCell ⟨x18.heap.size, 0, none⟩ (.int .i64 r5)).setCell ⟨x18.heap.size, 1, none⟩ (.int .i64 k5)).setCell ⟨x18.heap.size, 2, none⟩ (.slice a5 l5 c5_) = v1 at *
        have hb2 := bel_put3U (W := v1) (y0.heap.size) (.int .i64 r6) (.int .i64 k6) (.slice a6 l6 c6_)
        have hp : Box (((v1.setCell ⟨y0.heap.size, 0, none⟩ (.int .i64 r6)).setCell ⟨y0.heap.size, 1, none⟩ (.int .i64 k6)).setCell ⟨y0.heap.size, 2, none⟩ (.slice a6 l6 c6_)) b0 _ ∧ SG17 d (List.replicate k 0) [] [] 0 d.length 0 d.length (((v1.setCell ⟨y0.heap.size, 0, none⟩ (.int .i64 r6)).setCell ⟨y0.heap.size, 1, none⟩ (.int .i64 k6)).setCell ⟨y0.heap.size, 2, none⟩ (.slice a6 l6 c6_)) _ ∧ Below W0.heap.size W0 (((v1.setCell ⟨y0.heap.size, 0, none⟩ (.int .i64 r6)).setCell ⟨y0.heap.size, 1, none⟩ (.int .i64 k6)).setCell ⟨y0.heap.size, 2, none⟩ (.slice a6 l6 c6_)) := ⟨HP.out.1.bel NE.out.2.1 hb2, HP.out.2.2.1.put HP.out.2.1 _ _ _, HP.out.2.2.2.trans ((hb2.mono HP.out.2.2.2.size).below NE.out.2.2.2.2)⟩
        have HP2 := Lib.hid hp
        clear hp hb2
        obtain ⟨o1, o2, o3⟩ := HP.out.2.1.facts
        refine fm_one ?_
        refine opW_take rfl rfl ?_
        go_simp
        refine ⟨HP2.out.1.cell, ?_⟩
        clear o1 o2 o3
        generalize ((v1.setCell ⟨y0.heap.size, 0, none⟩ (.int .i64 r6)).setCell ⟨y0.heap.size, 1, none⟩ (.int .i64 k6)).setCell ⟨y0.heap.size, 2, none⟩ (.slice a6 l6 c6_) = v2 at *
        iterate 1 (refine fm_take (v := ?_) rfl rfl ?_ ?_; rotate_left; (next => (intro w' hSw; (try dsimp only at hSw); go_simp; (try (rw [if_pos (by omega)]; go_simp)); (try with_reducible rfl))); (simp only [Act.put, List.setIfInBounds_toArray, List.set_cons_zero, List.set_cons_succ]))
        refine fm_nil ?_
        go_simp
        go_wp2_with fail
        refine NoPanic.normal ?_
        exact HQ.out _ _ _ _ _ _ _ _ _ _ _ _ _ _ _ _ _ _ _ _ ⟨_, rfl, rfl, rfl, HP2.out.2.1, HP2.out.2.2⟩
    · skip
      refine opW_take rfl rfl ?_
      go_simp
      obtain ⟨x23, hy⟩ : ∃ x, x = x17.alloc (.cells #[.int .i64 0, .int .i64 0, .slice none 0 0] 26) := ⟨_, rfl⟩
      rw [← hy]
      have hb : Below x17.heap.size x17 x23 := hy ▸ (Below.refl _ _).alloc (Nat.le_refl _) _
      have BY := Lib.hid (show Box x23 x17.heap.size [.int .i64 0, .int .i64 0, .slice none 0 0] from hy ▸ Box.newA x17 [.int .i64 0, .int .i64 0, .slice none 0 0] _ rfl)
      have NY := Lib.hid (show W0.heap.size ≤ x17.heap.size ∧ x17.heap.size < x23.heap.size from ⟨D17.out.size, by rw [hy]; simp⟩)
      clear hy
      replace BZ := Lib.hid (BZ.out.below hb)
      have SZ23 := Lib.hid (show x17.heap.size ≤ x23.heap.size from hb.size)
      have D23 := Lib.hid (below_step D17.out D17.out.size hb)
      clear hb D17
      refine ⟨(HX.out.below D23.out).cell, ?_⟩
      refine fm_one ?_
      refine opW_take rfl rfl ?_
      go_simp
      obtain ⟨x24, hy⟩ : ∃ x, x = x23.alloc (.cells (Array.replicate k (Value.float .f64 0)) 40) := ⟨_, rfl⟩
      rw [← hy]
      have hb : Below x23.heap.size x23 x24 := hy ▸ (Below.refl _ _).alloc (Nat.le_refl _) _
      have O1 := Lib.hid (show Fls x24 (some ⟨x23.heap.size, 0, none⟩) _ from hy ▸ fls_rep17 x23 k)
      clear hy
      replace BY := Lib.hid (BY.out.below hb)
      replace BZ := Lib.hid (BZ.out.below hb)
      have SZ24 := Lib.hid (show x23.heap.size ≤ x24.heap.size from hb.size)
      have D24 := Lib.hid (below_step D23.out D23.out.size hb)
      clear hb D23
      refine ⟨(HX.out.below D24.out).cell, ?_⟩
      iterate 1 (refine fm_take (v := ?_) rfl rfl ?_ ?_; rotate_left; (next => (intro w' hSw; (try dsimp only at hSw); go_simp; (try (rw [if_pos (by omega)]; go_simp)); (try with_reducible rfl))); (simp only [Act.put, List.setIfInBounds_toArray, List.set_cons_zero, List.set_cons_succ]))
      refine fm_one ?_
      refine opW_take rfl rfl ?_
      go_simp
      refine (HG.out _ _ D24.out O1.out).mono ?_
      rintro e_ x25 ⟨⟨a4, a5, a6, n4, c4_, l5, c5_, l6, c6_, r5, k5, r6, k6, m4, code⟩, rfl, hs, hb⟩
      have SGq := Lib.hid hs
      clear hs
      dsimp only [GR.val]
      replace O1 := Lib.hid (O1.out.below hb)
      replace BY := Lib.hid (BY.out.below hb)
      replace BZ := Lib.hid (BZ.out.below hb)
      have SZ25 := Lib.hid (show x24.heap.size ≤ x25.heap.size from hb.size)
      have D25 := Lib.hid (below_step D24.out D24.out.size hb)
      clear hb D24
      refine ⟨(HX.out.below D25.out).cell, ?_⟩
      iterate 6 (refine fm_take (v := ?_) rfl rfl ?_ ?_; rotate_left; (next => (intro w' hSw; (try dsimp only at hSw); go_simp; (try (rw [if_pos (by omega)]; go_simp)); (try with_reducible rfl))); (simp only [Act.put, List.setIfInBounds_toArray, List.set_cons_zero, List.set_cons_succ]))
      refine fm_skip rfl ?_
      refine fm_skip rfl ?_
      have eY := NY.out; have eZ := NZ.out; have e0 := HBL.out
      have ez17 := SZ17.out; have ez23 := SZ23.out; have ez24 := SZ24.out; have ez25 := SZ25.out
      have hyz : x17.heap.size ≠ y0.heap.size := by omega
      have NE := Lib.hid (show b0 ≠ x17.heap.size ∧ b0 ≠ y0.heap.size ∧ x17.heap.size ≠ y0.heap.size ∧ W0.heap.size ≤ x17.heap.size ∧ W0.heap.size ≤ y0.heap.size from ⟨by omega, by omega, hyz, by omega, by omega⟩)
      clear eY eZ e0 hyz NY NZ ez17 SZ17 ez23 SZ23 ez24 SZ24 ez25 SZ25
      iterate 1 (refine fm_take (v := ?_) rfl rfl ?_ ?_; rotate_left; (next => (intro w' hSw; (try dsimp only at hSw); go_simp; (try (rw [if_pos (by omega)]; go_simp)); (try with_reducible rfl))); (simp only [Act.put, List.setIfInBounds_toArray, List.set_cons_zero, List.set_cons_succ]))
      have HX9 := Lib.hid (HX.out.below D25.out)
      have hb1 := bel_put3U (W := x25) (x17.heap.size) (.int .i64 r5) (.int .i64 k5) (.slice a5 l5 c5_)
      have hp : Box (((x25.setCell ⟨x17.heap.size, 0, none⟩ (.int .i64 r5)).setCell ⟨x17.heap.size, 1, none⟩ (.int .i64 k5)).setCell ⟨x17.heap.size, 2, none⟩ (.slice a5 l5 c5_)) b0 _ ∧ Box (((x25.setCell ⟨x17.heap.size, 0, none⟩ (.int .i64 r5)).setCell ⟨x17.heap.size, 1, none⟩ (.int .i64 k5)).setCell ⟨x17.heap.size, 2, none⟩ (.slice a5 l5 c5_)) (y0.heap.size) [.int .i64 0, .int .i64 0, .slice none 0 0] ∧ SG17 d (List.replicate k 0) [] [] 0 d.length 0 d.length (((x25.setCell ⟨x17.heap.size, 0, none⟩ (.int .i64 r5)).setCell ⟨x17.heap.size, 1, none⟩ (.int .i64 k5)).setCell ⟨x17.heap.size, 2, none⟩ (.slice a5 l5 c5_)) _ ∧ Below W0.heap.size W0 (((x25.setCell ⟨x17.heap.size, 0, none⟩ (.int .i64 r5)).setCell ⟨x17.heap.size, 1, none⟩ (.int .i64 k5)).setCell ⟨x17.heap.size, 2, none⟩ (.slice a5 l5 c5_)) := ⟨HX9.out.bel NE.out.1 hb1, BZ.out.bel (fun e => NE.out.2.2.1 e.symm) hb1, SGq.out.put BY.out _ _ _, D25.out.trans ((hb1.mono D25.out.size).below NE.out.2.2.2.1)⟩
      have HP := Lib.hid hp
      clear hp hb1
      obtain ⟨o1, o2, o3⟩ := BY.out.facts
      refine fm_one ?_
      refine opW_take rfl rfl ?_
      go_simp
      refine ⟨HP.out.1.cell, ?_⟩
      clear o1 o2 o3
      generalize ((x25.setCell ⟨x17.heap.size, 0, none⟩ (.int .i64 r5)).setCell ⟨x17.heap.size, 1, none⟩ (.int .i64 k5)).setCell ⟨x17.heap.size, 2, none⟩ (.slice a5 l5 c5_) = v1 at *
      have hb2 := bel_put3U (W := v1) (y0.heap.size) (.int .i64 r6) (.int .i64 k6) (.slice a6 l6 c6_)
      have hp : Box (((v1.setCell ⟨y0.heap.size, 0, none⟩ (.int .i64 r6)).setCell ⟨y0.heap.size, 1, none⟩ (.int .i64 k6)).setCell ⟨y0.heap.size, 2, none⟩ (.slice a6 l6 c6_)) b0 _ ∧ SG17 d (List.replicate k 0) [] [] 0 d.length 0 d.length (((v1.setCell ⟨y0.heap.size, 0, none⟩ (.int .i64 r6)).setCell ⟨y0.heap.size, 1, none⟩ (.int .i64 k6)).setCell ⟨y0.heap.size, 2, none⟩ (.slice a6 l6 c6_)) _ ∧ Below W0.heap.size W0 (((v1.setCell ⟨y0.heap.size, 0, none⟩ (.int .i64 r6)).setCell ⟨y0.heap.size, 1, none⟩ (.int .i64 k6)).setCell ⟨y0.heap.size, 2, none⟩ (.slice a6 l6 c6_)) := ⟨HP.out.1.bel NE.out.2.1 hb2, HP.out.2.2.1.put HP.out.2.1 _ _ _, HP.out.2.2.2.trans ((hb2.mono HP.out.2.2.2.size).below NE.out.2.2.2.2)⟩
      have HP2 := Lib.hid hp
      clear hp hb2
      obtain ⟨o1, o2, o3⟩ := HP.out.2.1.facts
      refine fm_one ?_
      refine opW_take rfl rfl ?_
      go_simp
      refine ⟨HP2.out.1.cell, ?_⟩
      clear o1 o2 o3
      generalize ((v1.setCell ⟨y0.heap.size, 0, none⟩ (.int .i64 r6)).setCell ⟨y0.heap.size, 1, none⟩ (.int .i64 k6)).setCell ⟨y0.heap.size, 2, none⟩ (.slice a6 l6 c6_) = v2 at *
      iterate 1 (refine fm_take (v := ?_) rfl rfl ?_ ?_; rotate_left; (next => (intro w' hSw; (try dsimp only at hSw); go_simp; (try (rw [if_pos (by omega)]; go_simp)); (try with_reducible rfl))); (simp only [Act.put, List.setIfInBounds_toArray, List.set_cons_zero, List.set_cons_succ]))
      refine fm_nil ?_
      go_simp
      go_wp2_with fail
      refine NoPanic.normal ?_
      exact HQ.out _ _ _ _ _ _ _ _ _ _ _ _ _ _ _ _ _ _ _ _ ⟨_, rfl, rfl, rfl, HP2.out.2.1, HP2.out.2.2⟩
  · skip
    refine opW_take rfl rfl ?_
    go_simp
    obtain ⟨x26, hy⟩ : ∃ x, x = y0.alloc (.cells #[.int .i64 0, .int .i64 0, .slice none 0 0] 26) := ⟨_, rfl⟩
    rw [← hy]
    have hb : Below y0.heap.size y0 x26 := hy ▸ (Below.refl _ _).alloc (Nat.le_refl _) _
    have BY := Lib.hid (show Box x26 y0.heap.size [.int .i64 0, .int .i64 0, .slice none 0 0] from hy ▸ Box.newA y0 [.int .i64 0, .int .i64 0, .slice none 0 0] _ rfl)
    have NY := Lib.hid (show W0.heap.size ≤ y0.heap.size ∧ y0.heap.size < x26.heap.size from ⟨D0.out.size, by rw [hy]; simp⟩)
    clear hy
    have SZ26 := Lib.hid (show y0.heap.size ≤ x26.heap.size from hb.size)
    have D26 := Lib.hid (below_step D0.out D0.out.size hb)
    clear hb D0
    refine ⟨(HX.out.below D26.out).cell, ?_⟩
    refine fm_one1 ?_ ?_
    · skip
      refine opW_take rfl rfl ?_
      go_simp
      obtain ⟨x27, hy⟩ : ∃ x, x = x26.alloc (.cells (Array.replicate k (Value.float .f64 0)) 40) := ⟨_, rfl⟩
      rw [← hy]
      have hb : Below x26.heap.size x26 x27 := hy ▸ (Below.refl _ _).alloc (Nat.le_refl _) _
      have O1 := Lib.hid (show Fls x27 (some ⟨x26.heap.size, 0, none⟩) _ from hy ▸ fls_rep17 x26 k)
      clear hy
      replace BY := Lib.hid (BY.out.below hb)
      have SZ27 := Lib.hid (show x26.heap.size ≤ x27.heap.size from hb.size)
      have D27 := Lib.hid (below_step D26.out D26.out.size hb)
      clear hb D26
      refine ⟨(HX.out.below D27.out).cell, ?_⟩
      iterate 1 (refine fm_take (v := ?_) rfl rfl ?_ ?_; rotate_left; (next => (intro w' hSw; (try dsimp only at hSw); go_simp; (try (rw [if_pos (by omega)]; go_simp)); (try with_reducible rfl))); (simp only [Act.put, List.setIfInBounds_toArray, List.set_cons_zero, List.set_cons_succ]))
      refine fm_one1 ?_ ?_
      · skip
        refine opW_take rfl rfl ?_
        go_simp
        refine (HG.out _ _ D27.out O1.out).mono ?_
        rintro e_ x28 ⟨⟨a4, a5, a6, n4, c4_, l5, c5_, l6, c6_, r5, k5, r6, k6, m4, code⟩, rfl, hs, hb⟩
        have SGq := Lib.hid hs
        clear hs
        dsimp only [GR.val]
        replace O1 := Lib.hid (O1.out.below hb)
        replace BY := Lib.hid (BY.out.below hb)
        have SZ28 := Lib.hid (show x27.heap.size ≤ x28.heap.size from hb.size)
        have D28 := Lib.hid (below_step D27.out D27.out.size hb)
        clear hb D27
        refine ⟨(HX.out.below D28.out).cell, ?_⟩
        iterate 6 (refine fm_take (v := ?_) rfl rfl ?_ ?_; rotate_left; (next => (intro w' hSw; (try dsimp only at hSw); go_simp; (try (rw [if_pos (by omega)]; go_simp)); (try with_reducible rfl))); (simp only [Act.put, List.setIfInBounds_toArray, List.set_cons_zero, List.set_cons_succ]))
        refine fm_skip rfl ?_
        refine fm_now ?_
        refine opW_take rfl rfl ?_
        go_simp
        obtain ⟨x29, hy⟩ : ∃ x, x = x28.alloc (.cells #[.int .i64 0, .int .i64 0, .slice none 0 0] 26) := ⟨_, rfl⟩
        rw [← hy]
        have hb : Below x28.heap.size x28 x29 := hy ▸ (Below.refl _ _).alloc (Nat.le_refl _) _
        have BZ := Lib.hid (show Box x29 x28.heap.size [.int .i64 0, .int .i64 0, .slice none 0 0] from hy ▸ Box.newA x28 [.int .i64 0, .int .i64 0, .slice none 0 0] _ rfl)
        have NZ := Lib.hid (show W0.heap.size ≤ x28.heap.size ∧ x28.heap.size < x29.heap.size from ⟨D28.out.size, by rw [hy]; simp⟩)
        clear hy
        replace O1 := Lib.hid (O1.out.below hb)
        replace SGq := Lib.hid (SGq.out.below hb)
        replace BY := Lib.hid (BY.out.below hb)
        have SZ29 := Lib.hid (show x28.heap.size ≤ x29.heap.size from hb.size)
        have D29 := Lib.hid (below_step D28.out D28.out.size hb)
        clear hb D28
        refine ⟨(HX.out.below D29.out).cell, ?_⟩
        refine fm_skip rfl ?_
        have eY := NY.out; have eZ := NZ.out; have e0 := HBL.out
        have ez26 := SZ26.out; have ez27 := SZ27.out; have ez28 := SZ28.out; have ez29 := SZ29.out
        have hyz : y0.heap.size ≠ x28.heap.size := by omega
        have NE := Lib.hid (show b0 ≠ y0.heap.size ∧ b0 ≠ x28.heap.size ∧ y0.heap.size ≠ x28.heap.size ∧ W0.heap.size ≤ y0.heap.size ∧ W0.heap.size ≤ x28.heap.size from ⟨by omega, by omega, hyz, by omega, by omega⟩)
        clear eY eZ e0 hyz NY NZ ez26 SZ26 ez27 SZ27 ez28 SZ28 ez29 SZ29
        iterate 1 (refine fm_take (v := ?_) rfl rfl ?_ ?_; rotate_left; (next => (intro w' hSw; (try dsimp only at hSw); go_simp; (try (rw [if_pos (by omega)]; go_simp)); (try with_reducible rfl))); (simp only [Act.put, List.setIfInBounds_toArray, List.set_cons_zero, List.set_cons_succ]))
        have HX9 := Lib.hid (HX.out.below D29.out)
        have hb1 := bel_put3U (W := x29) (y0.heap.size) (.int .i64 r5) (.int .i64 k5) (.slice a5 l5 c5_)
        have hp : Box (((x29.setCell ⟨y0.heap.size, 0, none⟩ (.int .i64 r5)).setCell ⟨y0.heap.size, 1, none⟩ (.int .i64 k5)).setCell ⟨y0.heap.size, 2, none⟩ (.slice a5 l5 c5_)) b0 _ ∧ Box (((x29.setCell ⟨y0.heap.size, 0, none⟩ (.int .i64 r5)).setCell ⟨y0.heap.size, 1, none⟩ (.int .i64 k5)).setCell ⟨y0.heap.size, 2, none⟩ (.slice a5 l5 c5_)) (x28.heap.size) [.int .i64 0, .int .i64 0, .slice none 0 0] ∧ SG17 d (List.replicate k 0) [] [] 0 d.length 0 d.length (((x29.setCell ⟨y0.heap.size, 0, none⟩ (.int .i64 r5)).setCell ⟨y0.heap.size, 1, none⟩ (.int .i64 k5)).setCell ⟨y0.heap.size, 2, none⟩ (.slice a5 l5 c5_)) _ ∧ Below W0.heap.size W0 (((x29.setCell ⟨y0.heap.size, 0, none⟩ (.int .i64 r5)).setCell ⟨y0.heap.size, 1, none⟩ (.int .i64 k5)).setCell ⟨y0.heap.size, 2, none⟩ (.slice a5 l5 c5_)) := ⟨HX9.out.bel NE.out.1 hb1, BZ.out.bel (fun e => NE.out.2.2.1 e.symm) hb1, SGq.out.put BY.out _ _ _, D29.out.trans ((hb1.mono D29.out.size).below NE.out.2.2.2.1)⟩
        have HP := Lib.hid hp
        clear hp hb1
        obtain ⟨o1, o2, o3⟩ := BY.out.facts
        refine fm_one ?_
        refine opW_take rfl rfl ?_
        go_simp
        refine ⟨HP.out.1.cell, ?_⟩
        clear o1 o2 o3
        generalize ((x29.setCell ⟨y0.heap.size, 0, none⟩ (.int .i64 r5)).setCell ⟨y0.heap.size, 1, none⟩ (.int .i64 k5)).setCell ⟨y0.heap.size, 2, none⟩ (.slice a5 l5 c5_) = v1 at *
        have hb2 := bel_put3U (W := v1) (x28.heap.size) (.int .i64 r6) (.int .i64 k6) (.slice a6 l6 c6_)
        have hp : Box (((v1.setCell ⟨x28.heap.size, 0, none⟩ (.int .i64 r6)).setCell ⟨x28.heap.size, 1, none⟩ (.int .i64 k6)).setCell ⟨x28.heap.size, 2, none⟩ (.slice a6 l6 c6_)) b0 _ ∧ SG17 d (List.replicate k 0) [] [] 0 d.length 0 d.length (((v1.setCell ⟨x28.heap.size, 0, none⟩ (.int .i64 r6)).setCell ⟨x28.heap.size, 1, none⟩ (.int .i64 k6)).setCell ⟨x28.heap.size, 2, none⟩ (.slice a6 l6 c6_)) _ ∧ Below W0.heap.size W0 (((v1.setCell ⟨x28.heap.size, 0, none⟩ (.int .i64 r6)).setCell ⟨x28.heap.size, 1, none⟩ (.int .i64 k6)).setCell ⟨x28.heap.size, 2, none⟩ (.slice a6 l6 c6_)) := ⟨HP.out.1.bel NE.out.2.1 hb2, HP.out.2.2.1.put HP.out.2.1 _ _ _, HP.out.2.2.2.trans ((hb2.mono HP.out.2.2.2.size).below NE.out.2.2.2.2)⟩
        have HP2 := Lib.hid hp
        clear hp hb2
        obtain ⟨o1, o2, o3⟩ := HP.out.2.1.facts
        refine fm_one ?_
        refine opW_take rfl rfl ?_
        go_simp
        refine ⟨HP2.out.1.cell, ?_⟩
        clear o1 o2 o3
        generalize ((v1.setCell ⟨x28.heap.size, 0, none⟩ (.int .i64 r6)).setCell ⟨x28.heap.size, 1, none⟩ (.int .i64 k6)).setCell ⟨x28.heap.size, 2, none⟩ (.slice a6 l6 c6_) = v2 at *
        iterate 1 (refine fm_take (v := ?_) rfl rfl ?_ ?_; rotate_left; (next => (intro w' hSw; (try dsimp only at hSw); go_simp; (try (rw [if_pos (by omega)]; go_simp)); (try with_reducible rfl))); (simp only [Act.put, List.setIfInBounds_toArray, List.set_cons_zero, List.set_cons_succ]))
        refine fm_nil ?_
        go_simp
        go_wp2_with fail
        refine NoPanic.normal ?_
        exact HQ.out _ _ _ _ _ _ _ _ _ _ _ _ _ _ _ _ _ _ _ _ ⟨_, rfl, rfl, rfl, HP2.out.2.1, HP2.out.2.2⟩
      · skip
        refine opW_take rfl rfl ?_
        go_simp
        obtain ⟨x30, hy⟩ : ∃ x, x = x27.alloc (.cells #[.int .i64 0, .int .i64 0, .slice none 0 0] 26) := ⟨_, rfl⟩
        rw [← hy]
        have hb : Below x27.heap.size x27 x30 := hy ▸ (Below.refl _ _).alloc (Nat.le_refl _) _
        have BZ := Lib.hid (show Box x30 x27.heap.size [.int .i64 0, .int .i64 0, .slice none 0 0] from hy ▸ Box.newA x27 [.int .i64 0, .int .i64 0, .slice none 0 0] _ rfl)
        have NZ := Lib.hid (show W0.heap.size ≤ x27.heap.size ∧ x27.heap.size < x30.heap.size from ⟨D27.out.size, by rw [hy]; simp⟩)
        clear hy
        replace O1 := Lib.hid (O1.out.below hb)
        replace BY := Lib.hid (BY.out.below hb)
        have SZ30 := Lib.hid (show x27.heap.size ≤ x30.heap.size from hb.size)
        have D30 := Lib.hid (below_step D27.out D27.out.size hb)
        clear hb D27
        refine ⟨(HX.out.below D30.out).cell, ?_⟩
        refine fm_one ?_
        refine opW_take rfl rfl ?_
        go_simp
        refine (HG.out _ _ D30.out O1.out).mono ?_
        rintro e_ x31 ⟨⟨a4, a5, a6, n4, c4_, l5, c5_, l6, c6_, r5, k5, r6, k6, m4, code⟩, rfl, hs, hb⟩
        have SGq := Lib.hid hs
        clear hs
        dsimp only [GR.val]
        replace O1 := Lib.hid (O1.out.below hb)
        replace BY := Lib.hid (BY.out.below hb)
        replace BZ := Lib.hid (BZ.out.below hb)
        have SZ31 := Lib.hid (show x30.heap.size ≤ x31.heap.size from hb.size)
        have D31 := Lib.hid (below_step D30.out D30.out.size hb)
        clear hb D30
        refine ⟨(HX.out.below D31.out).cell, ?_⟩
        iterate 6 (refine fm_take (v := ?_) rfl rfl ?_ ?_; rotate_left; (next => (intro w' hSw; (try dsimp only at hSw); go_simp; (try (rw [if_pos (by omega)]; go_simp)); (try with_reducible rfl))); (simp only [Act.put, List.setIfInBounds_toArray, List.set_cons_zero, List.set_cons_succ]))
        refine fm_skip rfl ?_
        refine fm_skip rfl ?_
        have eY := NY.out; have eZ := NZ.out; have e0 := HBL.out
        have ez26 := SZ26.out; have ez27 := SZ27.out; have ez30 := SZ30.out; have ez31 := SZ31.out
        have hyz : y0.heap.size ≠ x27.heap.size := by omega
        have NE := Lib.hid (show b0 ≠ y0.heap.size ∧ b0 ≠ x27.heap.size ∧ y0.heap.size ≠ x27.heap.size ∧ W0.heap.size ≤ y0.heap.size ∧ W0.heap.size ≤ x27.heap.size from ⟨by omega, by omega, hyz, by omega, by omega⟩)
        clear eY eZ e0 hyz NY NZ ez26 SZ26 ez27 SZ27 ez30 SZ30 ez31 SZ31
        iterate 1 (refine fm_take (v := ?_) rfl rfl ?_ ?_; rotate_left; (next => (intro w' hSw; (try dsimp only at hSw); go_simp; (try (rw [if_pos (by omega)]; go_simp)); (try with_reducible rfl))); (simp only [Act.put, List.setIfInBounds_toArray, List.set_cons_zero, List.set_cons_succ]))
        have HX9 := Lib.hid (HX.out.below D31.out)
        have hb1 := bel_put3U (W := x31) (y0.heap.size) (.int .i64 r5) (.int .i64 k5) (.slice a5 l5 c5_)
        have hp : Box (((x31.setCell ⟨y0.heap.size, 0, none⟩ (.int .i64 r5)).setCell ⟨y0.heap.size, 1, none⟩ (.int .i64 k5)).setCell ⟨y0.heap.size, 2, none⟩ (.slice a5 l5 c5_)) b0 _ ∧ Box (((x31.setCell ⟨y0.heap.size, 0, none⟩ (.int .i64 r5)).setCell ⟨y0.heap.size, 1, none⟩ (.int .i64 k5)).setCell ⟨y0.heap.size, 2, none⟩ (.slice a5 l5 c5_)) (x27.heap.size) [.int .i64 0, .int .i64 0, .slice none 0 0] ∧ SG17 d (List.replicate k 0) [] [] 0 d.length 0 d.length (((x31.setCell ⟨y0.heap.size, 0, none⟩ (.int .i64 r5)).setCell ⟨y0.heap.size, 1, none⟩ (.int .i64 k5)).setCell ⟨y0.heap.size, 2, none⟩ (.slice a5 l5 c5_)) _ ∧ Below W0.heap.size W0 (((x31.setCell ⟨y0.heap.size, 0, none⟩ (.int .i64 r5)).setCell ⟨y0.heap.size, 1, none⟩ (.int .i64 k5)).setCell ⟨y0.heap.size, 2, none⟩ (.slice a5 l5 c5_)) := ⟨HX9.out.bel NE.out.1 hb1, BZ.out.bel (fun e => NE.out.2.2.1 e.symm) hb1, SGq.out.put BY.out _ _ _, D31.out.trans ((hb1.mono D31.out.size).below NE.out.2.2.2.1)⟩
        have HP := Lib.hid hp
        clear hp hb1
        obtain ⟨o1, o2, o3⟩ := BY.out.facts
        refine fm_one ?_
        refine opW_take rfl rfl ?_
        go_simp
        refine ⟨HP.out.1.cell, ?_⟩
        clear o1 o2 o3
        generalize ((x31.setCell ⟨y0.heap.size, 0, none⟩ (.int .i64 r5)).setCell ⟨y0.heap.size, 1, none⟩ (.int .i64 k5)).setCell ⟨y0.heap.size, 2, none⟩ (.slice a5 l5 c5_) = v1 at *
        have hb2 := bel_put3U (W := v1) (x27.heap.size) (.int .i64 r6) (.int .i64 k6) (.slice a6 l6 c6_)
        have hp : Box (((v1.setCell ⟨x27.heap.size, 0, none⟩ (.int .i64 r6)).setCell ⟨x27.heap.size, 1, none⟩ (.int .i64 k6)).setCell ⟨x27.heap.size, 2, none⟩ (.slice a6 l6 c6_)) b0 _ ∧ SG17 d (List.replicate k 0) [] [] 0 d.length 0 d.length (((v1.setCell ⟨x27.heap.size, 0, none⟩ (.int .i64 r6)).setCell ⟨x27.heap.size, 1, none⟩ (.int .i64 k6)).setCell ⟨x27.heap.size, 2, none⟩ (.slice a6 l6 c6_)) _ ∧ Below W0.heap.size W0 (((v1.setCell ⟨x27.heap.size, 0, none⟩ (.int .i64 r6)).setCell ⟨x27.heap.size, 1, none⟩ (.int .i64 k6)).setCell ⟨x27.heap.size, 2, none⟩ (.slice a6 l6 c6_)) := ⟨HP.out.1.bel NE.out.2.1 hb2, HP.out.2.2.1.put HP.out.2.1 _ _ _, HP.out.2.2.2.trans ((hb2.mono HP.out.2.2.2.size).below NE.out.2.2.2.2)⟩
        have HP2 := Lib.hid hp
        clear hp hb2
        obtain ⟨o1, o2, o3⟩ := HP.out.2.1.facts
        refine fm_one ?_
        refine opW_take rfl rfl ?_
        go_simp
        refine ⟨HP2.out.1.cell, ?_⟩
        clear o1 o2 o3
        generalize ((v1.setCell ⟨x27.heap.size, 0, none⟩ (.int .i64 r6)).setCell ⟨x27.heap.size, 1, none⟩ (.int .i64 k6)).setCell ⟨x27.heap.size, 2, none⟩ (.slice a6 l6 c6_) = v2 at *
        iterate 1 (refine fm_take (v := ?_) rfl rfl ?_ ?_; rotate_left; (next => (intro w' hSw; (try dsimp only at hSw); go_simp; (try (rw [if_pos (by omega)]; go_simp)); (try with_reducible rfl))); (simp only [Act.put, List.setIfInBounds_toArray, List.set_cons_zero, List.set_cons_succ]))
        refine fm_nil ?_
        go_simp
        go_wp2_with fail
        refine NoPanic.normal ?_
        exact HQ.out _ _ _ _ _ _ _ _ _ _ _ _ _ _ _ _ _ _ _ _ ⟨_, rfl, rfl, rfl, HP2.out.2.1, HP2.out.2.2⟩
    · skip
      refine opW_take rfl rfl ?_
      go_simp
      obtain ⟨x32, hy⟩ : ∃ x, x = x26.alloc (.cells #[.int .i64 0, .int .i64 0, .slice none 0 0] 26) := ⟨_, rfl⟩
      rw [← hy]
      have hb : Below x26.heap.size x26 x32 := hy ▸ (Below.refl _ _).alloc (Nat.le_refl _) _
      have BZ := Lib.hid (show Box x32 x26.heap.size [.int .i64 0, .int .i64 0, .slice none 0 0] from hy ▸ Box.newA x26 [.int .i64 0, .int .i64 0, .slice none 0 0] _ rfl)
      have NZ := Lib.hid (show W0.heap.size ≤ x26.heap.size ∧ x26.heap.size < x32.heap.size from ⟨D26.out.size, by rw [hy]; simp⟩)
      clear hy
      replace BY := Lib.hid (BY.out.below hb)
      have SZ32 := Lib.hid (show x26.heap.size ≤ x32.heap.size from hb.size)
      have D32 := Lib.hid (below_step D26.out D26.out.size hb)
      clear hb D26
      refine ⟨(HX.out.below D32.out).cell, ?_⟩
      refine fm_one ?_
      refine opW_take rfl rfl ?_
      go_simp
      obtain ⟨x33, hy⟩ : ∃ x, x = x32.alloc (.cells (Array.replicate k (Value.float .f64 0)) 40) := ⟨_, rfl⟩
      rw [← hy]
      have hb : Below x32.heap.size x32 x33 := hy ▸ (Below.refl _ _).alloc (Nat.le_refl _) _
      have O1 := Lib.hid (show Fls x33 (some ⟨x32.heap.size, 0, none⟩) _ from hy ▸ fls_rep17 x32 k)
      clear hy
      replace BY := Lib.hid (BY.out.below hb)
      replace BZ := Lib.hid (BZ.out.below hb)
      have SZ33 := Lib.hid (show x32.heap.size ≤ x33.heap.size from hb.size)
      have D33 := Lib.hid (below_step D32.out D32.out.size hb)
      clear hb D32
      refine ⟨(HX.out.below D33.out).cell, ?_⟩
      iterate 1 (refine fm_take (v := ?_) rfl rfl ?_ ?_; rotate_left; (next => (intro w' hSw; (try dsimp only at hSw); go_simp; (try (rw [if_pos (by omega)]; go_simp)); (try with_reducible rfl))); (simp only [Act.put, List.setIfInBounds_toArray, List.set_cons_zero, List.set_cons_succ]))
      refine fm_one ?_
      refine opW_take rfl rfl ?_
      go_simp
      refine (HG.out _ _ D33.out O1.out).mono ?_
      rintro e_ x34 ⟨⟨a4, a5, a6, n4, c4_, l5, c5_, l6, c6_, r5, k5, r6, k6, m4, code⟩, rfl, hs, hb⟩
      have SGq := Lib.hid hs
      clear hs
      dsimp only [GR.val]
      replace O1 := Lib.hid (O1.out.below hb)
      replace BY := Lib.hid (BY.out.below hb)
      replace BZ := Lib.hid (BZ.out.below hb)
      have SZ34 := Lib.hid (show x33.heap.size ≤ x34.heap.size from hb.size)
      have D34 := Lib.hid (below_step D33.out D33.out.size hb)
      clear hb D33
      refine ⟨(HX.out.below D34.out).cell, ?_⟩
      iterate 6 (refine fm_take (v := ?_) rfl rfl ?_ ?_; rotate_left; (next => (intro w' hSw; (try dsimp only at hSw); go_simp; (try (rw [if_pos (by omega)]; go_simp)); (try with_reducible rfl))); (simp only [Act.put, List.setIfInBounds_toArray, List.set_cons_zero, List.set_cons_succ]))
      refine fm_skip rfl ?_
      refine fm_skip rfl ?_
      have eY := NY.out; have eZ := NZ.out; have e0 := HBL.out
      have ez26 := SZ26.out; have ez32 := SZ32.out; have ez33 := SZ33.out; have ez34 := SZ34.out
      have hyz : y0.heap.size ≠ x26.heap.size := by omega
      have NE := Lib.hid (show b0 ≠ y0.heap.size ∧ b0 ≠ x26.heap.size ∧ y0.heap.size ≠ x26.heap.size ∧ W0.heap.size ≤ y0.heap.size ∧ W0.heap.size ≤ x26.heap.size from ⟨by omega, by omega, hyz, by omega, by omega⟩)
      clear eY eZ e0 hyz NY NZ ez26 SZ26 ez32 SZ32 ez33 SZ33 ez34 SZ34
      iterate 1 (refine fm_take (v := ?_) rfl rfl ?_ ?_; rotate_left; (next => (intro w' hSw; (try dsimp only at hSw); go_simp; (try (rw [if_pos (by omega)]; go_simp)); (try with_reducible rfl))); (simp only [Act.put, List.setIfInBounds_toArray, List.set_cons_zero, List.set_cons_succ]))
      have HX9 := Lib.hid (HX.out.below D34.out)
      have hb1 := bel_put3U (W := x34) (y0.heap.size) (.int .i64 r5) (.int .i64 k5) (.slice a5 l5 c5_)
      have hp : Box (((x34.setCell ⟨y0.heap.size, 0, none⟩ (.int .i64 r5)).setCell ⟨y0.heap.size, 1, none⟩ (.int .i64 k5)).setCell ⟨y0.heap.size, 2, none⟩ (.slice a5 l5 c5_)) b0 _ ∧ Box (((x34.setCell ⟨y0.heap.size, 0, none⟩ (.int .i64 r5)).setCell ⟨y0.heap.size, 1, none⟩ (.int .i64 k5)).setCell ⟨y0.heap.size, 2, none⟩ (.slice a5 l5 c5_)) (x26.heap.size) [.int .i64 0, .int .i64 0, .slice none 0 0] ∧ SG17 d (List.replicate k 0) [] [] 0 d.length 0 d.length (((x34.setCell ⟨y0.heap.size, 0, none⟩ (.int .i64 r5)).setCell ⟨y0.heap.size, 1, none⟩ (.int .i64 k5)).setCell ⟨y0.heap.size, 2, none⟩ (.slice a5 l5 c5_)) _ ∧ Below W0.heap.size W0 (((x34.setCell ⟨y0.heap.size, 0, none⟩ (.int .i64 r5)).setCell ⟨y0.heap.size, 1, none⟩ (.int .i64 k5)).setCell ⟨y0.heap.size, 2, none⟩ (.slice a5 l5 c5_)) := ⟨HX9.out.bel NE.out.1 hb1, BZ.out.bel (fun e => NE.out.2.2.1 e.symm) hb1, SGq.out.put BY.out _ _ _, D34.out.trans ((hb1.mono D34.out.size).below NE.out.2.2.2.1)⟩
      have HP := Lib.hid hp
      clear hp hb1
      obtain ⟨o1, o2, o3⟩ := BY.out.facts
      refine fm_one ?_
      refine opW_take rfl rfl ?_
      go_simp
      refine ⟨HP.out.1.cell, ?_⟩
      clear o1 o2 o3
      generalize ((x34.setCell ⟨y0.heap.size, 0, none⟩ (.int .i64 r5)).setCell ⟨y0.heap.size, 1, none⟩ (.int .i64 k5)).setCell ⟨y0.heap.size, 2, none⟩ (.slice a5 l5 c5_) = v1 at *
      have hb2 := bel_put3U (W := v1) (x26.heap.size) (.int .i64 r6) (.int .i64 k6) (.slice a6 l6 c6_)
      have hp : Box (((v1.setCell ⟨x26.heap.size, 0, none⟩ (.int .i64 r6)).setCell ⟨x26.heap.size, 1, none⟩ (.int .i64 k6)).setCell ⟨x26.heap.size, 2, none⟩ (.slice a6 l6 c6_)) b0 _ ∧ SG17 d (List.replicate k 0) [] [] 0 d.length 0 d.length (((v1.setCell ⟨x26.heap.size, 0, none⟩ (.int .i64 r6)).setCell ⟨x26.heap.size, 1, none⟩ (.int .i64 k6)).setCell ⟨x26.heap.size, 2, none⟩ (.slice a6 l6 c6_)) _ ∧ Below W0.heap.size W0 (((v1.setCell ⟨x26.heap.size, 0, none⟩ (.int .i64 r6)).setCell ⟨x26.heap.size, 1, none⟩ (.int .i64 k6)).setCell ⟨x26.heap.size, 2, none⟩ (.slice a6 l6 c6_)) := ⟨HP.out.1.bel NE.out.2.1 hb2, HP.out.2.2.1.put HP.out.2.1 _ _ _, HP.out.2.2.2.trans ((hb2.mono HP.out.2.2.2.size).below NE.out.2.2.2.2)⟩
      have HP2 := Lib.hid hp
      clear hp hb2
      obtain ⟨o1, o2, o3⟩ := HP.out.2.1.facts
      refine fm_one ?_
      refine opW_take rfl rfl ?_
      go_simp
      refine ⟨HP2.out.1.cell, ?_⟩
      clear o1 o2 o3
      generalize ((v1.setCell ⟨x26.heap.size, 0, none⟩ (.int .i64 r6)).setCell ⟨x26.heap.size, 1, none⟩ (.int .i64 k6)).setCell ⟨x26.heap.size, 2, none⟩ (.slice a6 l6 c6_) = v2 at *
      iterate 1 (refine fm_take (v := ?_) rfl rfl ?_ ?_; rotate_left; (next => (intro w' hSw; (try dsimp only at hSw); go_simp; (try (rw [if_pos (by omega)]; go_simp)); (try with_reducible rfl))); (simp only [Act.put, List.setIfInBounds_toArray, List.set_cons_zero, List.set_cons_succ]))
      refine fm_nil ?_
      go_simp
      go_wp2_with fail
      refine NoPanic.normal ?_
      exact HQ.out _ _ _ _ _ _ _ _ _ _ _ _ _ _ _ _ _ _ _ _ ⟨_, rfl, rfl, rfl, HP2.out.2.1, HP2.out.2.2⟩
end Go.Proofs.Ytdljnhdhigbefaa
