/- 'GkFalls': ones, and what is solved with them (printed by gen_dq.py). No condition but on lengths. -/
import Derived.Test.YtdljnhdhigbefaaZz18
import Derived.Test.YtdljnhdhigbefaaDkZ
namespace Go.Proofs.Ytdljnhdhigbefaa
open Go Go.RowKit
set_option maxRecDepth 1000000

/-- Floats, and a matrix's own cells, lie apart. -/
theorem FlsU.putM {W : World} {a b : Option Addr} {l : List Nat} {P n c : Nat} {x y : Int} (h : Fls W a l) (hb : Box W P [.int .i64 x, .int .i64 y, .slice b n c]) (v0 v1 v2 : Value) : Fls (((W.setCell ⟨P, 0, none⟩ v0).setCell ⟨P, 1, none⟩ v1).setCell ⟨P, 2, none⟩ v2) a l := fun hz => by
  obtain ⟨bb, o, e, hlt, hc⟩ := h hz
  have hne : bb ≠ P := by
    intro h1
    subst h1
    obtain ⟨s, hs⟩ := hc 0 (l.getD 0 0) (by cases l with | nil => exact absurd rfl hz | cons x l => rfl)
    rw [hb.cell] at hs
    generalize o + 0 = j at hs
    rcases j with _ | _ | _ | j <;> simp at hs
  have hB : Bel W.heap.size P W (((W.setCell ⟨P, 0, none⟩ v0).setCell ⟨P, 1, none⟩ v1).setCell ⟨P, 2, none⟩ v2) := (((Bel.refl _ _ W).set 0 v0).set 1 v1).set 2 v2
  refine ⟨bb, o, e, Nat.lt_of_lt_of_le hlt hB.size, fun i v hi => ?_⟩
  obtain ⟨s, hs⟩ := hc i v hi
  refine ⟨s, ?_⟩
  rw [← hs]
  unfold World.cell?
  rw [show (((W.setCell ⟨P, 0, none⟩ v0).setCell ⟨P, 1, none⟩ v1).setCell ⟨P, 2, none⟩ v2).heap[(⟨bb, o + i, none⟩ : Addr).block]? = W.heap[(⟨bb, o + i, none⟩ : Addr).block]? from hB.block bb hlt hne]
theorem SG17.put {d e u v : List Nat} {ur uk vr vk : Int} {W : World} {q : GR} {P n c : Nat} {b : Option Addr} {x y : Int} (h : SG17 d e u v ur uk vr vk W q) (hb : Box W P [.int .i64 x, .int .i64 y, .slice b n c]) (v0 v1 v2 : Value) : SG17 d e u v ur uk vr vk (((W.setCell ⟨P, 0, none⟩ v0).setCell ⟨P, 1, none⟩ v1).setCell ⟨P, 2, none⟩ v2) q := by
  rcases h with h | ⟨h0, ru, rv, h1, y, h3, h4, h | h⟩
  · exact .inl h
  · obtain ⟨a1, a2, a3, a4, a5, a6, a7, a8, a9, f0, f1, f2⟩ := h
    exact .inr ⟨h0, ru, rv, h1, y, h3, h4, .inl ⟨a1, a2, a3, a4, a5, a6, a7, a8, a9, FlsU.putM f0 hb _ _ _, FlsU.putM f1 hb _ _ _, FlsU.putM f2 hb _ _ _⟩⟩
  · exact .inr ⟨h0, ru, rv, h1, y, h3, h4, .inr h⟩
set_option maxHeartbeats 32000000 in
theorem region10_q (c0 c2 c4 c5 c6 c7 c8 c9 c10 c11 c12 c13 c14 c15 c16 c17 c18 c19 c20 c21 c22 c23 c24 c25 c26 c27 c28 c29 c30 c31 c32 c33 c34 c35 c36 c37 c38 c39 c40 c41 c42 c43 c44 c45 c46 c47 c48 c49 c50 c51 c52 c53 c54 c55 c56 c57 c58 c59 c60 c61 c62 c63 c64 c65 c66 c67 c68 c69 c70 c71 c72 c73 c74 c75 c76 c77 c78 c79 c80 c81 c82 c83 c84 c85 c86 c87 c88 c89 c90 c91 c92 c93 c94 c95 c96 c97 c98 c99 c100 c101 c102 c103 c104 c105 c106 c107 c108 c109 : Value) (da ea : Option Addr) (d e : List Nat) (dc ec b0 : Nat) (W0 : World) (hX : Box W0 b0 [.slice da d.length dc, .slice ea e.length ec]) (hn : d.length ≤ 512)
    (hG : ∀ W a1 a2 c1 c2, Below W0.heap.size W0 W → Fls W a1 (oneL d.length d.length) → Fls W a2 (oneL d.length d.length) → a1 ≠ none → a2 ≠ none → Calls Try.prog 16 #[.agg #[.slice da d.length dc, .slice ea e.length ec], .agg #[.int .i64 d.length, .int .i64 d.length, .slice a1 (d.length * d.length) c1], .agg #[.int .i64 d.length, .int .i64 d.length, .slice a2 (d.length * d.length) c2]] W fun x w' => ∃ q : GR, x = .returned q.val ∧ SG17 d e (oneL d.length d.length) (oneL d.length d.length) d.length d.length d.length d.length w' q ∧ Below W.heap.size W w')
    (Q : Exit → Act → World → Prop) (hQ : ∀ (u10 u11 u12 u13 u14 u50 u51 u52 u53 u54 u55 u56 u57 u58 u59 u60 u61 : Value) (w' : World), (∃ q : GR, u10 = .slice q.a q.n q.c ∧ u13 = .int .i64 q.m ∧ u14 = .int .i64 q.code ∧ SG17 d e (oneL d.length d.length) (oneL d.length d.length) d.length d.length d.length d.length w' q ∧ Below W0.heap.size W0 w') → Q .normal { tmps := #[c0, .pointer (some ⟨b0, 0, none⟩), c2, .int .i64 d.length, c4, c5, c6, c7, c8, c9, u10, u11, u12, u13, u14, c15, c16, c17, c18, c19, c20, c21, c22, c23, c24, c25, c26, c27, c28, c29, c30, c31, c32, c33, c34, c35, c36, c37, c38, c39, c40, c41, c42, c43, c44, c45, c46, c47, c48, c49, u50, u51, u52, u53, u54, u55, u56, u57, u58, u59, u60, u61, c62, c63, c64, c65, c66, c67, c68, c69, c70, c71, c72, c73, c74, c75, c76, c77, c78, c79, c80, c81, c82, c83, c84, c85, c86, c87, c88, c89, c90, c91, c92, c93, c94, c95, c96, c97, c98, c99, c100, c101, c102, c103, c104, c105, c106, c107, c108, c109], defers := [] } w') :
    Code.wp Try.prog ((findRegion (Try.f4.body.getD .skip) 10).getD .skip) Q { tmps := #[c0, .pointer (some ⟨b0, 0, none⟩), c2, .int .i64 d.length, c4, c5, c6, c7, c8, c9, c10, c11, c12, c13, c14, c15, c16, c17, c18, c19, c20, c21, c22, c23, c24, c25, c26, c27, c28, c29, c30, c31, c32, c33, c34, c35, c36, c37, c38, c39, c40, c41, c42, c43, c44, c45, c46, c47, c48, c49, c50, c51, c52, c53, c54, c55, c56, c57, c58, c59, c60, c61, c62, c63, c64, c65, c66, c67, c68, c69, c70, c71, c72, c73, c74, c75, c76, c77, c78, c79, c80, c81, c82, c83, c84, c85, c86, c87, c88, c89, c90, c91, c92, c93, c94, c95, c96, c97, c98, c99, c100, c101, c102, c103, c104, c105, c106, c107, c108, c109], defers := [] } W0 := by
  conv => arg 2; whnf
  have HG := Lib.hid hG
  have HQ := Lib.hid hQ
  have HX := Lib.hid hX
  have HN := Lib.hid hn
  have HBL := Lib.hid hX.lt
  have D0 := Lib.hid (show Below W0.heap.size W0 W0.drew from below_drewN 1 (Below.refl _ _))
  clear hG hQ hX hn
  refine wp_region_many 18 90 [(0, 0), (0, 1), (0, 3), (3, 12), (3, 13), (1, 2), (1, 4), (1, 5), (0, 6), (0, 7), (0, 8), (0, 9), (0, 10), (0, 11), (2, 12), (2, 13), (0, 14), (1, 15), (1, 16), (0, 17)] (fun W => ∀ i, W.cell? ⟨b0, i, none⟩ = ([.slice da d.length dc, .slice ea e.length ec] : List Value)[i]?) (by kernel_rfl) (by kernel_rfl) (HX.out.below D0.out).cell ?_
  generalize W0.drew = y0 at *
  iterate 3 (refine fm_take (v := ?_) rfl rfl ?_ ?_; rotate_left; (next => (intro w' hSw; (try dsimp only at hSw); go_simp; (try (rw [if_pos (by omega)]; go_simp)); (try with_reducible rfl))); (simp only [Act.put, List.setIfInBounds_toArray, List.set_cons_zero, List.set_cons_succ]))
  refine fm_from ?_
  refine fm_from ?_
  refine fm_one2 rfl ?_ ?_ ?_
  · skip
    refine opW_take rfl rfl ?_
    go_simp
    refine (One10 _ d.length HN.out).mono ?_
    rintro e_ x1 ⟨a1, bb1, cc1, rfl, hz, hne, hb⟩
    have O1 := Lib.hid hz.fls
    have N1 := Lib.hid hne
    clear hz hne
    have SZ1 := Lib.hid (show y0.heap.size ≤ x1.heap.size from hb.size)
    have D1 := Lib.hid (below_step D0.out D0.out.size hb)
    clear hb D0
    refine ⟨(HX.out.below D1.out).cell, ?_⟩
    refine fm_one2 rfl ?_ ?_ ?_
    · skip
      refine opW_take rfl rfl ?_
      go_simp
      refine (One10 _ d.length HN.out).mono ?_
      rintro e_ x2 ⟨a2, bb2, cc2, rfl, hz, hne, hb⟩
      have O2 := Lib.hid hz.fls
      have N2 := Lib.hid hne
      clear hz hne
      replace O1 := Lib.hid (O1.out.below hb)
      have SZ2 := Lib.hid (show x1.heap.size ≤ x2.heap.size from hb.size)
      have D2 := Lib.hid (below_step D1.out D1.out.size hb)
      clear hb D1
      refine ⟨(HX.out.below D2.out).cell, ?_⟩
      refine fm_one2 rfl ?_ ?_ ?_
      · skip
        refine opW_take rfl rfl ?_
        go_simp
        refine (HG.out _ a1 a2 cc1 cc2 D2.out O1.out O2.out N1.out N2.out).mono ?_
        rintro e_ x3 ⟨⟨a4, a5, a6, n4, c4_, l5, c5_, l6, c6_, r5, k5, r6, k6, m4, code⟩, rfl, hs, hb⟩
        have SGq := Lib.hid hs
        clear hs
        dsimp only [GR.val]
        replace O1 := Lib.hid (O1.out.below hb)
        replace O2 := Lib.hid (O2.out.below hb)
        have SZ3 := Lib.hid (show x2.heap.size ≤ x3.heap.size from hb.size)
        have D3 := Lib.hid (below_step D2.out D2.out.size hb)
        clear hb D2
        refine ⟨(HX.out.below D3.out).cell, ?_⟩
        iterate 6 (refine fm_take (v := ?_) rfl rfl ?_ ?_; rotate_left; (next => (intro w' hSw; (try dsimp only at hSw); go_simp; (try (rw [if_pos (by omega)]; go_simp)); (try with_reducible rfl))); (simp only [Act.put, List.setIfInBounds_toArray, List.set_cons_zero, List.set_cons_succ]))
        refine fm_now2 rfl rfl ?_ ?_
        · skip
          refine opW_take rfl rfl ?_
          go_simp
          obtain ⟨x4, hy⟩ : ∃ x, x = x3.alloc (.cells #[.int .i64 0, .int .i64 0, .slice none 0 0] 26) := ⟨_, rfl⟩
          rw [← hy]
          have hb : Below x3.heap.size x3 x4 := hy ▸ (Below.refl _ _).alloc (Nat.le_refl _) _
          have BZ := Lib.hid (show Box x4 x3.heap.size [.int .i64 0, .int .i64 0, .slice none 0 0] from hy ▸ Box.newA x3 [.int .i64 0, .int .i64 0, .slice none 0 0] _ rfl)
          have NZ := Lib.hid (show W0.heap.size ≤ x3.heap.size ∧ x3.heap.size < x4.heap.size from ⟨D3.out.size, by rw [hy]; simp⟩)
          clear hy
          replace O1 := Lib.hid (O1.out.below hb)
          replace O2 := Lib.hid (O2.out.below hb)
          replace SGq := Lib.hid (SGq.out.below hb)
          have SZ4 := Lib.hid (show x3.heap.size ≤ x4.heap.size from hb.size)
          have D4 := Lib.hid (below_step D3.out D3.out.size hb)
          clear hb D3
          refine ⟨(HX.out.below D4.out).cell, ?_⟩
          refine fm_now ?_
          refine opW_take rfl rfl ?_
          go_simp
          obtain ⟨x5, hy⟩ : ∃ x, x = x4.alloc (.cells #[.int .i64 0, .int .i64 0, .slice none 0 0] 26) := ⟨_, rfl⟩
          rw [← hy]
          have hb : Below x4.heap.size x4 x5 := hy ▸ (Below.refl _ _).alloc (Nat.le_refl _) _
          have BY := Lib.hid (show Box x5 x4.heap.size [.int .i64 0, .int .i64 0, .slice none 0 0] from hy ▸ Box.newA x4 [.int .i64 0, .int .i64 0, .slice none 0 0] _ rfl)
          have NY := Lib.hid (show W0.heap.size ≤ x4.heap.size ∧ x4.heap.size < x5.heap.size from ⟨D4.out.size, by rw [hy]; simp⟩)
          clear hy
          replace O1 := Lib.hid (O1.out.below hb)
          replace O2 := Lib.hid (O2.out.below hb)
          replace SGq := Lib.hid (SGq.out.below hb)
          replace BZ := Lib.hid (BZ.out.below hb)
          have SZ5 := Lib.hid (show x4.heap.size ≤ x5.heap.size from hb.size)
          have D5 := Lib.hid (below_step D4.out D4.out.size hb)
          clear hb D4
          refine ⟨(HX.out.below D5.out).cell, ?_⟩
          refine fm_skip rfl ?_
          refine fm_skip rfl ?_
          have eY := NY.out; have eZ := NZ.out; have e0 := HBL.out
          have ez1 := SZ1.out; have ez2 := SZ2.out; have ez3 := SZ3.out; have ez4 := SZ4.out; have ez5 := SZ5.out
          have hyz : x4.heap.size ≠ x3.heap.size := by omega
          have NE := Lib.hid (show b0 ≠ x4.heap.size ∧ b0 ≠ x3.heap.size ∧ x4.heap.size ≠ x3.heap.size ∧ W0.heap.size ≤ x4.heap.size ∧ W0.heap.size ≤ x3.heap.size from ⟨by omega, by omega, hyz, by omega, by omega⟩)
          clear eY eZ e0 hyz NY NZ ez1 SZ1 ez2 SZ2 ez3 SZ3 ez4 SZ4 ez5 SZ5
          iterate 1 (refine fm_take (v := ?_) rfl rfl ?_ ?_; rotate_left; (next => (intro w' hSw; (try dsimp only at hSw); go_simp; (try (rw [if_pos (by omega)]; go_simp)); (try with_reducible rfl))); (simp only [Act.put, List.setIfInBounds_toArray, List.set_cons_zero, List.set_cons_succ]))
          have HX9 := Lib.hid (HX.out.below D5.out)
          have hb1 := bel_put3U (W := x5) (x4.heap.size) (.int .i64 r5) (.int .i64 k5) (.slice a5 l5 c5_)
          have hp : Box (((x5.setCell ⟨x4.heap.size, 0, none⟩ (.int .i64 r5)).setCell ⟨x4.heap.size, 1, none⟩ (.int .i64 k5)).setCell ⟨x4.heap.size, 2, none⟩ (.slice a5 l5 c5_)) b0 _ ∧ Box (((x5.setCell ⟨x4.heap.size, 0, none⟩ (.int .i64 r5)).setCell ⟨x4.heap.size, 1, none⟩ (.int .i64 k5)).setCell ⟨x4.heap.size, 2, none⟩ (.slice a5 l5 c5_)) (x3.heap.size) [.int .i64 0, .int .i64 0, .slice none 0 0] ∧ SG17 d e (oneL d.length d.length) (oneL d.length d.length) d.length d.length d.length d.length (((x5.setCell ⟨x4.heap.size, 0, none⟩ (.int .i64 r5)).setCell ⟨x4.heap.size, 1, none⟩ (.int .i64 k5)).setCell ⟨x4.heap.size, 2, none⟩ (.slice a5 l5 c5_)) _ ∧ Below W0.heap.size W0 (((x5.setCell ⟨x4.heap.size, 0, none⟩ (.int .i64 r5)).setCell ⟨x4.heap.size, 1, none⟩ (.int .i64 k5)).setCell ⟨x4.heap.size, 2, none⟩ (.slice a5 l5 c5_)) := ⟨HX9.out.bel NE.out.1 hb1, BZ.out.bel (fun e => NE.out.2.2.1 e.symm) hb1, SGq.out.put BY.out _ _ _, D5.out.trans ((hb1.mono D5.out.size).below NE.out.2.2.2.1)⟩
          have HP := Lib.hid hp
          clear hp hb1
          obtain ⟨o1, o2, o3⟩ := BY.out.facts
          refine fm_one ?_
          refine opW_take rfl rfl ?_
          go_simp
          refine ⟨HP.out.1.cell, ?_⟩
          clear o1 o2 o3
          generalize ((x5.setCell ⟨x4.heap.size, 0, none⟩ (.int .i64 r5)).setCell ⟨x4.heap.size, 1, none⟩ (.int .i64 k5)).setCell ⟨x4.heap.size, 2, none⟩ (.slice a5 l5 c5_) = v1 at *
          have hb2 := bel_put3U (W := v1) (x3.heap.size) (.int .i64 r6) (.int .i64 k6) (.slice a6 l6 c6_)
          have hp : Box (((v1.setCell ⟨x3.heap.size, 0, none⟩ (.int .i64 r6)).setCell ⟨x3.heap.size, 1, none⟩ (.int .i64 k6)).setCell ⟨x3.heap.size, 2, none⟩ (.slice a6 l6 c6_)) b0 _ ∧ SG17 d e (oneL d.length d.length) (oneL d.length d.length) d.length d.length d.length d.length (((v1.setCell ⟨x3.heap.size, 0, none⟩ (.int .i64 r6)).setCell ⟨x3.heap.size, 1, none⟩ (.int .i64 k6)).setCell ⟨x3.heap.size, 2, none⟩ (.slice a6 l6 c6_)) _ ∧ Below W0.heap.size W0 (((v1.setCell ⟨x3.heap.size, 0, none⟩ (.int .i64 r6)).setCell ⟨x3.heap.size, 1, none⟩ (.int .i64 k6)).setCell ⟨x3.heap.size, 2, none⟩ (.slice a6 l6 c6_)) := ⟨HP.out.1.bel NE.out.2.1 hb2, HP.out.2.2.1.put HP.out.2.1 _ _ _, HP.out.2.2.2.trans ((hb2.mono HP.out.2.2.2.size).below NE.out.2.2.2.2)⟩
          have HP2 := Lib.hid hp
          clear hp hb2
          obtain ⟨o1, o2, o3⟩ := HP.out.2.1.facts
          refine fm_one ?_
          refine opW_take rfl rfl ?_
          go_simp
          refine ⟨HP2.out.1.cell, ?_⟩
          clear o1 o2 o3
          generalize ((v1.setCell ⟨x3.heap.size, 0, none⟩ (.int .i64 r6)).setCell ⟨x3.heap.size, 1, none⟩ (.int .i64 k6)).setCell ⟨x3.heap.size, 2, none⟩ (.slice a6 l6 c6_) = v2 at *
          iterate 1 (refine fm_take (v := ?_) rfl rfl ?_ ?_; rotate_left; (next => (intro w' hSw; (try dsimp only at hSw); go_simp; (try (rw [if_pos (by omega)]; go_simp)); (try with_reducible rfl))); (simp only [Act.put, List.setIfInBounds_toArray, List.set_cons_zero, List.set_cons_succ]))
          refine fm_nil ?_
          go_simp
          go_wp2_with fail
          refine NoPanic.normal ?_
          exact HQ.out _ _ _ _ _ _ _ _ _ _ _ _ _ _ _ _ _ _ ⟨_, rfl, rfl, rfl, HP2.out.2.1, HP2.out.2.2⟩
        · skip
          refine opW_take rfl rfl ?_
          go_simp
          obtain ⟨x6, hy⟩ : ∃ x, x = x3.alloc (.cells #[.int .i64 0, .int .i64 0, .slice none 0 0] 26) := ⟨_, rfl⟩
          rw [← hy]
          have hb : Below x3.heap.size x3 x6 := hy ▸ (Below.refl _ _).alloc (Nat.le_refl _) _
          have BY := Lib.hid (show Box x6 x3.heap.size [.int .i64 0, .int .i64 0, .slice none 0 0] from hy ▸ Box.newA x3 [.int .i64 0, .int .i64 0, .slice none 0 0] _ rfl)
          have NY := Lib.hid (show W0.heap.size ≤ x3.heap.size ∧ x3.heap.size < x6.heap.size from ⟨D3.out.size, by rw [hy]; simp⟩)
          clear hy
          replace O1 := Lib.hid (O1.out.below hb)
          replace O2 := Lib.hid (O2.out.below hb)
          replace SGq := Lib.hid (SGq.out.below hb)
          have SZ6 := Lib.hid (show x3.heap.size ≤ x6.heap.size from hb.size)
          have D6 := Lib.hid (below_step D3.out D3.out.size hb)
          clear hb D3
          refine ⟨(HX.out.below D6.out).cell, ?_⟩
          refine fm_skip rfl ?_
          refine fm_now ?_
          refine opW_take rfl rfl ?_
          go_simp
          obtain ⟨x7, hy⟩ : ∃ x, x = x6.alloc (.cells #[.int .i64 0, .int .i64 0, .slice none 0 0] 26) := ⟨_, rfl⟩
          rw [← hy]
          have hb : Below x6.heap.size x6 x7 := hy ▸ (Below.refl _ _).alloc (Nat.le_refl _) _
          have BZ := Lib.hid (show Box x7 x6.heap.size [.int .i64 0, .int .i64 0, .slice none 0 0] from hy ▸ Box.newA x6 [.int .i64 0, .int .i64 0, .slice none 0 0] _ rfl)
          have NZ := Lib.hid (show W0.heap.size ≤ x6.heap.size ∧ x6.heap.size < x7.heap.size from ⟨D6.out.size, by rw [hy]; simp⟩)
          clear hy
          replace O1 := Lib.hid (O1.out.below hb)
          replace O2 := Lib.hid (O2.out.below hb)
          replace SGq := Lib.hid (SGq.out.below hb)
          replace BY := Lib.hid (BY.out.below hb)
          have SZ7 := Lib.hid (show x6.heap.size ≤ x7.heap.size from hb.size)
          have D7 := Lib.hid (below_step D6.out D6.out.size hb)
          clear hb D6
          refine ⟨(HX.out.below D7.out).cell, ?_⟩
          refine fm_skip rfl ?_
          have eY := NY.out; have eZ := NZ.out; have e0 := HBL.out
          have ez1 := SZ1.out; have ez2 := SZ2.out; have ez3 := SZ3.out; have ez6 := SZ6.out; have ez7 := SZ7.out
          have hyz : x3.heap.size ≠ x6.heap.size := by omega
          have NE := Lib.hid (show b0 ≠ x3.heap.size ∧ b0 ≠ x6.heap.size ∧ x3.heap.size ≠ x6.heap.size ∧ W0.heap.size ≤ x3.heap.size ∧ W0.heap.size ≤ x6.heap.size from ⟨by omega, by omega, hyz, by omega, by omega⟩)
          clear eY eZ e0 hyz NY NZ ez1 SZ1 ez2 SZ2 ez3 SZ3 ez6 SZ6 ez7 SZ7
          iterate 1 (refine fm_take (v := ?_) rfl rfl ?_ ?_; rotate_left; (next => (intro w' hSw; (try dsimp only at hSw); go_simp; (try (rw [if_pos (by omega)]; go_simp)); (try with_reducible rfl))); (simp only [Act.put, List.setIfInBounds_toArray, List.set_cons_zero, List.set_cons_succ]))
          have HX9 := Lib.hid (HX.out.below D7.out)
          have hb1 := bel_put3U (W := x7) (x3.heap.size) (.int .i64 r5) (.int .i64 k5) (.slice a5 l5 c5_)
          have hp : Box (((x7.setCell ⟨x3.heap.size, 0, none⟩ (.int .i64 r5)).setCell ⟨x3.heap.size, 1, none⟩ (.int .i64 k5)).setCell ⟨x3.heap.size, 2, none⟩ (.slice a5 l5 c5_)) b0 _ ∧ Box (((x7.setCell ⟨x3.heap.size, 0, none⟩ (.int .i64 r5)).setCell ⟨x3.heap.size, 1, none⟩ (.int .i64 k5)).setCell ⟨x3.heap.size, 2, none⟩ (.slice a5 l5 c5_)) (x6.heap.size) [.int .i64 0, .int .i64 0, .slice none 0 0] ∧ SG17 d e (oneL d.length d.length) (oneL d.length d.length) d.length d.length d.length d.length (((x7.setCell ⟨x3.heap.size, 0, none⟩ (.int .i64 r5)).setCell ⟨x3.heap.size, 1, none⟩ (.int .i64 k5)).setCell ⟨x3.heap.size, 2, none⟩ (.slice a5 l5 c5_)) _ ∧ Below W0.heap.size W0 (((x7.setCell ⟨x3.heap.size, 0, none⟩ (.int .i64 r5)).setCell ⟨x3.heap.size, 1, none⟩ (.int .i64 k5)).setCell ⟨x3.heap.size, 2, none⟩ (.slice a5 l5 c5_)) := ⟨HX9.out.bel NE.out.1 hb1, BZ.out.bel (fun e => NE.out.2.2.1 e.symm) hb1, SGq.out.put BY.out _ _ _, D7.out.trans ((hb1.mono D7.out.size).below NE.out.2.2.2.1)⟩
          have HP := Lib.hid hp
          clear hp hb1
          obtain ⟨o1, o2, o3⟩ := BY.out.facts
          refine fm_one ?_
          refine opW_take rfl rfl ?_
          go_simp
          refine ⟨HP.out.1.cell, ?_⟩
          clear o1 o2 o3
          generalize ((x7.setCell ⟨x3.heap.size, 0, none⟩ (.int .i64 r5)).setCell ⟨x3.heap.size, 1, none⟩ (.int .i64 k5)).setCell ⟨x3.heap.size, 2, none⟩ (.slice a5 l5 c5_) = v1 at *
          have hb2 := bel_put3U (W := v1) (x6.heap.size) (.int .i64 r6) (.int .i64 k6) (.slice a6 l6 c6_)
          have hp : Box (((v1.setCell ⟨x6.heap.size, 0, none⟩ (.int .i64 r6)).setCell ⟨x6.heap.size, 1, none⟩ (.int .i64 k6)).setCell ⟨x6.heap.size, 2, none⟩ (.slice a6 l6 c6_)) b0 _ ∧ SG17 d e (oneL d.length d.length) (oneL d.length d.length) d.length d.length d.length d.length (((v1.setCell ⟨x6.heap.size, 0, none⟩ (.int .i64 r6)).setCell ⟨x6.heap.size, 1, none⟩ (.int .i64 k6)).setCell ⟨x6.heap.size, 2, none⟩ (.slice a6 l6 c6_)) _ ∧ Below W0.heap.size W0 (((v1.setCell ⟨x6.heap.size, 0, none⟩ (.int .i64 r6)).setCell ⟨x6.heap.size, 1, none⟩ (.int .i64 k6)).setCell ⟨x6.heap.size, 2, none⟩ (.slice a6 l6 c6_)) := ⟨HP.out.1.bel NE.out.2.1 hb2, HP.out.2.2.1.put HP.out.2.1 _ _ _, HP.out.2.2.2.trans ((hb2.mono HP.out.2.2.2.size).below NE.out.2.2.2.2)⟩
          have HP2 := Lib.hid hp
          clear hp hb2
          obtain ⟨o1, o2, o3⟩ := HP.out.2.1.facts
          refine fm_one ?_
          refine opW_take rfl rfl ?_
          go_simp
          refine ⟨HP2.out.1.cell, ?_⟩
          clear o1 o2 o3
          generalize ((v1.setCell ⟨x6.heap.size, 0, none⟩ (.int .i64 r6)).setCell ⟨x6.heap.size, 1, none⟩ (.int .i64 k6)).setCell ⟨x6.heap.size, 2, none⟩ (.slice a6 l6 c6_) = v2 at *
          iterate 1 (refine fm_take (v := ?_) rfl rfl ?_ ?_; rotate_left; (next => (intro w' hSw; (try dsimp only at hSw); go_simp; (try (rw [if_pos (by omega)]; go_simp)); (try with_reducible rfl))); (simp only [Act.put, List.setIfInBounds_toArray, List.set_cons_zero, List.set_cons_succ]))
          refine fm_nil ?_
          go_simp
          go_wp2_with fail
          refine NoPanic.normal ?_
          exact HQ.out _ _ _ _ _ _ _ _ _ _ _ _ _ _ _ _ _ _ ⟨_, rfl, rfl, rfl, HP2.out.2.1, HP2.out.2.2⟩
      · skip
        refine opW_take rfl rfl ?_
        go_simp
        obtain ⟨x8, hy⟩ : ∃ x, x = x2.alloc (.cells #[.int .i64 0, .int .i64 0, .slice none 0 0] 26) := ⟨_, rfl⟩
        rw [← hy]
        have hb : Below x2.heap.size x2 x8 := hy ▸ (Below.refl _ _).alloc (Nat.le_refl _) _
        have BZ := Lib.hid (show Box x8 x2.heap.size [.int .i64 0, .int .i64 0, .slice none 0 0] from hy ▸ Box.newA x2 [.int .i64 0, .int .i64 0, .slice none 0 0] _ rfl)
        have NZ := Lib.hid (show W0.heap.size ≤ x2.heap.size ∧ x2.heap.size < x8.heap.size from ⟨D2.out.size, by rw [hy]; simp⟩)
        clear hy
        replace O1 := Lib.hid (O1.out.below hb)
        replace O2 := Lib.hid (O2.out.below hb)
        have SZ8 := Lib.hid (show x2.heap.size ≤ x8.heap.size from hb.size)
        have D8 := Lib.hid (below_step D2.out D2.out.size hb)
        clear hb D2
        refine ⟨(HX.out.below D8.out).cell, ?_⟩
        refine fm_one1 ?_ ?_
        · skip
          refine opW_take rfl rfl ?_
          go_simp
          refine (HG.out _ a1 a2 cc1 cc2 D8.out O1.out O2.out N1.out N2.out).mono ?_
          rintro e_ x9 ⟨⟨a4, a5, a6, n4, c4_, l5, c5_, l6, c6_, r5, k5, r6, k6, m4, code⟩, rfl, hs, hb⟩
          have SGq := Lib.hid hs
          clear hs
          dsimp only [GR.val]
          replace O1 := Lib.hid (O1.out.below hb)
          replace O2 := Lib.hid (O2.out.below hb)
          replace BZ := Lib.hid (BZ.out.below hb)
          have SZ9 := Lib.hid (show x8.heap.size ≤ x9.heap.size from hb.size)
          have D9 := Lib.hid (below_step D8.out D8.out.size hb)
          clear hb D8
          refine ⟨(HX.out.below D9.out).cell, ?_⟩
          iterate 6 (refine fm_take (v := ?_) rfl rfl ?_ ?_; rotate_left; (next => (intro w' hSw; (try dsimp only at hSw); go_simp; (try (rw [if_pos (by omega)]; go_simp)); (try with_reducible rfl))); (simp only [Act.put, List.setIfInBounds_toArray, List.set_cons_zero, List.set_cons_succ]))
          refine fm_now ?_
          refine opW_take rfl rfl ?_
          go_simp
          obtain ⟨x10, hy⟩ : ∃ x, x = x9.alloc (.cells #[.int .i64 0, .int .i64 0, .slice none 0 0] 26) := ⟨_, rfl⟩
          rw [← hy]
          have hb : Below x9.heap.size x9 x10 := hy ▸ (Below.refl _ _).alloc (Nat.le_refl _) _
          have BY := Lib.hid (show Box x10 x9.heap.size [.int .i64 0, .int .i64 0, .slice none 0 0] from hy ▸ Box.newA x9 [.int .i64 0, .int .i64 0, .slice none 0 0] _ rfl)
          have NY := Lib.hid (show W0.heap.size ≤ x9.heap.size ∧ x9.heap.size < x10.heap.size from ⟨D9.out.size, by rw [hy]; simp⟩)
          clear hy
          replace O1 := Lib.hid (O1.out.below hb)
          replace O2 := Lib.hid (O2.out.below hb)
          replace SGq := Lib.hid (SGq.out.below hb)
          replace BZ := Lib.hid (BZ.out.below hb)
          have SZ10 := Lib.hid (show x9.heap.size ≤ x10.heap.size from hb.size)
          have D10 := Lib.hid (below_step D9.out D9.out.size hb)
          clear hb D9
          refine ⟨(HX.out.below D10.out).cell, ?_⟩
          refine fm_skip rfl ?_
          refine fm_skip rfl ?_
          have eY := NY.out; have eZ := NZ.out; have e0 := HBL.out
          have ez1 := SZ1.out; have ez2 := SZ2.out; have ez8 := SZ8.out; have ez9 := SZ9.out; have ez10 := SZ10.out
          have hyz : x9.heap.size ≠ x2.heap.size := by omega
          have NE := Lib.hid (show b0 ≠ x9.heap.size ∧ b0 ≠ x2.heap.size ∧ x9.heap.size ≠ x2.heap.size ∧ W0.heap.size ≤ x9.heap.size ∧ W0.heap.size ≤ x2.heap.size from ⟨by omega, by omega, hyz, by omega, by omega⟩)
          clear eY eZ e0 hyz NY NZ ez1 SZ1 ez2 SZ2 ez8 SZ8 ez9 SZ9 ez10 SZ10
          iterate 1 (refine fm_take (v := ?_) rfl rfl ?_ ?_; rotate_left; (next => (intro w' hSw; (try dsimp only at hSw); go_simp; (try (rw [if_pos (by omega)]; go_simp)); (try with_reducible rfl))); (simp only [Act.put, List.setIfInBounds_toArray, List.set_cons_zero, List.set_cons_succ]))
          have HX9 := Lib.hid (HX.out.below D10.out)
          have hb1 := bel_put3U (W := x10) (x9.heap.size) (.int .i64 r5) (.int .i64 k5) (.slice a5 l5 c5_)
          have hp : Box (((x10.setCell ⟨x9.heap.size, 0, none⟩ (.int .i64 r5)).setCell ⟨x9.heap.size, 1, none⟩ (.int .i64 k5)).setCell ⟨x9.heap.size, 2, none⟩ (.slice a5 l5 c5_)) b0 _ ∧ Box (((x10.setCell ⟨x9.heap.size, 0, none⟩ (.int .i64 r5)).setCell ⟨x9.heap.size, 1, none⟩ (.int .i64 k5)).setCell ⟨x9.heap.size, 2, none⟩ (.slice a5 l5 c5_)) (x2.heap.size) [.int .i64 0, .int .i64 0, .slice none 0 0] ∧ SG17 d e (oneL d.length d.length) (oneL d.length d.length) d.length d.length d.length d.length (((x10.setCell ⟨x9.heap.size, 0, none⟩ (.int .i64 r5)).setCell ⟨x9.heap.size, 1, none⟩ (.int .i64 k5)).setCell ⟨x9.heap.size, 2, none⟩ (.slice a5 l5 c5_)) _ ∧ Below W0.heap.size W0 (((x10.setCell ⟨x9.heap.size, 0, none⟩ (.int .i64 r5)).setCell ⟨x9.heap.size, 1, none⟩ (.int .i64 k5)).setCell ⟨x9.heap.size, 2, none⟩ (.slice a5 l5 c5_)) := ⟨HX9.out.bel NE.out.1 hb1, BZ.out.bel (fun e => NE.out.2.2.1 e.symm) hb1, SGq.out.put BY.out _ _ _, D10.out.trans ((hb1.mono D10.out.size).below NE.out.2.2.2.1)⟩
          have HP := Lib.hid hp
          clear hp hb1
          obtain ⟨o1, o2, o3⟩ := BY.out.facts
          refine fm_one ?_
          refine opW_take rfl rfl ?_
          go_simp
          refine ⟨HP.out.1.cell, ?_⟩
          clear o1 o2 o3
          generalize ((x10.setCell ⟨x9.heap.size, 0, none⟩ (.int .i64 r5)).setCell ⟨x9.heap.size, 1, none⟩ (.int .i64 k5)).setCell ⟨x9.heap.size, 2, none⟩ (.slice a5 l5 c5_) = v1 at *
          have hb2 := bel_put3U (W := v1) (x2.heap.size) (.int .i64 r6) (.int .i64 k6) (.slice a6 l6 c6_)
          have hp : Box (((v1.setCell ⟨x2.heap.size, 0, none⟩ (.int .i64 r6)).setCell ⟨x2.heap.size, 1, none⟩ (.int .i64 k6)).setCell ⟨x2.heap.size, 2, none⟩ (.slice a6 l6 c6_)) b0 _ ∧ SG17 d e (oneL d.length d.length) (oneL d.length d.length) d.length d.length d.length d.length (((v1.setCell ⟨x2.heap.size, 0, none⟩ (.int .i64 r6)).setCell ⟨x2.heap.size, 1, none⟩ (.int .i64 k6)).setCell ⟨x2.heap.size, 2, none⟩ (.slice a6 l6 c6_)) _ ∧ Below W0.heap.size W0 (((v1.setCell ⟨x2.heap.size, 0, none⟩ (.int .i64 r6)).setCell ⟨x2.heap.size, 1, none⟩ (.int .i64 k6)).setCell ⟨x2.heap.size, 2, none⟩ (.slice a6 l6 c6_)) := ⟨HP.out.1.bel NE.out.2.1 hb2, HP.out.2.2.1.put HP.out.2.1 _ _ _, HP.out.2.2.2.trans ((hb2.mono HP.out.2.2.2.size).below NE.out.2.2.2.2)⟩
          have HP2 := Lib.hid hp
          clear hp hb2
          obtain ⟨o1, o2, o3⟩ := HP.out.2.1.facts
          refine fm_one ?_
          refine opW_take rfl rfl ?_
          go_simp
          refine ⟨HP2.out.1.cell, ?_⟩
          clear o1 o2 o3
          generalize ((v1.setCell ⟨x2.heap.size, 0, none⟩ (.int .i64 r6)).setCell ⟨x2.heap.size, 1, none⟩ (.int .i64 k6)).setCell ⟨x2.heap.size, 2, none⟩ (.slice a6 l6 c6_) = v2 at *
          iterate 1 (refine fm_take (v := ?_) rfl rfl ?_ ?_; rotate_left; (next => (intro w' hSw; (try dsimp only at hSw); go_simp; (try (rw [if_pos (by omega)]; go_simp)); (try with_reducible rfl))); (simp only [Act.put, List.setIfInBounds_toArray, List.set_cons_zero, List.set_cons_succ]))
          refine fm_nil ?_
          go_simp
          go_wp2_with fail
          refine NoPanic.normal ?_
          exact HQ.out _ _ _ _ _ _ _ _ _ _ _ _ _ _ _ _ _ _ ⟨_, rfl, rfl, rfl, HP2.out.2.1, HP2.out.2.2⟩
        · skip
          refine opW_take rfl rfl ?_
          go_simp
          obtain ⟨x11, hy⟩ : ∃ x, x = x8.alloc (.cells #[.int .i64 0, .int .i64 0, .slice none 0 0] 26) := ⟨_, rfl⟩
          rw [← hy]
          have hb : Below x8.heap.size x8 x11 := hy ▸ (Below.refl _ _).alloc (Nat.le_refl _) _
          have BY := Lib.hid (show Box x11 x8.heap.size [.int .i64 0, .int .i64 0, .slice none 0 0] from hy ▸ Box.newA x8 [.int .i64 0, .int .i64 0, .slice none 0 0] _ rfl)
          have NY := Lib.hid (show W0.heap.size ≤ x8.heap.size ∧ x8.heap.size < x11.heap.size from ⟨D8.out.size, by rw [hy]; simp⟩)
          clear hy
          replace O1 := Lib.hid (O1.out.below hb)
          replace O2 := Lib.hid (O2.out.below hb)
          replace BZ := Lib.hid (BZ.out.below hb)
          have SZ11 := Lib.hid (show x8.heap.size ≤ x11.heap.size from hb.size)
          have D11 := Lib.hid (below_step D8.out D8.out.size hb)
          clear hb D8
          refine ⟨(HX.out.below D11.out).cell, ?_⟩
          refine fm_one ?_
          refine opW_take rfl rfl ?_
          go_simp
          refine (HG.out _ a1 a2 cc1 cc2 D11.out O1.out O2.out N1.out N2.out).mono ?_
          rintro e_ x12 ⟨⟨a4, a5, a6, n4, c4_, l5, c5_, l6, c6_, r5, k5, r6, k6, m4, code⟩, rfl, hs, hb⟩
          have SGq := Lib.hid hs
          clear hs
          dsimp only [GR.val]
          replace O1 := Lib.hid (O1.out.below hb)
          replace O2 := Lib.hid (O2.out.below hb)
          replace BY := Lib.hid (BY.out.below hb)
          replace BZ := Lib.hid (BZ.out.below hb)
          have SZ12 := Lib.hid (show x11.heap.size ≤ x12.heap.size from hb.size)
          have D12 := Lib.hid (below_step D11.out D11.out.size hb)
          clear hb D11
          refine ⟨(HX.out.below D12.out).cell, ?_⟩
          iterate 6 (refine fm_take (v := ?_) rfl rfl ?_ ?_; rotate_left; (next => (intro w' hSw; (try dsimp only at hSw); go_simp; (try (rw [if_pos (by omega)]; go_simp)); (try with_reducible rfl))); (simp only [Act.put, List.setIfInBounds_toArray, List.set_cons_zero, List.set_cons_succ]))
          refine fm_skip rfl ?_
          refine fm_skip rfl ?_
          have eY := NY.out; have eZ := NZ.out; have e0 := HBL.out
          have ez1 := SZ1.out; have ez2 := SZ2.out; have ez8 := SZ8.out; have ez11 := SZ11.out; have ez12 := SZ12.out
          have hyz : x8.heap.size ≠ x2.heap.size := by omega
          have NE := Lib.hid (show b0 ≠ x8.heap.size ∧ b0 ≠ x2.heap.size ∧ x8.heap.size ≠ x2.heap.size ∧ W0.heap.size ≤ x8.heap.size ∧ W0.heap.size ≤ x2.heap.size from ⟨by omega, by omega, hyz, by omega, by omega⟩)
          clear eY eZ e0 hyz NY NZ ez1 SZ1 ez2 SZ2 ez8 SZ8 ez11 SZ11 ez12 SZ12
          iterate 1 (refine fm_take (v := ?_) rfl rfl ?_ ?_; rotate_left; (next => (intro w' hSw; (try dsimp only at hSw); go_simp; (try (rw [if_pos (by omega)]; go_simp)); (try with_reducible rfl))); (simp only [Act.put, List.setIfInBounds_toArray, List.set_cons_zero, List.set_cons_succ]))
          have HX9 := Lib.hid (HX.out.below D12.out)
          have hb1 := bel_put3U (W := x12) (x8.heap.size) (.int .i64 r5) (.int .i64 k5) (.slice a5 l5 c5_)
          have hp : Box (((x12.setCell ⟨x8.heap.size, 0, none⟩ (.int .i64 r5)).setCell ⟨x8.heap.size, 1, none⟩ (.int .i64 k5)).setCell ⟨x8.heap.size, 2, none⟩ (.slice a5 l5 c5_)) b0 _ ∧ Box (((x12.setCell ⟨x8.heap.size, 0, none⟩ (.int .i64 r5)).setCell ⟨x8.heap.size, 1, none⟩ (.int .i64 k5)).setCell ⟨x8.heap.size, 2, none⟩ (.slice a5 l5 c5_)) (x2.heap.size) [.int .i64 0, .int .i64 0, .slice none 0 0] ∧ SG17 d e (oneL d.length d.length) (oneL d.length d.length) d.length d.length d.length d.length (((x12.setCell ⟨x8.heap.size, 0, none⟩ (.int .i64 r5)).setCell ⟨x8.heap.size, 1, none⟩ (.int .i64 k5)).setCell ⟨x8.heap.size, 2, none⟩ (.slice a5 l5 c5_)) _ ∧ Below W0.heap.size W0 (((x12.setCell ⟨x8.heap.size, 0, none⟩ (.int .i64 r5)).setCell ⟨x8.heap.size, 1, none⟩ (.int .i64 k5)).setCell ⟨x8.heap.size, 2, none⟩ (.slice a5 l5 c5_)) := ⟨HX9.out.bel NE.out.1 hb1, BZ.out.bel (fun e => NE.out.2.2.1 e.symm) hb1, SGq.out.put BY.out _ _ _, D12.out.trans ((hb1.mono D12.out.size).below NE.out.2.2.2.1)⟩
          have HP := Lib.hid hp
          clear hp hb1
          obtain ⟨o1, o2, o3⟩ := BY.out.facts
          refine fm_one ?_
          refine opW_take rfl rfl ?_
          go_simp
          refine ⟨HP.out.1.cell, ?_⟩
          clear o1 o2 o3
          generalize ((x12.setCell ⟨x8.heap.size, 0, none⟩ (.int .i64 r5)).setCell ⟨x8.heap.size, 1, none⟩ (.int .i64 k5)).setCell ⟨x8.heap.size, 2, none⟩ (.slice a5 l5 c5_) = v1 at *
          have hb2 := bel_put3U (W := v1) (x2.heap.size) (.int .i64 r6) (.int .i64 k6) (.slice a6 l6 c6_)
          have hp : Box (((v1.setCell ⟨x2.heap.size, 0, none⟩ (.int .i64 r6)).setCell ⟨x2.heap.size, 1, none⟩ (.int .i64 k6)).setCell ⟨x2.heap.size, 2, none⟩ (.slice a6 l6 c6_)) b0 _ ∧ SG17 d e (oneL d.length d.length) (oneL d.length d.length) d.length d.length d.length d.length (((v1.setCell ⟨x2.heap.size, 0, none⟩ (.int .i64 r6)).setCell ⟨x2.heap.size, 1, none⟩ (.int .i64 k6)).setCell ⟨x2.heap.size, 2, none⟩ (.slice a6 l6 c6_)) _ ∧ Below W0.heap.size W0 (((v1.setCell ⟨x2.heap.size, 0, none⟩ (.int .i64 r6)).setCell ⟨x2.heap.size, 1, none⟩ (.int .i64 k6)).setCell ⟨x2.heap.size, 2, none⟩ (.slice a6 l6 c6_)) := ⟨HP.out.1.bel NE.out.2.1 hb2, HP.out.2.2.1.put HP.out.2.1 _ _ _, HP.out.2.2.2.trans ((hb2.mono HP.out.2.2.2.size).below NE.out.2.2.2.2)⟩
          have HP2 := Lib.hid hp
          clear hp hb2
          obtain ⟨o1, o2, o3⟩ := HP.out.2.1.facts
          refine fm_one ?_
          refine opW_take rfl rfl ?_
          go_simp
          refine ⟨HP2.out.1.cell, ?_⟩
          clear o1 o2 o3
          generalize ((v1.setCell ⟨x2.heap.size, 0, none⟩ (.int .i64 r6)).setCell ⟨x2.heap.size, 1, none⟩ (.int .i64 k6)).setCell ⟨x2.heap.size, 2, none⟩ (.slice a6 l6 c6_) = v2 at *
          iterate 1 (refine fm_take (v := ?_) rfl rfl ?_ ?_; rotate_left; (next => (intro w' hSw; (try dsimp only at hSw); go_simp; (try (rw [if_pos (by omega)]; go_simp)); (try with_reducible rfl))); (simp only [Act.put, List.setIfInBounds_toArray, List.set_cons_zero, List.set_cons_succ]))
          refine fm_nil ?_
          go_simp
          go_wp2_with fail
          refine NoPanic.normal ?_
          exact HQ.out _ _ _ _ _ _ _ _ _ _ _ _ _ _ _ _ _ _ ⟨_, rfl, rfl, rfl, HP2.out.2.1, HP2.out.2.2⟩
      · skip
        refine opW_take rfl rfl ?_
        go_simp
        obtain ⟨x13, hy⟩ : ∃ x, x = x2.alloc (.cells #[.int .i64 0, .int .i64 0, .slice none 0 0] 26) := ⟨_, rfl⟩
        rw [← hy]
        have hb : Below x2.heap.size x2 x13 := hy ▸ (Below.refl _ _).alloc (Nat.le_refl _) _
        have BY := Lib.hid (show Box x13 x2.heap.size [.int .i64 0, .int .i64 0, .slice none 0 0] from hy ▸ Box.newA x2 [.int .i64 0, .int .i64 0, .slice none 0 0] _ rfl)
        have NY := Lib.hid (show W0.heap.size ≤ x2.heap.size ∧ x2.heap.size < x13.heap.size from ⟨D2.out.size, by rw [hy]; simp⟩)
        clear hy
        replace O1 := Lib.hid (O1.out.below hb)
        replace O2 := Lib.hid (O2.out.below hb)
        have SZ13 := Lib.hid (show x2.heap.size ≤ x13.heap.size from hb.size)
        have D13 := Lib.hid (below_step D2.out D2.out.size hb)
        clear hb D2
        refine ⟨(HX.out.below D13.out).cell, ?_⟩
        refine fm_one1 ?_ ?_
        · skip
          refine opW_take rfl rfl ?_
          go_simp
          refine (HG.out _ a1 a2 cc1 cc2 D13.out O1.out O2.out N1.out N2.out).mono ?_
          rintro e_ x14 ⟨⟨a4, a5, a6, n4, c4_, l5, c5_, l6, c6_, r5, k5, r6, k6, m4, code⟩, rfl, hs, hb⟩
          have SGq := Lib.hid hs
          clear hs
          dsimp only [GR.val]
          replace O1 := Lib.hid (O1.out.below hb)
          replace O2 := Lib.hid (O2.out.below hb)
          replace BY := Lib.hid (BY.out.below hb)
          have SZ14 := Lib.hid (show x13.heap.size ≤ x14.heap.size from hb.size)
          have D14 := Lib.hid (below_step D13.out D13.out.size hb)
          clear hb D13
          refine ⟨(HX.out.below D14.out).cell, ?_⟩
          iterate 6 (refine fm_take (v := ?_) rfl rfl ?_ ?_; rotate_left; (next => (intro w' hSw; (try dsimp only at hSw); go_simp; (try (rw [if_pos (by omega)]; go_simp)); (try with_reducible rfl))); (simp only [Act.put, List.setIfInBounds_toArray, List.set_cons_zero, List.set_cons_succ]))
          refine fm_skip rfl ?_
          refine fm_now ?_
          refine opW_take rfl rfl ?_
          go_simp
          obtain ⟨x15, hy⟩ : ∃ x, x = x14.alloc (.cells #[.int .i64 0, .int .i64 0, .slice none 0 0] 26) := ⟨_, rfl⟩
          rw [← hy]
          have hb : Below x14.heap.size x14 x15 := hy ▸ (Below.refl _ _).alloc (Nat.le_refl _) _
          have BZ := Lib.hid (show Box x15 x14.heap.size [.int .i64 0, .int .i64 0, .slice none 0 0] from hy ▸ Box.newA x14 [.int .i64 0, .int .i64 0, .slice none 0 0] _ rfl)
          have NZ := Lib.hid (show W0.heap.size ≤ x14.heap.size ∧ x14.heap.size < x15.heap.size from ⟨D14.out.size, by rw [hy]; simp⟩)
          clear hy
          replace O1 := Lib.hid (O1.out.below hb)
          replace O2 := Lib.hid (O2.out.below hb)
          replace SGq := Lib.hid (SGq.out.below hb)
          replace BY := Lib.hid (BY.out.below hb)
          have SZ15 := Lib.hid (show x14.heap.size ≤ x15.heap.size from hb.size)
          have D15 := Lib.hid (below_step D14.out D14.out.size hb)
          clear hb D14
          refine ⟨(HX.out.below D15.out).cell, ?_⟩
          refine fm_skip rfl ?_
          have eY := NY.out; have eZ := NZ.out; have e0 := HBL.out
          have ez1 := SZ1.out; have ez2 := SZ2.out; have ez13 := SZ13.out; have ez14 := SZ14.out; have ez15 := SZ15.out
          have hyz : x2.heap.size ≠ x14.heap.size := by omega
          have NE := Lib.hid (show b0 ≠ x2.heap.size ∧ b0 ≠ x14.heap.size ∧ x2.heap.size ≠ x14.heap.size ∧ W0.heap.size ≤ x2.heap.size ∧ W0.heap.size ≤ x14.heap.size from ⟨by omega, by omega, hyz, by omega, by omega⟩)
          clear eY eZ e0 hyz NY NZ ez1 SZ1 ez2 SZ2 ez13 SZ13 ez14 SZ14 ez15 SZ15
          iterate 1 (refine fm_take (v := ?_) rfl rfl ?_ ?_; rotate_left; (next => (intro w' hSw; (try dsimp only at hSw); go_simp; (try (rw [if_pos (by omega)]; go_simp)); (try with_reducible rfl))); (simp only [Act.put, List.setIfInBounds_toArray, List.set_cons_zero, List.set_cons_succ]))
          have HX9 := Lib.hid (HX.out.below D15.out)
          have hb1 := bel_put3U (W := x15) (x2.heap.size) (.int .i64 r5) (.int .i64 k5) (.slice a5 l5 c5_)
          have hp : Box (((x15.setCell ⟨x2.heap.size, 0, none⟩ (.int .i64 r5)).setCell ⟨x2.heap.size, 1, none⟩ (.int .i64 k5)).setCell ⟨x2.heap.size, 2, none⟩ (.slice a5 l5 c5_)) b0 _ ∧ Box (((x15.setCell ⟨x2.heap.size, 0, none⟩ (.int .i64 r5)).setCell ⟨x2.heap.size, 1, none⟩ (.int .i64 k5)).setCell ⟨x2.heap.size, 2, none⟩ (.slice a5 l5 c5_)) (x14.heap.size) [.int .i64 0, .int .i64 0, .slice none 0 0] ∧ SG17 d e (oneL d.length d.length) (oneL d.length d.length) d.length d.length d.length d.length (((x15.setCell ⟨x2.heap.size, 0, none⟩ (.int .i64 r5)).setCell ⟨x2.heap.size, 1, none⟩ (.int .i64 k5)).setCell ⟨x2.heap.size, 2, none⟩ (.slice a5 l5 c5_)) _ ∧ Below W0.heap.size W0 (((x15.setCell ⟨x2.heap.size, 0, none⟩ (.int .i64 r5)).setCell ⟨x2.heap.size, 1, none⟩ (.int .i64 k5)).setCell ⟨x2.heap.size, 2, none⟩ (.slice a5 l5 c5_)) := ⟨HX9.out.bel NE.out.1 hb1, BZ.out.bel (fun e => NE.out.2.2.1 e.symm) hb1, SGq.out.put BY.out _ _ _, D15.out.trans ((hb1.mono D15.out.size).below NE.out.2.2.2.1)⟩
          have HP := Lib.hid hp
          clear hp hb1
          obtain ⟨o1, o2, o3⟩ := BY.out.facts
          refine fm_one ?_
          refine opW_take rfl rfl ?_
          go_simp
          refine ⟨HP.out.1.cell, ?_⟩
          clear o1 o2 o3
          generalize ((x15.setCell ⟨x2.heap.size, 0, none⟩ (.int .i64 r5)).setCell ⟨x2.heap.size, 1, none⟩ (.int .i64 k5)).setCell ⟨x2.heap.size, 2, none⟩ (.slice a5 l5 c5_) = v1 at *
          have hb2 := bel_put3U (W := v1) (x14.heap.size) (.int .i64 r6) (.int .i64 k6) (.slice a6 l6 c6_)
          have hp : Box (((v1.setCell ⟨x14.heap.size, 0, none⟩ (.int .i64 r6)).setCell ⟨x14.heap.size, 1, none⟩ (.int .i64 k6)).setCell ⟨x14.heap.size, 2, none⟩ (.slice a6 l6 c6_)) b0 _ ∧ SG17 d e (oneL d.length d.length) (oneL d.length d.length) d.length d.length d.length d.length (((v1.setCell ⟨x14.heap.size, 0, none⟩ (.int .i64 r6)).setCell ⟨x14.heap.size, 1, none⟩ (.int .i64 k6)).setCell ⟨x14.heap.size, 2, none⟩ (.slice a6 l6 c6_)) _ ∧ Below W0.heap.size W0 (((v1.setCell ⟨x14.heap.size, 0, none⟩ (.int .i64 r6)).setCell ⟨x14.heap.size, 1, none⟩ (.int .i64 k6)).setCell ⟨x14.heap.size, 2, none⟩ (.slice a6 l6 c6_)) := ⟨HP.out.1.bel NE.out.2.1 hb2, HP.out.2.2.1.put HP.out.2.1 _ _ _, HP.out.2.2.2.trans ((hb2.mono HP.out.2.2.2.size).below NE.out.2.2.2.2)⟩
          have HP2 := Lib.hid hp
          clear hp hb2
          obtain ⟨o1, o2, o3⟩ := HP.out.2.1.facts
          refine fm_one ?_
          refine opW_take rfl rfl ?_
          go_simp
          refine ⟨HP2.out.1.cell, ?_⟩
          clear o1 o2 o3
          generalize ((v1.setCell ⟨x14.heap.size, 0, none⟩ (.int .i64 r6)).setCell ⟨x14.heap.size, 1, none⟩ (.int .i64 k6)).setCell ⟨x14.heap.size, 2, none⟩ (.slice a6 l6 c6_) = v2 at *
          iterate 1 (refine fm_take (v := ?_) rfl rfl ?_ ?_; rotate_left; (next => (intro w' hSw; (try dsimp only at hSw); go_simp; (try (rw [if_pos (by omega)]; go_simp)); (try with_reducible rfl))); (simp only [Act.put, List.setIfInBounds_toArray, List.set_cons_zero, List.set_cons_succ]))
          refine fm_nil ?_
          go_simp
          go_wp2_with fail
          refine NoPanic.normal ?_
          exact HQ.out _ _ _ _ _ _ _ _ _ _ _ _ _ _ _ _ _ _ ⟨_, rfl, rfl, rfl, HP2.out.2.1, HP2.out.2.2⟩
        · skip
          refine opW_take rfl rfl ?_
          go_simp
          obtain ⟨x16, hy⟩ : ∃ x, x = x13.alloc (.cells #[.int .i64 0, .int .i64 0, .slice none 0 0] 26) := ⟨_, rfl⟩
          rw [← hy]
          have hb : Below x13.heap.size x13 x16 := hy ▸ (Below.refl _ _).alloc (Nat.le_refl _) _
          have BZ := Lib.hid (show Box x16 x13.heap.size [.int .i64 0, .int .i64 0, .slice none 0 0] from hy ▸ Box.newA x13 [.int .i64 0, .int .i64 0, .slice none 0 0] _ rfl)
          have NZ := Lib.hid (show W0.heap.size ≤ x13.heap.size ∧ x13.heap.size < x16.heap.size from ⟨D13.out.size, by rw [hy]; simp⟩)
          clear hy
          replace O1 := Lib.hid (O1.out.below hb)
          replace O2 := Lib.hid (O2.out.below hb)
          replace BY := Lib.hid (BY.out.below hb)
          have SZ16 := Lib.hid (show x13.heap.size ≤ x16.heap.size from hb.size)
          have D16 := Lib.hid (below_step D13.out D13.out.size hb)
          clear hb D13
          refine ⟨(HX.out.below D16.out).cell, ?_⟩
          refine fm_one ?_
          refine opW_take rfl rfl ?_
          go_simp
          refine (HG.out _ a1 a2 cc1 cc2 D16.out O1.out O2.out N1.out N2.out).mono ?_
          rintro e_ x17 ⟨⟨a4, a5, a6, n4, c4_, l5, c5_, l6, c6_, r5, k5, r6, k6, m4, code⟩, rfl, hs, hb⟩
          have SGq := Lib.hid hs
          clear hs
          dsimp only [GR.val]
          replace O1 := Lib.hid (O1.out.below hb)
          replace O2 := Lib.hid (O2.out.below hb)
          replace BY := Lib.hid (BY.out.below hb)
          replace BZ := Lib.hid (BZ.out.below hb)
          have SZ17 := Lib.hid (show x16.heap.size ≤ x17.heap.size from hb.size)
          have D17 := Lib.hid (below_step D16.out D16.out.size hb)
          clear hb D16
          refine ⟨(HX.out.below D17.out).cell, ?_⟩
          iterate 6 (refine fm_take (v := ?_) rfl rfl ?_ ?_; rotate_left; (next => (intro w' hSw; (try dsimp only at hSw); go_simp; (try (rw [if_pos (by omega)]; go_simp)); (try with_reducible rfl))); (simp only [Act.put, List.setIfInBounds_toArray, List.set_cons_zero, List.set_cons_succ]))
          refine fm_skip rfl ?_
          refine fm_skip rfl ?_
          have eY := NY.out; have eZ := NZ.out; have e0 := HBL.out
          have ez1 := SZ1.out; have ez2 := SZ2.out; have ez13 := SZ13.out; have ez16 := SZ16.out; have ez17 := SZ17.out
          have hyz : x2.heap.size ≠ x13.heap.size := by omega
          have NE := Lib.hid (show b0 ≠ x2.heap.size ∧ b0 ≠ x13.heap.size ∧ x2.heap.size ≠ x13.heap.size ∧ W0.heap.size ≤ x2.heap.size ∧ W0.heap.size ≤ x13.heap.size from ⟨by omega, by omega, hyz, by omega, by omega⟩)
          clear eY eZ e0 hyz NY NZ ez1 SZ1 ez2 SZ2 ez13 SZ13 ez16 SZ16 ez17 SZ17
          iterate 1 (refine fm_take (v := ?_) rfl rfl ?_ ?_; rotate_left; (next => (intro w' hSw; (try dsimp only at hSw); go_simp; (try (rw [if_pos (by omega)]; go_simp)); (try with_reducible rfl))); (simp only [Act.put, List.setIfInBounds_toArray, List.set_cons_zero, List.set_cons_succ]))
          have HX9 := Lib.hid (HX.out.below D17.out)
          have hb1 := bel_put3U (W := x17) (x2.heap.size) (.int .i64 r5) (.int .i64 k5) (.slice a5 l5 c5_)
          have hp : Box (((x17.setCell ⟨x2.heap.size, 0, none⟩ (.int .i64 r5)).setCell ⟨x2.heap.size, 1, none⟩ (.int .i64 k5)).setCell ⟨x2.heap.size, 2, none⟩ (.slice a5 l5 c5_)) b0 _ ∧ Box (((x17.setCell ⟨x2.heap.size, 0, none⟩ (.int .i64 r5)).setCell ⟨x2.heap.size, 1, none⟩ (.int .i64 k5)).setCell ⟨x2.heap.size, 2, none⟩ (.slice a5 l5 c5_)) (x13.heap.size) [.int .i64 0, .int .i64 0, .slice none 0 0] ∧ SG17 d e (oneL d.length d.length) (oneL d.length d.length) d.length d.length d.length d.length (((x17.setCell ⟨x2.heap.size, 0, none⟩ (.int .i64 r5)).setCell ⟨x2.heap.size, 1, none⟩ (.int .i64 k5)).setCell ⟨x2.heap.size, 2, none⟩ (.slice a5 l5 c5_)) _ ∧ Below W0.heap.size W0 (((x17.setCell ⟨x2.heap.size, 0, none⟩ (.int .i64 r5)).setCell ⟨x2.heap.size, 1, none⟩ (.int .i64 k5)).setCell ⟨x2.heap.size, 2, none⟩ (.slice a5 l5 c5_)) := ⟨HX9.out.bel NE.out.1 hb1, BZ.out.bel (fun e => NE.out.2.2.1 e.symm) hb1, SGq.out.put BY.out _ _ _, D17.out.trans ((hb1.mono D17.out.size).below NE.out.2.2.2.1)⟩
          have HP := Lib.hid hp
          clear hp hb1
          obtain ⟨o1, o2, o3⟩ := BY.out.facts
          refine fm_one ?_
          refine opW_take rfl rfl ?_
          go_simp
          refine ⟨HP.out.1.cell, ?_⟩
          clear o1 o2 o3
          generalize ((x17.setCell ⟨x2.heap.size, 0, none⟩ (.int .i64 r5)).setCell ⟨x2.heap.size, 1, none⟩ (.int .i64 k5)).setCell ⟨x2.heap.size, 2, none⟩ (.slice a5 l5 c5_) = v1 at *
          have hb2 := bel_put3U (W := v1) (x13.heap.size) (.int .i64 r6) (.int .i64 k6) (.slice a6 l6 c6_)
          have hp : Box (((v1.setCell ⟨x13.heap.size, 0, none⟩ (.int .i64 r6)).setCell ⟨x13.heap.size, 1, none⟩ (.int .i64 k6)).setCell ⟨x13.heap.size, 2, none⟩ (.slice a6 l6 c6_)) b0 _ ∧ SG17 d e (oneL d.length d.length) (oneL d.length d.length) d.length d.length d.length d.length (((v1.setCell ⟨x13.heap.size, 0, none⟩ (.int .i64 r6)).setCell ⟨x13.heap.size, 1, none⟩ (.int .i64 k6)).setCell ⟨x13.heap.size, 2, none⟩ (.slice a6 l6 c6_)) _ ∧ Below W0.heap.size W0 (((v1.setCell ⟨x13.heap.size, 0, none⟩ (.int .i64 r6)).setCell ⟨x13.heap.size, 1, none⟩ (.int .i64 k6)).setCell ⟨x13.heap.size, 2, none⟩ (.slice a6 l6 c6_)) := ⟨HP.out.1.bel NE.out.2.1 hb2, HP.out.2.2.1.put HP.out.2.1 _ _ _, HP.out.2.2.2.trans ((hb2.mono HP.out.2.2.2.size).below NE.out.2.2.2.2)⟩
          have HP2 := Lib.hid hp
          clear hp hb2
          obtain ⟨o1, o2, o3⟩ := HP.out.2.1.facts
          refine fm_one ?_
          refine opW_take rfl rfl ?_
          go_simp
          refine ⟨HP2.out.1.cell, ?_⟩
          clear o1 o2 o3
          generalize ((v1.setCell ⟨x13.heap.size, 0, none⟩ (.int .i64 r6)).setCell ⟨x13.heap.size, 1, none⟩ (.int .i64 k6)).setCell ⟨x13.heap.size, 2, none⟩ (.slice a6 l6 c6_) = v2 at *
          iterate 1 (refine fm_take (v := ?_) rfl rfl ?_ ?_; rotate_left; (next => (intro w' hSw; (try dsimp only at hSw); go_simp; (try (rw [if_pos (by omega)]; go_simp)); (try with_reducible rfl))); (simp only [Act.put, List.setIfInBounds_toArray, List.set_cons_zero, List.set_cons_succ]))
          refine fm_nil ?_
          go_simp
          go_wp2_with fail
          refine NoPanic.normal ?_
          exact HQ.out _ _ _ _ _ _ _ _ _ _ _ _ _ _ _ _ _ _ ⟨_, rfl, rfl, rfl, HP2.out.2.1, HP2.out.2.2⟩
    · skip
      refine opW_take rfl rfl ?_
      go_simp
      obtain ⟨x18, hy⟩ : ∃ x, x = x1.alloc (.cells #[.int .i64 0, .int .i64 0, .slice none 0 0] 26) := ⟨_, rfl⟩
      rw [← hy]
      have hb : Below x1.heap.size x1 x18 := hy ▸ (Below.refl _ _).alloc (Nat.le_refl _) _
      have BZ := Lib.hid (show Box x18 x1.heap.size [.int .i64 0, .int .i64 0, .slice none 0 0] from hy ▸ Box.newA x1 [.int .i64 0, .int .i64 0, .slice none 0 0] _ rfl)
      have NZ := Lib.hid (show W0.heap.size ≤ x1.heap.size ∧ x1.heap.size < x18.heap.size from ⟨D1.out.size, by rw [hy]; simp⟩)
      clear hy
      replace O1 := Lib.hid (O1.out.below hb)
      have SZ18 := Lib.hid (show x1.heap.size ≤ x18.heap.size from hb.size)
      have D18 := Lib.hid (below_step D1.out D1.out.size hb)
      clear hb D1
      refine ⟨(HX.out.below D18.out).cell, ?_⟩
      refine fm_one1 ?_ ?_
      · skip
        refine opW_take rfl rfl ?_
        go_simp
        refine (One10 _ d.length HN.out).mono ?_
        rintro e_ x19 ⟨a2, bb2, cc2, rfl, hz, hne, hb⟩
        have O2 := Lib.hid hz.fls
        have N2 := Lib.hid hne
        clear hz hne
        replace O1 := Lib.hid (O1.out.below hb)
        replace BZ := Lib.hid (BZ.out.below hb)
        have SZ19 := Lib.hid (show x18.heap.size ≤ x19.heap.size from hb.size)
        have D19 := Lib.hid (below_step D18.out D18.out.size hb)
        clear hb D18
        refine ⟨(HX.out.below D19.out).cell, ?_⟩
        refine fm_one1 ?_ ?_
        · skip
          refine opW_take rfl rfl ?_
          go_simp
          refine (HG.out _ a1 a2 cc1 cc2 D19.out O1.out O2.out N1.out N2.out).mono ?_
          rintro e_ x20 ⟨⟨a4, a5, a6, n4, c4_, l5, c5_, l6, c6_, r5, k5, r6, k6, m4, code⟩, rfl, hs, hb⟩
          have SGq := Lib.hid hs
          clear hs
          dsimp only [GR.val]
          replace O1 := Lib.hid (O1.out.below hb)
          replace O2 := Lib.hid (O2.out.below hb)
          replace BZ := Lib.hid (BZ.out.below hb)
          have SZ20 := Lib.hid (show x19.heap.size ≤ x20.heap.size from hb.size)
          have D20 := Lib.hid (below_step D19.out D19.out.size hb)
          clear hb D19
          refine ⟨(HX.out.below D20.out).cell, ?_⟩
          iterate 6 (refine fm_take (v := ?_) rfl rfl ?_ ?_; rotate_left; (next => (intro w' hSw; (try dsimp only at hSw); go_simp; (try (rw [if_pos (by omega)]; go_simp)); (try with_reducible rfl))); (simp only [Act.put, List.setIfInBounds_toArray, List.set_cons_zero, List.set_cons_succ]))
          refine fm_now ?_
          refine opW_take rfl rfl ?_
          go_simp
          obtain ⟨x21, hy⟩ : ∃ x, x = x20.alloc (.cells #[.int .i64 0, .int .i64 0, .slice none 0 0] 26) := ⟨_, rfl⟩
          rw [← hy]
          have hb : Below x20.heap.size x20 x21 := hy ▸ (Below.refl _ _).alloc (Nat.le_refl _) _
          have BY := Lib.hid (show Box x21 x20.heap.size [.int .i64 0, .int .i64 0, .slice none 0 0] from hy ▸ Box.newA x20 [.int .i64 0, .int .i64 0, .slice none 0 0] _ rfl)
          have NY := Lib.hid (show W0.heap.size ≤ x20.heap.size ∧ x20.heap.size < x21.heap.size from ⟨D20.out.size, by rw [hy]; simp⟩)
          clear hy
          replace O1 := Lib.hid (O1.out.below hb)
          replace O2 := Lib.hid (O2.out.below hb)
          replace SGq := Lib.hid (SGq.out.below hb)
          replace BZ := Lib.hid (BZ.out.below hb)
          have SZ21 := Lib.hid (show x20.heap.size ≤ x21.heap.size from hb.size)
          have D21 := Lib.hid (below_step D20.out D20.out.size hb)
          clear hb D20
          refine ⟨(HX.out.below D21.out).cell, ?_⟩
          refine fm_skip rfl ?_
          refine fm_skip rfl ?_
          have eY := NY.out; have eZ := NZ.out; have e0 := HBL.out
          have ez1 := SZ1.out; have ez18 := SZ18.out; have ez19 := SZ19.out; have ez20 := SZ20.out; have ez21 := SZ21.out
          have hyz : x20.heap.size ≠ x1.heap.size := by omega
          have NE := Lib.hid (show b0 ≠ x20.heap.size ∧ b0 ≠ x1.heap.size ∧ x20.heap.size ≠ x1.heap.size ∧ W0.heap.size ≤ x20.heap.size ∧ W0.heap.size ≤ x1.heap.size from ⟨by omega, by omega, hyz, by omega, by omega⟩)
          clear eY eZ e0 hyz NY NZ ez1 SZ1 ez18 SZ18 ez19 SZ19 ez20 SZ20 ez21 SZ21
          iterate 1 (refine fm_take (v := ?_) rfl rfl ?_ ?_; rotate_left; (next => (intro w' hSw; (try dsimp only at hSw); go_simp; (try (rw [if_pos (by omega)]; go_simp)); (try with_reducible rfl))); (simp only [Act.put, List.setIfInBounds_toArray, List.set_cons_zero, List.set_cons_succ]))
          have HX9 := Lib.hid (HX.out.below D21.out)
          have hb1 := bel_put3U (W := x21) (x20.heap.size) (.int .i64 r5) (.int .i64 k5) (.slice a5 l5 c5_)
          have hp : Box (((x21.setCell ⟨x20.heap.size, 0, none⟩ (.int .i64 r5)).setCell ⟨x20.heap.size, 1, none⟩ (.int .i64 k5)).setCell ⟨x20.heap.size, 2, none⟩ (.slice a5 l5 c5_)) b0 _ ∧ Box (((x21.setCell ⟨x20.heap.size, 0, none⟩ (.int .i64 r5)).setCell ⟨x20.heap.size, 1, none⟩ (.int .i64 k5)).setCell ⟨x20.heap.size, 2, none⟩ (.slice a5 l5 c5_)) (x1.heap.size) [.int .i64 0, .int .i64 0, .slice none 0 0] ∧ SG17 d e (oneL d.length d.length) (oneL d.length d.length) d.length d.length d.length d.length (((x21.setCell ⟨x20.heap.size, 0, none⟩ (.int .i64 r5)).setCell ⟨x20.heap.size, 1, none⟩ (.int .i64 k5)).setCell ⟨x20.heap.size, 2, none⟩ (.slice a5 l5 c5_)) _ ∧ Below W0.heap.size W0 (((x21.setCell ⟨x20.heap.size, 0, none⟩ (.int .i64 r5)).setCell ⟨x20.heap.size, 1, none⟩ (.int .i64 k5)).setCell ⟨x20.heap.size, 2, none⟩ (.slice a5 l5 c5_)) := ⟨HX9.out.bel NE.out.1 hb1, BZ.out.bel (fun e => NE.out.2.2.1 e.symm) hb1, SGq.out.put BY.out _ _ _, D21.out.trans ((hb1.mono D21.out.size).below NE.out.2.2.2.1)⟩
          have HP := Lib.hid hp
          clear hp hb1
          obtain ⟨o1, o2, o3⟩ := BY.out.facts
          refine fm_one ?_
          refine opW_take rfl rfl ?_
          go_simp
          refine ⟨HP.out.1.cell, ?_⟩
          clear o1 o2 o3
          generalize ((x21.setCell ⟨x20.heap.size, 0, none⟩ (.int .i64 r5)).setCell ⟨x20.heap.size, 1, none⟩ (.int .i64 k5)).setCell ⟨x20.heap.size, 2, none⟩ (.slice a5 l5 c5_) = v1 at *
          have hb2 := bel_put3U (W := v1) (x1.heap.size) (.int .i64 r6) (.int .i64 k6) (.slice a6 l6 c6_)
          have hp : Box (((v1.setCell ⟨x1.heap.size, 0, none⟩ (.int .i64 r6)).setCell ⟨x1.heap.size, 1, none⟩ (.int .i64 k6)).setCell ⟨x1.heap.size, 2, none⟩ (.slice a6 l6 c6_)) b0 _ ∧ SG17 d e (oneL d.length d.length) (oneL d.length d.length) d.length d.length d.length d.length (((v1.setCell ⟨x1.heap.size, 0, none⟩ (.int .i64 r6)).setCell ⟨x1.heap.size, 1, none⟩ (.int .i64 k6)).setCell ⟨x1.heap.size, 2, none⟩ (.slice a6 l6 c6_)) _ ∧ Below W0.heap.size W0 (((v1.setCell ⟨x1.heap.size, 0, none⟩ (.int .i64 r6)).setCell ⟨x1.heap.size, 1, none⟩ (.int .i64 k6)).setCell ⟨x1.heap.size, 2, none⟩ (.slice a6 l6 c6_)) := ⟨HP.out.1.bel NE.out.2.1 hb2, HP.out.2.2.1.put HP.out.2.1 _ _ _, HP.out.2.2.2.trans ((hb2.mono HP.out.2.2.2.size).below NE.out.2.2.2.2)⟩
          have HP2 := Lib.hid hp
          clear hp hb2
          obtain ⟨o1, o2, o3⟩ := HP.out.2.1.facts
          refine fm_one ?_
          refine opW_take rfl rfl ?_
          go_simp
          refine ⟨HP2.out.1.cell, ?_⟩
          clear o1 o2 o3
          generalize ((v1.setCell ⟨x1.heap.size, 0, none⟩ (.int .i64 r6)).setCell ⟨x1.heap.size, 1, none⟩ (.int .i64 k6)).setCell ⟨x1.heap.size, 2, none⟩ (.slice a6 l6 c6_) = v2 at *
          iterate 1 (refine fm_take (v := ?_) rfl rfl ?_ ?_; rotate_left; (next => (intro w' hSw; (try dsimp only at hSw); go_simp; (try (rw [if_pos (by omega)]; go_simp)); (try with_reducible rfl))); (simp only [Act.put, List.setIfInBounds_toArray, List.set_cons_zero, List.set_cons_succ]))
          refine fm_nil ?_
          go_simp
          go_wp2_with fail
          refine NoPanic.normal ?_
          exact HQ.out _ _ _ _ _ _ _ _ _ _ _ _ _ _ _ _ _ _ ⟨_, rfl, rfl, rfl, HP2.out.2.1, HP2.out.2.2⟩
        · skip
          refine opW_take rfl rfl ?_
          go_simp
          obtain ⟨x22, hy⟩ : ∃ x, x = x19.alloc (.cells #[.int .i64 0, .int .i64 0, .slice none 0 0] 26) := ⟨_, rfl⟩
          rw [← hy]
          have hb : Below x19.heap.size x19 x22 := hy ▸ (Below.refl _ _).alloc (Nat.le_refl _) _
          have BY := Lib.hid (show Box x22 x19.heap.size [.int .i64 0, .int .i64 0, .slice none 0 0] from hy ▸ Box.newA x19 [.int .i64 0, .int .i64 0, .slice none 0 0] _ rfl)
          have NY := Lib.hid (show W0.heap.size ≤ x19.heap.size ∧ x19.heap.size < x22.heap.size from ⟨D19.out.size, by rw [hy]; simp⟩)
          clear hy
          replace O1 := Lib.hid (O1.out.below hb)
          replace O2 := Lib.hid (O2.out.below hb)
          replace BZ := Lib.hid (BZ.out.below hb)
          have SZ22 := Lib.hid (show x19.heap.size ≤ x22.heap.size from hb.size)
          have D22 := Lib.hid (below_step D19.out D19.out.size hb)
          clear hb D19
          refine ⟨(HX.out.below D22.out).cell, ?_⟩
          refine fm_one ?_
          refine opW_take rfl rfl ?_
          go_simp
          refine (HG.out _ a1 a2 cc1 cc2 D22.out O1.out O2.out N1.out N2.out).mono ?_
          rintro e_ x23 ⟨⟨a4, a5, a6, n4, c4_, l5, c5_, l6, c6_, r5, k5, r6, k6, m4, code⟩, rfl, hs, hb⟩
          have SGq := Lib.hid hs
          clear hs
          dsimp only [GR.val]
          replace O1 := Lib.hid (O1.out.below hb)
          replace O2 := Lib.hid (O2.out.below hb)
          replace BY := Lib.hid (BY.out.below hb)
          replace BZ := Lib.hid (BZ.out.below hb)
          have SZ23 := Lib.hid (show x22.heap.size ≤ x23.heap.size from hb.size)
          have D23 := Lib.hid (below_step D22.out D22.out.size hb)
          clear hb D22
          refine ⟨(HX.out.below D23.out).cell, ?_⟩
          iterate 6 (refine fm_take (v := ?_) rfl rfl ?_ ?_; rotate_left; (next => (intro w' hSw; (try dsimp only at hSw); go_simp; (try (rw [if_pos (by omega)]; go_simp)); (try with_reducible rfl))); (simp only [Act.put, List.setIfInBounds_toArray, List.set_cons_zero, List.set_cons_succ]))
          refine fm_skip rfl ?_
          refine fm_skip rfl ?_
          have eY := NY.out; have eZ := NZ.out; have e0 := HBL.out
          have ez1 := SZ1.out; have ez18 := SZ18.out; have ez19 := SZ19.out; have ez22 := SZ22.out; have ez23 := SZ23.out
          have hyz : x19.heap.size ≠ x1.heap.size := by omega
          have NE := Lib.hid (show b0 ≠ x19.heap.size ∧ b0 ≠ x1.heap.size ∧ x19.heap.size ≠ x1.heap.size ∧ W0.heap.size ≤ x19.heap.size ∧ W0.heap.size ≤ x1.heap.size from ⟨by omega, by omega, hyz, by omega, by omega⟩)
          clear eY eZ e0 hyz NY NZ ez1 SZ1 ez18 SZ18 ez19 SZ19 ez22 SZ22 ez23 SZ23
          iterate 1 (refine fm_take (v := ?_) rfl rfl ?_ ?_; rotate_left; (next => (intro w' hSw; (try dsimp only at hSw); go_simp; (try (rw [if_pos (by omega)]; go_simp)); (try with_reducible rfl))); (simp only [Act.put, List.setIfInBounds_toArray, List.set_cons_zero, List.set_cons_succ]))
          have HX9 := Lib.hid (HX.out.below D23.out)
          have hb1 := bel_put3U (W := x23) (x19.heap.size) (.int .i64 r5) (.int .i64 k5) (.slice a5 l5 c5_)
          have hp : Box (((x23.setCell ⟨x19.heap.size, 0, none⟩ (.int .i64 r5)).setCell ⟨x19.heap.size, 1, none⟩ (.int .i64 k5)).setCell ⟨x19.heap.size, 2, none⟩ (.slice a5 l5 c5_)) b0 _ ∧ Box (((x23.setCell ⟨x19.heap.size, 0, none⟩ (.int .i64 r5)).setCell ⟨x19.heap.size, 1, none⟩ (.int .i64 k5)).setCell ⟨x19.heap.size, 2, none⟩ (.slice a5 l5 c5_)) (x1.heap.size) [.int .i64 0, .int .i64 0, .slice none 0 0] ∧ SG17 d e (oneL d.length d.length) (oneL d.length d.length) d.length d.length d.length d.length (((x23.setCell ⟨x19.heap.size, 0, none⟩ (.int .i64 r5)).setCell ⟨x19.heap.size, 1, none⟩ (.int .i64 k5)).setCell ⟨x19.heap.size, 2, none⟩ (.slice a5 l5 c5_)) _ ∧ Below W0.heap.size W0 (((x23.setCell ⟨x19.heap.size, 0, none⟩ (.int .i64 r5)).setCell ⟨x19.heap.size, 1, none⟩ (.int .i64 k5)).setCell ⟨x19.heap.size, 2, none⟩ (.slice a5 l5 c5_)) := ⟨HX9.out.bel NE.out.1 hb1, BZ.out.bel (fun e => NE.out.2.2.1 e.symm) hb1, SGq.out.put BY.out _ _ _, D23.out.trans ((hb1.mono D23.out.size).below NE.out.2.2.2.1)⟩
          have HP := Lib.hid hp
          clear hp hb1
          obtain ⟨o1, o2, o3⟩ := BY.out.facts
          refine fm_one ?_
          refine opW_take rfl rfl ?_
          go_simp
          refine ⟨HP.out.1.cell, ?_⟩
          clear o1 o2 o3
          generalize ((x23.setCell ⟨x19.heap.size, 0, none⟩ (.int .i64 r5)).setCell ⟨x19.heap.size, 1, none⟩ (.int .i64 k5)).setCell ⟨x19.heap.size, 2, none⟩ (.slice a5 l5 c5_) = v1 at *
          have hb2 := bel_put3U (W := v1) (x1.heap.size) (.int .i64 r6) (.int .i64 k6) (.slice a6 l6 c6_)
          have hp : Box (((v1.setCell ⟨x1.heap.size, 0, none⟩ (.int .i64 r6)).setCell ⟨x1.heap.size, 1, none⟩ (.int .i64 k6)).setCell ⟨x1.heap.size, 2, none⟩ (.slice a6 l6 c6_)) b0 _ ∧ SG17 d e (oneL d.length d.length) (oneL d.length d.length) d.length d.length d.length d.length (((v1.setCell ⟨x1.heap.size, 0, none⟩ (.int .i64 r6)).setCell ⟨x1.heap.size, 1, none⟩ (.int .i64 k6)).setCell ⟨x1.heap.size, 2, none⟩ (.slice a6 l6 c6_)) _ ∧ Below W0.heap.size W0 (((v1.setCell ⟨x1.heap.size, 0, none⟩ (.int .i64 r6)).setCell ⟨x1.heap.size, 1, none⟩ (.int .i64 k6)).setCell ⟨x1.heap.size, 2, none⟩ (.slice a6 l6 c6_)) := ⟨HP.out.1.bel NE.out.2.1 hb2, HP.out.2.2.1.put HP.out.2.1 _ _ _, HP.out.2.2.2.trans ((hb2.mono HP.out.2.2.2.size).below NE.out.2.2.2.2)⟩
          have HP2 := Lib.hid hp
          clear hp hb2
          obtain ⟨o1, o2, o3⟩ := HP.out.2.1.facts
          refine fm_one ?_
          refine opW_take rfl rfl ?_
          go_simp
          refine ⟨HP2.out.1.cell, ?_⟩
          clear o1 o2 o3
          generalize ((v1.setCell ⟨x1.heap.size, 0, none⟩ (.int .i64 r6)).setCell ⟨x1.heap.size, 1, none⟩ (.int .i64 k6)).setCell ⟨x1.heap.size, 2, none⟩ (.slice a6 l6 c6_) = v2 at *
          iterate 1 (refine fm_take (v := ?_) rfl rfl ?_ ?_; rotate_left; (next => (intro w' hSw; (try dsimp only at hSw); go_simp; (try (rw [if_pos (by omega)]; go_simp)); (try with_reducible rfl))); (simp only [Act.put, List.setIfInBounds_toArray, List.set_cons_zero, List.set_cons_succ]))
          refine fm_nil ?_
          go_simp
          go_wp2_with fail
          refine NoPanic.normal ?_
          exact HQ.out _ _ _ _ _ _ _ _ _ _ _ _ _ _ _ _ _ _ ⟨_, rfl, rfl, rfl, HP2.out.2.1, HP2.out.2.2⟩
      · skip
        refine opW_take rfl rfl ?_
        go_simp
        obtain ⟨x24, hy⟩ : ∃ x, x = x18.alloc (.cells #[.int .i64 0, .int .i64 0, .slice none 0 0] 26) := ⟨_, rfl⟩
        rw [← hy]
        have hb : Below x18.heap.size x18 x24 := hy ▸ (Below.refl _ _).alloc (Nat.le_refl _) _
        have BY := Lib.hid (show Box x24 x18.heap.size [.int .i64 0, .int .i64 0, .slice none 0 0] from hy ▸ Box.newA x18 [.int .i64 0, .int .i64 0, .slice none 0 0] _ rfl)
        have NY := Lib.hid (show W0.heap.size ≤ x18.heap.size ∧ x18.heap.size < x24.heap.size from ⟨D18.out.size, by rw [hy]; simp⟩)
        clear hy
        replace O1 := Lib.hid (O1.out.below hb)
        replace BZ := Lib.hid (BZ.out.below hb)
        have SZ24 := Lib.hid (show x18.heap.size ≤ x24.heap.size from hb.size)
        have D24 := Lib.hid (below_step D18.out D18.out.size hb)
        clear hb D18
        refine ⟨(HX.out.below D24.out).cell, ?_⟩
        refine fm_one ?_
        refine opW_take rfl rfl ?_
        go_simp
        refine (One10 _ d.length HN.out).mono ?_
        rintro e_ x25 ⟨a2, bb2, cc2, rfl, hz, hne, hb⟩
        have O2 := Lib.hid hz.fls
        have N2 := Lib.hid hne
        clear hz hne
        replace O1 := Lib.hid (O1.out.below hb)
        replace BY := Lib.hid (BY.out.below hb)
        replace BZ := Lib.hid (BZ.out.below hb)
        have SZ25 := Lib.hid (show x24.heap.size ≤ x25.heap.size from hb.size)
        have D25 := Lib.hid (below_step D24.out D24.out.size hb)
        clear hb D24
        refine ⟨(HX.out.below D25.out).cell, ?_⟩
        refine fm_one ?_
        refine opW_take rfl rfl ?_
        go_simp
        refine (HG.out _ a1 a2 cc1 cc2 D25.out O1.out O2.out N1.out N2.out).mono ?_
        rintro e_ x26 ⟨⟨a4, a5, a6, n4, c4_, l5, c5_, l6, c6_, r5, k5, r6, k6, m4, code⟩, rfl, hs, hb⟩
        have SGq := Lib.hid hs
        clear hs
        dsimp only [GR.val]
        replace O1 := Lib.hid (O1.out.below hb)
        replace O2 := Lib.hid (O2.out.below hb)
        replace BY := Lib.hid (BY.out.below hb)
        replace BZ := Lib.hid (BZ.out.below hb)
        have SZ26 := Lib.hid (show x25.heap.size ≤ x26.heap.size from hb.size)
        have D26 := Lib.hid (below_step D25.out D25.out.size hb)
        clear hb D25
        refine ⟨(HX.out.below D26.out).cell, ?_⟩
        iterate 6 (refine fm_take (v := ?_) rfl rfl ?_ ?_; rotate_left; (next => (intro w' hSw; (try dsimp only at hSw); go_simp; (try (rw [if_pos (by omega)]; go_simp)); (try with_reducible rfl))); (simp only [Act.put, List.setIfInBounds_toArray, List.set_cons_zero, List.set_cons_succ]))
        refine fm_skip rfl ?_
        refine fm_skip rfl ?_
        have eY := NY.out; have eZ := NZ.out; have e0 := HBL.out
        have ez1 := SZ1.out; have ez18 := SZ18.out; have ez24 := SZ24.out; have ez25 := SZ25.out; have ez26 := SZ26.out
        have hyz : x18.heap.size ≠ x1.heap.size := by omega
        have NE := Lib.hid (show b0 ≠ x18.heap.size ∧ b0 ≠ x1.heap.size ∧ x18.heap.size ≠ x1.heap.size ∧ W0.heap.size ≤ x18.heap.size ∧ W0.heap.size ≤ x1.heap.size from ⟨by omega, by omega, hyz, by omega, by omega⟩)
        clear eY eZ e0 hyz NY NZ ez1 SZ1 ez18 SZ18 ez24 SZ24 ez25 SZ25 ez26 SZ26
        iterate 1 (refine fm_take (v := ?_) rfl rfl ?_ ?_; rotate_left; (next => (intro w' hSw; (try dsimp only at hSw); go_simp; (try (rw [if_pos (by omega)]; go_simp)); (try with_reducible rfl))); (simp only [Act.put, List.setIfInBounds_toArray, List.set_cons_zero, List.set_cons_succ]))
        have HX9 := Lib.hid (HX.out.below D26.out)
        have hb1 := bel_put3U (W := x26) (x18.heap.size) (.int .i64 r5) (.int .i64 k5) (.slice a5 l5 c5_)
        have hp : Box (((x26.setCell ⟨x18.heap.size, 0, none⟩ (.int .i64 r5)).setCell ⟨x18.heap.size, 1, none⟩ (.int .i64 k5)).setCell ⟨x18.heap.size, 2, none⟩ (.slice a5 l5 c5_)) b0 _ ∧ Box (((x26.setCell ⟨x18.heap.size, 0, none⟩ (.int .i64 r5)).setCell ⟨x18.heap.size, 1, none⟩ (.int .i64 k5)).setCell ⟨x18.heap.size, 2, none⟩ (.slice a5 l5 c5_)) (x1.heap.size) [.int .i64 0, .int .i64 0, .slice none 0 0] ∧ SG17 d e (oneL d.length d.length) (oneL d.length d.length) d.length d.length d.length d.length (((x26.setCell ⟨x18.heap.size, 0, none⟩ (.int .i64 r5)).setCell ⟨x18.heap.size, 1, none⟩ (.int .i64 k5)).setCell ⟨x18.heap.size, 2, none⟩ (.slice a5 l5 c5_)) _ ∧ Below W0.heap.size W0 (((x26.setCell ⟨x18.heap.size, 0, none⟩ (.int .i64 r5)).setCell ⟨x18.heap.size, 1, none⟩ (.int .i64 k5)).setCell ⟨x18.heap.size, 2, none⟩ (.slice a5 l5 c5_)) := ⟨HX9.out.bel NE.out.1 hb1, BZ.out.bel (fun e => NE.out.2.2.1 e.symm) hb1, SGq.out.put BY.out _ _ _, D26.out.trans ((hb1.mono D26.out.size).below NE.out.2.2.2.1)⟩
        have HP := Lib.hid hp
        clear hp hb1
        obtain ⟨o1, o2, o3⟩ := BY.out.facts
        refine fm_one ?_
        refine opW_take rfl rfl ?_
        go_simp
        refine ⟨HP.out.1.cell, ?_⟩
        clear o1 o2 o3
        generalize ((x26.setCell ⟨x18.heap.size, 0, none⟩ (.int .i64 r5)).setCell ⟨x18.heap.size, 1, none⟩ (.int .i64 k5)).setCell ⟨x18.heap.size, 2, none⟩ (.slice a5 l5 c5_) = v1 at *
        have hb2 := bel_put3U (W := v1) (x1.heap.size) (.int .i64 r6) (.int .i64 k6) (.slice a6 l6 c6_)
        have hp : Box (((v1.setCell ⟨x1.heap.size, 0, none⟩ (.int .i64 r6)).setCell ⟨x1.heap.size, 1, none⟩ (.int .i64 k6)).setCell ⟨x1.heap.size, 2, none⟩ (.slice a6 l6 c6_)) b0 _ ∧ SG17 d e (oneL d.length d.length) (oneL d.length d.length) d.length d.length d.length d.length (((v1.setCell ⟨x1.heap.size, 0, none⟩ (.int .i64 r6)).setCell ⟨x1.heap.size, 1, none⟩ (.int .i64 k6)).setCell ⟨x1.heap.size, 2, none⟩ (.slice a6 l6 c6_)) _ ∧ Below W0.heap.size W0 (((v1.setCell ⟨x1.heap.size, 0, none⟩ (.int .i64 r6)).setCell ⟨x1.heap.size, 1, none⟩ (.int .i64 k6)).setCell ⟨x1.heap.size, 2, none⟩ (.slice a6 l6 c6_)) := ⟨HP.out.1.bel NE.out.2.1 hb2, HP.out.2.2.1.put HP.out.2.1 _ _ _, HP.out.2.2.2.trans ((hb2.mono HP.out.2.2.2.size).below NE.out.2.2.2.2)⟩
        have HP2 := Lib.hid hp
        clear hp hb2
        obtain ⟨o1, o2, o3⟩ := HP.out.2.1.facts
        refine fm_one ?_
        refine opW_take rfl rfl ?_
        go_simp
        refine ⟨HP2.out.1.cell, ?_⟩
        clear o1 o2 o3
        generalize ((v1.setCell ⟨x1.heap.size, 0, none⟩ (.int .i64 r6)).setCell ⟨x1.heap.size, 1, none⟩ (.int .i64 k6)).setCell ⟨x1.heap.size, 2, none⟩ (.slice a6 l6 c6_) = v2 at *
        iterate 1 (refine fm_take (v := ?_) rfl rfl ?_ ?_; rotate_left; (next => (intro w' hSw; (try dsimp only at hSw); go_simp; (try (rw [if_pos (by omega)]; go_simp)); (try with_reducible rfl))); (simp only [Act.put, List.setIfInBounds_toArray, List.set_cons_zero, List.set_cons_succ]))
        refine fm_nil ?_
        go_simp
        go_wp2_with fail
        refine NoPanic.normal ?_
        exact HQ.out _ _ _ _ _ _ _ _ _ _ _ _ _ _ _ _ _ _ ⟨_, rfl, rfl, rfl, HP2.out.2.1, HP2.out.2.2⟩
    · skip
      refine opW_take rfl rfl ?_
      go_simp
      obtain ⟨x27, hy⟩ : ∃ x, x = x1.alloc (.cells #[.int .i64 0, .int .i64 0, .slice none 0 0] 26) := ⟨_, rfl⟩
      rw [← hy]
      have hb : Below x1.heap.size x1 x27 := hy ▸ (Below.refl _ _).alloc (Nat.le_refl _) _
      have BY := Lib.hid (show Box x27 x1.heap.size [.int .i64 0, .int .i64 0, .slice none 0 0] from hy ▸ Box.newA x1 [.int .i64 0, .int .i64 0, .slice none 0 0] _ rfl)
      have NY := Lib.hid (show W0.heap.size ≤ x1.heap.size ∧ x1.heap.size < x27.heap.size from ⟨D1.out.size, by rw [hy]; simp⟩)
      clear hy
      replace O1 := Lib.hid (O1.out.below hb)
      have SZ27 := Lib.hid (show x1.heap.size ≤ x27.heap.size from hb.size)
      have D27 := Lib.hid (below_step D1.out D1.out.size hb)
      clear hb D1
      refine ⟨(HX.out.below D27.out).cell, ?_⟩
      refine fm_one1 ?_ ?_
      · skip
        refine opW_take rfl rfl ?_
        go_simp
        refine (One10 _ d.length HN.out).mono ?_
        rintro e_ x28 ⟨a2, bb2, cc2, rfl, hz, hne, hb⟩
        have O2 := Lib.hid hz.fls
        have N2 := Lib.hid hne
        clear hz hne
        replace O1 := Lib.hid (O1.out.below hb)
        replace BY := Lib.hid (BY.out.below hb)
        have SZ28 := Lib.hid (show x27.heap.size ≤ x28.heap.size from hb.size)
        have D28 := Lib.hid (below_step D27.out D27.out.size hb)
        clear hb D27
        refine ⟨(HX.out.below D28.out).cell, ?_⟩
        refine fm_one1 ?_ ?_
        · skip
          refine opW_take rfl rfl ?_
          go_simp
          refine (HG.out _ a1 a2 cc1 cc2 D28.out O1.out O2.out N1.out N2.out).mono ?_
          rintro e_ x29 ⟨⟨a4, a5, a6, n4, c4_, l5, c5_, l6, c6_, r5, k5, r6, k6, m4, code⟩, rfl, hs, hb⟩
          have SGq := Lib.hid hs
          clear hs
          dsimp only [GR.val]
          replace O1 := Lib.hid (O1.out.below hb)
          replace O2 := Lib.hid (O2.out.below hb)
          replace BY := Lib.hid (BY.out.below hb)
          have SZ29 := Lib.hid (show x28.heap.size ≤ x29.heap.size from hb.size)
          have D29 := Lib.hid (below_step D28.out D28.out.size hb)
          clear hb D28
          refine ⟨(HX.out.below D29.out).cell, ?_⟩
          iterate 6 (refine fm_take (v := ?_) rfl rfl ?_ ?_; rotate_left; (next => (intro w' hSw; (try dsimp only at hSw); go_simp; (try (rw [if_pos (by omega)]; go_simp)); (try with_reducible rfl))); (simp only [Act.put, List.setIfInBounds_toArray, List.set_cons_zero, List.set_cons_succ]))
          refine fm_skip rfl ?_
          refine fm_now ?_
          refine opW_take rfl rfl ?_
          go_simp
          obtain ⟨x30, hy⟩ : ∃ x, x = x29.alloc (.cells #[.int .i64 0, .int .i64 0, .slice none 0 0] 26) := ⟨_, rfl⟩
          rw [← hy]
          have hb : Below x29.heap.size x29 x30 := hy ▸ (Below.refl _ _).alloc (Nat.le_refl _) _
          have BZ := Lib.hid (show Box x30 x29.heap.size [.int .i64 0, .int .i64 0, .slice none 0 0] from hy ▸ Box.newA x29 [.int .i64 0, .int .i64 0, .slice none 0 0] _ rfl)
          have NZ := Lib.hid (show W0.heap.size ≤ x29.heap.size ∧ x29.heap.size < x30.heap.size from ⟨D29.out.size, by rw [hy]; simp⟩)
          clear hy
          replace O1 := Lib.hid (O1.out.below hb)
          replace O2 := Lib.hid (O2.out.below hb)
          replace SGq := Lib.hid (SGq.out.below hb)
          replace BY := Lib.hid (BY.out.below hb)
          have SZ30 := Lib.hid (show x29.heap.size ≤ x30.heap.size from hb.size)
          have D30 := Lib.hid (below_step D29.out D29.out.size hb)
          clear hb D29
          refine ⟨(HX.out.below D30.out).cell, ?_⟩
          refine fm_skip rfl ?_
          have eY := NY.out; have eZ := NZ.out; have e0 := HBL.out
          have ez1 := SZ1.out; have ez27 := SZ27.out; have ez28 := SZ28.out; have ez29 := SZ29.out; have ez30 := SZ30.out
          have hyz : x1.heap.size ≠ x29.heap.size := by omega
          have NE := Lib.hid (show b0 ≠ x1.heap.size ∧ b0 ≠ x29.heap.size ∧ x1.heap.size ≠ x29.heap.size ∧ W0.heap.size ≤ x1.heap.size ∧ W0.heap.size ≤ x29.heap.size from ⟨by omega, by omega, hyz, by omega, by omega⟩)
          clear eY eZ e0 hyz NY NZ ez1 SZ1 ez27 SZ27 ez28 SZ28 ez29 SZ29 ez30 SZ30
          iterate 1 (refine fm_take (v := ?_) rfl rfl ?_ ?_; rotate_left; (next => (intro w' hSw; (try dsimp only at hSw); go_simp; (try (rw [if_pos (by omega)]; go_simp)); (try with_reducible rfl))); (simp only [Act.put, List.setIfInBounds_toArray, List.set_cons_zero, List.set_cons_succ]))
          have HX9 := Lib.hid (HX.out.below D30.out)
          have hb1 := bel_put3U (W := x30) (x1.heap.size) (.int .i64 r5) (.int .i64 k5) (.slice a5 l5 c5_)
          have hp : Box (((x30.setCell ⟨x1.heap.size, 0, none⟩ (.int .i64 r5)).setCell ⟨x1.heap.size, 1, none⟩ (.int .i64 k5)).setCell ⟨x1.heap.size, 2, none⟩ (.slice a5 l5 c5_)) b0 _ ∧ Box (((x30.setCell ⟨x1.heap.size, 0, none⟩ (.int .i64 r5)).setCell ⟨x1.heap.size, 1, none⟩ (.int .i64 k5)).setCell ⟨x1.heap.size, 2, none⟩ (.slice a5 l5 c5_)) (x29.heap.size) [.int .i64 0, .int .i64 0, .slice none 0 0] ∧ SG17 d e (oneL d.length d.length) (oneL d.length d.length) d.length d.length d.length d.length (((x30.setCell ⟨x1.heap.size, 0, none⟩ (.int .i64 r5)).setCell ⟨x1.heap.size, 1, none⟩ (.int .i64 k5)).setCell ⟨x1.heap.size, 2, none⟩ (.slice a5 l5 c5_)) _ ∧ Below W0.heap.size W0 (((x30.setCell ⟨x1.heap.size, 0, none⟩ (.int .i64 r5)).setCell ⟨x1.heap.size, 1, none⟩ (.int .i64 k5)).setCell ⟨x1.heap.size, 2, none⟩ (.slice a5 l5 c5_)) := ⟨HX9.out.bel NE.out.1 hb1, BZ.out.bel (fun e => NE.out.2.2.1 e.symm) hb1, SGq.out.put BY.out _ _ _, D30.out.trans ((hb1.mono D30.out.size).below NE.out.2.2.2.1)⟩
          have HP := Lib.hid hp
          clear hp hb1
          obtain ⟨o1, o2, o3⟩ := BY.out.facts
          refine fm_one ?_
          refine opW_take rfl rfl ?_
          go_simp
          refine ⟨HP.out.1.cell, ?_⟩
          clear o1 o2 o3
          generalize ((x30.setCell ⟨x1.heap.size, 0, none⟩ (.int .i64 r5)).setCell ⟨x1.heap.size, 1, none⟩ (.int .i64 k5)).setCell ⟨x1.heap.size, 2, none⟩ (.slice a5 l5 c5_) = v1 at *
          have hb2 := bel_put3U (W := v1) (x29.heap.size) (.int .i64 r6) (.int .i64 k6) (.slice a6 l6 c6_)
          have hp : Box (((v1.setCell ⟨x29.heap.size, 0, none⟩ (.int .i64 r6)).setCell ⟨x29.heap.size, 1, none⟩ (.int .i64 k6)).setCell ⟨x29.heap.size, 2, none⟩ (.slice a6 l6 c6_)) b0 _ ∧ SG17 d e (oneL d.length d.length) (oneL d.length d.length) d.length d.length d.length d.length (((v1.setCell ⟨x29.heap.size, 0, none⟩ (.int .i64 r6)).setCell ⟨x29.heap.size, 1, none⟩ (.int .i64 k6)).setCell ⟨x29.heap.size, 2, none⟩ (.slice a6 l6 c6_)) _ ∧ Below W0.heap.size W0 (((v1.setCell ⟨x29.heap.size, 0, none⟩ (.int .i64 r6)).setCell ⟨x29.heap.size, 1, none⟩ (.int .i64 k6)).setCell ⟨x29.heap.size, 2, none⟩ (.slice a6 l6 c6_)) := ⟨HP.out.1.bel NE.out.2.1 hb2, HP.out.2.2.1.put HP.out.2.1 _ _ _, HP.out.2.2.2.trans ((hb2.mono HP.out.2.2.2.size).below NE.out.2.2.2.2)⟩
          have HP2 := Lib.hid hp
          clear hp hb2
          obtain ⟨o1, o2, o3⟩ := HP.out.2.1.facts
          refine fm_one ?_
          refine opW_take rfl rfl ?_
          go_simp
          refine ⟨HP2.out.1.cell, ?_⟩
          clear o1 o2 o3
          generalize ((v1.setCell ⟨x29.heap.size, 0, none⟩ (.int .i64 r6)).setCell ⟨x29.heap.size, 1, none⟩ (.int .i64 k6)).setCell ⟨x29.heap.size, 2, none⟩ (.slice a6 l6 c6_) = v2 at *
          iterate 1 (refine fm_take (v := ?_) rfl rfl ?_ ?_; rotate_left; (next => (intro w' hSw; (try dsimp only at hSw); go_simp; (try (rw [if_pos (by omega)]; go_simp)); (try with_reducible rfl))); (simp only [Act.put, List.setIfInBounds_toArray, List.set_cons_zero, List.set_cons_succ]))
          refine fm_nil ?_
          go_simp
          go_wp2_with fail
          refine NoPanic.normal ?_
          exact HQ.out _ _ _ _ _ _ _ _ _ _ _ _ _ _ _ _ _ _ ⟨_, rfl, rfl, rfl, HP2.out.2.1, HP2.out.2.2⟩
        · skip
          refine opW_take rfl rfl ?_
          go_simp
          obtain ⟨x31, hy⟩ : ∃ x, x = x28.alloc (.cells #[.int .i64 0, .int .i64 0, .slice none 0 0] 26) := ⟨_, rfl⟩
          rw [← hy]
          have hb : Below x28.heap.size x28 x31 := hy ▸ (Below.refl _ _).alloc (Nat.le_refl _) _
          have BZ := Lib.hid (show Box x31 x28.heap.size [.int .i64 0, .int .i64 0, .slice none 0 0] from hy ▸ Box.newA x28 [.int .i64 0, .int .i64 0, .slice none 0 0] _ rfl)
          have NZ := Lib.hid (show W0.heap.size ≤ x28.heap.size ∧ x28.heap.size < x31.heap.size from ⟨D28.out.size, by rw [hy]; simp⟩)
          clear hy
          replace O1 := Lib.hid (O1.out.below hb)
          replace O2 := Lib.hid (O2.out.below hb)
          replace BY := Lib.hid (BY.out.below hb)
          have SZ31 := Lib.hid (show x28.heap.size ≤ x31.heap.size from hb.size)
          have D31 := Lib.hid (below_step D28.out D28.out.size hb)
          clear hb D28
          refine ⟨(HX.out.below D31.out).cell, ?_⟩
          refine fm_one ?_
          refine opW_take rfl rfl ?_
          go_simp
          refine (HG.out _ a1 a2 cc1 cc2 D31.out O1.out O2.out N1.out N2.out).mono ?_
          rintro e_ x32 ⟨⟨a4, a5, a6, n4, c4_, l5, c5_, l6, c6_, r5, k5, r6, k6, m4, code⟩, rfl, hs, hb⟩
          have SGq := Lib.hid hs
          clear hs
          dsimp only [GR.val]
          replace O1 := Lib.hid (O1.out.below hb)
          replace O2 := Lib.hid (O2.out.below hb)
          replace BY := Lib.hid (BY.out.below hb)
          replace BZ := Lib.hid (BZ.out.below hb)
          have SZ32 := Lib.hid (show x31.heap.size ≤ x32.heap.size from hb.size)
          have D32 := Lib.hid (below_step D31.out D31.out.size hb)
          clear hb D31
          refine ⟨(HX.out.below D32.out).cell, ?_⟩
          iterate 6 (refine fm_take (v := ?_) rfl rfl ?_ ?_; rotate_left; (next => (intro w' hSw; (try dsimp only at hSw); go_simp; (try (rw [if_pos (by omega)]; go_simp)); (try with_reducible rfl))); (simp only [Act.put, List.setIfInBounds_toArray, List.set_cons_zero, List.set_cons_succ]))
          refine fm_skip rfl ?_
          refine fm_skip rfl ?_
          have eY := NY.out; have eZ := NZ.out; have e0 := HBL.out
          have ez1 := SZ1.out; have ez27 := SZ27.out; have ez28 := SZ28.out; have ez31 := SZ31.out; have ez32 := SZ32.out
          have hyz : x1.heap.size ≠ x28.heap.size := by omega
          have NE := Lib.hid (show b0 ≠ x1.heap.size ∧ b0 ≠ x28.heap.size ∧ x1.heap.size ≠ x28.heap.size ∧ W0.heap.size ≤ x1.heap.size ∧ W0.heap.size ≤ x28.heap.size from ⟨by omega, by omega, hyz, by omega, by omega⟩)
          clear eY eZ e0 hyz NY NZ ez1 SZ1 ez27 SZ27 ez28 SZ28 ez31 SZ31 ez32 SZ32
          iterate 1 (refine fm_take (v := ?_) rfl rfl ?_ ?_; rotate_left; (next => (intro w' hSw; (try dsimp only at hSw); go_simp; (try (rw [if_pos (by omega)]; go_simp)); (try with_reducible rfl))); (simp only [Act.put, List.setIfInBounds_toArray, List.set_cons_zero, List.set_cons_succ]))
          have HX9 := Lib.hid (HX.out.below D32.out)
          have hb1 := bel_put3U (W := x32) (x1.heap.size) (.int .i64 r5) (.int .i64 k5) (.slice a5 l5 c5_)
          have hp : Box (((x32.setCell ⟨x1.heap.size, 0, none⟩ (.int .i64 r5)).setCell ⟨x1.heap.size, 1, none⟩ (.int .i64 k5)).setCell ⟨x1.heap.size, 2, none⟩ (.slice a5 l5 c5_)) b0 _ ∧ Box (((x32.setCell ⟨x1.heap.size, 0, none⟩ (.int .i64 r5)).setCell ⟨x1.heap.size, 1, none⟩ (.int .i64 k5)).setCell ⟨x1.heap.size, 2, none⟩ (.slice a5 l5 c5_)) (x28.heap.size) [.int .i64 0, .int .i64 0, .slice none 0 0] ∧ SG17 d e (oneL d.length d.length) (oneL d.length d.length) d.length d.length d.length d.length (((x32.setCell ⟨x1.heap.size, 0, none⟩ (.int .i64 r5)).setCell ⟨x1.heap.size, 1, none⟩ (.int .i64 k5)).setCell ⟨x1.heap.size, 2, none⟩ (.slice a5 l5 c5_)) _ ∧ Below W0.heap.size W0 (((x32.setCell ⟨x1.heap.size, 0, none⟩ (.int .i64 r5)).setCell ⟨x1.heap.size, 1, none⟩ (.int .i64 k5)).setCell ⟨x1.heap.size, 2, none⟩ (.slice a5 l5 c5_)) := ⟨HX9.out.bel NE.out.1 hb1, BZ.out.bel (fun e => NE.out.2.2.1 e.symm) hb1, SGq.out.put BY.out _ _ _, D32.out.trans ((hb1.mono D32.out.size).below NE.out.2.2.2.1)⟩
          have HP := Lib.hid hp
          clear hp hb1
          obtain ⟨o1, o2, o3⟩ := BY.out.facts
          refine fm_one ?_
          refine opW_take rfl rfl ?_
          go_simp
          refine ⟨HP.out.1.cell, ?_⟩
          clear o1 o2 o3
          generalize ((x32.setCell ⟨x1.heap.size, 0, none⟩ (.int .i64 r5)).setCell ⟨x1.heap.size, 1, none⟩ (.int .i64 k5)).setCell ⟨x1.heap.size, 2, none⟩ (.slice a5 l5 c5_) = v1 at *
          have hb2 := bel_put3U (W := v1) (x28.heap.size) (.int .i64 r6) (.int .i64 k6) (.slice a6 l6 c6_)
          have hp : Box (((v1.setCell ⟨x28.heap.size, 0, none⟩ (.int .i64 r6)).setCell ⟨x28.heap.size, 1, none⟩ (.int .i64 k6)).setCell ⟨x28.heap.size, 2, none⟩ (.slice a6 l6 c6_)) b0 _ ∧ SG17 d e (oneL d.length d.length) (oneL d.length d.length) d.length d.length d.length d.length (((v1.setCell ⟨x28.heap.size, 0, none⟩ (.int .i64 r6)).setCell ⟨x28.heap.size, 1, none⟩ (.int .i64 k6)).setCell ⟨x28.heap.size, 2, none⟩ (.slice a6 l6 c6_)) _ ∧ Below W0.heap.size W0 (((v1.setCell ⟨x28.heap.size, 0, none⟩ (.int .i64 r6)).setCell ⟨x28.heap.size, 1, none⟩ (.int .i64 k6)).setCell ⟨x28.heap.size, 2, none⟩ (.slice a6 l6 c6_)) := ⟨HP.out.1.bel NE.out.2.1 hb2, HP.out.2.2.1.put HP.out.2.1 _ _ _, HP.out.2.2.2.trans ((hb2.mono HP.out.2.2.2.size).below NE.out.2.2.2.2)⟩
          have HP2 := Lib.hid hp
          clear hp hb2
          obtain ⟨o1, o2, o3⟩ := HP.out.2.1.facts
          refine fm_one ?_
          refine opW_take rfl rfl ?_
          go_simp
          refine ⟨HP2.out.1.cell, ?_⟩
          clear o1 o2 o3
          generalize ((v1.setCell ⟨x28.heap.size, 0, none⟩ (.int .i64 r6)).setCell ⟨x28.heap.size, 1, none⟩ (.int .i64 k6)).setCell ⟨x28.heap.size, 2, none⟩ (.slice a6 l6 c6_) = v2 at *
          iterate 1 (refine fm_take (v := ?_) rfl rfl ?_ ?_; rotate_left; (next => (intro w' hSw; (try dsimp only at hSw); go_simp; (try (rw [if_pos (by omega)]; go_simp)); (try with_reducible rfl))); (simp only [Act.put, List.setIfInBounds_toArray, List.set_cons_zero, List.set_cons_succ]))
          refine fm_nil ?_
          go_simp
          go_wp2_with fail
          refine NoPanic.normal ?_
          exact HQ.out _ _ _ _ _ _ _ _ _ _ _ _ _ _ _ _ _ _ ⟨_, rfl, rfl, rfl, HP2.out.2.1, HP2.out.2.2⟩
      · skip
        refine opW_take rfl rfl ?_
        go_simp
        obtain ⟨x33, hy⟩ : ∃ x, x = x27.alloc (.cells #[.int .i64 0, .int .i64 0, .slice none 0 0] 26) := ⟨_, rfl⟩
        rw [← hy]
        have hb : Below x27.heap.size x27 x33 := hy ▸ (Below.refl _ _).alloc (Nat.le_refl _) _
        have BZ := Lib.hid (show Box x33 x27.heap.size [.int .i64 0, .int .i64 0, .slice none 0 0] from hy ▸ Box.newA x27 [.int .i64 0, .int .i64 0, .slice none 0 0] _ rfl)
        have NZ := Lib.hid (show W0.heap.size ≤ x27.heap.size ∧ x27.heap.size < x33.heap.size from ⟨D27.out.size, by rw [hy]; simp⟩)
        clear hy
        replace O1 := Lib.hid (O1.out.below hb)
        replace BY := Lib.hid (BY.out.below hb)
        have SZ33 := Lib.hid (show x27.heap.size ≤ x33.heap.size from hb.size)
        have D33 := Lib.hid (below_step D27.out D27.out.size hb)
        clear hb D27
        refine ⟨(HX.out.below D33.out).cell, ?_⟩
        refine fm_one ?_
        refine opW_take rfl rfl ?_
        go_simp
        refine (One10 _ d.length HN.out).mono ?_
        rintro e_ x34 ⟨a2, bb2, cc2, rfl, hz, hne, hb⟩
        have O2 := Lib.hid hz.fls
        have N2 := Lib.hid hne
        clear hz hne
        replace O1 := Lib.hid (O1.out.below hb)
        replace BY := Lib.hid (BY.out.below hb)
        replace BZ := Lib.hid (BZ.out.below hb)
        have SZ34 := Lib.hid (show x33.heap.size ≤ x34.heap.size from hb.size)
        have D34 := Lib.hid (below_step D33.out D33.out.size hb)
        clear hb D33
        refine ⟨(HX.out.below D34.out).cell, ?_⟩
        refine fm_one ?_
        refine opW_take rfl rfl ?_
        go_simp
        refine (HG.out _ a1 a2 cc1 cc2 D34.out O1.out O2.out N1.out N2.out).mono ?_
        rintro e_ x35 ⟨⟨a4, a5, a6, n4, c4_, l5, c5_, l6, c6_, r5, k5, r6, k6, m4, code⟩, rfl, hs, hb⟩
        have SGq := Lib.hid hs
        clear hs
        dsimp only [GR.val]
        replace O1 := Lib.hid (O1.out.below hb)
        replace O2 := Lib.hid (O2.out.below hb)
        replace BY := Lib.hid (BY.out.below hb)
        replace BZ := Lib.hid (BZ.out.below hb)
        have SZ35 := Lib.hid (show x34.heap.size ≤ x35.heap.size from hb.size)
        have D35 := Lib.hid (below_step D34.out D34.out.size hb)
        clear hb D34
        refine ⟨(HX.out.below D35.out).cell, ?_⟩
        iterate 6 (refine fm_take (v := ?_) rfl rfl ?_ ?_; rotate_left; (next => (intro w' hSw; (try dsimp only at hSw); go_simp; (try (rw [if_pos (by omega)]; go_simp)); (try with_reducible rfl))); (simp only [Act.put, List.setIfInBounds_toArray, List.set_cons_zero, List.set_cons_succ]))
        refine fm_skip rfl ?_
        refine fm_skip rfl ?_
        have eY := NY.out; have eZ := NZ.out; have e0 := HBL.out
        have ez1 := SZ1.out; have ez27 := SZ27.out; have ez33 := SZ33.out; have ez34 := SZ34.out; have ez35 := SZ35.out
        have hyz : x1.heap.size ≠ x27.heap.size := by omega
        have NE := Lib.hid (show b0 ≠ x1.heap.size ∧ b0 ≠ x27.heap.size ∧ x1.heap.size ≠ x27.heap.size ∧ W0.heap.size ≤ x1.heap.size ∧ W0.heap.size ≤ x27.heap.size from ⟨by omega, by omega, hyz, by omega, by omega⟩)
        clear eY eZ e0 hyz NY NZ ez1 SZ1 ez27 SZ27 ez33 SZ33 ez34 SZ34 ez35 SZ35
        iterate 1 (refine fm_take (v := ?_) rfl rfl ?_ ?_; rotate_left; (next => (intro w' hSw; (try dsimp only at hSw); go_simp; (try (rw [if_pos (by omega)]; go_simp)); (try with_reducible rfl))); (simp only [Act.put, List.setIfInBounds_toArray, List.set_cons_zero, List.set_cons_succ]))
        have HX9 := Lib.hid (HX.out.below D35.out)
        have hb1 := bel_put3U (W := x35) (x1.heap.size) (.int .i64 r5) (.int .i64 k5) (.slice a5 l5 c5_)
        have hp : Box (((x35.setCell ⟨x1.heap.size, 0, none⟩ (.int .i64 r5)).setCell ⟨x1.heap.size, 1, none⟩ (.int .i64 k5)).setCell ⟨x1.heap.size, 2, none⟩ (.slice a5 l5 c5_)) b0 _ ∧ Box (((x35.setCell ⟨x1.heap.size, 0, none⟩ (.int .i64 r5)).setCell ⟨x1.heap.size, 1, none⟩ (.int .i64 k5)).setCell ⟨x1.heap.size, 2, none⟩ (.slice a5 l5 c5_)) (x27.heap.size) [.int .i64 0, .int .i64 0, .slice none 0 0] ∧ SG17 d e (oneL d.length d.length) (oneL d.length d.length) d.length d.length d.length d.length (((x35.setCell ⟨x1.heap.size, 0, none⟩ (.int .i64 r5)).setCell ⟨x1.heap.size, 1, none⟩ (.int .i64 k5)).setCell ⟨x1.heap.size, 2, none⟩ (.slice a5 l5 c5_)) _ ∧ Below W0.heap.size W0 (((x35.setCell ⟨x1.heap.size, 0, none⟩ (.int .i64 r5)).setCell ⟨x1.heap.size, 1, none⟩ (.int .i64 k5)).setCell ⟨x1.heap.size, 2, none⟩ (.slice a5 l5 c5_)) := ⟨HX9.out.bel NE.out.1 hb1, BZ.out.bel (fun e => NE.out.2.2.1 e.symm) hb1, SGq.out.put BY.out _ _ _, D35.out.trans ((hb1.mono D35.out.size).below NE.out.2.2.2.1)⟩
        have HP := Lib.hid hp
        clear hp hb1
        obtain ⟨o1, o2, o3⟩ := BY.out.facts
        refine fm_one ?_
        refine opW_take rfl rfl ?_
        go_simp
        refine ⟨HP.out.1.cell, ?_⟩
        clear o1 o2 o3
        generalize ((x35.setCell ⟨x1.heap.size, 0, none⟩ (.int .i64 r5)).setCell ⟨x1.heap.size, 1, none⟩ (.int .i64 k5)).setCell ⟨x1.heap.size, 2, none⟩ (.slice a5 l5 c5_) = v1 at *
        have hb2 := bel_put3U (W := v1) (x27.heap.size) (.int .i64 r6) (.int .i64 k6) (.slice a6 l6 c6_)
        have hp : Box (((v1.setCell ⟨x27.heap.size, 0, none⟩ (.int .i64 r6)).setCell ⟨x27.heap.size, 1, none⟩ (.int .i64 k6)).setCell ⟨x27.heap.size, 2, none⟩ (.slice a6 l6 c6_)) b0 _ ∧ SG17 d e (oneL d.length d.length) (oneL d.length d.length) d.length d.length d.length d.length (((v1.setCell ⟨x27.heap.size, 0, none⟩ (.int .i64 r6)).setCell ⟨x27.heap.size, 1, none⟩ (.int .i64 k6)).setCell ⟨x27.heap.size, 2, none⟩ (.slice a6 l6 c6_)) _ ∧ Below W0.heap.size W0 (((v1.setCell ⟨x27.heap.size, 0, none⟩ (.int .i64 r6)).setCell ⟨x27.heap.size, 1, none⟩ (.int .i64 k6)).setCell ⟨x27.heap.size, 2, none⟩ (.slice a6 l6 c6_)) := ⟨HP.out.1.bel NE.out.2.1 hb2, HP.out.2.2.1.put HP.out.2.1 _ _ _, HP.out.2.2.2.trans ((hb2.mono HP.out.2.2.2.size).below NE.out.2.2.2.2)⟩
        have HP2 := Lib.hid hp
        clear hp hb2
        obtain ⟨o1, o2, o3⟩ := HP.out.2.1.facts
        refine fm_one ?_
        refine opW_take rfl rfl ?_
        go_simp
        refine ⟨HP2.out.1.cell, ?_⟩
        clear o1 o2 o3
        generalize ((v1.setCell ⟨x27.heap.size, 0, none⟩ (.int .i64 r6)).setCell ⟨x27.heap.size, 1, none⟩ (.int .i64 k6)).setCell ⟨x27.heap.size, 2, none⟩ (.slice a6 l6 c6_) = v2 at *
        iterate 1 (refine fm_take (v := ?_) rfl rfl ?_ ?_; rotate_left; (next => (intro w' hSw; (try dsimp only at hSw); go_simp; (try (rw [if_pos (by omega)]; go_simp)); (try with_reducible rfl))); (simp only [Act.put, List.setIfInBounds_toArray, List.set_cons_zero, List.set_cons_succ]))
        refine fm_nil ?_
        go_simp
        go_wp2_with fail
        refine NoPanic.normal ?_
        exact HQ.out _ _ _ _ _ _ _ _ _ _ _ _ _ _ _ _ _ _ ⟨_, rfl, rfl, rfl, HP2.out.2.1, HP2.out.2.2⟩
  · skip
    refine opW_take rfl rfl ?_
    go_simp
    obtain ⟨x36, hy⟩ : ∃ x, x = y0.alloc (.cells #[.int .i64 0, .int .i64 0, .slice none 0 0] 26) := ⟨_, rfl⟩
    rw [← hy]
    have hb : Below y0.heap.size y0 x36 := hy ▸ (Below.refl _ _).alloc (Nat.le_refl _) _
    have BZ := Lib.hid (show Box x36 y0.heap.size [.int .i64 0, .int .i64 0, .slice none 0 0] from hy ▸ Box.newA y0 [.int .i64 0, .int .i64 0, .slice none 0 0] _ rfl)
    have NZ := Lib.hid (show W0.heap.size ≤ y0.heap.size ∧ y0.heap.size < x36.heap.size from ⟨D0.out.size, by rw [hy]; simp⟩)
    clear hy
    have SZ36 := Lib.hid (show y0.heap.size ≤ x36.heap.size from hb.size)
    have D36 := Lib.hid (below_step D0.out D0.out.size hb)
    clear hb D0
    refine ⟨(HX.out.below D36.out).cell, ?_⟩
    refine fm_one1 ?_ ?_
    · skip
      refine opW_take rfl rfl ?_
      go_simp
      refine (One10 _ d.length HN.out).mono ?_
      rintro e_ x37 ⟨a1, bb1, cc1, rfl, hz, hne, hb⟩
      have O1 := Lib.hid hz.fls
      have N1 := Lib.hid hne
      clear hz hne
      replace BZ := Lib.hid (BZ.out.below hb)
      have SZ37 := Lib.hid (show x36.heap.size ≤ x37.heap.size from hb.size)
      have D37 := Lib.hid (below_step D36.out D36.out.size hb)
      clear hb D36
      refine ⟨(HX.out.below D37.out).cell, ?_⟩
      refine fm_one1 ?_ ?_
      · skip
        refine opW_take rfl rfl ?_
        go_simp
        refine (One10 _ d.length HN.out).mono ?_
        rintro e_ x38 ⟨a2, bb2, cc2, rfl, hz, hne, hb⟩
        have O2 := Lib.hid hz.fls
        have N2 := Lib.hid hne
        clear hz hne
        replace O1 := Lib.hid (O1.out.below hb)
        replace BZ := Lib.hid (BZ.out.below hb)
        have SZ38 := Lib.hid (show x37.heap.size ≤ x38.heap.size from hb.size)
        have D38 := Lib.hid (below_step D37.out D37.out.size hb)
        clear hb D37
        refine ⟨(HX.out.below D38.out).cell, ?_⟩
        refine fm_one1 ?_ ?_
        · skip
          refine opW_take rfl rfl ?_
          go_simp
          refine (HG.out _ a1 a2 cc1 cc2 D38.out O1.out O2.out N1.out N2.out).mono ?_
          rintro e_ x39 ⟨⟨a4, a5, a6, n4, c4_, l5, c5_, l6, c6_, r5, k5, r6, k6, m4, code⟩, rfl, hs, hb⟩
          have SGq := Lib.hid hs
          clear hs
          dsimp only [GR.val]
          replace O1 := Lib.hid (O1.out.below hb)
          replace O2 := Lib.hid (O2.out.below hb)
          replace BZ := Lib.hid (BZ.out.below hb)
          have SZ39 := Lib.hid (show x38.heap.size ≤ x39.heap.size from hb.size)
          have D39 := Lib.hid (below_step D38.out D38.out.size hb)
          clear hb D38
          refine ⟨(HX.out.below D39.out).cell, ?_⟩
          iterate 6 (refine fm_take (v := ?_) rfl rfl ?_ ?_; rotate_left; (next => (intro w' hSw; (try dsimp only at hSw); go_simp; (try (rw [if_pos (by omega)]; go_simp)); (try with_reducible rfl))); (simp only [Act.put, List.setIfInBounds_toArray, List.set_cons_zero, List.set_cons_succ]))
          refine fm_now ?_
          refine opW_take rfl rfl ?_
          go_simp
          obtain ⟨x40, hy⟩ : ∃ x, x = x39.alloc (.cells #[.int .i64 0, .int .i64 0, .slice none 0 0] 26) := ⟨_, rfl⟩
          rw [← hy]
          have hb : Below x39.heap.size x39 x40 := hy ▸ (Below.refl _ _).alloc (Nat.le_refl _) _
          have BY := Lib.hid (show Box x40 x39.heap.size [.int .i64 0, .int .i64 0, .slice none 0 0] from hy ▸ Box.newA x39 [.int .i64 0, .int .i64 0, .slice none 0 0] _ rfl)
          have NY := Lib.hid (show W0.heap.size ≤ x39.heap.size ∧ x39.heap.size < x40.heap.size from ⟨D39.out.size, by rw [hy]; simp⟩)
          clear hy
          replace O1 := Lib.hid (O1.out.below hb)
          replace O2 := Lib.hid (O2.out.below hb)
          replace SGq := Lib.hid (SGq.out.below hb)
          replace BZ := Lib.hid (BZ.out.below hb)
          have SZ40 := Lib.hid (show x39.heap.size ≤ x40.heap.size from hb.size)
          have D40 := Lib.hid (below_step D39.out D39.out.size hb)
          clear hb D39
          refine ⟨(HX.out.below D40.out).cell, ?_⟩
          refine fm_skip rfl ?_
          refine fm_skip rfl ?_
          have eY := NY.out; have eZ := NZ.out; have e0 := HBL.out
          have ez36 := SZ36.out; have ez37 := SZ37.out; have ez38 := SZ38.out; have ez39 := SZ39.out; have ez40 := SZ40.out
          have hyz : x39.heap.size ≠ y0.heap.size := by omega
          have NE := Lib.hid (show b0 ≠ x39.heap.size ∧ b0 ≠ y0.heap.size ∧ x39.heap.size ≠ y0.heap.size ∧ W0.heap.size ≤ x39.heap.size ∧ W0.heap.size ≤ y0.heap.size from ⟨by omega, by omega, hyz, by omega, by omega⟩)
          clear eY eZ e0 hyz NY NZ ez36 SZ36 ez37 SZ37 ez38 SZ38 ez39 SZ39 ez40 SZ40
          iterate 1 (refine fm_take (v := ?_) rfl rfl ?_ ?_; rotate_left; (next => (intro w' hSw; (try dsimp only at hSw); go_simp; (try (rw [if_pos (by omega)]; go_simp)); (try with_reducible rfl))); (simp only [Act.put, List.setIfInBounds_toArray, List.set_cons_zero, List.set_cons_succ]))
          have HX9 := Lib.hid (HX.out.below D40.out)
          have hb1 := bel_put3U (W := x40) (x39.heap.size) (.int .i64 r5) (.int .i64 k5) (.slice a5 l5 c5_)
          have hp : Box (((x40.setCell ⟨x39.heap.size, 0, none⟩ (.int .i64 r5)).setCell ⟨x39.heap.size, 1, none⟩ (.int .i64 k5)).setCell ⟨x39.heap.size, 2, none⟩ (.slice a5 l5 c5_)) b0 _ ∧ Box (((x40.setCell ⟨x39.heap.size, 0, none⟩ (.int .i64 r5)).setCell ⟨x39.heap.size, 1, none⟩ (.int .i64 k5)).setCell ⟨x39.heap.size, 2, none⟩ (.slice a5 l5 c5_)) (y0.heap.size) [.int .i64 0, .int .i64 0, .slice none 0 0] ∧ SG17 d e (oneL d.length d.length) (oneL d.length d.length) d.length d.length d.length d.length (((x40.setCell ⟨x39.heap.size, 0, none⟩ (.int .i64 r5)).setCell ⟨x39.heap.size, 1, none⟩ (.int .i64 k5)).setCell ⟨x39.heap.size, 2, none⟩ (.slice a5 l5 c5_)) _ ∧ Below W0.heap.size W0 (((x40.setCell ⟨x39.heap.size, 0, none⟩ (.int .i64 r5)).setCell ⟨x39.heap.size, 1, none⟩ (.int .i64 k5)).setCell ⟨x39.heap.size, 2, none⟩ (.slice a5 l5 c5_)) := ⟨HX9.out.bel NE.out.1 hb1, BZ.out.bel (fun e => NE.out.2.2.1 e.symm) hb1, SGq.out.put BY.out _ _ _, D40.out.trans ((hb1.mono D40.out.size).below NE.out.2.2.2.1)⟩
          have HP := Lib.hid hp
          clear hp hb1
          obtain ⟨o1, o2, o3⟩ := BY.out.facts
          refine fm_one ?_
          refine opW_take rfl rfl ?_
          go_simp
          refine ⟨HP.out.1.cell, ?_⟩
          clear o1 o2 o3
          generalize ((x40.setCell ⟨x39.heap.size, 0, none⟩ (.int .i64 r5)).setCell ⟨x39.heap.size, 1, none⟩ (.int .i64 k5)).setCell ⟨x39.heap.size, 2, none⟩ (.slice a5 l5 c5_) = v1 at *
          have hb2 := bel_put3U (W := v1) (y0.heap.size) (.int .i64 r6) (.int .i64 k6) (.slice a6 l6 c6_)
          have hp : Box (((v1.setCell ⟨y0.heap.size, 0, none⟩ (.int .i64 r6)).setCell ⟨y0.heap.size, 1, none⟩ (.int .i64 k6)).setCell ⟨y0.heap.size, 2, none⟩ (.slice a6 l6 c6_)) b0 _ ∧ SG17 d e (oneL d.length d.length) (oneL d.length d.length) d.length d.length d.length d.length (((v1.setCell ⟨y0.heap.size, 0, none⟩ (.int .i64 r6)).setCell ⟨y0.heap.size, 1, none⟩ (.int .i64 k6)).setCell ⟨y0.heap.size, 2, none⟩ (.slice a6 l6 c6_)) _ ∧ Below W0.heap.size W0 (((v1.setCell ⟨y0.heap.size, 0, none⟩ (.int .i64 r6)).setCell ⟨y0.heap.size, 1, none⟩ (.int .i64 k6)).setCell ⟨y0.heap.size, 2, none⟩ (.slice a6 l6 c6_)) := ⟨HP.out.1.bel NE.out.2.1 hb2, HP.out.2.2.1.put HP.out.2.1 _ _ _, HP.out.2.2.2.trans ((hb2.mono HP.out.2.2.2.size).below NE.out.2.2.2.2)⟩
          have HP2 := Lib.hid hp
          clear hp hb2
          obtain ⟨o1, o2, o3⟩ := HP.out.2.1.facts
          refine fm_one ?_
          refine opW_take rfl rfl ?_
          go_simp
          refine ⟨HP2.out.1.cell, ?_⟩
          clear o1 o2 o3
          generalize ((v1.setCell ⟨y0.heap.size, 0, none⟩ (.int .i64 r6)).setCell ⟨y0.heap.size, 1, none⟩ (.int .i64 k6)).setCell ⟨y0.heap.size, 2, none⟩ (.slice a6 l6 c6_) = v2 at *
          iterate 1 (refine fm_take (v := ?_) rfl rfl ?_ ?_; rotate_left; (next => (intro w' hSw; (try dsimp only at hSw); go_simp; (try (rw [if_pos (by omega)]; go_simp)); (try with_reducible rfl))); (simp only [Act.put, List.setIfInBounds_toArray, List.set_cons_zero, List.set_cons_succ]))
          refine fm_nil ?_
          go_simp
          go_wp2_with fail
          refine NoPanic.normal ?_
          exact HQ.out _ _ _ _ _ _ _ _ _ _ _ _ _ _ _ _ _ _ ⟨_, rfl, rfl, rfl, HP2.out.2.1, HP2.out.2.2⟩
        · skip
          refine opW_take rfl rfl ?_
          go_simp
          obtain ⟨x41, hy⟩ : ∃ x, x = x38.alloc (.cells #[.int .i64 0, .int .i64 0, .slice none 0 0] 26) := ⟨_, rfl⟩
          rw [← hy]
          have hb : Below x38.heap.size x38 x41 := hy ▸ (Below.refl _ _).alloc (Nat.le_refl _) _
          have BY := Lib.hid (show Box x41 x38.heap.size [.int .i64 0, .int .i64 0, .slice none 0 0] from hy ▸ Box.newA x38 [.int .i64 0, .int .i64 0, .slice none 0 0] _ rfl)
          have NY := Lib.hid (show W0.heap.size ≤ x38.heap.size ∧ x38.heap.size < x41.heap.size from ⟨D38.out.size, by rw [hy]; simp⟩)
          clear hy
          replace O1 := Lib.hid (O1.out.below hb)
          replace O2 := Lib.hid (O2.out.below hb)
          replace BZ := Lib.hid (BZ.out.below hb)
          have SZ41 := Lib.hid (show x38.heap.size ≤ x41.heap.size from hb.size)
          have D41 := Lib.hid (below_step D38.out D38.out.size hb)
          clear hb D38
          refine ⟨(HX.out.below D41.out).cell, ?_⟩
          refine fm_one ?_
          refine opW_take rfl rfl ?_
          go_simp
          refine (HG.out _ a1 a2 cc1 cc2 D41.out O1.out O2.out N1.out N2.out).mono ?_
          rintro e_ x42 ⟨⟨a4, a5, a6, n4, c4_, l5, c5_, l6, c6_, r5, k5, r6, k6, m4, code⟩, rfl, hs, hb⟩
          have SGq := Lib.hid hs
          clear hs
          dsimp only [GR.val]
          replace O1 := Lib.hid (O1.out.below hb)
          replace O2 := Lib.hid (O2.out.below hb)
          replace BY := Lib.hid (BY.out.below hb)
          replace BZ := Lib.hid (BZ.out.below hb)
          have SZ42 := Lib.hid (show x41.heap.size ≤ x42.heap.size from hb.size)
          have D42 := Lib.hid (below_step D41.out D41.out.size hb)
          clear hb D41
          refine ⟨(HX.out.below D42.out).cell, ?_⟩
          iterate 6 (refine fm_take (v := ?_) rfl rfl ?_ ?_; rotate_left; (next => (intro w' hSw; (try dsimp only at hSw); go_simp; (try (rw [if_pos (by omega)]; go_simp)); (try with_reducible rfl))); (simp only [Act.put, List.setIfInBounds_toArray, List.set_cons_zero, List.set_cons_succ]))
          refine fm_skip rfl ?_
          refine fm_skip rfl ?_
          have eY := NY.out; have eZ := NZ.out; have e0 := HBL.out
          have ez36 := SZ36.out; have ez37 := SZ37.out; have ez38 := SZ38.out; have ez41 := SZ41.out; have ez42 := SZ42.out
          have hyz : x38.heap.size ≠ y0.heap.size := by omega
          have NE := Lib.hid (show b0 ≠ x38.heap.size ∧ b0 ≠ y0.heap.size ∧ x38.heap.size ≠ y0.heap.size ∧ W0.heap.size ≤ x38.heap.size ∧ W0.heap.size ≤ y0.heap.size from ⟨by omega, by omega, hyz, by omega, by omega⟩)
          clear eY eZ e0 hyz NY NZ ez36 SZ36 ez37 SZ37 ez38 SZ38 ez41 SZ41 ez42 SZ42
          iterate 1 (refine fm_take (v := ?_) rfl rfl ?_ ?_; rotate_left; (next => (intro w' hSw; (try dsimp only at hSw); go_simp; (try (rw [if_pos (by omega)]; go_simp)); (try with_reducible rfl))); (simp only [Act.put, List.setIfInBounds_toArray, List.set_cons_zero, List.set_cons_succ]))
          have HX9 := Lib.hid (HX.out.below D42.out)
          have hb1 := bel_put3U (W := x42) (x38.heap.size) (.int .i64 r5) (.int .i64 k5) (.slice a5 l5 c5_)
          have hp : Box (((x42.setCell ⟨x38.heap.size, 0, none⟩ (.int .i64 r5)).setCell ⟨x38.heap.size, 1, none⟩ (.int .i64 k5)).setCell ⟨x38.heap.size, 2, none⟩ (.slice a5 l5 c5_)) b0 _ ∧ Box (((x42.setCell ⟨x38.heap.size, 0, none⟩ (.int .i64 r5)).setCell ⟨x38.heap.size, 1, none⟩ (.int .i64 k5)).setCell ⟨x38.heap.size, 2, none⟩ (.slice a5 l5 c5_)) (y0.heap.size) [.int .i64 0, .int .i64 0, .slice none 0 0] ∧ SG17 d e (oneL d.length d.length) (oneL d.length d.length) d.length d.length d.length d.length (((x42.setCell ⟨x38.heap.size, 0, none⟩ (.int .i64 r5)).setCell ⟨x38.heap.size, 1, none⟩ (.int .i64 k5)).setCell ⟨x38.heap.size, 2, none⟩ (.slice a5 l5 c5_)) _ ∧ Below W0.heap.size W0 (((x42.setCell ⟨x38.heap.size, 0, none⟩ (.int .i64 r5)).setCell ⟨x38.heap.size, 1, none⟩ (.int .i64 k5)).setCell ⟨x38.heap.size, 2, none⟩ (.slice a5 l5 c5_)) := ⟨HX9.out.bel NE.out.1 hb1, BZ.out.bel (fun e => NE.out.2.2.1 e.symm) hb1, SGq.out.put BY.out _ _ _, D42.out.trans ((hb1.mono D42.out.size).below NE.out.2.2.2.1)⟩
          have HP := Lib.hid hp
          clear hp hb1
          obtain ⟨o1, o2, o3⟩ := BY.out.facts
          refine fm_one ?_
          refine opW_take rfl rfl ?_
          go_simp
          refine ⟨HP.out.1.cell, ?_⟩
          clear o1 o2 o3
          generalize ((x42.setCell ⟨x38.heap.size, 0, none⟩ (.int .i64 r5)).setCell ⟨x38.heap.size, 1, none⟩ (.int .i64 k5)).setCell ⟨x38.heap.size, 2, none⟩ (.slice a5 l5 c5_) = v1 at *
          have hb2 := bel_put3U (W := v1) (y0.heap.size) (.int .i64 r6) (.int .i64 k6) (.slice a6 l6 c6_)
          have hp : Box (((v1.setCell ⟨y0.heap.size, 0, none⟩ (.int .i64 r6)).setCell ⟨y0.heap.size, 1, none⟩ (.int .i64 k6)).setCell ⟨y0.heap.size, 2, none⟩ (.slice a6 l6 c6_)) b0 _ ∧ SG17 d e (oneL d.length d.length) (oneL d.length d.length) d.length d.length d.length d.length (((v1.setCell ⟨y0.heap.size, 0, none⟩ (.int .i64 r6)).setCell ⟨y0.heap.size, 1, none⟩ (.int .i64 k6)).setCell ⟨y0.heap.size, 2, none⟩ (.slice a6 l6 c6_)) _ ∧ Below W0.heap.size W0 (((v1.setCell ⟨y0.heap.size, 0, none⟩ (.int .i64 r6)).setCell ⟨y0.heap.size, 1, none⟩ (.int .i64 k6)).setCell ⟨y0.heap.size, 2, none⟩ (.slice a6 l6 c6_)) := ⟨HP.out.1.bel NE.out.2.1 hb2, HP.out.2.2.1.put HP.out.2.1 _ _ _, HP.out.2.2.2.trans ((hb2.mono HP.out.2.2.2.size).below NE.out.2.2.2.2)⟩
          have HP2 := Lib.hid hp
          clear hp hb2
          obtain ⟨o1, o2, o3⟩ := HP.out.2.1.facts
          refine fm_one ?_
          refine opW_take rfl rfl ?_
          go_simp
          refine ⟨HP2.out.1.cell, ?_⟩
          clear o1 o2 o3
          generalize ((v1.setCell ⟨y0.heap.size, 0, none⟩ (.int .i64 r6)).setCell ⟨y0.heap.size, 1, none⟩ (.int .i64 k6)).setCell ⟨y0.heap.size, 2, none⟩ (.slice a6 l6 c6_) = v2 at *
          iterate 1 (refine fm_take (v := ?_) rfl rfl ?_ ?_; rotate_left; (next => (intro w' hSw; (try dsimp only at hSw); go_simp; (try (rw [if_pos (by omega)]; go_simp)); (try with_reducible rfl))); (simp only [Act.put, List.setIfInBounds_toArray, List.set_cons_zero, List.set_cons_succ]))
          refine fm_nil ?_
          go_simp
          go_wp2_with fail
          refine NoPanic.normal ?_
          exact HQ.out _ _ _ _ _ _ _ _ _ _ _ _ _ _ _ _ _ _ ⟨_, rfl, rfl, rfl, HP2.out.2.1, HP2.out.2.2⟩
      · skip
        refine opW_take rfl rfl ?_
        go_simp
        obtain ⟨x43, hy⟩ : ∃ x, x = x37.alloc (.cells #[.int .i64 0, .int .i64 0, .slice none 0 0] 26) := ⟨_, rfl⟩
        rw [← hy]
        have hb : Below x37.heap.size x37 x43 := hy ▸ (Below.refl _ _).alloc (Nat.le_refl _) _
        have BY := Lib.hid (show Box x43 x37.heap.size [.int .i64 0, .int .i64 0, .slice none 0 0] from hy ▸ Box.newA x37 [.int .i64 0, .int .i64 0, .slice none 0 0] _ rfl)
        have NY := Lib.hid (show W0.heap.size ≤ x37.heap.size ∧ x37.heap.size < x43.heap.size from ⟨D37.out.size, by rw [hy]; simp⟩)
        clear hy
        replace O1 := Lib.hid (O1.out.below hb)
        replace BZ := Lib.hid (BZ.out.below hb)
        have SZ43 := Lib.hid (show x37.heap.size ≤ x43.heap.size from hb.size)
        have D43 := Lib.hid (below_step D37.out D37.out.size hb)
        clear hb D37
        refine ⟨(HX.out.below D43.out).cell, ?_⟩
        refine fm_one ?_
        refine opW_take rfl rfl ?_
        go_simp
        refine (One10 _ d.length HN.out).mono ?_
        rintro e_ x44 ⟨a2, bb2, cc2, rfl, hz, hne, hb⟩
        have O2 := Lib.hid hz.fls
        have N2 := Lib.hid hne
        clear hz hne
        replace O1 := Lib.hid (O1.out.below hb)
        replace BY := Lib.hid (BY.out.below hb)
        replace BZ := Lib.hid (BZ.out.below hb)
        have SZ44 := Lib.hid (show x43.heap.size ≤ x44.heap.size from hb.size)
        have D44 := Lib.hid (below_step D43.out D43.out.size hb)
        clear hb D43
        refine ⟨(HX.out.below D44.out).cell, ?_⟩
        refine fm_one ?_
        refine opW_take rfl rfl ?_
        go_simp
        refine (HG.out _ a1 a2 cc1 cc2 D44.out O1.out O2.out N1.out N2.out).mono ?_
        rintro e_ x45 ⟨⟨a4, a5, a6, n4, c4_, l5, c5_, l6, c6_, r5, k5, r6, k6, m4, code⟩, rfl, hs, hb⟩
        have SGq := Lib.hid hs
        clear hs
        dsimp only [GR.val]
        replace O1 := Lib.hid (O1.out.below hb)
        replace O2 := Lib.hid (O2.out.below hb)
        replace BY := Lib.hid (BY.out.below hb)
        replace BZ := Lib.hid (BZ.out.below hb)
        have SZ45 := Lib.hid (show x44.heap.size ≤ x45.heap.size from hb.size)
        have D45 := Lib.hid (below_step D44.out D44.out.size hb)
        clear hb D44
        refine ⟨(HX.out.below D45.out).cell, ?_⟩
        iterate 6 (refine fm_take (v := ?_) rfl rfl ?_ ?_; rotate_left; (next => (intro w' hSw; (try dsimp only at hSw); go_simp; (try (rw [if_pos (by omega)]; go_simp)); (try with_reducible rfl))); (simp only [Act.put, List.setIfInBounds_toArray, List.set_cons_zero, List.set_cons_succ]))
        refine fm_skip rfl ?_
        refine fm_skip rfl ?_
        have eY := NY.out; have eZ := NZ.out; have e0 := HBL.out
        have ez36 := SZ36.out; have ez37 := SZ37.out; have ez43 := SZ43.out; have ez44 := SZ44.out; have ez45 := SZ45.out
        have hyz : x37.heap.size ≠ y0.heap.size := by omega
        have NE := Lib.hid (show b0 ≠ x37.heap.size ∧ b0 ≠ y0.heap.size ∧ x37.heap.size ≠ y0.heap.size ∧ W0.heap.size ≤ x37.heap.size ∧ W0.heap.size ≤ y0.heap.size from ⟨by omega, by omega, hyz, by omega, by omega⟩)
        clear eY eZ e0 hyz NY NZ ez36 SZ36 ez37 SZ37 ez43 SZ43 ez44 SZ44 ez45 SZ45
        iterate 1 (refine fm_take (v := ?_) rfl rfl ?_ ?_; rotate_left; (next => (intro w' hSw; (try dsimp only at hSw); go_simp; (try (rw [if_pos (by omega)]; go_simp)); (try with_reducible rfl))); (simp only [Act.put, List.setIfInBounds_toArray, List.set_cons_zero, List.set_cons_succ]))
        have HX9 := Lib.hid (HX.out.below D45.out)
        have hb1 := bel_put3U (W := x45) (x37.heap.size) (.int .i64 r5) (.int .i64 k5) (.slice a5 l5 c5_)
        have hp : Box (((x45.setCell ⟨x37.heap.size, 0, none⟩ (.int .i64 r5)).setCell ⟨x37.heap.size, 1, none⟩ (.int .i64 k5)).setCell ⟨x37.heap.size, 2, none⟩ (.slice a5 l5 c5_)) b0 _ ∧ Box (((x45.setCell ⟨x37.heap.size, 0, none⟩ (.int .i64 r5)).setCell ⟨x37.heap.size, 1, none⟩ (.int .i64 k5)).setCell ⟨x37.heap.size, 2, none⟩ (.slice a5 l5 c5_)) (y0.heap.size) [.int .i64 0, .int .i64 0, .slice none 0 0] ∧ SG17 d e (oneL d.length d.length) (oneL d.length d.length) d.length d.length d.length d.length (((x45.setCell ⟨x37.heap.size, 0, none⟩ (.int .i64 r5)).setCell ⟨x37.heap.size, 1, none⟩ (.int .i64 k5)).setCell ⟨x37.heap.size, 2, none⟩ (.slice a5 l5 c5_)) _ ∧ Below W0.heap.size W0 (((x45.setCell ⟨x37.heap.size, 0, none⟩ (.int .i64 r5)).setCell ⟨x37.heap.size, 1, none⟩ (.int .i64 k5)).setCell ⟨x37.heap.size, 2, none⟩ (.slice a5 l5 c5_)) := ⟨HX9.out.bel NE.out.1 hb1, BZ.out.bel (fun e => NE.out.2.2.1 e.symm) hb1, SGq.out.put BY.out _ _ _, D45.out.trans ((hb1.mono D45.out.size).below NE.out.2.2.2.1)⟩
        have HP := Lib.hid hp
        clear hp hb1
        obtain ⟨o1, o2, o3⟩ := BY.out.facts
        refine fm_one ?_
        refine opW_take rfl rfl ?_
        go_simp
        refine ⟨HP.out.1.cell, ?_⟩
        clear o1 o2 o3
        generalize ((x45.setCell ⟨x37.heap.size, 0, none⟩ (.int .i64 r5)).setCell ⟨x37.heap.size, 1, none⟩ (.int .i64 k5)).setCell ⟨x37.heap.size, 2, none⟩ (.slice a5 l5 c5_) = v1 at *
        have hb2 := bel_put3U (W := v1) (y0.heap.size) (.int .i64 r6) (.int .i64 k6) (.slice a6 l6 c6_)
        have hp : Box (((v1.setCell ⟨y0.heap.size, 0, none⟩ (.int .i64 r6)).setCell ⟨y0.heap.size, 1, none⟩ (.int .i64 k6)).setCell ⟨y0.heap.size, 2, none⟩ (.slice a6 l6 c6_)) b0 _ ∧ SG17 d e (oneL d.length d.length) (oneL d.length d.length) d.length d.length d.length d.length (((v1.setCell ⟨y0.heap.size, 0, none⟩ (.int .i64 r6)).setCell ⟨y0.heap.size, 1, none⟩ (.int .i64 k6)).setCell ⟨y0.heap.size, 2, none⟩ (.slice a6 l6 c6_)) _ ∧ Below W0.heap.size W0 (((v1.setCell ⟨y0.heap.size, 0, none⟩ (.int .i64 r6)).setCell ⟨y0.heap.size, 1, none⟩ (.int .i64 k6)).setCell ⟨y0.heap.size, 2, none⟩ (.slice a6 l6 c6_)) := ⟨HP.out.1.bel NE.out.2.1 hb2, HP.out.2.2.1.put HP.out.2.1 _ _ _, HP.out.2.2.2.trans ((hb2.mono HP.out.2.2.2.size).below NE.out.2.2.2.2)⟩
        have HP2 := Lib.hid hp
        clear hp hb2
        obtain ⟨o1, o2, o3⟩ := HP.out.2.1.facts
        refine fm_one ?_
        refine opW_take rfl rfl ?_
        go_simp
        refine ⟨HP2.out.1.cell, ?_⟩
        clear o1 o2 o3
        generalize ((v1.setCell ⟨y0.heap.size, 0, none⟩ (.int .i64 r6)).setCell ⟨y0.heap.size, 1, none⟩ (.int .i64 k6)).setCell ⟨y0.heap.size, 2, none⟩ (.slice a6 l6 c6_) = v2 at *
        iterate 1 (refine fm_take (v := ?_) rfl rfl ?_ ?_; rotate_left; (next => (intro w' hSw; (try dsimp only at hSw); go_simp; (try (rw [if_pos (by omega)]; go_simp)); (try with_reducible rfl))); (simp only [Act.put, List.setIfInBounds_toArray, List.set_cons_zero, List.set_cons_succ]))
        refine fm_nil ?_
        go_simp
        go_wp2_with fail
        refine NoPanic.normal ?_
        exact HQ.out _ _ _ _ _ _ _ _ _ _ _ _ _ _ _ _ _ _ ⟨_, rfl, rfl, rfl, HP2.out.2.1, HP2.out.2.2⟩
    · skip
      refine opW_take rfl rfl ?_
      go_simp
      obtain ⟨x46, hy⟩ : ∃ x, x = x36.alloc (.cells #[.int .i64 0, .int .i64 0, .slice none 0 0] 26) := ⟨_, rfl⟩
      rw [← hy]
      have hb : Below x36.heap.size x36 x46 := hy ▸ (Below.refl _ _).alloc (Nat.le_refl _) _
      have BY := Lib.hid (show Box x46 x36.heap.size [.int .i64 0, .int .i64 0, .slice none 0 0] from hy ▸ Box.newA x36 [.int .i64 0, .int .i64 0, .slice none 0 0] _ rfl)
      have NY := Lib.hid (show W0.heap.size ≤ x36.heap.size ∧ x36.heap.size < x46.heap.size from ⟨D36.out.size, by rw [hy]; simp⟩)
      clear hy
      replace BZ := Lib.hid (BZ.out.below hb)
      have SZ46 := Lib.hid (show x36.heap.size ≤ x46.heap.size from hb.size)
      have D46 := Lib.hid (below_step D36.out D36.out.size hb)
      clear hb D36
      refine ⟨(HX.out.below D46.out).cell, ?_⟩
      refine fm_one ?_
      refine opW_take rfl rfl ?_
      go_simp
      refine (One10 _ d.length HN.out).mono ?_
      rintro e_ x47 ⟨a1, bb1, cc1, rfl, hz, hne, hb⟩
      have O1 := Lib.hid hz.fls
      have N1 := Lib.hid hne
      clear hz hne
      replace BY := Lib.hid (BY.out.below hb)
      replace BZ := Lib.hid (BZ.out.below hb)
      have SZ47 := Lib.hid (show x46.heap.size ≤ x47.heap.size from hb.size)
      have D47 := Lib.hid (below_step D46.out D46.out.size hb)
      clear hb D46
      refine ⟨(HX.out.below D47.out).cell, ?_⟩
      refine fm_one ?_
      refine opW_take rfl rfl ?_
      go_simp
      refine (One10 _ d.length HN.out).mono ?_
      rintro e_ x48 ⟨a2, bb2, cc2, rfl, hz, hne, hb⟩
      have O2 := Lib.hid hz.fls
      have N2 := Lib.hid hne
      clear hz hne
      replace O1 := Lib.hid (O1.out.below hb)
      replace BY := Lib.hid (BY.out.below hb)
      replace BZ := Lib.hid (BZ.out.below hb)
      have SZ48 := Lib.hid (show x47.heap.size ≤ x48.heap.size from hb.size)
      have D48 := Lib.hid (below_step D47.out D47.out.size hb)
      clear hb D47
      refine ⟨(HX.out.below D48.out).cell, ?_⟩
      refine fm_one ?_
      refine opW_take rfl rfl ?_
      go_simp
      refine (HG.out _ a1 a2 cc1 cc2 D48.out O1.out O2.out N1.out N2.out).mono ?_
      rintro e_ x49 ⟨⟨a4, a5, a6, n4, c4_, l5, c5_, l6, c6_, r5, k5, r6, k6, m4, code⟩, rfl, hs, hb⟩
      have SGq := Lib.hid hs
      clear hs
      dsimp only [GR.val]
      replace O1 := Lib.hid (O1.out.below hb)
      replace O2 := Lib.hid (O2.out.below hb)
      replace BY := Lib.hid (BY.out.below hb)
      replace BZ := Lib.hid (BZ.out.below hb)
      have SZ49 := Lib.hid (show x48.heap.size ≤ x49.heap.size from hb.size)
      have D49 := Lib.hid (below_step D48.out D48.out.size hb)
      clear hb D48
      refine ⟨(HX.out.below D49.out).cell, ?_⟩
      iterate 6 (refine fm_take (v := ?_) rfl rfl ?_ ?_; rotate_left; (next => (intro w' hSw; (try dsimp only at hSw); go_simp; (try (rw [if_pos (by omega)]; go_simp)); (try with_reducible rfl))); (simp only [Act.put, List.setIfInBounds_toArray, List.set_cons_zero, List.set_cons_succ]))
      refine fm_skip rfl ?_
      refine fm_skip rfl ?_
      have eY := NY.out; have eZ := NZ.out; have e0 := HBL.out
      have ez36 := SZ36.out; have ez46 := SZ46.out; have ez47 := SZ47.out; have ez48 := SZ48.out; have ez49 := SZ49.out
      have hyz : x36.heap.size ≠ y0.heap.size := by omega
      have NE := Lib.hid (show b0 ≠ x36.heap.size ∧ b0 ≠ y0.heap.size ∧ x36.heap.size ≠ y0.heap.size ∧ W0.heap.size ≤ x36.heap.size ∧ W0.heap.size ≤ y0.heap.size from ⟨by omega, by omega, hyz, by omega, by omega⟩)
      clear eY eZ e0 hyz NY NZ ez36 SZ36 ez46 SZ46 ez47 SZ47 ez48 SZ48 ez49 SZ49
      iterate 1 (refine fm_take (v := ?_) rfl rfl ?_ ?_; rotate_left; (next => (intro w' hSw; (try dsimp only at hSw); go_simp; (try (rw [if_pos (by omega)]; go_simp)); (try with_reducible rfl))); (simp only [Act.put, List.setIfInBounds_toArray, List.set_cons_zero, List.set_cons_succ]))
      have HX9 := Lib.hid (HX.out.below D49.out)
      have hb1 := bel_put3U (W := x49) (x36.heap.size) (.int .i64 r5) (.int .i64 k5) (.slice a5 l5 c5_)
      have hp : Box (((x49.setCell ⟨x36.heap.size, 0, none⟩ (.int .i64 r5)).setCell ⟨x36.heap.size, 1, none⟩ (.int .i64 k5)).setCell ⟨x36.heap.size, 2, none⟩ (.slice a5 l5 c5_)) b0 _ ∧ Box (((x49.setCell ⟨x36.heap.size, 0, none⟩ (.int .i64 r5)).setCell ⟨x36.heap.size, 1, none⟩ (.int .i64 k5)).setCell ⟨x36.heap.size, 2, none⟩ (.slice a5 l5 c5_)) (y0.heap.size) [.int .i64 0, .int .i64 0, .slice none 0 0] ∧ SG17 d e (oneL d.length d.length) (oneL d.length d.length) d.length d.length d.length d.length (((x49.setCell ⟨x36.heap.size, 0, none⟩ (.int .i64 r5)).setCell ⟨x36.heap.size, 1, none⟩ (.int .i64 k5)).setCell ⟨x36.heap.size, 2, none⟩ (.slice a5 l5 c5_)) _ ∧ Below W0.heap.size W0 (((x49.setCell ⟨x36.heap.size, 0, none⟩ (.int .i64 r5)).setCell ⟨x36.heap.size, 1, none⟩ (.int .i64 k5)).setCell ⟨x36.heap.size, 2, none⟩ (.slice a5 l5 c5_)) := ⟨HX9.out.bel NE.out.1 hb1, BZ.out.bel (fun e => NE.out.2.2.1 e.symm) hb1, SGq.out.put BY.out _ _ _, D49.out.trans ((hb1.mono D49.out.size).below NE.out.2.2.2.1)⟩
      have HP := Lib.hid hp
      clear hp hb1
      obtain ⟨o1, o2, o3⟩ := BY.out.facts
      refine fm_one ?_
      refine opW_take rfl rfl ?_
      go_simp
      refine ⟨HP.out.1.cell, ?_⟩
      clear o1 o2 o3
      generalize ((x49.setCell ⟨x36.heap.size, 0, none⟩ (.int .i64 r5)).setCell ⟨x36.heap.size, 1, none⟩ (.int .i64 k5)).setCell ⟨x36.heap.size, 2, none⟩ (.slice a5 l5 c5_) = v1 at *
      have hb2 := bel_put3U (W := v1) (y0.heap.size) (.int .i64 r6) (.int .i64 k6) (.slice a6 l6 c6_)
      have hp : Box (((v1.setCell ⟨y0.heap.size, 0, none⟩ (.int .i64 r6)).setCell ⟨y0.heap.size, 1, none⟩ (.int .i64 k6)).setCell ⟨y0.heap.size, 2, none⟩ (.slice a6 l6 c6_)) b0 _ ∧ SG17 d e (oneL d.length d.length) (oneL d.length d.length) d.length d.length d.length d.length (((v1.setCell ⟨y0.heap.size, 0, none⟩ (.int .i64 r6)).setCell ⟨y0.heap.size, 1, none⟩ (.int .i64 k6)).setCell ⟨y0.heap.size, 2, none⟩ (.slice a6 l6 c6_)) _ ∧ Below W0.heap.size W0 (((v1.setCell ⟨y0.heap.size, 0, none⟩ (.int .i64 r6)).setCell ⟨y0.heap.size, 1, none⟩ (.int .i64 k6)).setCell ⟨y0.heap.size, 2, none⟩ (.slice a6 l6 c6_)) := ⟨HP.out.1.bel NE.out.2.1 hb2, HP.out.2.2.1.put HP.out.2.1 _ _ _, HP.out.2.2.2.trans ((hb2.mono HP.out.2.2.2.size).below NE.out.2.2.2.2)⟩
      have HP2 := Lib.hid hp
      clear hp hb2
      obtain ⟨o1, o2, o3⟩ := HP.out.2.1.facts
      refine fm_one ?_
      refine opW_take rfl rfl ?_
      go_simp
      refine ⟨HP2.out.1.cell, ?_⟩
      clear o1 o2 o3
      generalize ((v1.setCell ⟨y0.heap.size, 0, none⟩ (.int .i64 r6)).setCell ⟨y0.heap.size, 1, none⟩ (.int .i64 k6)).setCell ⟨y0.heap.size, 2, none⟩ (.slice a6 l6 c6_) = v2 at *
      iterate 1 (refine fm_take (v := ?_) rfl rfl ?_ ?_; rotate_left; (next => (intro w' hSw; (try dsimp only at hSw); go_simp; (try (rw [if_pos (by omega)]; go_simp)); (try with_reducible rfl))); (simp only [Act.put, List.setIfInBounds_toArray, List.set_cons_zero, List.set_cons_succ]))
      refine fm_nil ?_
      go_simp
      go_wp2_with fail
      refine NoPanic.normal ?_
      exact HQ.out _ _ _ _ _ _ _ _ _ _ _ _ _ _ _ _ _ _ ⟨_, rfl, rfl, rfl, HP2.out.2.1, HP2.out.2.2⟩
  · skip
    refine opW_take rfl rfl ?_
    go_simp
    obtain ⟨x50, hy⟩ : ∃ x, x = y0.alloc (.cells #[.int .i64 0, .int .i64 0, .slice none 0 0] 26) := ⟨_, rfl⟩
    rw [← hy]
    have hb : Below y0.heap.size y0 x50 := hy ▸ (Below.refl _ _).alloc (Nat.le_refl _) _
    have BY := Lib.hid (show Box x50 y0.heap.size [.int .i64 0, .int .i64 0, .slice none 0 0] from hy ▸ Box.newA y0 [.int .i64 0, .int .i64 0, .slice none 0 0] _ rfl)
    have NY := Lib.hid (show W0.heap.size ≤ y0.heap.size ∧ y0.heap.size < x50.heap.size from ⟨D0.out.size, by rw [hy]; simp⟩)
    clear hy
    have SZ50 := Lib.hid (show y0.heap.size ≤ x50.heap.size from hb.size)
    have D50 := Lib.hid (below_step D0.out D0.out.size hb)
    clear hb D0
    refine ⟨(HX.out.below D50.out).cell, ?_⟩
    refine fm_one1 ?_ ?_
    · skip
      refine opW_take rfl rfl ?_
      go_simp
      refine (One10 _ d.length HN.out).mono ?_
      rintro e_ x51 ⟨a1, bb1, cc1, rfl, hz, hne, hb⟩
      have O1 := Lib.hid hz.fls
      have N1 := Lib.hid hne
      clear hz hne
      replace BY := Lib.hid (BY.out.below hb)
      have SZ51 := Lib.hid (show x50.heap.size ≤ x51.heap.size from hb.size)
      have D51 := Lib.hid (below_step D50.out D50.out.size hb)
      clear hb D50
      refine ⟨(HX.out.below D51.out).cell, ?_⟩
      refine fm_one1 ?_ ?_
      · skip
        refine opW_take rfl rfl ?_
        go_simp
        refine (One10 _ d.length HN.out).mono ?_
        rintro e_ x52 ⟨a2, bb2, cc2, rfl, hz, hne, hb⟩
        have O2 := Lib.hid hz.fls
        have N2 := Lib.hid hne
        clear hz hne
        replace O1 := Lib.hid (O1.out.below hb)
        replace BY := Lib.hid (BY.out.below hb)
        have SZ52 := Lib.hid (show x51.heap.size ≤ x52.heap.size from hb.size)
        have D52 := Lib.hid (below_step D51.out D51.out.size hb)
        clear hb D51
        refine ⟨(HX.out.below D52.out).cell, ?_⟩
        refine fm_one1 ?_ ?_
        · skip
          refine opW_take rfl rfl ?_
          go_simp
          refine (HG.out _ a1 a2 cc1 cc2 D52.out O1.out O2.out N1.out N2.out).mono ?_
          rintro e_ x53 ⟨⟨a4, a5, a6, n4, c4_, l5, c5_, l6, c6_, r5, k5, r6, k6, m4, code⟩, rfl, hs, hb⟩
          have SGq := Lib.hid hs
          clear hs
          dsimp only [GR.val]
          replace O1 := Lib.hid (O1.out.below hb)
          replace O2 := Lib.hid (O2.out.below hb)
          replace BY := Lib.hid (BY.out.below hb)
          have SZ53 := Lib.hid (show x52.heap.size ≤ x53.heap.size from hb.size)
          have D53 := Lib.hid (below_step D52.out D52.out.size hb)
          clear hb D52
          refine ⟨(HX.out.below D53.out).cell, ?_⟩
          iterate 6 (refine fm_take (v := ?_) rfl rfl ?_ ?_; rotate_left; (next => (intro w' hSw; (try dsimp only at hSw); go_simp; (try (rw [if_pos (by omega)]; go_simp)); (try with_reducible rfl))); (simp only [Act.put, List.setIfInBounds_toArray, List.set_cons_zero, List.set_cons_succ]))
          refine fm_skip rfl ?_
          refine fm_now ?_
          refine opW_take rfl rfl ?_
          go_simp
          obtain ⟨x54, hy⟩ : ∃ x, x = x53.alloc (.cells #[.int .i64 0, .int .i64 0, .slice none 0 0] 26) := ⟨_, rfl⟩
          rw [← hy]
          have hb : Below x53.heap.size x53 x54 := hy ▸ (Below.refl _ _).alloc (Nat.le_refl _) _
          have BZ := Lib.hid (show Box x54 x53.heap.size [.int .i64 0, .int .i64 0, .slice none 0 0] from hy ▸ Box.newA x53 [.int .i64 0, .int .i64 0, .slice none 0 0] _ rfl)
          have NZ := Lib.hid (show W0.heap.size ≤ x53.heap.size ∧ x53.heap.size < x54.heap.size from ⟨D53.out.size, by rw [hy]; simp⟩)
          clear hy
          replace O1 := Lib.hid (O1.out.below hb)
          replace O2 := Lib.hid (O2.out.below hb)
          replace SGq := Lib.hid (SGq.out.below hb)
          replace BY := Lib.hid (BY.out.below hb)
          have SZ54 := Lib.hid (show x53.heap.size ≤ x54.heap.size from hb.size)
          have D54 := Lib.hid (below_step D53.out D53.out.size hb)
          clear hb D53
          refine ⟨(HX.out.below D54.out).cell, ?_⟩
          refine fm_skip rfl ?_
          have eY := NY.out; have eZ := NZ.out; have e0 := HBL.out
          have ez50 := SZ50.out; have ez51 := SZ51.out; have ez52 := SZ52.out; have ez53 := SZ53.out; have ez54 := SZ54.out
          have hyz : y0.heap.size ≠ x53.heap.size := by omega
          have NE := Lib.hid (show b0 ≠ y0.heap.size ∧ b0 ≠ x53.heap.size ∧ y0.heap.size ≠ x53.heap.size ∧ W0.heap.size ≤ y0.heap.size ∧ W0.heap.size ≤ x53.heap.size from ⟨by omega, by omega, hyz, by omega, by omega⟩)
          clear eY eZ e0 hyz NY NZ ez50 SZ50 ez51 SZ51 ez52 SZ52 ez53 SZ53 ez54 SZ54
          iterate 1 (refine fm_take (v := ?_) rfl rfl ?_ ?_; rotate_left; (next => (intro w' hSw; (try dsimp only at hSw); go_simp; (try (rw [if_pos (by omega)]; go_simp)); (try with_reducible rfl))); (simp only [Act.put, List.setIfInBounds_toArray, List.set_cons_zero, List.set_cons_succ]))
          have HX9 := Lib.hid (HX.out.below D54.out)
          have hb1 := bel_put3U (W := x54) (y0.heap.size) (.int .i64 r5) (.int .i64 k5) (.slice a5 l5 c5_)
          have hp : Box (((x54.setCell ⟨y0.heap.size, 0, none⟩ (.int .i64 r5)).setCell ⟨y0.heap.size, 1, none⟩ (.int .i64 k5)).setCell ⟨y0.heap.size, 2, none⟩ (.slice a5 l5 c5_)) b0 _ ∧ Box (((x54.setCell ⟨y0.heap.size, 0, none⟩ (.int .i64 r5)).setCell ⟨y0.heap.size, 1, none⟩ (.int .i64 k5)).setCell ⟨y0.heap.size, 2, none⟩ (.slice a5 l5 c5_)) (x53.heap.size) [.int .i64 0, .int .i64 0, .slice none 0 0] ∧ SG17 d e (oneL d.length d.length) (oneL d.length d.length) d.length d.length d.length d.length (((x54.setCell ⟨y0.heap.size, 0, none⟩ (.int .i64 r5)).setCell ⟨y0.heap.size, 1, none⟩ (.int .i64 k5)).setCell ⟨y0.heap.size, 2, none⟩ (.slice a5 l5 c5_)) _ ∧ Below W0.heap.size W0 (((x54.setCell ⟨y0.heap.size, 0, none⟩ (.int .i64 r5)).setCell ⟨y0.heap.size, 1, none⟩ (.int .i64 k5)).setCell ⟨y0.heap.size, 2, none⟩ (.slice a5 l5 c5_)) := ⟨HX9.out.bel NE.out.1 hb1, BZ.out.bel (fun e => NE.out.2.2.1 e.symm) hb1, SGq.out.put BY.out _ _ _, D54.out.trans ((hb1.mono D54.out.size).below NE.out.2.2.2.1)⟩
          have HP := Lib.hid hp
          clear hp hb1
          obtain ⟨o1, o2, o3⟩ := BY.out.facts
          refine fm_one ?_
          refine opW_take rfl rfl ?_
          go_simp
          refine ⟨HP.out.1.cell, ?_⟩
          clear o1 o2 o3
          generalize ((x54.setCell ⟨y0.heap.size, 0, none⟩ (.int .i64 r5)).setCell ⟨y0.heap.size, 1, none⟩ (.int .i64 k5)).setCell ⟨y0.heap.size, 2, none⟩ (.slice a5 l5 c5_) = v1 at *
          have hb2 := bel_put3U (W := v1) (x53.heap.size) (.int .i64 r6) (.int .i64 k6) (.slice a6 l6 c6_)
          have hp : Box (((v1.setCell ⟨x53.heap.size, 0, none⟩ (.int .i64 r6)).setCell ⟨x53.heap.size, 1, none⟩ (.int .i64 k6)).setCell ⟨x53.heap.size, 2, none⟩ (.slice a6 l6 c6_)) b0 _ ∧ SG17 d e (oneL d.length d.length) (oneL d.length d.length) d.length d.length d.length d.length (((v1.setCell ⟨x53.heap.size, 0, none⟩ (.int .i64 r6)).setCell ⟨x53.heap.size, 1, none⟩ (.int .i64 k6)).setCell ⟨x53.heap.size, 2, none⟩ (.slice a6 l6 c6_)) _ ∧ Below W0.heap.size W0 (((v1.setCell ⟨x53.heap.size, 0, none⟩ (.int .i64 r6)).setCell ⟨x53.heap.size, 1, none⟩ (.int .i64 k6)).setCell ⟨x53.heap.size, 2, none⟩ (.slice a6 l6 c6_)) := ⟨HP.out.1.bel NE.out.2.1 hb2, HP.out.2.2.1.put HP.out.2.1 _ _ _, HP.out.2.2.2.trans ((hb2.mono HP.out.2.2.2.size).below NE.out.2.2.2.2)⟩
          have HP2 := Lib.hid hp
          clear hp hb2
          obtain ⟨o1, o2, o3⟩ := HP.out.2.1.facts
          refine fm_one ?_
          refine opW_take rfl rfl ?_
          go_simp
          refine ⟨HP2.out.1.cell, ?_⟩
          clear o1 o2 o3
          generalize ((v1.setCell ⟨x53.heap.size, 0, none⟩ (.int .i64 r6)).setCell ⟨x53.heap.size, 1, none⟩ (.int .i64 k6)).setCell ⟨x53.heap.size, 2, none⟩ (.slice a6 l6 c6_) = v2 at *
          iterate 1 (refine fm_take (v := ?_) rfl rfl ?_ ?_; rotate_left; (next => (intro w' hSw; (try dsimp only at hSw); go_simp; (try (rw [if_pos (by omega)]; go_simp)); (try with_reducible rfl))); (simp only [Act.put, List.setIfInBounds_toArray, List.set_cons_zero, List.set_cons_succ]))
          refine fm_nil ?_
          go_simp
          go_wp2_with fail
          refine NoPanic.normal ?_
          exact HQ.out _ _ _ _ _ _ _ _ _ _ _ _ _ _ _ _ _ _ ⟨_, rfl, rfl, rfl, HP2.out.2.1, HP2.out.2.2⟩
        · skip
          refine opW_take rfl rfl ?_
          go_simp
          obtain ⟨x55, hy⟩ : ∃ x, x = x52.alloc (.cells #[.int .i64 0, .int .i64 0, .slice none 0 0] 26) := ⟨_, rfl⟩
          rw [← hy]
          have hb : Below x52.heap.size x52 x55 := hy ▸ (Below.refl _ _).alloc (Nat.le_refl _) _
          have BZ := Lib.hid (show Box x55 x52.heap.size [.int .i64 0, .int .i64 0, .slice none 0 0] from hy ▸ Box.newA x52 [.int .i64 0, .int .i64 0, .slice none 0 0] _ rfl)
          have NZ := Lib.hid (show W0.heap.size ≤ x52.heap.size ∧ x52.heap.size < x55.heap.size from ⟨D52.out.size, by rw [hy]; simp⟩)
          clear hy
          replace O1 := Lib.hid (O1.out.below hb)
          replace O2 := Lib.hid (O2.out.below hb)
          replace BY := Lib.hid (BY.out.below hb)
          have SZ55 := Lib.hid (show x52.heap.size ≤ x55.heap.size from hb.size)
          have D55 := Lib.hid (below_step D52.out D52.out.size hb)
          clear hb D52
          refine ⟨(HX.out.below D55.out).cell, ?_⟩
          refine fm_one ?_
          refine opW_take rfl rfl ?_
          go_simp
          refine (HG.out _ a1 a2 cc1 cc2 D55.out O1.out O2.out N1.out N2.out).mono ?_
          rintro e_ x56 ⟨⟨a4, a5, a6, n4, c4_, l5, c5_, l6, c6_, r5, k5, r6, k6, m4, code⟩, rfl, hs, hb⟩
          have SGq := Lib.hid hs
          clear hs
          dsimp only [GR.val]
          replace O1 := Lib.hid (O1.out.below hb)
          replace O2 := Lib.hid (O2.out.below hb)
          replace BY := Lib.hid (BY.out.below hb)
          replace BZ := Lib.hid (BZ.out.below hb)
          have SZ56 := Lib.hid (show x55.heap.size ≤ x56.heap.size from hb.size)
          have D56 := Lib.hid (below_step D55.out D55.out.size hb)
          clear hb D55
          refine ⟨(HX.out.below D56.out).cell, ?_⟩
          iterate 6 (refine fm_take (v := ?_) rfl rfl ?_ ?_; rotate_left; (next => (intro w' hSw; (try dsimp only at hSw); go_simp; (try (rw [if_pos (by omega)]; go_simp)); (try with_reducible rfl))); (simp only [Act.put, List.setIfInBounds_toArray, List.set_cons_zero, List.set_cons_succ]))
          refine fm_skip rfl ?_
          refine fm_skip rfl ?_
          have eY := NY.out; have eZ := NZ.out; have e0 := HBL.out
          have ez50 := SZ50.out; have ez51 := SZ51.out; have ez52 := SZ52.out; have ez55 := SZ55.out; have ez56 := SZ56.out
          have hyz : y0.heap.size ≠ x52.heap.size := by omega
          have NE := Lib.hid (show b0 ≠ y0.heap.size ∧ b0 ≠ x52.heap.size ∧ y0.heap.size ≠ x52.heap.size ∧ W0.heap.size ≤ y0.heap.size ∧ W0.heap.size ≤ x52.heap.size from ⟨by omega, by omega, hyz, by omega, by omega⟩)
          clear eY eZ e0 hyz NY NZ ez50 SZ50 ez51 SZ51 ez52 SZ52 ez55 SZ55 ez56 SZ56
          iterate 1 (refine fm_take (v := ?_) rfl rfl ?_ ?_; rotate_left; (next => (intro w' hSw; (try dsimp only at hSw); go_simp; (try (rw [if_pos (by omega)]; go_simp)); (try with_reducible rfl))); (simp only [Act.put, List.setIfInBounds_toArray, List.set_cons_zero, List.set_cons_succ]))
          have HX9 := Lib.hid (HX.out.below D56.out)
          have hb1 := bel_put3U (W := x56) (y0.heap.size) (.int .i64 r5) (.int .i64 k5) (.slice a5 l5 c5_)
          have hp : Box (((x56.setCell ⟨y0.heap.size, 0, none⟩ (.int .i64 r5)).setCell ⟨y0.heap.size, 1, none⟩ (.int .i64 k5)).setCell ⟨y0.heap.size, 2, none⟩ (.slice a5 l5 c5_)) b0 _ ∧ Box (((x56.setCell ⟨y0.heap.size, 0, none⟩ (.int .i64 r5)).setCell ⟨y0.heap.size, 1, none⟩ (.int .i64 k5)).setCell ⟨y0.heap.size, 2, none⟩ (.slice a5 l5 c5_)) (x52.heap.size) [.int .i64 0, .int .i64 0, .slice none 0 0] ∧ SG17 d e (oneL d.length d.length) (oneL d.length d.length) d.length d.length d.length d.length (((x56.setCell ⟨y0.heap.size, 0, none⟩ (.int .i64 r5)).setCell ⟨y0.heap.size, 1, none⟩ (.int .i64 k5)).setCell ⟨y0.heap.size, 2, none⟩ (.slice a5 l5 c5_)) _ ∧ Below W0.heap.size W0 (((x56.setCell ⟨y0.heap.size, 0, none⟩ (.int .i64 r5)).setCell ⟨y0.heap.size, 1, none⟩ (.int .i64 k5)).setCell ⟨y0.heap.size, 2, none⟩ (.slice a5 l5 c5_)) := ⟨HX9.out.bel NE.out.1 hb1, BZ.out.bel (fun e => NE.out.2.2.1 e.symm) hb1, SGq.out.put BY.out _ _ _, D56.out.trans ((hb1.mono D56.out.size).below NE.out.2.2.2.1)⟩
          have HP := Lib.hid hp
          clear hp hb1
          obtain ⟨o1, o2, o3⟩ := BY.out.facts
          refine fm_one ?_
          refine opW_take rfl rfl ?_
          go_simp
          refine ⟨HP.out.1.cell, ?_⟩
          clear o1 o2 o3
          generalize ((x56.setCell ⟨y0.heap.size, 0, none⟩ (.int .i64 r5)).setCell ⟨y0.heap.size, 1, none⟩ (.int .i64 k5)).setCell ⟨y0.heap.size, 2, none⟩ (.slice a5 l5 c5_) = v1 at *
          have hb2 := bel_put3U (W := v1) (x52.heap.size) (.int .i64 r6) (.int .i64 k6) (.slice a6 l6 c6_)
          have hp : Box (((v1.setCell ⟨x52.heap.size, 0, none⟩ (.int .i64 r6)).setCell ⟨x52.heap.size, 1, none⟩ (.int .i64 k6)).setCell ⟨x52.heap.size, 2, none⟩ (.slice a6 l6 c6_)) b0 _ ∧ SG17 d e (oneL d.length d.length) (oneL d.length d.length) d.length d.length d.length d.length (((v1.setCell ⟨x52.heap.size, 0, none⟩ (.int .i64 r6)).setCell ⟨x52.heap.size, 1, none⟩ (.int .i64 k6)).setCell ⟨x52.heap.size, 2, none⟩ (.slice a6 l6 c6_)) _ ∧ Below W0.heap.size W0 (((v1.setCell ⟨x52.heap.size, 0, none⟩ (.int .i64 r6)).setCell ⟨x52.heap.size, 1, none⟩ (.int .i64 k6)).setCell ⟨x52.heap.size, 2, none⟩ (.slice a6 l6 c6_)) := ⟨HP.out.1.bel NE.out.2.1 hb2, HP.out.2.2.1.put HP.out.2.1 _ _ _, HP.out.2.2.2.trans ((hb2.mono HP.out.2.2.2.size).below NE.out.2.2.2.2)⟩
          have HP2 := Lib.hid hp
          clear hp hb2
          obtain ⟨o1, o2, o3⟩ := HP.out.2.1.facts
          refine fm_one ?_
          refine opW_take rfl rfl ?_
          go_simp
          refine ⟨HP2.out.1.cell, ?_⟩
          clear o1 o2 o3
          generalize ((v1.setCell ⟨x52.heap.size, 0, none⟩ (.int .i64 r6)).setCell ⟨x52.heap.size, 1, none⟩ (.int .i64 k6)).setCell ⟨x52.heap.size, 2, none⟩ (.slice a6 l6 c6_) = v2 at *
          iterate 1 (refine fm_take (v := ?_) rfl rfl ?_ ?_; rotate_left; (next => (intro w' hSw; (try dsimp only at hSw); go_simp; (try (rw [if_pos (by omega)]; go_simp)); (try with_reducible rfl))); (simp only [Act.put, List.setIfInBounds_toArray, List.set_cons_zero, List.set_cons_succ]))
          refine fm_nil ?_
          go_simp
          go_wp2_with fail
          refine NoPanic.normal ?_
          exact HQ.out _ _ _ _ _ _ _ _ _ _ _ _ _ _ _ _ _ _ ⟨_, rfl, rfl, rfl, HP2.out.2.1, HP2.out.2.2⟩
      · skip
        refine opW_take rfl rfl ?_
        go_simp
        obtain ⟨x57, hy⟩ : ∃ x, x = x51.alloc (.cells #[.int .i64 0, .int .i64 0, .slice none 0 0] 26) := ⟨_, rfl⟩
        rw [← hy]
        have hb : Below x51.heap.size x51 x57 := hy ▸ (Below.refl _ _).alloc (Nat.le_refl _) _
        have BZ := Lib.hid (show Box x57 x51.heap.size [.int .i64 0, .int .i64 0, .slice none 0 0] from hy ▸ Box.newA x51 [.int .i64 0, .int .i64 0, .slice none 0 0] _ rfl)
        have NZ := Lib.hid (show W0.heap.size ≤ x51.heap.size ∧ x51.heap.size < x57.heap.size from ⟨D51.out.size, by rw [hy]; simp⟩)
        clear hy
        replace O1 := Lib.hid (O1.out.below hb)
        replace BY := Lib.hid (BY.out.below hb)
        have SZ57 := Lib.hid (show x51.heap.size ≤ x57.heap.size from hb.size)
        have D57 := Lib.hid (below_step D51.out D51.out.size hb)
        clear hb D51
        refine ⟨(HX.out.below D57.out).cell, ?_⟩
        refine fm_one ?_
        refine opW_take rfl rfl ?_
        go_simp
        refine (One10 _ d.length HN.out).mono ?_
        rintro e_ x58 ⟨a2, bb2, cc2, rfl, hz, hne, hb⟩
        have O2 := Lib.hid hz.fls
        have N2 := Lib.hid hne
        clear hz hne
        replace O1 := Lib.hid (O1.out.below hb)
        replace BY := Lib.hid (BY.out.below hb)
        replace BZ := Lib.hid (BZ.out.below hb)
        have SZ58 := Lib.hid (show x57.heap.size ≤ x58.heap.size from hb.size)
        have D58 := Lib.hid (below_step D57.out D57.out.size hb)
        clear hb D57
        refine ⟨(HX.out.below D58.out).cell, ?_⟩
        refine fm_one ?_
        refine opW_take rfl rfl ?_
        go_simp
        refine (HG.out _ a1 a2 cc1 cc2 D58.out O1.out O2.out N1.out N2.out).mono ?_
        rintro e_ x59 ⟨⟨a4, a5, a6, n4, c4_, l5, c5_, l6, c6_, r5, k5, r6, k6, m4, code⟩, rfl, hs, hb⟩
        have SGq := Lib.hid hs
        clear hs
        dsimp only [GR.val]
        replace O1 := Lib.hid (O1.out.below hb)
        replace O2 := Lib.hid (O2.out.below hb)
        replace BY := Lib.hid (BY.out.below hb)
        replace BZ := Lib.hid (BZ.out.below hb)
        have SZ59 := Lib.hid (show x58.heap.size ≤ x59.heap.size from hb.size)
        have D59 := Lib.hid (below_step D58.out D58.out.size hb)
        clear hb D58
        refine ⟨(HX.out.below D59.out).cell, ?_⟩
        iterate 6 (refine fm_take (v := ?_) rfl rfl ?_ ?_; rotate_left; (next => (intro w' hSw; (try dsimp only at hSw); go_simp; (try (rw [if_pos (by omega)]; go_simp)); (try with_reducible rfl))); (simp only [Act.put, List.setIfInBounds_toArray, List.set_cons_zero, List.set_cons_succ]))
        refine fm_skip rfl ?_
        refine fm_skip rfl ?_
        have eY := NY.out; have eZ := NZ.out; have e0 := HBL.out
        have ez50 := SZ50.out; have ez51 := SZ51.out; have ez57 := SZ57.out; have ez58 := SZ58.out; have ez59 := SZ59.out
        have hyz : y0.heap.size ≠ x51.heap.size := by omega
        have NE := Lib.hid (show b0 ≠ y0.heap.size ∧ b0 ≠ x51.heap.size ∧ y0.heap.size ≠ x51.heap.size ∧ W0.heap.size ≤ y0.heap.size ∧ W0.heap.size ≤ x51.heap.size from ⟨by omega, by omega, hyz, by omega, by omega⟩)
        clear eY eZ e0 hyz NY NZ ez50 SZ50 ez51 SZ51 ez57 SZ57 ez58 SZ58 ez59 SZ59
        iterate 1 (refine fm_take (v := ?_) rfl rfl ?_ ?_; rotate_left; (next => (intro w' hSw; (try dsimp only at hSw); go_simp; (try (rw [if_pos (by omega)]; go_simp)); (try with_reducible rfl))); (simp only [Act.put, List.setIfInBounds_toArray, List.set_cons_zero, List.set_cons_succ]))
        have HX9 := Lib.hid (HX.out.below D59.out)
        have hb1 := bel_put3U (W := x59) (y0.heap.size) (.int .i64 r5) (.int .i64 k5) (.slice a5 l5 c5_)
        have hp : Box (((x59.setCell ⟨y0.heap.size, 0, none⟩ (.int .i64 r5)).setCell ⟨y0.heap.size, 1, none⟩ (.int .i64 k5)).setCell ⟨y0.heap.size, 2, none⟩ (.slice a5 l5 c5_)) b0 _ ∧ Box (((x59.setCell ⟨y0.heap.size, 0, none⟩ (.int .i64 r5)).setCell ⟨y0.heap.size, 1, none⟩ (.int .i64 k5)).setCell ⟨y0.heap.size, 2, none⟩ (.slice a5 l5 c5_)) (x51.heap.size) [.int .i64 0, .int .i64 0, .slice none 0 0] ∧ SG17 d e (oneL d.length d.length) (oneL d.length d.length) d.length d.length d.length d.length (((x59.setCell ⟨y0.heap.size, 0, none⟩ (.int .i64 r5)).setCell ⟨y0.heap.size, 1, none⟩ (.int .i64 k5)).setCell ⟨y0.heap.size, 2, none⟩ (.slice a5 l5 c5_)) _ ∧ Below W0.heap.size W0 (((x59.setCell ⟨y0.heap.size, 0, none⟩ (.int .i64 r5)).setCell ⟨y0.heap.size, 1, none⟩ (.int .i64 k5)).setCell ⟨y0.heap.size, 2, none⟩ (.slice a5 l5 c5_)) := ⟨HX9.out.bel NE.out.1 hb1, BZ.out.bel (fun e => NE.out.2.2.1 e.symm) hb1, SGq.out.put BY.out _ _ _, D59.out.trans ((hb1.mono D59.out.size).below NE.out.2.2.2.1)⟩
        have HP := Lib.hid hp
        clear hp hb1
        obtain ⟨o1, o2, o3⟩ := BY.out.facts
        refine fm_one ?_
        refine opW_take rfl rfl ?_
        go_simp
        refine ⟨HP.out.1.cell, ?_⟩
        clear o1 o2 o3
        generalize ((x59.setCell ⟨y0.heap.size, 0, none⟩ (.int .i64 r5)).setCell ⟨y0.heap.size, 1, none⟩ (.int .i64 k5)).setCell ⟨y0.heap.size, 2, none⟩ (.slice a5 l5 c5_) = v1 at *
        have hb2 := bel_put3U (W := v1) (x51.heap.size) (.int .i64 r6) (.int .i64 k6) (.slice a6 l6 c6_)
        have hp : Box (((v1.setCell ⟨x51.heap.size, 0, none⟩ (.int .i64 r6)).setCell ⟨x51.heap.size, 1, none⟩ (.int .i64 k6)).setCell ⟨x51.heap.size, 2, none⟩ (.slice a6 l6 c6_)) b0 _ ∧ SG17 d e (oneL d.length d.length) (oneL d.length d.length) d.length d.length d.length d.length (((v1.setCell ⟨x51.heap.size, 0, none⟩ (.int .i64 r6)).setCell ⟨x51.heap.size, 1, none⟩ (.int .i64 k6)).setCell ⟨x51.heap.size, 2, none⟩ (.slice a6 l6 c6_)) _ ∧ Below W0.heap.size W0 (((v1.setCell ⟨x51.heap.size, 0, none⟩ (.int .i64 r6)).setCell ⟨x51.heap.size, 1, none⟩ (.int .i64 k6)).setCell ⟨x51.heap.size, 2, none⟩ (.slice a6 l6 c6_)) := ⟨HP.out.1.bel NE.out.2.1 hb2, HP.out.2.2.1.put HP.out.2.1 _ _ _, HP.out.2.2.2.trans ((hb2.mono HP.out.2.2.2.size).below NE.out.2.2.2.2)⟩
        have HP2 := Lib.hid hp
        clear hp hb2
        obtain ⟨o1, o2, o3⟩ := HP.out.2.1.facts
        refine fm_one ?_
        refine opW_take rfl rfl ?_
        go_simp
        refine ⟨HP2.out.1.cell, ?_⟩
        clear o1 o2 o3
        generalize ((v1.setCell ⟨x51.heap.size, 0, none⟩ (.int .i64 r6)).setCell ⟨x51.heap.size, 1, none⟩ (.int .i64 k6)).setCell ⟨x51.heap.size, 2, none⟩ (.slice a6 l6 c6_) = v2 at *
        iterate 1 (refine fm_take (v := ?_) rfl rfl ?_ ?_; rotate_left; (next => (intro w' hSw; (try dsimp only at hSw); go_simp; (try (rw [if_pos (by omega)]; go_simp)); (try with_reducible rfl))); (simp only [Act.put, List.setIfInBounds_toArray, List.set_cons_zero, List.set_cons_succ]))
        refine fm_nil ?_
        go_simp
        go_wp2_with fail
        refine NoPanic.normal ?_
        exact HQ.out _ _ _ _ _ _ _ _ _ _ _ _ _ _ _ _ _ _ ⟨_, rfl, rfl, rfl, HP2.out.2.1, HP2.out.2.2⟩
    · skip
      refine opW_take rfl rfl ?_
      go_simp
      obtain ⟨x60, hy⟩ : ∃ x, x = x50.alloc (.cells #[.int .i64 0, .int .i64 0, .slice none 0 0] 26) := ⟨_, rfl⟩
      rw [← hy]
      have hb : Below x50.heap.size x50 x60 := hy ▸ (Below.refl _ _).alloc (Nat.le_refl _) _
      have BZ := Lib.hid (show Box x60 x50.heap.size [.int .i64 0, .int .i64 0, .slice none 0 0] from hy ▸ Box.newA x50 [.int .i64 0, .int .i64 0, .slice none 0 0] _ rfl)
      have NZ := Lib.hid (show W0.heap.size ≤ x50.heap.size ∧ x50.heap.size < x60.heap.size from ⟨D50.out.size, by rw [hy]; simp⟩)
      clear hy
      replace BY := Lib.hid (BY.out.below hb)
      have SZ60 := Lib.hid (show x50.heap.size ≤ x60.heap.size from hb.size)
      have D60 := Lib.hid (below_step D50.out D50.out.size hb)
      clear hb D50
      refine ⟨(HX.out.below D60.out).cell, ?_⟩
      refine fm_one ?_
      refine opW_take rfl rfl ?_
      go_simp
      refine (One10 _ d.length HN.out).mono ?_
      rintro e_ x61 ⟨a1, bb1, cc1, rfl, hz, hne, hb⟩
      have O1 := Lib.hid hz.fls
      have N1 := Lib.hid hne
      clear hz hne
      replace BY := Lib.hid (BY.out.below hb)
      replace BZ := Lib.hid (BZ.out.below hb)
      have SZ61 := Lib.hid (show x60.heap.size ≤ x61.heap.size from hb.size)
      have D61 := Lib.hid (below_step D60.out D60.out.size hb)
      clear hb D60
      refine ⟨(HX.out.below D61.out).cell, ?_⟩
      refine fm_one ?_
      refine opW_take rfl rfl ?_
      go_simp
      refine (One10 _ d.length HN.out).mono ?_
      rintro e_ x62 ⟨a2, bb2, cc2, rfl, hz, hne, hb⟩
      have O2 := Lib.hid hz.fls
      have N2 := Lib.hid hne
      clear hz hne
      replace O1 := Lib.hid (O1.out.below hb)
      replace BY := Lib.hid (BY.out.below hb)
      replace BZ := Lib.hid (BZ.out.below hb)
      have SZ62 := Lib.hid (show x61.heap.size ≤ x62.heap.size from hb.size)
      have D62 := Lib.hid (below_step D61.out D61.out.size hb)
      clear hb D61
      refine ⟨(HX.out.below D62.out).cell, ?_⟩
      refine fm_one ?_
      refine opW_take rfl rfl ?_
      go_simp
      refine (HG.out _ a1 a2 cc1 cc2 D62.out O1.out O2.out N1.out N2.out).mono ?_
      rintro e_ x63 ⟨⟨a4, a5, a6, n4, c4_, l5, c5_, l6, c6_, r5, k5, r6, k6, m4, code⟩, rfl, hs, hb⟩
      have SGq := Lib.hid hs
      clear hs
      dsimp only [GR.val]
      replace O1 := Lib.hid (O1.out.below hb)
      replace O2 := Lib.hid (O2.out.below hb)
      replace BY := Lib.hid (BY.out.below hb)
      replace BZ := Lib.hid (BZ.out.below hb)
      have SZ63 := Lib.hid (show x62.heap.size ≤ x63.heap.size from hb.size)
      have D63 := Lib.hid (below_step D62.out D62.out.size hb)
      clear hb D62
      refine ⟨(HX.out.below D63.out).cell, ?_⟩
      iterate 6 (refine fm_take (v := ?_) rfl rfl ?_ ?_; rotate_left; (next => (intro w' hSw; (try dsimp only at hSw); go_simp; (try (rw [if_pos (by omega)]; go_simp)); (try with_reducible rfl))); (simp only [Act.put, List.setIfInBounds_toArray, List.set_cons_zero, List.set_cons_succ]))
      refine fm_skip rfl ?_
      refine fm_skip rfl ?_
      have eY := NY.out; have eZ := NZ.out; have e0 := HBL.out
      have ez50 := SZ50.out; have ez60 := SZ60.out; have ez61 := SZ61.out; have ez62 := SZ62.out; have ez63 := SZ63.out
      have hyz : y0.heap.size ≠ x50.heap.size := by omega
      have NE := Lib.hid (show b0 ≠ y0.heap.size ∧ b0 ≠ x50.heap.size ∧ y0.heap.size ≠ x50.heap.size ∧ W0.heap.size ≤ y0.heap.size ∧ W0.heap.size ≤ x50.heap.size from ⟨by omega, by omega, hyz, by omega, by omega⟩)
      clear eY eZ e0 hyz NY NZ ez50 SZ50 ez60 SZ60 ez61 SZ61 ez62 SZ62 ez63 SZ63
      iterate 1 (refine fm_take (v := ?_) rfl rfl ?_ ?_; rotate_left; (next => (intro w' hSw; (try dsimp only at hSw); go_simp; (try (rw [if_pos (by omega)]; go_simp)); (try with_reducible rfl))); (simp only [Act.put, List.setIfInBounds_toArray, List.set_cons_zero, List.set_cons_succ]))
      have HX9 := Lib.hid (HX.out.below D63.out)
      have hb1 := bel_put3U (W := x63) (y0.heap.size) (.int .i64 r5) (.int .i64 k5) (.slice a5 l5 c5_)
      have hp : Box (((x63.setCell ⟨y0.heap.size, 0, none⟩ (.int .i64 r5)).setCell ⟨y0.heap.size, 1, none⟩ (.int .i64 k5)).setCell ⟨y0.heap.size, 2, none⟩ (.slice a5 l5 c5_)) b0 _ ∧ Box (((x63.setCell ⟨y0.heap.size, 0, none⟩ (.int .i64 r5)).setCell ⟨y0.heap.size, 1, none⟩ (.int .i64 k5)).setCell ⟨y0.heap.size, 2, none⟩ (.slice a5 l5 c5_)) (x50.heap.size) [.int .i64 0, .int .i64 0, .slice none 0 0] ∧ SG17 d e (oneL d.length d.length) (oneL d.length d.length) d.length d.length d.length d.length (((x63.setCell ⟨y0.heap.size, 0, none⟩ (.int .i64 r5)).setCell ⟨y0.heap.size, 1, none⟩ (.int .i64 k5)).setCell ⟨y0.heap.size, 2, none⟩ (.slice a5 l5 c5_)) _ ∧ Below W0.heap.size W0 (((x63.setCell ⟨y0.heap.size, 0, none⟩ (.int .i64 r5)).setCell ⟨y0.heap.size, 1, none⟩ (.int .i64 k5)).setCell ⟨y0.heap.size, 2, none⟩ (.slice a5 l5 c5_)) := ⟨HX9.out.bel NE.out.1 hb1, BZ.out.bel (fun e => NE.out.2.2.1 e.symm) hb1, SGq.out.put BY.out _ _ _, D63.out.trans ((hb1.mono D63.out.size).below NE.out.2.2.2.1)⟩
      have HP := Lib.hid hp
      clear hp hb1
      obtain ⟨o1, o2, o3⟩ := BY.out.facts
      refine fm_one ?_
      refine opW_take rfl rfl ?_
      go_simp
      refine ⟨HP.out.1.cell, ?_⟩
      clear o1 o2 o3
      generalize ((x63.setCell ⟨y0.heap.size, 0, none⟩ (.int .i64 r5)).setCell ⟨y0.heap.size, 1, none⟩ (.int .i64 k5)).setCell ⟨y0.heap.size, 2, none⟩ (.slice a5 l5 c5_) = v1 at *
      have hb2 := bel_put3U (W := v1) (x50.heap.size) (.int .i64 r6) (.int .i64 k6) (.slice a6 l6 c6_)
      have hp : Box (((v1.setCell ⟨x50.heap.size, 0, none⟩ (.int .i64 r6)).setCell ⟨x50.heap.size, 1, none⟩ (.int .i64 k6)).setCell ⟨x50.heap.size, 2, none⟩ (.slice a6 l6 c6_)) b0 _ ∧ SG17 d e (oneL d.length d.length) (oneL d.length d.length) d.length d.length d.length d.length (((v1.setCell ⟨x50.heap.size, 0, none⟩ (.int .i64 r6)).setCell ⟨x50.heap.size, 1, none⟩ (.int .i64 k6)).setCell ⟨x50.heap.size, 2, none⟩ (.slice a6 l6 c6_)) _ ∧ Below W0.heap.size W0 (((v1.setCell ⟨x50.heap.size, 0, none⟩ (.int .i64 r6)).setCell ⟨x50.heap.size, 1, none⟩ (.int .i64 k6)).setCell ⟨x50.heap.size, 2, none⟩ (.slice a6 l6 c6_)) := ⟨HP.out.1.bel NE.out.2.1 hb2, HP.out.2.2.1.put HP.out.2.1 _ _ _, HP.out.2.2.2.trans ((hb2.mono HP.out.2.2.2.size).below NE.out.2.2.2.2)⟩
      have HP2 := Lib.hid hp
      clear hp hb2
      obtain ⟨o1, o2, o3⟩ := HP.out.2.1.facts
      refine fm_one ?_
      refine opW_take rfl rfl ?_
      go_simp
      refine ⟨HP2.out.1.cell, ?_⟩
      clear o1 o2 o3
      generalize ((v1.setCell ⟨x50.heap.size, 0, none⟩ (.int .i64 r6)).setCell ⟨x50.heap.size, 1, none⟩ (.int .i64 k6)).setCell ⟨x50.heap.size, 2, none⟩ (.slice a6 l6 c6_) = v2 at *
      iterate 1 (refine fm_take (v := ?_) rfl rfl ?_ ?_; rotate_left; (next => (intro w' hSw; (try dsimp only at hSw); go_simp; (try (rw [if_pos (by omega)]; go_simp)); (try with_reducible rfl))); (simp only [Act.put, List.setIfInBounds_toArray, List.set_cons_zero, List.set_cons_succ]))
      refine fm_nil ?_
      go_simp
      go_wp2_with fail
      refine NoPanic.normal ?_
      exact HQ.out _ _ _ _ _ _ _ _ _ _ _ _ _ _ _ _ _ _ ⟨_, rfl, rfl, rfl, HP2.out.2.1, HP2.out.2.2⟩
end Go.Proofs.Ytdljnhdhigbefaa
