/- The chapter's rows of layer 8 hold (printed by gen_kp.py). -/
import Derived.Test.YtbcdpibcieadlaaKpZ
namespace Go.Proofs.Ytbcdpibcieadlaa
open Go Go.RowKit
set_option maxRecDepth 100000

set_option maxHeartbeats 16000000 in
theorem known08_any (w : World) : Calls Try.prog 16 #[] w fun e w' => e = .returned (.bool true) ∧ Below w.heap.size w w' := by
  have q1 := feqk1
  have q3 := feqk3
  have q5 := feqk5
  have q7 := feqk7
  have q32 := feqk32
  go_enter Try.func16, Try.ntmps16
  go_wp2_with fail
  refine (vecK [4607182418800017408, 4611686018427387904, 4613937818241073152] 3 _ w rfl (by decide)).mono ?_
  rintro e w1 ⟨sta, sba, rfl, kaa, kab, hz_a, hb⟩
  have HB1 := Lib.hid hb
  have HSa := Lib.hid hz_a
  clear hb hz_a
  dsimp only
  go_wp2_with fail
  refine (vecK [4616189618054758400, 4617315517961601024, 4618441417868443648] 3 _ w1 rfl (by decide)).mono ?_
  rintro e w2 ⟨stb, sbb, rfl, kba, kbb, hz_b, hb⟩
  have HB2 := Lib.hid (below_step HB1.out HB1.out.size hb)
  have a_2 := Lib.hid (HSa.out.below hb)
  have HSb := Lib.hid hz_b
  clear hb hz_b
  dsimp only
  go_wp2_with fail
  refine (DotK w2 (newV sta 3 1) (newV stb 3 1) sba sbb _ _ (newV_ok a_2.out (by decide) (by decide) rfl) (newV_ok HSb.out (by decide) (by decide) rfl) (words_dec (by kernel_rfl)) (words_dec (by kernel_rfl)) 4629700416936869888 0 (by kernel_rfl) (by kernel_rfl) (by kernel_rfl)).mono ?_
  rintro e w3 ⟨rfl, hb⟩
  have HB3 := Lib.hid (below_step HB2.out HB2.out.size hb)
  clear hb
  dsimp only
  go_wp2_with fail
  refine (vecK [4607182418800017408, 13835058055282163712] 2 _ w3 rfl (by decide)).mono ?_
  rintro e w4 ⟨stc, sbc, rfl, kca, kcb, hz_c, hb⟩
  have HB4 := Lib.hid (below_step HB3.out HB3.out.size hb)
  have HSc := Lib.hid hz_c
  clear hb hz_c
  dsimp only
  go_wp2_with fail
  refine (AsumK w4 (newV stc 2 1) sbc _ (newV_ok HSc.out (by decide) (by decide) rfl) (words_dec (by kernel_rfl)) 4613937818241073152 0 (by kernel_rfl) (by kernel_rfl) (by kernel_rfl)).mono ?_
  rintro e w5 ⟨rfl, hb⟩
  have HB5 := Lib.hid (below_step HB4.out HB4.out.size hb)
  clear hb
  dsimp only
  go_wp2_with fail
  refine (vecK [4607182418800017408, 13837309855095848960, 4613937818241073152] 3 _ w5 rfl (by decide)).mono ?_
  rintro e w6 ⟨std, sbd, rfl, kda, kdb, hz_d, hb⟩
  have HB6 := Lib.hid (below_step HB5.out HB5.out.size hb)
  have HSd := Lib.hid hz_d
  clear hb hz_d
  dsimp only
  go_wp2_with fail
  refine (AmaxK w6 (newV std 3 1) sbd _ (newV_ok HSd.out (by decide) (by decide) rfl) (words_dec (by kernel_rfl)) (2, 4613937818241073152) (by kernel_rfl) (by kernel_rfl) (by kernel_rfl)).mono ?_
  rintro e w7 ⟨rfl, hb⟩
  have HB7 := Lib.hid (below_step HB6.out HB6.out.size hb)
  clear hb
  dsimp only
  go_wp2_with fail
  refine (vecK [4621256167635550208, 4621256167635550208] 2 _ w7 rfl (by decide)).mono ?_
  rintro e w8 ⟨sty, sby, rfl, kya, kyb, hz_y, hb⟩
  have HB8 := Lib.hid (below_step HB7.out HB7.out.size hb)
  have HSy := Lib.hid hz_y
  clear hb hz_y
  dsimp only
  unfold newV Vw.val
  dsimp only
  go_upto_region 5 with (fail)
  have hly := sto_lts HSy.out
  have k0 : Kn8 w w8.heap.size sty sby [4621256167635550208, 4621256167635550208] (w8.alloc (.cells #[.pointer (some ⟨sty, 0, none⟩), .int .i64 2, .int .i64 1, .int .i64 0, .int .i64 1, .int .i64 1] 29)) := ⟨Box.newA _ _ _ rfl, HSy.out.alloc _, HB8.out.alloc HB8.out.size _, by have := HB7.out.size; omega, by omega⟩
  generalize (w8.alloc (.cells #[.pointer (some ⟨sty, 0, none⟩), .int .i64 2, .int .i64 1, .int .i64 0, .int .i64 1, .int .i64 1] 29)) = W5 at *
  generalize hby : w8.heap.size = by' at *
  have hdr : Below W5.heap.size W5 W5.drew := below_drewN 1 (Below.refl _ W5)
  have Ky0 := Lib.hid (k0.step hdr)
  have HSr := Lib.hid (show ∀ W, Below W5.drew.heap.size W5.drew W → (fun W => ∀ i, W.cell? ⟨by', i, none⟩ = ([.pointer (some ⟨sty, 0, none⟩), .int .i64 (2 : Nat), .int .i64 (1 : Nat), .int .i64 (0 : Nat), .int .i64 (1 : Nat), .int .i64 (1 : Nat)] : List Value)[i]?) W from fun W h => ((k0.step hdr).box.below h).cell)
  refine wp_region_many 5 40 [(0, 4), (3, 2), (1, 0), (1, 1), (2, 2), (1, 3)] (fun W => ∀ i, W.cell? ⟨by', i, none⟩ = ([.pointer (some ⟨sty, 0, none⟩), .int .i64 (2 : Nat), .int .i64 (1 : Nat), .int .i64 (0 : Nat), .int .i64 (1 : Nat), .int .i64 (1 : Nat)] : List Value)[i]?) (by kernel_rfl) (by kernel_rfl) (HSr.out _ (Below.refl _ _)) ?_
  clear hdr k0 hly
  generalize W5.drew = v0 at *
  have rB0 := Lib.hid (Below.refl v0.heap.size v0)
  iterate 1 (refine fm_take (v := ?_) rfl rfl ?_ ?_; rotate_left; (next => (intro w' hSw; (try dsimp only at hSw); go_simp; (try (rw [if_pos (by omega)]; go_simp)); (try with_reducible rfl))); (simp only [Act.put, List.setIfInBounds_toArray, List.set_cons_zero, List.set_cons_succ]))
  refine fm_from ?_
  refine fm_one1 ?_ ?_
  · skip
    refine opW_take rfl rfl ?_
    go_simp
    have hbA : Below v0.heap.size v0 (v0.alloc (.cells #[.float .f64 4607182418800017408, .float .f64 4611686018427387904, .float .f64 4613937818241073152, .float .f64 4616189618054758400] 31)) := (Below.refl _ _).alloc (Nat.le_refl _) _
    have hz : Box (v0.alloc (.cells #[.float .f64 4607182418800017408, .float .f64 4611686018427387904, .float .f64 4613937818241073152, .float .f64 4616189618054758400] 31)) v0.heap.size ([4607182418800017408, 4611686018427387904, 4613937818241073152, 4616189618054758400].map (Value.float .f64)) := Box.newA v0 ([4607182418800017408, 4611686018427387904, 4613937818241073152, 4616189618054758400].map (Value.float .f64)) _ rfl
    have rhB1 := Lib.hid (below_step rB0.out rB0.out.size hbA)
    have r1_z0 := Lib.hid hz
    clear hbA hz
    generalize hN : v0.alloc (.cells #[.float .f64 4607182418800017408, .float .f64 4611686018427387904, .float .f64 4613937818241073152, .float .f64 4616189618054758400] 31) = rv1 at *
    clear hN
    refine ⟨HSr.out _ rhB1.out, ?_⟩
    refine fm_one1 ?_ ?_
    · skip
      refine opW_take rfl rfl ?_
      go_simp
      refine (twoB [4607182418800017408, 4611686018427387904, 4613937818241073152, 4616189618054758400] _ rv1 rfl r1_z0.out).mono ?_
      rintro e rv2 ⟨stt, sbt, rfl, kta, ktb, hz, hb⟩
      have rhB2 := Lib.hid (below_step rhB1.out rhB1.out.size hb)
      have r2_z0 := Lib.hid (r1_z0.out.below hb)
      have r2_t := Lib.hid hz
      clear hz hb
      refine ⟨HSr.out _ rhB2.out, ?_⟩
      refine fm_now ?_
      refine opW_take rfl rfl ?_
      go_simp
      have hbA : Below rv2.heap.size rv2 (rv2.alloc (.cells #[.float .f64 4607182418800017408, .float .f64 4607182418800017408] 31)) := (Below.refl _ _).alloc (Nat.le_refl _) _
      have hz : Box (rv2.alloc (.cells #[.float .f64 4607182418800017408, .float .f64 4607182418800017408] 31)) rv2.heap.size ([4607182418800017408, 4607182418800017408].map (Value.float .f64)) := Box.newA rv2 ([4607182418800017408, 4607182418800017408].map (Value.float .f64)) _ rfl
      have rhB3 := Lib.hid (below_step rhB2.out rhB2.out.size hbA)
      have r3_z0 := Lib.hid (r2_z0.out.below hbA)
      have r3_t := Lib.hid (r2_t.out.below hbA)
      have r3_z2 := Lib.hid hz
      clear hbA hz
      generalize hN : rv2.alloc (.cells #[.float .f64 4607182418800017408, .float .f64 4607182418800017408] 31) = rv3 at *
      clear hN
      refine ⟨HSr.out _ rhB3.out, ?_⟩
      refine fm_skip rfl ?_
      refine fm_one ?_
      refine opW_take rfl rfl ?_
      go_simp
      refine (vecB [4607182418800017408, 4607182418800017408] 2 _ rv3 rfl (by decide) r3_z2.out).mono ?_
      rintro e rv4 ⟨stu, sbu, rfl, kua, kub, hz, hb⟩
      have rhB4 := Lib.hid (below_step rhB3.out rhB3.out.size hb)
      have r4_z0 := Lib.hid (r3_z0.out.below hb)
      have r4_t := Lib.hid (r3_t.out.below hb)
      have r4_z2 := Lib.hid (r3_z2.out.below hb)
      have r4_u := Lib.hid hz
      clear hz hb
      refine ⟨HSr.out _ rhB4.out, ?_⟩
      refine fm_nil ?_
      go_simp
      go_wp2_with fail
      refine (GemvK (Ky0.out.step rhB4.out) r4_t.out r4_u.out).mono ?_
      rintro e w6 ⟨rfl, ky1⟩
      have hy1 := sto_lts ky1.sto
      have hy2 := ky1.box.lt
      have hy3 := ky1.below.size
      dsimp only
      go_wp2
      refine NoPanic.normal ?_
      go_wp2_with fail
      refine (vecK [4607182418800017408, 4607182418800017408] 2 _ w6 rfl (by decide)).mono ?_
      rintro e w6m ⟨stm, sbm, rfl, kma, kmb, hm, hb⟩
      have hm1 := sto_lts hm
      have hne : by' ≠ sbm ∧ sty ≠ sbm ∧ sby ≠ sbm := ⟨by omega, by omega, by omega⟩
      have hbA : Below w6m.heap.size w6m (w6m.alloc (.cells #[.pointer (some ⟨stm, 0, none⟩), .int .i64 2, .int .i64 1, .int .i64 0, .int .i64 1, .int .i64 1] 29)) := (Below.refl _ _).alloc (Nat.le_refl _) _
      have km : Kn8 w w6m.heap.size stm sbm [4607182418800017408, 4607182418800017408] (w6m.alloc (.cells #[.pointer (some ⟨stm, 0, none⟩), .int .i64 2, .int .i64 1, .int .i64 0, .int .i64 1, .int .i64 1] 29)) := ⟨Box.newA _ _ _ rfl, hm.alloc _, below_step (below_step ky1.below ky1.below.size hb) (below_step ky1.below ky1.below.size hb).size hbA, by omega, by omega⟩
      have ky2 := ky1.step (below_step hb hb.size hbA)
      clear hbA hb hm hm1 hy1 hy2 hy3 ky1
      unfold newV Vw.val
      dsimp only
      go_upto_region 7 with (fail)
      generalize (w6m.alloc (.cells #[.pointer (some ⟨stm, 0, none⟩), .int .i64 2, .int .i64 1, .int .i64 0, .int .i64 1, .int .i64 1] 29)) = W7 at *
      generalize w6m.heap.size = bm' at *
      have hdr : Below W7.heap.size W7 W7.drew := below_drewN 1 (Below.refl _ W7)
      have Ky1 := Lib.hid (ky2.step hdr)
      have Km0 := Lib.hid (km.step hdr)
      have HSs := Lib.hid (show ∀ W, Below W7.drew.heap.size W7.drew W → (fun W => ∀ i, W.cell? ⟨bm', i, none⟩ = ([.pointer (some ⟨stm, 0, none⟩), .int .i64 (2 : Nat), .int .i64 (1 : Nat), .int .i64 (0 : Nat), .int .i64 (1 : Nat), .int .i64 (1 : Nat)] : List Value)[i]?) W from fun W h => ((km.step hdr).box.below h).cell)
      refine wp_region_many 3 40 [(0, 2), (1, 0), (1, 1)] (fun W => ∀ i, W.cell? ⟨bm', i, none⟩ = ([.pointer (some ⟨stm, 0, none⟩), .int .i64 (2 : Nat), .int .i64 (1 : Nat), .int .i64 (0 : Nat), .int .i64 (1 : Nat), .int .i64 (1 : Nat)] : List Value)[i]?) (by kernel_rfl) (by kernel_rfl) (HSs.out _ (Below.refl _ _)) ?_
      clear hdr km ky2
      generalize W7.drew = u0 at *
      have sB0 := Lib.hid (Below.refl u0.heap.size u0)
      iterate 1 (refine fm_take (v := ?_) rfl rfl ?_ ?_; rotate_left; (next => (intro w' hSw; (try dsimp only at hSw); go_simp; (try (rw [if_pos (by omega)]; go_simp)); (try with_reducible rfl))); (simp only [Act.put, List.setIfInBounds_toArray, List.set_cons_zero, List.set_cons_succ]))
      refine fm_one ?_
      refine opW_take rfl rfl ?_
      go_simp
      have hbA : Below u0.heap.size u0 (u0.alloc (.cells #[.float .f64 4607182418800017408, .float .f64 4621256167635550208, .float .f64 4611686018427387904, .float .f64 4613937818241073152] 31)) := (Below.refl _ _).alloc (Nat.le_refl _) _
      have hz : Box (u0.alloc (.cells #[.float .f64 4607182418800017408, .float .f64 4621256167635550208, .float .f64 4611686018427387904, .float .f64 4613937818241073152] 31)) u0.heap.size ([4607182418800017408, 4621256167635550208, 4611686018427387904, 4613937818241073152].map (Value.float .f64)) := Box.newA u0 ([4607182418800017408, 4621256167635550208, 4611686018427387904, 4613937818241073152].map (Value.float .f64)) _ rfl
      have shB1 := Lib.hid (below_step sB0.out sB0.out.size hbA)
      have s1_z0 := Lib.hid hz
      clear hbA hz
      generalize hN : u0.alloc (.cells #[.float .f64 4607182418800017408, .float .f64 4621256167635550208, .float .f64 4611686018427387904, .float .f64 4613937818241073152] 31) = sv1 at *
      clear hN
      refine ⟨HSs.out _ shB1.out, ?_⟩
      refine fm_one ?_
      refine opW_take rfl rfl ?_
      go_simp
      refine (twoB [4607182418800017408, 4621256167635550208, 4611686018427387904, 4613937818241073152] _ sv1 rfl s1_z0.out).mono ?_
      rintro e sv2 ⟨stta, sbta, rfl, ktaa, ktab, hz, hb⟩
      have shB2 := Lib.hid (below_step shB1.out shB1.out.size hb)
      have s2_z0 := Lib.hid (s1_z0.out.below hb)
      have s2_ta := Lib.hid hz
      clear hz hb
      refine ⟨HSs.out _ shB2.out, ?_⟩
      refine fm_nil ?_
      go_simp
      go_wp2_with fail
      refine (TrmmK (Km0.out.step shB2.out) s2_ta.out).mono ?_
      rintro e w7 ⟨rfl, km1, hbel⟩
      have Ky2 := Lib.hid ((Ky1.out.step shB2.out).bel hbel km1.lb.1 hne.1 hne.2.1 hne.2.2)
      have Km2 := Lib.hid km1
      clear km1 hbel
      dsimp only
      go_wp2
      refine NoPanic.normal ?_
      go_wp2_with fail
      refine (vecK [4607182418800017408] 1 _ w7 rfl (by decide)).mono ?_
      rintro e w8a ⟨sg1, tg1, rfl, _, _, hg, hb⟩
      have Ky3 := Lib.hid (Ky2.out.step hb)
      have Km3 := Lib.hid (Km2.out.step hb)
      have G1 := Lib.hid hg
      clear hb hg
      dsimp only
      go_wp2_with fail
      refine (vecK [4607182418800017408, 4611686018427387904] 2 _ w8a rfl (by decide)).mono ?_
      rintro e w8b ⟨sg2, tg2, rfl, _, _, hg, hb⟩
      have Ky4 := Lib.hid (Ky3.out.step hb)
      have Km4 := Lib.hid (Km3.out.step hb)
      have G1' := Lib.hid (G1.out.below hb)
      have G2 := Lib.hid hg
      clear hb hg
      dsimp only
      go_wp2_with fail
      refine (DotK w8b (newV sg1 1 1) (newV sg2 2 1) tg1 tg2 _ _ (newV_ok G1'.out (by decide) (by decide) rfl) (newV_ok G2.out (by decide) (by decide) rfl) (words_dec (by kernel_rfl)) (words_dec (by kernel_rfl)) 0 8 (by kernel_rfl) (by kernel_rfl) (by kernel_rfl)).mono ?_
      rintro e w8c ⟨rfl, hb⟩
      have Ky5 := Lib.hid (Ky4.out.step hb)
      have Km5 := Lib.hid (Km4.out.step hb)
      clear hb G1 G1' G2
      dsimp only
      go_wp2_with fail
      refine (vecK [4607182418800017408] 1 _ w8c rfl (by decide)).mono ?_
      rintro e w9a ⟨sg3, tg3, rfl, _, _, hg, hb⟩
      have Ky6 := Lib.hid (Ky5.out.step hb)
      have Km6 := Lib.hid (Km5.out.step hb)
      have G3 := Lib.hid hg
      clear hb hg
      dsimp only
      go_wp2_with fail
      refine (DotN G3.out).mono ?_
      rintro e w9b ⟨rfl, hb⟩
      have Ky7 := Lib.hid (Ky6.out.step hb)
      have Km7 := Lib.hid (Km6.out.step hb)
      clear hb G3
      dsimp only
      go_wp2_with fail
      refine (NewK w9b).mono ?_
      rintro e w10 ⟨sn, tn, rfl, hg, hb⟩
      have hbA : Below w10.heap.size w10 (w10.alloc (.cells #[.pointer (some ⟨sn, 0, none⟩), .int .i64 2, .int .i64 3, .int .i64 0, .int .i64 3, .int .i64 1] 29)) := (Below.refl _ _).alloc (Nat.le_refl _) _
      have hb2 := below_step hb hb.size hbA
      have Ky8 := Lib.hid (Ky7.out.step hb2)
      have Km8 := Lib.hid (Km7.out.step hb2)
      have GN := Lib.hid (hg.below hbA)
      have xn : Box (w10.alloc (.cells #[.pointer (some ⟨sn, 0, none⟩), .int .i64 2, .int .i64 3, .int .i64 0, .int .i64 3, .int .i64 1] 29)) w10.heap.size [.pointer (some ⟨sn, 0, none⟩), .int .i64 (2 : Nat), .int .i64 (3 : Nat), .int .i64 (0 : Nat), .int .i64 (3 : Nat), .int .i64 (1 : Nat)] := Box.newA _ _ _ rfl
      obtain ⟨p1, p2, p3⟩ := xn.facts
      clear hb hg hbA hb2 xn
      unfold newV Vw.val
      dsimp only
      go_wp2_with fail
      refine (GemmK GN.out).mono ?_
      rintro e w11 ⟨rfl, hb⟩
      have Ky9 := Lib.hid (Ky8.out.step hb)
      have Km9 := Lib.hid (Km8.out.step hb)
      clear hb p1 p2 p3 GN
      dsimp only
      obtain ⟨p1, p2, p3⟩ := Ky9.out.box.facts
      go_wp2_with (go_at_call 22; refine (num8_any _ _).mono ?_; rintro e w' ⟨rfl, rfl⟩)
      refine (GetY0 Ky9.out).mono ?_
      rintro e z0 ⟨rfl, hb⟩
      have Ky_0 := Lib.hid (Ky9.out.step hb)
      have Km_0 := Lib.hid (Km9.out.step hb)
      clear hb p1 p2 p3
      dsimp only
      obtain ⟨p1, p2, p3⟩ := Ky_0.out.box.facts
      go_wp2_with (go_at_call 22; refine (num8_any _ _).mono ?_; rintro e w' ⟨rfl, rfl⟩)
      refine (GetY1 Ky_0.out).mono ?_
      rintro e z1 ⟨rfl, hb⟩
      have Ky_1 := Lib.hid (Ky_0.out.step hb)
      have Km_1 := Lib.hid (Km_0.out.step hb)
      clear hb p1 p2 p3
      dsimp only
      obtain ⟨p1, p2, p3⟩ := Km_1.out.box.facts
      go_wp2_with (go_at_call 22; refine (num8_any _ _).mono ?_; rintro e w' ⟨rfl, rfl⟩)
      refine (GetM0 Km_1.out).mono ?_
      rintro e z2 ⟨rfl, hb⟩
      have Ky_2 := Lib.hid (Ky_1.out.step hb)
      have Km_2 := Lib.hid (Km_1.out.step hb)
      clear hb p1 p2 p3
      dsimp only
      obtain ⟨p1, p2, p3⟩ := Km_2.out.box.facts
      go_wp2_with (go_at_call 22; refine (num8_any _ _).mono ?_; rintro e w' ⟨rfl, rfl⟩)
      refine (GetM1 Km_2.out).mono ?_
      rintro e z3 ⟨rfl, hb⟩
      have Ky_3 := Lib.hid (Ky_2.out.step hb)
      have Km_3 := Lib.hid (Km_2.out.step hb)
      clear hb p1 p2 p3
      dsimp only
      go_wp2_with (go_at_call 22; refine (num8_any _ _).mono ?_; rintro e w' ⟨rfl, rfl⟩)
      go_ret
      exact ⟨rfl, Ky_3.out.below⟩
    · skip
      refine opW_take rfl rfl ?_
      go_simp
      have hbA : Below rv1.heap.size rv1 (rv1.alloc (.cells #[.float .f64 4607182418800017408, .float .f64 4607182418800017408] 31)) := (Below.refl _ _).alloc (Nat.le_refl _) _
      have hz : Box (rv1.alloc (.cells #[.float .f64 4607182418800017408, .float .f64 4607182418800017408] 31)) rv1.heap.size ([4607182418800017408, 4607182418800017408].map (Value.float .f64)) := Box.newA rv1 ([4607182418800017408, 4607182418800017408].map (Value.float .f64)) _ rfl
      have rhB5 := Lib.hid (below_step rhB1.out rhB1.out.size hbA)
      have r5_z0 := Lib.hid (r1_z0.out.below hbA)
      have r5_z2 := Lib.hid hz
      clear hbA hz
      generalize hN : rv1.alloc (.cells #[.float .f64 4607182418800017408, .float .f64 4607182418800017408] 31) = rv5 at *
      clear hN
      refine ⟨HSr.out _ rhB5.out, ?_⟩
      refine fm_one ?_
      refine opW_take rfl rfl ?_
      go_simp
      refine (twoB [4607182418800017408, 4611686018427387904, 4613937818241073152, 4616189618054758400] _ rv5 rfl r5_z0.out).mono ?_
      rintro e rv6 ⟨stt, sbt, rfl, kta, ktb, hz, hb⟩
      have rhB6 := Lib.hid (below_step rhB5.out rhB5.out.size hb)
      have r6_z0 := Lib.hid (r5_z0.out.below hb)
      have r6_z2 := Lib.hid (r5_z2.out.below hb)
      have r6_t := Lib.hid hz
      clear hz hb
      refine ⟨HSr.out _ rhB6.out, ?_⟩
      refine fm_skip rfl ?_
      refine fm_one ?_
      refine opW_take rfl rfl ?_
      go_simp
      refine (vecB [4607182418800017408, 4607182418800017408] 2 _ rv6 rfl (by decide) r6_z2.out).mono ?_
      rintro e rv7 ⟨stu, sbu, rfl, kua, kub, hz, hb⟩
      have rhB7 := Lib.hid (below_step rhB6.out rhB6.out.size hb)
      have r7_z0 := Lib.hid (r6_z0.out.below hb)
      have r7_z2 := Lib.hid (r6_z2.out.below hb)
      have r7_t := Lib.hid (r6_t.out.below hb)
      have r7_u := Lib.hid hz
      clear hz hb
      refine ⟨HSr.out _ rhB7.out, ?_⟩
      refine fm_nil ?_
      go_simp
      go_wp2_with fail
      refine (GemvK (Ky0.out.step rhB7.out) r7_t.out r7_u.out).mono ?_
      rintro e w6 ⟨rfl, ky1⟩
      have hy1 := sto_lts ky1.sto
      have hy2 := ky1.box.lt
      have hy3 := ky1.below.size
      dsimp only
      go_wp2
      refine NoPanic.normal ?_
      go_wp2_with fail
      refine (vecK [4607182418800017408, 4607182418800017408] 2 _ w6 rfl (by decide)).mono ?_
      rintro e w6m ⟨stm, sbm, rfl, kma, kmb, hm, hb⟩
      have hm1 := sto_lts hm
      have hne : by' ≠ sbm ∧ sty ≠ sbm ∧ sby ≠ sbm := ⟨by omega, by omega, by omega⟩
      have hbA : Below w6m.heap.size w6m (w6m.alloc (.cells #[.pointer (some ⟨stm, 0, none⟩), .int .i64 2, .int .i64 1, .int .i64 0, .int .i64 1, .int .i64 1] 29)) := (Below.refl _ _).alloc (Nat.le_refl _) _
      have km : Kn8 w w6m.heap.size stm sbm [4607182418800017408, 4607182418800017408] (w6m.alloc (.cells #[.pointer (some ⟨stm, 0, none⟩), .int .i64 2, .int .i64 1, .int .i64 0, .int .i64 1, .int .i64 1] 29)) := ⟨Box.newA _ _ _ rfl, hm.alloc _, below_step (below_step ky1.below ky1.below.size hb) (below_step ky1.below ky1.below.size hb).size hbA, by omega, by omega⟩
      have ky2 := ky1.step (below_step hb hb.size hbA)
      clear hbA hb hm hm1 hy1 hy2 hy3 ky1
      unfold newV Vw.val
      dsimp only
      go_upto_region 7 with (fail)
      generalize (w6m.alloc (.cells #[.pointer (some ⟨stm, 0, none⟩), .int .i64 2, .int .i64 1, .int .i64 0, .int .i64 1, .int .i64 1] 29)) = W7 at *
      generalize w6m.heap.size = bm' at *
      have hdr : Below W7.heap.size W7 W7.drew := below_drewN 1 (Below.refl _ W7)
      have Ky1 := Lib.hid (ky2.step hdr)
      have Km0 := Lib.hid (km.step hdr)
      have HSs := Lib.hid (show ∀ W, Below W7.drew.heap.size W7.drew W → (fun W => ∀ i, W.cell? ⟨bm', i, none⟩ = ([.pointer (some ⟨stm, 0, none⟩), .int .i64 (2 : Nat), .int .i64 (1 : Nat), .int .i64 (0 : Nat), .int .i64 (1 : Nat), .int .i64 (1 : Nat)] : List Value)[i]?) W from fun W h => ((km.step hdr).box.below h).cell)
      refine wp_region_many 3 40 [(0, 2), (1, 0), (1, 1)] (fun W => ∀ i, W.cell? ⟨bm', i, none⟩ = ([.pointer (some ⟨stm, 0, none⟩), .int .i64 (2 : Nat), .int .i64 (1 : Nat), .int .i64 (0 : Nat), .int .i64 (1 : Nat), .int .i64 (1 : Nat)] : List Value)[i]?) (by kernel_rfl) (by kernel_rfl) (HSs.out _ (Below.refl _ _)) ?_
      clear hdr km ky2
      generalize W7.drew = u0 at *
      have sB0 := Lib.hid (Below.refl u0.heap.size u0)
      iterate 1 (refine fm_take (v := ?_) rfl rfl ?_ ?_; rotate_left; (next => (intro w' hSw; (try dsimp only at hSw); go_simp; (try (rw [if_pos (by omega)]; go_simp)); (try with_reducible rfl))); (simp only [Act.put, List.setIfInBounds_toArray, List.set_cons_zero, List.set_cons_succ]))
      refine fm_one ?_
      refine opW_take rfl rfl ?_
      go_simp
      have hbA : Below u0.heap.size u0 (u0.alloc (.cells #[.float .f64 4607182418800017408, .float .f64 4621256167635550208, .float .f64 4611686018427387904, .float .f64 4613937818241073152] 31)) := (Below.refl _ _).alloc (Nat.le_refl _) _
      have hz : Box (u0.alloc (.cells #[.float .f64 4607182418800017408, .float .f64 4621256167635550208, .float .f64 4611686018427387904, .float .f64 4613937818241073152] 31)) u0.heap.size ([4607182418800017408, 4621256167635550208, 4611686018427387904, 4613937818241073152].map (Value.float .f64)) := Box.newA u0 ([4607182418800017408, 4621256167635550208, 4611686018427387904, 4613937818241073152].map (Value.float .f64)) _ rfl
      have shB1 := Lib.hid (below_step sB0.out sB0.out.size hbA)
      have s1_z0 := Lib.hid hz
      clear hbA hz
      generalize hN : u0.alloc (.cells #[.float .f64 4607182418800017408, .float .f64 4621256167635550208, .float .f64 4611686018427387904, .float .f64 4613937818241073152] 31) = sv1 at *
      clear hN
      refine ⟨HSs.out _ shB1.out, ?_⟩
      refine fm_one ?_
      refine opW_take rfl rfl ?_
      go_simp
      refine (twoB [4607182418800017408, 4621256167635550208, 4611686018427387904, 4613937818241073152] _ sv1 rfl s1_z0.out).mono ?_
      rintro e sv2 ⟨stta, sbta, rfl, ktaa, ktab, hz, hb⟩
      have shB2 := Lib.hid (below_step shB1.out shB1.out.size hb)
      have s2_z0 := Lib.hid (s1_z0.out.below hb)
      have s2_ta := Lib.hid hz
      clear hz hb
      refine ⟨HSs.out _ shB2.out, ?_⟩
      refine fm_nil ?_
      go_simp
      go_wp2_with fail
      refine (TrmmK (Km0.out.step shB2.out) s2_ta.out).mono ?_
      rintro e w7 ⟨rfl, km1, hbel⟩
      have Ky2 := Lib.hid ((Ky1.out.step shB2.out).bel hbel km1.lb.1 hne.1 hne.2.1 hne.2.2)
      have Km2 := Lib.hid km1
      clear km1 hbel
      dsimp only
      go_wp2
      refine NoPanic.normal ?_
      go_wp2_with fail
      refine (vecK [4607182418800017408] 1 _ w7 rfl (by decide)).mono ?_
      rintro e w8a ⟨sg1, tg1, rfl, _, _, hg, hb⟩
      have Ky3 := Lib.hid (Ky2.out.step hb)
      have Km3 := Lib.hid (Km2.out.step hb)
      have G1 := Lib.hid hg
      clear hb hg
      dsimp only
      go_wp2_with fail
      refine (vecK [4607182418800017408, 4611686018427387904] 2 _ w8a rfl (by decide)).mono ?_
      rintro e w8b ⟨sg2, tg2, rfl, _, _, hg, hb⟩
      have Ky4 := Lib.hid (Ky3.out.step hb)
      have Km4 := Lib.hid (Km3.out.step hb)
      have G1' := Lib.hid (G1.out.below hb)
      have G2 := Lib.hid hg
      clear hb hg
      dsimp only
      go_wp2_with fail
      refine (DotK w8b (newV sg1 1 1) (newV sg2 2 1) tg1 tg2 _ _ (newV_ok G1'.out (by decide) (by decide) rfl) (newV_ok G2.out (by decide) (by decide) rfl) (words_dec (by kernel_rfl)) (words_dec (by kernel_rfl)) 0 8 (by kernel_rfl) (by kernel_rfl) (by kernel_rfl)).mono ?_
      rintro e w8c ⟨rfl, hb⟩
      have Ky5 := Lib.hid (Ky4.out.step hb)
      have Km5 := Lib.hid (Km4.out.step hb)
      clear hb G1 G1' G2
      dsimp only
      go_wp2_with fail
      refine (vecK [4607182418800017408] 1 _ w8c rfl (by decide)).mono ?_
      rintro e w9a ⟨sg3, tg3, rfl, _, _, hg, hb⟩
      have Ky6 := Lib.hid (Ky5.out.step hb)
      have Km6 := Lib.hid (Km5.out.step hb)
      have G3 := Lib.hid hg
      clear hb hg
      dsimp only
      go_wp2_with fail
      refine (DotN G3.out).mono ?_
      rintro e w9b ⟨rfl, hb⟩
      have Ky7 := Lib.hid (Ky6.out.step hb)
      have Km7 := Lib.hid (Km6.out.step hb)
      clear hb G3
      dsimp only
      go_wp2_with fail
      refine (NewK w9b).mono ?_
      rintro e w10 ⟨sn, tn, rfl, hg, hb⟩
      have hbA : Below w10.heap.size w10 (w10.alloc (.cells #[.pointer (some ⟨sn, 0, none⟩), .int .i64 2, .int .i64 3, .int .i64 0, .int .i64 3, .int .i64 1] 29)) := (Below.refl _ _).alloc (Nat.le_refl _) _
      have hb2 := below_step hb hb.size hbA
      have Ky8 := Lib.hid (Ky7.out.step hb2)
      have Km8 := Lib.hid (Km7.out.step hb2)
      have GN := Lib.hid (hg.below hbA)
      have xn : Box (w10.alloc (.cells #[.pointer (some ⟨sn, 0, none⟩), .int .i64 2, .int .i64 3, .int .i64 0, .int .i64 3, .int .i64 1] 29)) w10.heap.size [.pointer (some ⟨sn, 0, none⟩), .int .i64 (2 : Nat), .int .i64 (3 : Nat), .int .i64 (0 : Nat), .int .i64 (3 : Nat), .int .i64 (1 : Nat)] := Box.newA _ _ _ rfl
      obtain ⟨p1, p2, p3⟩ := xn.facts
      clear hb hg hbA hb2 xn
      unfold newV Vw.val
      dsimp only
      go_wp2_with fail
      refine (GemmK GN.out).mono ?_
      rintro e w11 ⟨rfl, hb⟩
      have Ky9 := Lib.hid (Ky8.out.step hb)
      have Km9 := Lib.hid (Km8.out.step hb)
      clear hb p1 p2 p3 GN
      dsimp only
      obtain ⟨p1, p2, p3⟩ := Ky9.out.box.facts
      go_wp2_with (go_at_call 22; refine (num8_any _ _).mono ?_; rintro e w' ⟨rfl, rfl⟩)
      refine (GetY0 Ky9.out).mono ?_
      rintro e z0 ⟨rfl, hb⟩
      have Ky_0 := Lib.hid (Ky9.out.step hb)
      have Km_0 := Lib.hid (Km9.out.step hb)
      clear hb p1 p2 p3
      dsimp only
      obtain ⟨p1, p2, p3⟩ := Ky_0.out.box.facts
      go_wp2_with (go_at_call 22; refine (num8_any _ _).mono ?_; rintro e w' ⟨rfl, rfl⟩)
      refine (GetY1 Ky_0.out).mono ?_
      rintro e z1 ⟨rfl, hb⟩
      have Ky_1 := Lib.hid (Ky_0.out.step hb)
      have Km_1 := Lib.hid (Km_0.out.step hb)
      clear hb p1 p2 p3
      dsimp only
      obtain ⟨p1, p2, p3⟩ := Km_1.out.box.facts
      go_wp2_with (go_at_call 22; refine (num8_any _ _).mono ?_; rintro e w' ⟨rfl, rfl⟩)
      refine (GetM0 Km_1.out).mono ?_
      rintro e z2 ⟨rfl, hb⟩
      have Ky_2 := Lib.hid (Ky_1.out.step hb)
      have Km_2 := Lib.hid (Km_1.out.step hb)
      clear hb p1 p2 p3
      dsimp only
      obtain ⟨p1, p2, p3⟩ := Km_2.out.box.facts
      go_wp2_with (go_at_call 22; refine (num8_any _ _).mono ?_; rintro e w' ⟨rfl, rfl⟩)
      refine (GetM1 Km_2.out).mono ?_
      rintro e z3 ⟨rfl, hb⟩
      have Ky_3 := Lib.hid (Ky_2.out.step hb)
      have Km_3 := Lib.hid (Km_2.out.step hb)
      clear hb p1 p2 p3
      dsimp only
      go_wp2_with (go_at_call 22; refine (num8_any _ _).mono ?_; rintro e w' ⟨rfl, rfl⟩)
      go_ret
      exact ⟨rfl, Ky_3.out.below⟩
  · skip
    refine opW_take rfl rfl ?_
    go_simp
    have hbA : Below v0.heap.size v0 (v0.alloc (.cells #[.float .f64 4607182418800017408, .float .f64 4607182418800017408] 31)) := (Below.refl _ _).alloc (Nat.le_refl _) _
    have hz : Box (v0.alloc (.cells #[.float .f64 4607182418800017408, .float .f64 4607182418800017408] 31)) v0.heap.size ([4607182418800017408, 4607182418800017408].map (Value.float .f64)) := Box.newA v0 ([4607182418800017408, 4607182418800017408].map (Value.float .f64)) _ rfl
    have rhB8 := Lib.hid (below_step rB0.out rB0.out.size hbA)
    have r8_z2 := Lib.hid hz
    clear hbA hz
    generalize hN : v0.alloc (.cells #[.float .f64 4607182418800017408, .float .f64 4607182418800017408] 31) = rv8 at *
    clear hN
    refine ⟨HSr.out _ rhB8.out, ?_⟩
    refine fm_one ?_
    refine opW_take rfl rfl ?_
    go_simp
    have hbA : Below rv8.heap.size rv8 (rv8.alloc (.cells #[.float .f64 4607182418800017408, .float .f64 4611686018427387904, .float .f64 4613937818241073152, .float .f64 4616189618054758400] 31)) := (Below.refl _ _).alloc (Nat.le_refl _) _
    have hz : Box (rv8.alloc (.cells #[.float .f64 4607182418800017408, .float .f64 4611686018427387904, .float .f64 4613937818241073152, .float .f64 4616189618054758400] 31)) rv8.heap.size ([4607182418800017408, 4611686018427387904, 4613937818241073152, 4616189618054758400].map (Value.float .f64)) := Box.newA rv8 ([4607182418800017408, 4611686018427387904, 4613937818241073152, 4616189618054758400].map (Value.float .f64)) _ rfl
    have rhB9 := Lib.hid (below_step rhB8.out rhB8.out.size hbA)
    have r9_z2 := Lib.hid (r8_z2.out.below hbA)
    have r9_z0 := Lib.hid hz
    clear hbA hz
    generalize hN : rv8.alloc (.cells #[.float .f64 4607182418800017408, .float .f64 4611686018427387904, .float .f64 4613937818241073152, .float .f64 4616189618054758400] 31) = rv9 at *
    clear hN
    refine ⟨HSr.out _ rhB9.out, ?_⟩
    refine fm_one ?_
    refine opW_take rfl rfl ?_
    go_simp
    refine (twoB [4607182418800017408, 4611686018427387904, 4613937818241073152, 4616189618054758400] _ rv9 rfl r9_z0.out).mono ?_
    rintro e rv10 ⟨stt, sbt, rfl, kta, ktb, hz, hb⟩
    have rhB10 := Lib.hid (below_step rhB9.out rhB9.out.size hb)
    have r10_z2 := Lib.hid (r9_z2.out.below hb)
    have r10_z0 := Lib.hid (r9_z0.out.below hb)
    have r10_t := Lib.hid hz
    clear hz hb
    refine ⟨HSr.out _ rhB10.out, ?_⟩
    refine fm_skip rfl ?_
    refine fm_one ?_
    refine opW_take rfl rfl ?_
    go_simp
    refine (vecB [4607182418800017408, 4607182418800017408] 2 _ rv10 rfl (by decide) r10_z2.out).mono ?_
    rintro e rv11 ⟨stu, sbu, rfl, kua, kub, hz, hb⟩
    have rhB11 := Lib.hid (below_step rhB10.out rhB10.out.size hb)
    have r11_z2 := Lib.hid (r10_z2.out.below hb)
    have r11_z0 := Lib.hid (r10_z0.out.below hb)
    have r11_t := Lib.hid (r10_t.out.below hb)
    have r11_u := Lib.hid hz
    clear hz hb
    refine ⟨HSr.out _ rhB11.out, ?_⟩
    refine fm_nil ?_
    go_simp
    go_wp2_with fail
    refine (GemvK (Ky0.out.step rhB11.out) r11_t.out r11_u.out).mono ?_
    rintro e w6 ⟨rfl, ky1⟩
    have hy1 := sto_lts ky1.sto
    have hy2 := ky1.box.lt
    have hy3 := ky1.below.size
    dsimp only
    go_wp2
    refine NoPanic.normal ?_
    go_wp2_with fail
    refine (vecK [4607182418800017408, 4607182418800017408] 2 _ w6 rfl (by decide)).mono ?_
    rintro e w6m ⟨stm, sbm, rfl, kma, kmb, hm, hb⟩
    have hm1 := sto_lts hm
    have hne : by' ≠ sbm ∧ sty ≠ sbm ∧ sby ≠ sbm := ⟨by omega, by omega, by omega⟩
    have hbA : Below w6m.heap.size w6m (w6m.alloc (.cells #[.pointer (some ⟨stm, 0, none⟩), .int .i64 2, .int .i64 1, .int .i64 0, .int .i64 1, .int .i64 1] 29)) := (Below.refl _ _).alloc (Nat.le_refl _) _
    have km : Kn8 w w6m.heap.size stm sbm [4607182418800017408, 4607182418800017408] (w6m.alloc (.cells #[.pointer (some ⟨stm, 0, none⟩), .int .i64 2, .int .i64 1, .int .i64 0, .int .i64 1, .int .i64 1] 29)) := ⟨Box.newA _ _ _ rfl, hm.alloc _, below_step (below_step ky1.below ky1.below.size hb) (below_step ky1.below ky1.below.size hb).size hbA, by omega, by omega⟩
    have ky2 := ky1.step (below_step hb hb.size hbA)
    clear hbA hb hm hm1 hy1 hy2 hy3 ky1
    unfold newV Vw.val
    dsimp only
    go_upto_region 7 with (fail)
    generalize (w6m.alloc (.cells #[.pointer (some ⟨stm, 0, none⟩), .int .i64 2, .int .i64 1, .int .i64 0, .int .i64 1, .int .i64 1] 29)) = W7 at *
    generalize w6m.heap.size = bm' at *
    have hdr : Below W7.heap.size W7 W7.drew := below_drewN 1 (Below.refl _ W7)
    have Ky1 := Lib.hid (ky2.step hdr)
    have Km0 := Lib.hid (km.step hdr)
    have HSs := Lib.hid (show ∀ W, Below W7.drew.heap.size W7.drew W → (fun W => ∀ i, W.cell? ⟨bm', i, none⟩ = ([.pointer (some ⟨stm, 0, none⟩), .int .i64 (2 : Nat), .int .i64 (1 : Nat), .int .i64 (0 : Nat), .int .i64 (1 : Nat), .int .i64 (1 : Nat)] : List Value)[i]?) W from fun W h => ((km.step hdr).box.below h).cell)
    refine wp_region_many 3 40 [(0, 2), (1, 0), (1, 1)] (fun W => ∀ i, W.cell? ⟨bm', i, none⟩ = ([.pointer (some ⟨stm, 0, none⟩), .int .i64 (2 : Nat), .int .i64 (1 : Nat), .int .i64 (0 : Nat), .int .i64 (1 : Nat), .int .i64 (1 : Nat)] : List Value)[i]?) (by kernel_rfl) (by kernel_rfl) (HSs.out _ (Below.refl _ _)) ?_
    clear hdr km ky2
    generalize W7.drew = u0 at *
    have sB0 := Lib.hid (Below.refl u0.heap.size u0)
    iterate 1 (refine fm_take (v := ?_) rfl rfl ?_ ?_; rotate_left; (next => (intro w' hSw; (try dsimp only at hSw); go_simp; (try (rw [if_pos (by omega)]; go_simp)); (try with_reducible rfl))); (simp only [Act.put, List.setIfInBounds_toArray, List.set_cons_zero, List.set_cons_succ]))
    refine fm_one ?_
    refine opW_take rfl rfl ?_
    go_simp
    have hbA : Below u0.heap.size u0 (u0.alloc (.cells #[.float .f64 4607182418800017408, .float .f64 4621256167635550208, .float .f64 4611686018427387904, .float .f64 4613937818241073152] 31)) := (Below.refl _ _).alloc (Nat.le_refl _) _
    have hz : Box (u0.alloc (.cells #[.float .f64 4607182418800017408, .float .f64 4621256167635550208, .float .f64 4611686018427387904, .float .f64 4613937818241073152] 31)) u0.heap.size ([4607182418800017408, 4621256167635550208, 4611686018427387904, 4613937818241073152].map (Value.float .f64)) := Box.newA u0 ([4607182418800017408, 4621256167635550208, 4611686018427387904, 4613937818241073152].map (Value.float .f64)) _ rfl
    have shB1 := Lib.hid (below_step sB0.out sB0.out.size hbA)
    have s1_z0 := Lib.hid hz
    clear hbA hz
    generalize hN : u0.alloc (.cells #[.float .f64 4607182418800017408, .float .f64 4621256167635550208, .float .f64 4611686018427387904, .float .f64 4613937818241073152] 31) = sv1 at *
    clear hN
    refine ⟨HSs.out _ shB1.out, ?_⟩
    refine fm_one ?_
    refine opW_take rfl rfl ?_
    go_simp
    refine (twoB [4607182418800017408, 4621256167635550208, 4611686018427387904, 4613937818241073152] _ sv1 rfl s1_z0.out).mono ?_
    rintro e sv2 ⟨stta, sbta, rfl, ktaa, ktab, hz, hb⟩
    have shB2 := Lib.hid (below_step shB1.out shB1.out.size hb)
    have s2_z0 := Lib.hid (s1_z0.out.below hb)
    have s2_ta := Lib.hid hz
    clear hz hb
    refine ⟨HSs.out _ shB2.out, ?_⟩
    refine fm_nil ?_
    go_simp
    go_wp2_with fail
    refine (TrmmK (Km0.out.step shB2.out) s2_ta.out).mono ?_
    rintro e w7 ⟨rfl, km1, hbel⟩
    have Ky2 := Lib.hid ((Ky1.out.step shB2.out).bel hbel km1.lb.1 hne.1 hne.2.1 hne.2.2)
    have Km2 := Lib.hid km1
    clear km1 hbel
    dsimp only
    go_wp2
    refine NoPanic.normal ?_
    go_wp2_with fail
    refine (vecK [4607182418800017408] 1 _ w7 rfl (by decide)).mono ?_
    rintro e w8a ⟨sg1, tg1, rfl, _, _, hg, hb⟩
    have Ky3 := Lib.hid (Ky2.out.step hb)
    have Km3 := Lib.hid (Km2.out.step hb)
    have G1 := Lib.hid hg
    clear hb hg
    dsimp only
    go_wp2_with fail
    refine (vecK [4607182418800017408, 4611686018427387904] 2 _ w8a rfl (by decide)).mono ?_
    rintro e w8b ⟨sg2, tg2, rfl, _, _, hg, hb⟩
    have Ky4 := Lib.hid (Ky3.out.step hb)
    have Km4 := Lib.hid (Km3.out.step hb)
    have G1' := Lib.hid (G1.out.below hb)
    have G2 := Lib.hid hg
    clear hb hg
    dsimp only
    go_wp2_with fail
    refine (DotK w8b (newV sg1 1 1) (newV sg2 2 1) tg1 tg2 _ _ (newV_ok G1'.out (by decide) (by decide) rfl) (newV_ok G2.out (by decide) (by decide) rfl) (words_dec (by kernel_rfl)) (words_dec (by kernel_rfl)) 0 8 (by kernel_rfl) (by kernel_rfl) (by kernel_rfl)).mono ?_
    rintro e w8c ⟨rfl, hb⟩
    have Ky5 := Lib.hid (Ky4.out.step hb)
    have Km5 := Lib.hid (Km4.out.step hb)
    clear hb G1 G1' G2
    dsimp only
    go_wp2_with fail
    refine (vecK [4607182418800017408] 1 _ w8c rfl (by decide)).mono ?_
    rintro e w9a ⟨sg3, tg3, rfl, _, _, hg, hb⟩
    have Ky6 := Lib.hid (Ky5.out.step hb)
    have Km6 := Lib.hid (Km5.out.step hb)
    have G3 := Lib.hid hg
    clear hb hg
    dsimp only
    go_wp2_with fail
    refine (DotN G3.out).mono ?_
    rintro e w9b ⟨rfl, hb⟩
    have Ky7 := Lib.hid (Ky6.out.step hb)
    have Km7 := Lib.hid (Km6.out.step hb)
    clear hb G3
    dsimp only
    go_wp2_with fail
    refine (NewK w9b).mono ?_
    rintro e w10 ⟨sn, tn, rfl, hg, hb⟩
    have hbA : Below w10.heap.size w10 (w10.alloc (.cells #[.pointer (some ⟨sn, 0, none⟩), .int .i64 2, .int .i64 3, .int .i64 0, .int .i64 3, .int .i64 1] 29)) := (Below.refl _ _).alloc (Nat.le_refl _) _
    have hb2 := below_step hb hb.size hbA
    have Ky8 := Lib.hid (Ky7.out.step hb2)
    have Km8 := Lib.hid (Km7.out.step hb2)
    have GN := Lib.hid (hg.below hbA)
    have xn : Box (w10.alloc (.cells #[.pointer (some ⟨sn, 0, none⟩), .int .i64 2, .int .i64 3, .int .i64 0, .int .i64 3, .int .i64 1] 29)) w10.heap.size [.pointer (some ⟨sn, 0, none⟩), .int .i64 (2 : Nat), .int .i64 (3 : Nat), .int .i64 (0 : Nat), .int .i64 (3 : Nat), .int .i64 (1 : Nat)] := Box.newA _ _ _ rfl
    obtain ⟨p1, p2, p3⟩ := xn.facts
    clear hb hg hbA hb2 xn
    unfold newV Vw.val
    dsimp only
    go_wp2_with fail
    refine (GemmK GN.out).mono ?_
    rintro e w11 ⟨rfl, hb⟩
    have Ky9 := Lib.hid (Ky8.out.step hb)
    have Km9 := Lib.hid (Km8.out.step hb)
    clear hb p1 p2 p3 GN
    dsimp only
    obtain ⟨p1, p2, p3⟩ := Ky9.out.box.facts
    go_wp2_with (go_at_call 22; refine (num8_any _ _).mono ?_; rintro e w' ⟨rfl, rfl⟩)
    refine (GetY0 Ky9.out).mono ?_
    rintro e z0 ⟨rfl, hb⟩
    have Ky_0 := Lib.hid (Ky9.out.step hb)
    have Km_0 := Lib.hid (Km9.out.step hb)
    clear hb p1 p2 p3
    dsimp only
    obtain ⟨p1, p2, p3⟩ := Ky_0.out.box.facts
    go_wp2_with (go_at_call 22; refine (num8_any _ _).mono ?_; rintro e w' ⟨rfl, rfl⟩)
    refine (GetY1 Ky_0.out).mono ?_
    rintro e z1 ⟨rfl, hb⟩
    have Ky_1 := Lib.hid (Ky_0.out.step hb)
    have Km_1 := Lib.hid (Km_0.out.step hb)
    clear hb p1 p2 p3
    dsimp only
    obtain ⟨p1, p2, p3⟩ := Km_1.out.box.facts
    go_wp2_with (go_at_call 22; refine (num8_any _ _).mono ?_; rintro e w' ⟨rfl, rfl⟩)
    refine (GetM0 Km_1.out).mono ?_
    rintro e z2 ⟨rfl, hb⟩
    have Ky_2 := Lib.hid (Ky_1.out.step hb)
    have Km_2 := Lib.hid (Km_1.out.step hb)
    clear hb p1 p2 p3
    dsimp only
    obtain ⟨p1, p2, p3⟩ := Km_2.out.box.facts
    go_wp2_with (go_at_call 22; refine (num8_any _ _).mono ?_; rintro e w' ⟨rfl, rfl⟩)
    refine (GetM1 Km_2.out).mono ?_
    rintro e z3 ⟨rfl, hb⟩
    have Ky_3 := Lib.hid (Ky_2.out.step hb)
    have Km_3 := Lib.hid (Km_2.out.step hb)
    clear hb p1 p2 p3
    dsimp only
    go_wp2_with (go_at_call 22; refine (num8_any _ _).mono ?_; rintro e w' ⟨rfl, rfl⟩)
    go_ret
    exact ⟨rfl, Ky_3.out.below⟩
end Go.Proofs.Ytbcdpibcieadlaa
