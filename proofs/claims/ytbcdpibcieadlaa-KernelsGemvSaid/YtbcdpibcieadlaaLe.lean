/- 'plumblinelaw08.KernelsGemv', all matrices small enough (printed by gen_lw.py). No condition but on lengths. -/
import Derived.Test.YtbcdpibcieadlaaLd
namespace Go.Proofs.Ytbcdpibcieadlaa
open Go Go.RowKit
set_option maxRecDepth 1000000

set_option maxHeartbeats 16000000 in
theorem gemv8_small (w : World) (a b : Nat) (rm cm rx cx ry cy : Nat) (am ax ay : Option Addr) (zm zx zy : List Nat) (pm px py : Nat) (t : Bool)
    (hm : MatP w rm cm am zm pm) (hx : MatP w rx cx ax zx px) (hy : MatP w ry cy ay zy py)
    (Bm : ∀ W, Calls Try.prog 15 #[.agg #[.int .i64 rm, .int .i64 cm, .slice am zm.length pm]] W fun e w' => e = .returned (.bool false) ∧ Below W.heap.size W w') (Bx : ∀ W, Calls Try.prog 15 #[.agg #[.int .i64 rx, .int .i64 cx, .slice ax zx.length px]] W fun e w' => e = .returned (.bool false) ∧ Below W.heap.size W w') (By : ∀ W, Calls Try.prog 15 #[.agg #[.int .i64 ry, .int .i64 cy, .slice ay zy.length py]] W fun e w' => e = .returned (.bool false) ∧ Below W.heap.size W w') :
    Calls Try.prog 4 #[.float .f64 a, .agg #[.int .i64 rm, .int .i64 cm, .slice am zm.length pm], .agg #[.int .i64 rx, .int .i64 cx, .slice ax zx.length px], .float .f64 b, .agg #[.int .i64 ry, .int .i64 cy, .slice ay zy.length py], .bool t] w fun e w' => e = .returned (.bool true) ∧ Below w.heap.size w w' := by
  have Hm := Lib.hid hm
  have HBm := Lib.hid Bm
  have Hx := Lib.hid hx
  have HBx := Lib.hid Bx
  have Hy := Lib.hid hy
  have HBy := Lib.hid By
  have HVx := Lib.hid (fun W => vecM_nat rx cx ▸ RVector_any rx cx ax zx.length px W)
  have HVy := Lib.hid (fun W => vecM_nat ry cy ▸ RVector_any ry cy ay zy.length py W)
  have t3 : ((cm : Int) != (zx.length : Int)) = !decide (cm = zx.length) := by rw [Bool.eq_iff_iff]; simp; omega
  have t4 : ((rm : Int) != (zy.length : Int)) = !decide (rm = zy.length) := by rw [Bool.eq_iff_iff]; simp; omega
  clear hm Bm hx Bx hy By
  obtain ⟨W0, hW0⟩ : ∃ W0, W0 = (((w.alloc (.cells #[.int .i64 rm, .int .i64 cm, .slice am zm.length pm] 24)).alloc (.cells #[.int .i64 rx, .int .i64 cx, .slice ax zx.length px] 24)).alloc (.cells #[.int .i64 ry, .int .i64 cy, .slice ay zy.length py] 24)) := ⟨_, rfl⟩
  have hB0 : Below w.heap.size w W0 := hW0 ▸ (((Below.refl _ _).alloc (Nat.le_refl _) _).alloc (by simp) _).alloc (by simp; omega) _
  have x0 : Box W0 (w.heap.size) [.int .i64 rm, .int .i64 cm, .slice am zm.length pm] := hW0 ▸ (((Box.newA w [.int .i64 rm, .int .i64 cm, .slice am zm.length pm] _ rfl).alloc _).alloc _)
  have x1 : Box W0 (w.heap.size + 1) [.int .i64 rx, .int .i64 cx, .slice ax zx.length px] := hW0 ▸ ((Box.newA _ [.int .i64 rx, .int .i64 cx, .slice ax zx.length px] _ (by simp)).alloc _)
  have x2 : Box W0 (w.heap.size + 1 + 1) [.int .i64 ry, .int .i64 cy, .slice ay zy.length py] := hW0 ▸ (Box.newA _ [.int .i64 ry, .int .i64 cy, .slice ay zy.length py] _ (by simp))
  have S0 := Lib.hid (show BoxS w W0 [(w.heap.size, [.int .i64 rm, .int .i64 cm, .slice am zm.length pm]), (w.heap.size + 1, [.int .i64 rx, .int .i64 cx, .slice ax zx.length px]), (w.heap.size + 1 + 1, [.int .i64 ry, .int .i64 cy, .slice ay zy.length py])] from ⟨fun p hp => by
    simp only [List.mem_cons, List.not_mem_nil, or_false] at hp
    rcases hp with rfl | rfl | rfl
    · exact x0
    · exact x1
    · exact x2
    , hB0⟩)
  clear hB0 x0 x1 x2
  go_enter Try.func4, Try.ntmps4
  go_upto_region 1 with (fail)
  rw [← hW0]
  clear hW0
  obtain ⟨f01, f02, f03⟩ := (S0.out.get 0 rfl).facts
  obtain ⟨f11, f12, f13⟩ := (S0.out.get 1 rfl).facts
  obtain ⟨f21, f22, f23⟩ := (S0.out.get 2 rfl).facts
  go_wp2_with fail
  refine (HBm.out _).mono ?_
  rintro e w1 ⟨rfl, hb⟩
  have S1 := Lib.hid (S0.out.step hb)
  clear f01 f02 f03 f11 f12 f13 f21 f22 f23 hb
  dsimp only
  obtain ⟨f01, f02, f03⟩ := (S1.out.get 0 rfl).facts
  obtain ⟨f11, f12, f13⟩ := (S1.out.get 1 rfl).facts
  obtain ⟨f21, f22, f23⟩ := (S1.out.get 2 rfl).facts
  go_wp2_with fail
  refine (HBx.out _).mono ?_
  rintro e w2 ⟨rfl, hb⟩
  have S2 := Lib.hid (S1.out.step hb)
  clear f01 f02 f03 f11 f12 f13 f21 f22 f23 hb
  dsimp only
  obtain ⟨f01, f02, f03⟩ := (S2.out.get 0 rfl).facts
  obtain ⟨f11, f12, f13⟩ := (S2.out.get 1 rfl).facts
  obtain ⟨f21, f22, f23⟩ := (S2.out.get 2 rfl).facts
  go_wp2_with fail
  refine (HBy.out _).mono ?_
  rintro e w3 ⟨rfl, hb⟩
  have S3 := Lib.hid (S2.out.step hb)
  clear f01 f02 f03 f11 f12 f13 f21 f22 f23 hb
  dsimp only
  obtain ⟨f01, f02, f03⟩ := (S3.out.get 0 rfl).facts
  obtain ⟨f11, f12, f13⟩ := (S3.out.get 1 rfl).facts
  obtain ⟨f21, f22, f23⟩ := (S3.out.get 2 rfl).facts
  go_wp2_with fail
  refine (Hy.out.of t _ S3.out.below).mono ?_
  rintro e w4 ⟨⟨v, st, sb, ws, rfl, k1, k2, hS, hP, hI, hlw⟩, hb⟩
  have S4 := Lib.hid (S3.out.step hb)
  have L0 := Lib.hid (BoxS.view S4.out (hP.ok _ _ hS) hS hP.words S3.out k2)
  have Po := Lib.hid hP
  have Io := Lib.hid (And.intro hI hlw)
  clear f01 f02 f03 f11 f12 f13 f21 f22 f23 hb k1 k2 hS hP hI hlw
  unfold Vw.val
  obtain ⟨f01, f02, f03⟩ := (S4.out.get 0 rfl).facts
  obtain ⟨f11, f12, f13⟩ := (S4.out.get 1 rfl).facts
  obtain ⟨f21, f22, f23⟩ := (S4.out.get 2 rfl).facts
  go_upto_region 4 with (fail)
  clear f01 f02 f03 f11 f12 f13 f21 f22 f23
  obtain ⟨P, hPP⟩ : ∃ P, P = w4.heap.size := ⟨_, rfl⟩
  simp only [← hPP] at L0 ⊢
  generalize w4.alloc (.cells #[.pointer v.p, .int .i64 v.r, .int .i64 v.c, .int .i64 v.o, .int .i64 v.d, .int .i64 v.u] 29) = V0 at *
  clear hPP
  have hdr : Below V0.heap.size V0 V0.drew := below_drewN 1 (Below.refl _ V0)
  have S5 := Lib.hid (L0.out.step hdr)
  have HS := Lib.hid (show ∀ W, Below V0.drew.heap.size V0.drew W → (fun W => (∀ i, W.cell? ⟨w.heap.size, i, none⟩ = ([.int .i64 rm, .int .i64 cm, .slice am zm.length pm] : List Value)[i]?) ∧ (∀ i, W.cell? ⟨w.heap.size + 1, i, none⟩ = ([.int .i64 rx, .int .i64 cx, .slice ax zx.length px] : List Value)[i]?) ∧ (∀ i, W.cell? ⟨w.heap.size + 1 + 1, i, none⟩ = ([.int .i64 ry, .int .i64 cy, .slice ay zy.length py] : List Value)[i]?) ∧ (∀ i, W.cell? ⟨P, i, none⟩ = ([.pointer v.p, .int .i64 v.r, .int .i64 v.c, .int .i64 v.o, .int .i64 v.d, .int .i64 v.u] : List Value)[i]?)) W from fun W h => ⟨((S5.out.step h).get 0 rfl).cell, ((S5.out.step h).get 1 rfl).cell, ((S5.out.step h).get 2 rfl).cell, ((S5.out.step h).get 3 rfl).cell⟩)
  refine wp_region_items 8 [(true, 0), (true, 1), (true, 2), (true, 4), (true, 6), (true, 7), (false, 3), (false, 5)] (fun W => (∀ i, W.cell? ⟨w.heap.size, i, none⟩ = ([.int .i64 rm, .int .i64 cm, .slice am zm.length pm] : List Value)[i]?) ∧ (∀ i, W.cell? ⟨w.heap.size + 1, i, none⟩ = ([.int .i64 rx, .int .i64 cx, .slice ax zx.length px] : List Value)[i]?) ∧ (∀ i, W.cell? ⟨w.heap.size + 1 + 1, i, none⟩ = ([.int .i64 ry, .int .i64 cy, .slice ay zy.length py] : List Value)[i]?) ∧ (∀ i, W.cell? ⟨P, i, none⟩ = ([.pointer v.p, .int .i64 v.r, .int .i64 v.c, .int .i64 v.o, .int .i64 v.d, .int .i64 v.u] : List Value)[i]?)) (by kernel_rfl) (by kernel_rfl) (HS.out _ (Below.refl _ _)) ?_
  generalize V0.drew = w5 at *
  clear hdr
  iterate 6 (refine iW_take (v := ?_) rfl rfl ?_ ?_; rotate_left; (next => (intro w' hSw; (try dsimp only at hSw); go_simp; (try (rw [if_pos (by omega)]; go_simp)); (try with_reducible rfl))); (simp only [Act.put, List.setIfInBounds_toArray, List.set_cons_zero, List.set_cons_succ]))
  refine iW_mid rfl rfl ?_
  go_simp
  refine (Hm.out.of t w5 S5.out.below).mono ?_
  rintro e w6 ⟨⟨vm, stm, sbm, wsm, rfl, k1, k2, hS, hP, hI, hlw⟩, hb⟩
  have S6 := Lib.hid (S5.out.step hb)
  refine ⟨HS.out _ hb, ?_⟩
  have HSw6 := Lib.hid (fun W (h : Below w6.heap.size w6 W) => HS.out W (below_step hb hb.size h))
  have Km := Lib.hid (hP.ok _ _ hS)
  have Pm := Lib.hid hP
  clear hb k1 k2 hS hP hI hlw
  refine iW_mid rfl rfl ?_
  go_simp
  refine (Hx.out.of false w6 S6.out.below).mono ?_
  rintro e w7 ⟨⟨vx, stx, sbx, wsx, rfl, k1, k2, hS, hP, hI, hlw⟩, hb⟩
  have S7 := Lib.hid (S6.out.step hb)
  refine ⟨HSw6.out _ hb, ?_⟩
  have HSw7 := Lib.hid (fun W (h : Below w7.heap.size w7 W) => HSw6.out W (below_step hb hb.size h))
  have Kx := Lib.hid (hP.ok _ _ hS)
  have Px := Lib.hid hP
  have Km_1 := Lib.hid (Km.out.below hb)
  clear hb k1 k2 hS hP hI hlw
  have HK := Gemv_any w7 a b vm vx v sbm sbx sb wsm wsx ws Km_1.out Kx.out S7.out.ok Pm.out.words Px.out.words Po.out.words
  rw [gemv_code Pm.out Px.out Po.out Hx.out.hn Hy.out.hn] at HK
  have HBad := Lib.hid (fun us hf hR => gemv_bad (a := a) (b := b) Pm.out Px.out Po.out Hx.out.hn Hy.out.hn (us := us) hf hR)
  have HGood := Lib.hid (fun us hf hR => gemv_good (a := a) (b := b) Pm.out Px.out Po.out Io.out.1 Io.out.2 Hx.out.hn Hy.out.hn (us := us) hf hR)
  unfold fitGv at HK HBad HGood
  have HKK := Lib.hid HK
  clear HK
  obtain ⟨q1, e1⟩ : ∃ q, q = vec8 rx cx := ⟨_, rfl⟩
  simp only [← e1] at HKK HBad HGood HVx
  have EE1 := Lib.hid e1
  clear e1
  obtain ⟨q2, e2⟩ : ∃ q, q = vec8 ry cy := ⟨_, rfl⟩
  simp only [← e2] at HKK HBad HGood HVy
  have EE2 := Lib.hid e2
  clear e2
  obtain ⟨q3, e3⟩ : ∃ q, q = decide (cm = zx.length) := ⟨_, rfl⟩
  simp only [← e3] at HKK HBad HGood t3
  have EE3 := Lib.hid e3
  clear e3
  obtain ⟨q4, e4⟩ : ∃ q, q = decide (rm = zy.length) := ⟨_, rfl⟩
  simp only [← e4] at HKK HBad HGood t4
  have EE4 := Lib.hid e4
  clear e4
  obtain ⟨E, hE⟩ : ∃ E : Int, E = (if (q1 && (q2 && (q3 && q4))) = true then (0 : Int) else 8) := ⟨_, rfl⟩
  simp only [← hE] at HKK
  have HE := Lib.hid hE
  clear hE
  refine iW_nil ?_
  go_simp
  go_wp2_with fail
  refine HKK.out.mono ?_
  rintro e w8 ⟨rfl, us, hok, hR, hW, hb⟩
  have HU := Lib.hid (And.intro hR hW)
  have L1 := Lib.hid (S7.out.kern hb hok hW)
  clear hok hR hW hb
  dsimp only
  go_wp2_with fail
  refine NoPanic.normal ?_
  obtain ⟨f01, f02, f03⟩ := (L1.out.get 0 rfl).facts
  obtain ⟨f11, f12, f13⟩ := (L1.out.get 1 rfl).facts
  obtain ⟨f21, f22, f23⟩ := (L1.out.get 2 rfl).facts
  obtain ⟨f31, f32, f33⟩ := (L1.out.get 3 rfl).facts
  go_wp2_with fail
  refine (HVx.out _).mono ?_
  rintro e w9 ⟨rfl, hb⟩
  have S9 := Lib.hid (L1.out.step hb)
  clear f01 f02 f03 f11 f12 f13 f21 f22 f23 f31 f32 f33 hb
  dsimp only
  obtain ⟨f01, f02, f03⟩ := (S9.out.get 0 rfl).facts
  obtain ⟨f11, f12, f13⟩ := (S9.out.get 1 rfl).facts
  obtain ⟨f21, f22, f23⟩ := (S9.out.get 2 rfl).facts
  obtain ⟨f31, f32, f33⟩ := (S9.out.get 3 rfl).facts
  cases q1
  · skip
    have hE := HE.out
    have hR := HBad.out us (by simp) HU.out.1
    simp only [Bool.false_and, Bool.and_false, Bool.true_and, Bool.and_true, Bool.and_self, Bool.false_eq_true, if_false, if_true] at hE
    subst hE
    have HSh := Lib.hid (fun W (h : v.Ok W sb us) hB => shows_any W v sb us ry cy ay zy py h HU.out.2 Po.out.er Po.out.ec (Hy.out.fls W hB) Hy.out.words (by have := Hy.out.hl; omega) hR)
    clear hR
    go_wp2_with (go_at_call 22; refine (num8_any _ _).mono ?_; rintro e w' ⟨rfl, rfl⟩)
    refine (HSh.out _ S9.out.ok S9.out.below).mono ?_
    rintro e w10 ⟨rfl, hb⟩
    have S10 := Lib.hid (S9.out.step hb)
    clear f01 f02 f03 f11 f12 f13 f21 f22 f23 f31 f32 f33 hb HSh
    dsimp only
    go_wp2_with fail
    refine (known08_any _).mono ?_
    rintro e w11 ⟨rfl, hb⟩
    have S11 := Lib.hid (S10.out.step hb)
    clear hb
    dsimp only
    go_wp2_with fail
    go_ret
    exact ⟨rfl, S11.out.below⟩
  · skip
    go_wp2_with fail
    refine (HVy.out _).mono ?_
    rintro e w10 ⟨rfl, hb⟩
    have S10 := Lib.hid (S9.out.step hb)
    clear f01 f02 f03 f11 f12 f13 f21 f22 f23 f31 f32 f33 hb
    dsimp only
    obtain ⟨f01, f02, f03⟩ := (S10.out.get 0 rfl).facts
    obtain ⟨f11, f12, f13⟩ := (S10.out.get 1 rfl).facts
    obtain ⟨f21, f22, f23⟩ := (S10.out.get 2 rfl).facts
    obtain ⟨f31, f32, f33⟩ := (S10.out.get 3 rfl).facts
    cases q2
    · skip
      have hE := HE.out
      have hR := HBad.out us (by simp) HU.out.1
      simp only [Bool.false_and, Bool.and_false, Bool.true_and, Bool.and_true, Bool.and_self, Bool.false_eq_true, if_false, if_true] at hE
      subst hE
      have HSh := Lib.hid (fun W (h : v.Ok W sb us) hB => shows_any W v sb us ry cy ay zy py h HU.out.2 Po.out.er Po.out.ec (Hy.out.fls W hB) Hy.out.words (by have := Hy.out.hl; omega) hR)
      clear hR
      go_wp2_with (go_at_call 22; refine (num8_any _ _).mono ?_; rintro e w' ⟨rfl, rfl⟩)
      refine (HSh.out _ S10.out.ok S10.out.below).mono ?_
      rintro e w11 ⟨rfl, hb⟩
      have S11 := Lib.hid (S10.out.step hb)
      clear f01 f02 f03 f11 f12 f13 f21 f22 f23 f31 f32 f33 hb HSh
      dsimp only
      go_wp2_with fail
      refine (known08_any _).mono ?_
      rintro e w12 ⟨rfl, hb⟩
      have S12 := Lib.hid (S11.out.step hb)
      clear hb
      dsimp only
      go_wp2_with fail
      go_ret
      exact ⟨rfl, S12.out.below⟩
    · skip
      cases q3
      · skip
        have hE := HE.out
        have hR := HBad.out us (by simp) HU.out.1
        simp only [Bool.false_and, Bool.and_false, Bool.true_and, Bool.and_true, Bool.and_self, Bool.false_eq_true, if_false, if_true] at hE
        subst hE
        have HSh := Lib.hid (fun W (h : v.Ok W sb us) hB => shows_any W v sb us ry cy ay zy py h HU.out.2 Po.out.er Po.out.ec (Hy.out.fls W hB) Hy.out.words (by have := Hy.out.hl; omega) hR)
        clear hR
        go_wp2_with (go_at_call 22; refine (num8_any _ _).mono ?_; rintro e w' ⟨rfl, rfl⟩)
        refine (HSh.out _ S10.out.ok S10.out.below).mono ?_
        rintro e w11 ⟨rfl, hb⟩
        have S11 := Lib.hid (S10.out.step hb)
        clear f01 f02 f03 f11 f12 f13 f21 f22 f23 f31 f32 f33 hb HSh
        dsimp only
        go_wp2_with fail
        refine (known08_any _).mono ?_
        rintro e w12 ⟨rfl, hb⟩
        have S12 := Lib.hid (S11.out.step hb)
        clear hb
        dsimp only
        go_wp2_with fail
        go_ret
        exact ⟨rfl, S12.out.below⟩
      · skip
        cases q4
        · skip
          have hE := HE.out
          have hR := HBad.out us (by simp) HU.out.1
          simp only [Bool.false_and, Bool.and_false, Bool.true_and, Bool.and_true, Bool.and_self, Bool.false_eq_true, if_false, if_true] at hE
          subst hE
          have HSh := Lib.hid (fun W (h : v.Ok W sb us) hB => shows_any W v sb us ry cy ay zy py h HU.out.2 Po.out.er Po.out.ec (Hy.out.fls W hB) Hy.out.words (by have := Hy.out.hl; omega) hR)
          clear hR
          go_wp2_with (go_at_call 22; refine (num8_any _ _).mono ?_; rintro e w' ⟨rfl, rfl⟩)
          refine (HSh.out _ S10.out.ok S10.out.below).mono ?_
          rintro e w11 ⟨rfl, hb⟩
          have S11 := Lib.hid (S10.out.step hb)
          clear f01 f02 f03 f11 f12 f13 f21 f22 f23 f31 f32 f33 hb HSh
          dsimp only
          go_wp2_with fail
          refine (known08_any _).mono ?_
          rintro e w12 ⟨rfl, hb⟩
          have S12 := Lib.hid (S11.out.step hb)
          clear hb
          dsimp only
          go_wp2_with fail
          go_ret
          exact ⟨rfl, S12.out.below⟩
        · skip
          have hE := HE.out
          have hR := HGood.out us rfl HU.out.1
          simp only [Bool.false_and, Bool.and_false, Bool.true_and, Bool.and_true, Bool.and_self, Bool.false_eq_true, if_false, if_true] at hE
          subst hE
          have e1 := EE1.out
          have e2 := EE2.out
          have e3 := of_decide_eq_true EE3.out.symm
          have e4 := of_decide_eq_true EE4.out.symm
          have HEE := Lib.hid (show _ ∧ _ ∧ _ ∧ _ from ⟨e1, e2, e3, e4⟩)
          clear e1 e2 e3 e4
          have HRR := Lib.hid hR
          clear hR
          go_upto_region 7 with (fail)
          clear f01 f02 f03 f11 f12 f13 f21 f22 f23 f31 f32 f33
          have hdr : Below w10.heap.size w10 w10.drew := below_drewN 1 (Below.refl _ w10)
          have S11 := Lib.hid (S10.out.step hdr)
          have HS := Lib.hid (show ∀ W, Below w10.drew.heap.size w10.drew W → (fun W => (∀ i, W.cell? ⟨w.heap.size, i, none⟩ = ([.int .i64 rm, .int .i64 cm, .slice am zm.length pm] : List Value)[i]?) ∧ (∀ i, W.cell? ⟨w.heap.size + 1, i, none⟩ = ([.int .i64 rx, .int .i64 cx, .slice ax zx.length px] : List Value)[i]?) ∧ (∀ i, W.cell? ⟨w.heap.size + 1 + 1, i, none⟩ = ([.int .i64 ry, .int .i64 cy, .slice ay zy.length py] : List Value)[i]?) ∧ (∀ i, W.cell? ⟨P, i, none⟩ = ([.pointer v.p, .int .i64 v.r, .int .i64 v.c, .int .i64 v.o, .int .i64 v.d, .int .i64 v.u] : List Value)[i]?)) W from fun W h => ⟨((S11.out.step h).get 0 rfl).cell, ((S11.out.step h).get 1 rfl).cell, ((S11.out.step h).get 2 rfl).cell, ((S11.out.step h).get 3 rfl).cell⟩)
          refine wp_region_items 15 [(true, 0), (false, 1), (true, 2), (true, 3), (true, 4), (true, 5), (true, 6), (true, 7), (true, 8), (true, 9), (true, 10), (true, 11), (true, 12), (false, 13), (false, 14)] (fun W => (∀ i, W.cell? ⟨w.heap.size, i, none⟩ = ([.int .i64 rm, .int .i64 cm, .slice am zm.length pm] : List Value)[i]?) ∧ (∀ i, W.cell? ⟨w.heap.size + 1, i, none⟩ = ([.int .i64 rx, .int .i64 cx, .slice ax zx.length px] : List Value)[i]?) ∧ (∀ i, W.cell? ⟨w.heap.size + 1 + 1, i, none⟩ = ([.int .i64 ry, .int .i64 cy, .slice ay zy.length py] : List Value)[i]?) ∧ (∀ i, W.cell? ⟨P, i, none⟩ = ([.pointer v.p, .int .i64 v.r, .int .i64 v.c, .int .i64 v.o, .int .i64 v.d, .int .i64 v.u] : List Value)[i]?)) (by kernel_rfl) (by kernel_rfl) (HS.out _ (Below.refl _ _)) ?_
          generalize w10.drew = w11 at *
          clear hdr
          iterate 1 (refine iW_take (v := ?_) rfl rfl ?_ ?_; rotate_left; (next => (intro w' hSw; (try dsimp only at hSw); go_simp; (try (rw [if_pos (by omega)]; go_simp)); (try with_reducible rfl))); (simp only [Act.put, List.setIfInBounds_toArray, List.set_cons_zero, List.set_cons_succ]))
          refine iW_mid rfl rfl ?_
          go_simp
          refine (num8_any _ _).mono ?_
          rintro e w' ⟨rfl, rfl⟩
          refine ⟨HS.out _ (Below.refl _ _), ?_⟩
          iterate 11 (refine iW_take (v := ?_) rfl rfl ?_ ?_; rotate_left; (next => (intro w' hSw; (try dsimp only at hSw); go_simp; (try (rw [if_pos (by omega)]; go_simp)); (try with_reducible rfl))); (simp only [Act.put, List.setIfInBounds_toArray, List.set_cons_zero, List.set_cons_succ]))
          refine iW_mid rfl rfl ?_
          go_simp
          refine (RGemv_any w11 a b rm cm am ax ay zm zx zy pm px py (Hm.out.fls w11 S11.out.below) (Hx.out.fls w11 S11.out.below) (Hy.out.fls w11 S11.out.below) (by have := Hm.out.hl; omega) Hm.out.hn HEE.out.2.2.1.symm HEE.out.2.2.2.symm Hm.out.hp Hm.out.hm Hm.out.hr Hm.out.hc).mono ?_
          rintro e w12 ⟨⟨dv, rfl, hO⟩, hb⟩
          have S12 := Lib.hid (S11.out.step hb)
          refine ⟨HS.out _ hb, ?_⟩
          have HSw12 := Lib.hid (fun W (h : Below w12.heap.size w12 W) => HS.out W (below_step hb hb.size h))
          obtain ⟨da, dc, rfl, hF⟩ := hO.fls
          have HF := Lib.hid hF
          clear hb hF hO
          refine iW_mid rfl rfl ?_
          go_simp
          refine (like_any w12 ry cy ay da zy.length py (gemvR a zm cm zx b zy rm).length dc).mono ?_
          rintro e w13 ⟨rfl, hb⟩
          have S13 := Lib.hid (S12.out.step hb)
          refine ⟨HSw12.out _ hb, ?_⟩
          have HSw13 := Lib.hid (fun W (h : Below w13.heap.size w13 W) => HSw12.out W (below_step hb hb.size h))
          have HF2 := Lib.hid (HF.out.below hb)
          clear hb
          have HSh := Lib.hid (shows_any w13 v sb us ry cy da (gemvR a zm cm zx b zy rm) dc S13.out.ok HU.out.2 Po.out.er Po.out.ec HF2.out (gemvR_words _ _ _ _ _ _ _) (by rw [gemvR_len _ _ _ _ _ _ _]; have := Hm.out.hr; omega) HRR.out)
          refine iW_nil ?_
          go_simp
          go_wp2_with fail
          refine HSh.out.mono ?_
          rintro e w14 ⟨rfl, hb⟩
          have S14 := Lib.hid (S13.out.step hb)
          clear hb HSh
          dsimp only
          go_wp2_with fail
          refine (known08_any _).mono ?_
          rintro e w15 ⟨rfl, hb⟩
          have S15 := Lib.hid (S14.out.step hb)
          clear hb
          dsimp only
          go_wp2_with fail
          refine NoPanic.normal ?_
          go_wp2_with fail
          go_ret
          exact ⟨rfl, S15.out.below⟩
end Go.Proofs.Ytbcdpibcieadlaa
