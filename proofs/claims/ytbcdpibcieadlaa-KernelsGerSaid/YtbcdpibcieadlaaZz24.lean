/- 'plumblinelaw08.KernelsGer', all matrices small enough (printed by gen_lw.py). No condition but on lengths. -/
import Derived.Test.YtbcdpibcieadlaaZz23
import Derived.Test.YtbcdpibcieadlaaZz2
import Derived.Deep.Slices
import Derived.Laws.Cover2
import Derived.Lib.SmallJoins
import Derived.ProofKit
import Derived.Test.YtbcdpibcieadlaaVw3Z
import Derived.Carry
namespace Go.Proofs.Ytbcdpibcieadlaa
open Go Go.RowKit
set_option maxRecDepth 1000000

set_option maxHeartbeats 16000000 in
theorem ger8_small (w : World) (a : Nat) (rx cx ry cy rm cm : Nat) (ax ay am : Option Addr) (zx zy zm : List Nat) (px py pm : Nat) (t : Bool)
    (hx : MatP w rx cx ax zx px) (hy : MatP w ry cy ay zy py) (hm : MatP w rm cm am zm pm)
    (Bx : ∀ W, Calls Try.prog 15 #[.agg #[.int .i64 rx, .int .i64 cx, .slice ax zx.length px]] W fun e w' => e = .returned (.bool false) ∧ Below W.heap.size W w') (By : ∀ W, Calls Try.prog 15 #[.agg #[.int .i64 ry, .int .i64 cy, .slice ay zy.length py]] W fun e w' => e = .returned (.bool false) ∧ Below W.heap.size W w') (Bm : ∀ W, Calls Try.prog 15 #[.agg #[.int .i64 rm, .int .i64 cm, .slice am zm.length pm]] W fun e w' => e = .returned (.bool false) ∧ Below W.heap.size W w') :
    Calls Try.prog 9 #[.float .f64 a, .agg #[.int .i64 rx, .int .i64 cx, .slice ax zx.length px], .agg #[.int .i64 ry, .int .i64 cy, .slice ay zy.length py], .agg #[.int .i64 rm, .int .i64 cm, .slice am zm.length pm], .bool t] w fun e w' => e = .returned (.bool true) ∧ Below w.heap.size w w' := by
  have Hx := Lib.hid hx
  have HBx := Lib.hid Bx
  have Hy := Lib.hid hy
  have HBy := Lib.hid By
  have Hm := Lib.hid hm
  have HBm := Lib.hid Bm
  have HVx := Lib.hid (fun W => vecM_nat rx cx ▸ RVector_any rx cx ax zx.length px W)
  have HVy := Lib.hid (fun W => vecM_nat ry cy ▸ RVector_any ry cy ay zy.length py W)
  have t3 : ((rm : Int) != (zx.length : Int)) = !decide (rm = zx.length) := by rw [Bool.eq_iff_iff]; simp; omega
  have t4 : ((cm : Int) != (zy.length : Int)) = !decide (cm = zy.length) := by rw [Bool.eq_iff_iff]; simp; omega
  clear hx Bx hy By hm Bm
  obtain ⟨W0, hW0⟩ : ∃ W0, W0 = (((w.alloc (.cells #[.int .i64 rx, .int .i64 cx, .slice ax zx.length px] 24)).alloc (.cells #[.int .i64 ry, .int .i64 cy, .slice ay zy.length py] 24)).alloc (.cells #[.int .i64 rm, .int .i64 cm, .slice am zm.length pm] 24)) := ⟨_, rfl⟩
  have hB0 : Below w.heap.size w W0 := hW0 ▸ (((Below.refl _ _).alloc (Nat.le_refl _) _).alloc (by simp) _).alloc (by simp; omega) _
  have x0 : Box W0 (w.heap.size) [.int .i64 rx, .int .i64 cx, .slice ax zx.length px] := hW0 ▸ (((Box.newA w [.int .i64 rx, .int .i64 cx, .slice ax zx.length px] _ rfl).alloc _).alloc _)
  have x1 : Box W0 (w.heap.size + 1) [.int .i64 ry, .int .i64 cy, .slice ay zy.length py] := hW0 ▸ ((Box.newA _ [.int .i64 ry, .int .i64 cy, .slice ay zy.length py] _ (by simp)).alloc _)
  have x2 : Box W0 (w.heap.size + 1 + 1) [.int .i64 rm, .int .i64 cm, .slice am zm.length pm] := hW0 ▸ (Box.newA _ [.int .i64 rm, .int .i64 cm, .slice am zm.length pm] _ (by simp))
  have S0 := Lib.hid (show BoxS w W0 [(w.heap.size, [.int .i64 rx, .int .i64 cx, .slice ax zx.length px]), (w.heap.size + 1, [.int .i64 ry, .int .i64 cy, .slice ay zy.length py]), (w.heap.size + 1 + 1, [.int .i64 rm, .int .i64 cm, .slice am zm.length pm])] from ⟨fun p hp => by
    simp only [List.mem_cons, List.not_mem_nil, or_false] at hp
    rcases hp with rfl | rfl | rfl
    · exact x0
    · exact x1
    · exact x2
    , hB0⟩)
  clear hB0 x0 x1 x2
  go_enter Try.func9, Try.ntmps9
  go_upto_region 1 with (fail)
  rw [← hW0]
  clear hW0
  obtain ⟨f01, f02, f03⟩ := (S0.out.get 0 rfl).facts
  obtain ⟨f11, f12, f13⟩ := (S0.out.get 1 rfl).facts
  obtain ⟨f21, f22, f23⟩ := (S0.out.get 2 rfl).facts
  go_wp2_with fail
  refine (HBm.out _).mono ?_
  rintro e w1 ⟨rfl, hb⟩
  have S1 := Lib.hid (S0.out.step hb)
  clear f01 f02 f03 f11 f12 f13 f21 f22 f23 hb
  dsimp only
  obtain ⟨f01, f02, f03⟩ := (S1.out.get 0 rfl).facts
  obtain ⟨f11, f12, f13⟩ := (S1.out.get 1 rfl).facts
  obtain ⟨f21, f22, f23⟩ := (S1.out.get 2 rfl).facts
  go_wp2_with fail
  refine (HBx.out _).mono ?_
  rintro e w2 ⟨rfl, hb⟩
  have S2 := Lib.hid (S1.out.step hb)
  clear f01 f02 f03 f11 f12 f13 f21 f22 f23 hb
  dsimp only
  obtain ⟨f01, f02, f03⟩ := (S2.out.get 0 rfl).facts
  obtain ⟨f11, f12, f13⟩ := (S2.out.get 1 rfl).facts
  obtain ⟨f21, f22, f23⟩ := (S2.out.get 2 rfl).facts
  go_wp2_with fail
  refine (HBy.out _).mono ?_
  rintro e w3 ⟨rfl, hb⟩
  have S3 := Lib.hid (S2.out.step hb)
  clear f01 f02 f03 f11 f12 f13 f21 f22 f23 hb
  dsimp only
  obtain ⟨f01, f02, f03⟩ := (S3.out.get 0 rfl).facts
  obtain ⟨f11, f12, f13⟩ := (S3.out.get 1 rfl).facts
  obtain ⟨f21, f22, f23⟩ := (S3.out.get 2 rfl).facts
  go_wp2_with fail
  refine (Hm.out.of t _ S3.out.below).mono ?_
  rintro e w4 ⟨⟨v, st, sb, ws, rfl, k1, k2, hS, hP, hI, hlw⟩, hb⟩
  have S4 := Lib.hid (S3.out.step hb)
  have L0 := Lib.hid (BoxS.view S4.out (hP.ok _ _ hS) hS hP.words S3.out k2)
  have Po := Lib.hid hP
  have Io := Lib.hid (And.intro hI hlw)
  clear f01 f02 f03 f11 f12 f13 f21 f22 f23 hb k1 k2 hS hP hI hlw
  unfold Vw.val
  obtain ⟨f01, f02, f03⟩ := (S4.out.get 0 rfl).facts
  obtain ⟨f11, f12, f13⟩ := (S4.out.get 1 rfl).facts
  obtain ⟨f21, f22, f23⟩ := (S4.out.get 2 rfl).facts
  go_upto_region 4 with (fail)
  clear f01 f02 f03 f11 f12 f13 f21 f22 f23
  obtain ⟨P, hPP⟩ : ∃ P, P = w4.heap.size := ⟨_, rfl⟩
  simp only [← hPP] at L0 ⊢
  generalize w4.alloc (.cells #[.pointer v.p, .int .i64 v.r, .int .i64 v.c, .int .i64 v.o, .int .i64 v.d, .int .i64 v.u] 29) = V0 at *
  clear hPP
  have hdr : Below V0.heap.size V0 V0.drew := below_drewN 1 (Below.refl _ V0)
  have S5 := Lib.hid (L0.out.step hdr)
  have HS := Lib.hid (show ∀ W, Below V0.drew.heap.size V0.drew W → (fun W => (∀ i, W.cell? ⟨w.heap.size, i, none⟩ = ([.int .i64 rx, .int .i64 cx, .slice ax zx.length px] : List Value)[i]?) ∧ (∀ i, W.cell? ⟨w.heap.size + 1, i, none⟩ = ([.int .i64 ry, .int .i64 cy, .slice ay zy.length py] : List Value)[i]?) ∧ (∀ i, W.cell? ⟨w.heap.size + 1 + 1, i, none⟩ = ([.int .i64 rm, .int .i64 cm, .slice am zm.length pm] : List Value)[i]?) ∧ (∀ i, W.cell? ⟨P, i, none⟩ = ([.pointer v.p, .int .i64 v.r, .int .i64 v.c, .int .i64 v.o, .int .i64 v.d, .int .i64 v.u] : List Value)[i]?)) W from fun W h => ⟨((S5.out.step h).get 0 rfl).cell, ((S5.out.step h).get 1 rfl).cell, ((S5.out.step h).get 2 rfl).cell, ((S5.out.step h).get 3 rfl).cell⟩)
  refine wp_region_items 7 [(true, 0), (true, 1), (true, 3), (true, 4), (true, 6), (false, 2), (false, 5)] (fun W => (∀ i, W.cell? ⟨w.heap.size, i, none⟩ = ([.int .i64 rx, .int .i64 cx, .slice ax zx.length px] : List Value)[i]?) ∧ (∀ i, W.cell? ⟨w.heap.size + 1, i, none⟩ = ([.int .i64 ry, .int .i64 cy, .slice ay zy.length py] : List Value)[i]?) ∧ (∀ i, W.cell? ⟨w.heap.size + 1 + 1, i, none⟩ = ([.int .i64 rm, .int .i64 cm, .slice am zm.length pm] : List Value)[i]?) ∧ (∀ i, W.cell? ⟨P, i, none⟩ = ([.pointer v.p, .int .i64 v.r, .int .i64 v.c, .int .i64 v.o, .int .i64 v.d, .int .i64 v.u] : List Value)[i]?)) (by kernel_rfl) (by kernel_rfl) (HS.out _ (Below.refl _ _)) ?_
  generalize V0.drew = w5 at *
  clear hdr
  iterate 5 (refine iW_take (v := ?_) rfl rfl ?_ ?_; rotate_left; (next => (intro w' hSw; (try dsimp only at hSw); go_simp; (try (rw [if_pos (by omega)]; go_simp)); (try with_reducible rfl))); (simp only [Act.put, List.setIfInBounds_toArray, List.set_cons_zero, List.set_cons_succ]))
  refine iW_mid rfl rfl ?_
  go_simp
  refine (Hx.out.of false w5 S5.out.below).mono ?_
  rintro e w6 ⟨⟨vx, stx, sbx, wsx, rfl, k1, k2, hS, hP, hI, hlw⟩, hb⟩
  have S6 := Lib.hid (S5.out.step hb)
  refine ⟨HS.out _ hb, ?_⟩
  have HSw6 := Lib.hid (fun W (h : Below w6.heap.size w6 W) => HS.out W (below_step hb hb.size h))
  have Kx := Lib.hid (hP.ok _ _ hS)
  have Px := Lib.hid hP
  clear hb k1 k2 hS hP hI hlw
  refine iW_mid rfl rfl ?_
  go_simp
  refine (Hy.out.of t w6 S6.out.below).mono ?_
  rintro e w7 ⟨⟨vy, sty, sby, wsy, rfl, k1, k2, hS, hP, hI, hlw⟩, hb⟩
  have S7 := Lib.hid (S6.out.step hb)
  refine ⟨HSw6.out _ hb, ?_⟩
  have HSw7 := Lib.hid (fun W (h : Below w7.heap.size w7 W) => HSw6.out W (below_step hb hb.size h))
  have Ky := Lib.hid (hP.ok _ _ hS)
  have Py := Lib.hid hP
  have Kx_1 := Lib.hid (Kx.out.below hb)
  clear hb k1 k2 hS hP hI hlw
  have HK := Ger_any w7 a vx vy v sbx sby sb wsx wsy ws Kx_1.out Ky.out S7.out.ok Px.out.words Py.out.words Po.out.words
  rw [ger_code Px.out Py.out Po.out Hx.out.hn Hy.out.hn] at HK
  have HBad := Lib.hid (fun us hf hR => ger_bad (a := a) Px.out Py.out Po.out Hx.out.hn Hy.out.hn Hm.out.hn (us := us) hf hR)
  have HGood := Lib.hid (fun us hf hR => ger_good (a := a) Px.out Py.out Po.out Io.out.1 Io.out.2 Hx.out.hn Hy.out.hn Hm.out.hn (us := us) hf hR)
  unfold fitGe at HK HBad HGood
  have HKK := Lib.hid HK
  clear HK
  obtain ⟨q1, e1⟩ : ∃ q, q = vec8 rx cx := ⟨_, rfl⟩
  simp only [← e1] at HKK HBad HGood HVx
  have EE1 := Lib.hid e1
  clear e1
  obtain ⟨q2, e2⟩ : ∃ q, q = vec8 ry cy := ⟨_, rfl⟩
  simp only [← e2] at HKK HBad HGood HVy
  have EE2 := Lib.hid e2
  clear e2
  obtain ⟨q3, e3⟩ : ∃ q, q = decide (rm = zx.length) := ⟨_, rfl⟩
  simp only [← e3] at HKK HBad HGood t3
  have EE3 := Lib.hid e3
  clear e3
  obtain ⟨q4, e4⟩ : ∃ q, q = decide (cm = zy.length) := ⟨_, rfl⟩
  simp only [← e4] at HKK HBad HGood t4
  have EE4 := Lib.hid e4
  clear e4
  obtain ⟨E, hE⟩ : ∃ E : Int, E = (if (q1 && (q2 && (q3 && q4))) = true then (0 : Int) else 8) := ⟨_, rfl⟩
  simp only [← hE] at HKK
  have HE := Lib.hid hE
  clear hE
  refine iW_nil ?_
  go_simp
  go_wp2_with fail
  refine HKK.out.mono ?_
  rintro e w8 ⟨rfl, us, hok, hR, hW, hb⟩
  have HU := Lib.hid (And.intro hR hW)
  have L1 := Lib.hid (S7.out.kern hb hok hW)
  clear hok hR hW hb
  dsimp only
  go_wp2_with fail
  refine NoPanic.normal ?_
  obtain ⟨f01, f02, f03⟩ := (L1.out.get 0 rfl).facts
  obtain ⟨f11, f12, f13⟩ := (L1.out.get 1 rfl).facts
  obtain ⟨f21, f22, f23⟩ := (L1.out.get 2 rfl).facts
  obtain ⟨f31, f32, f33⟩ := (L1.out.get 3 rfl).facts
  go_wp2_with fail
  refine (HVx.out _).mono ?_
  rintro e w9 ⟨rfl, hb⟩
  have S9 := Lib.hid (L1.out.step hb)
  clear f01 f02 f03 f11 f12 f13 f21 f22 f23 f31 f32 f33 hb
  dsimp only
  obtain ⟨f01, f02, f03⟩ := (S9.out.get 0 rfl).facts
  obtain ⟨f11, f12, f13⟩ := (S9.out.get 1 rfl).facts
  obtain ⟨f21, f22, f23⟩ := (S9.out.get 2 rfl).facts
  obtain ⟨f31, f32, f33⟩ := (S9.out.get 3 rfl).facts
  cases q1
  · skip
    have hE := HE.out
    have hR := HBad.out us (by simp) HU.out.1
    simp only [Bool.false_and, Bool.and_false, Bool.true_and, Bool.and_true, Bool.and_self, Bool.false_eq_true, if_false, if_true] at hE
    subst hE
    have HSh := Lib.hid (fun W (h : v.Ok W sb us) hB => shows_any W v sb us rm cm am zm pm h HU.out.2 Po.out.er Po.out.ec (Hm.out.fls W hB) Hm.out.words (by have := Hm.out.hl; omega) hR)
    clear hR
    go_wp2_with (go_at_call 22; refine (num8_any _ _).mono ?_; rintro e w' ⟨rfl, rfl⟩)
    refine (HSh.out _ S9.out.ok S9.out.below).mono ?_
    rintro e w10 ⟨rfl, hb⟩
    have S10 := Lib.hid (S9.out.step hb)
    clear f01 f02 f03 f11 f12 f13 f21 f22 f23 f31 f32 f33 hb HSh
    dsimp only
    go_wp2_with fail
    refine (known08_any _).mono ?_
    rintro e w11 ⟨rfl, hb⟩
    have S11 := Lib.hid (S10.out.step hb)
    clear hb
    dsimp only
    go_wp2_with fail
    go_ret
    exact ⟨rfl, S11.out.below⟩
  · skip
    go_wp2_with fail
    refine (HVy.out _).mono ?_
    rintro e w10 ⟨rfl, hb⟩
    have S10 := Lib.hid (S9.out.step hb)
    clear f01 f02 f03 f11 f12 f13 f21 f22 f23 f31 f32 f33 hb
    dsimp only
    obtain ⟨f01, f02, f03⟩ := (S10.out.get 0 rfl).facts
    obtain ⟨f11, f12, f13⟩ := (S10.out.get 1 rfl).facts
    obtain ⟨f21, f22, f23⟩ := (S10.out.get 2 rfl).facts
    obtain ⟨f31, f32, f33⟩ := (S10.out.get 3 rfl).facts
    cases q2
    · skip
      have hE := HE.out
      have hR := HBad.out us (by simp) HU.out.1
      simp only [Bool.false_and, Bool.and_false, Bool.true_and, Bool.and_true, Bool.and_self, Bool.false_eq_true, if_false, if_true] at hE
      subst hE
      have HSh := Lib.hid (fun W (h : v.Ok W sb us) hB => shows_any W v sb us rm cm am zm pm h HU.out.2 Po.out.er Po.out.ec (Hm.out.fls W hB) Hm.out.words (by have := Hm.out.hl; omega) hR)
      clear hR
      go_wp2_with (go_at_call 22; refine (num8_any _ _).mono ?_; rintro e w' ⟨rfl, rfl⟩)
      refine (HSh.out _ S10.out.ok S10.out.below).mono ?_
      rintro e w11 ⟨rfl, hb⟩
      have S11 := Lib.hid (S10.out.step hb)
      clear f01 f02 f03 f11 f12 f13 f21 f22 f23 f31 f32 f33 hb HSh
      dsimp only
      go_wp2_with fail
      refine (known08_any _).mono ?_
      rintro e w12 ⟨rfl, hb⟩
      have S12 := Lib.hid (S11.out.step hb)
      clear hb
      dsimp only
      go_wp2_with fail
      go_ret
      exact ⟨rfl, S12.out.below⟩
    · skip
      cases q3
      · skip
        have hE := HE.out
        have hR := HBad.out us (by simp) HU.out.1
        simp only [Bool.false_and, Bool.and_false, Bool.true_and, Bool.and_true, Bool.and_self, Bool.false_eq_true, if_false, if_true] at hE
        subst hE
        have HSh := Lib.hid (fun W (h : v.Ok W sb us) hB => shows_any W v sb us rm cm am zm pm h HU.out.2 Po.out.er Po.out.ec (Hm.out.fls W hB) Hm.out.words (by have := Hm.out.hl; omega) hR)
        clear hR
        go_wp2_with (go_at_call 22; refine (num8_any _ _).mono ?_; rintro e w' ⟨rfl, rfl⟩)
        refine (HSh.out _ S10.out.ok S10.out.below).mono ?_
        rintro e w11 ⟨rfl, hb⟩
        have S11 := Lib.hid (S10.out.step hb)
        clear f01 f02 f03 f11 f12 f13 f21 f22 f23 f31 f32 f33 hb HSh
        dsimp only
        go_wp2_with fail
        refine (known08_any _).mono ?_
        rintro e w12 ⟨rfl, hb⟩
        have S12 := Lib.hid (S11.out.step hb)
        clear hb
        dsimp only
        go_wp2_with fail
        go_ret
        exact ⟨rfl, S12.out.below⟩
      · skip
        cases q4
        · skip
          have hE := HE.out
          have hR := HBad.out us (by simp) HU.out.1
          simp only [Bool.false_and, Bool.and_false, Bool.true_and, Bool.and_true, Bool.and_self, Bool.false_eq_true, if_false, if_true] at hE
          subst hE
          have HSh := Lib.hid (fun W (h : v.Ok W sb us) hB => shows_any W v sb us rm cm am zm pm h HU.out.2 Po.out.er Po.out.ec (Hm.out.fls W hB) Hm.out.words (by have := Hm.out.hl; omega) hR)
          clear hR
          go_wp2_with (go_at_call 22; refine (num8_any _ _).mono ?_; rintro e w' ⟨rfl, rfl⟩)
          refine (HSh.out _ S10.out.ok S10.out.below).mono ?_
          rintro e w11 ⟨rfl, hb⟩
          have S11 := Lib.hid (S10.out.step hb)
          clear f01 f02 f03 f11 f12 f13 f21 f22 f23 f31 f32 f33 hb HSh
          dsimp only
          go_wp2_with fail
          refine (known08_any _).mono ?_
          rintro e w12 ⟨rfl, hb⟩
          have S12 := Lib.hid (S11.out.step hb)
          clear hb
          dsimp only
          go_wp2_with fail
          go_ret
          exact ⟨rfl, S12.out.below⟩
        · skip
          have hE := HE.out
          have hR := HGood.out us rfl HU.out.1
          simp only [Bool.false_and, Bool.and_false, Bool.true_and, Bool.and_true, Bool.and_self, Bool.false_eq_true, if_false, if_true] at hE
          subst hE
          have e1 := EE1.out
          have e2 := EE2.out
          have e3 := of_decide_eq_true EE3.out.symm
          have e4 := of_decide_eq_true EE4.out.symm
          have HEE := Lib.hid (show _ ∧ _ ∧ _ ∧ _ from ⟨e1, e2, e3, e4⟩)
          clear e1 e2 e3 e4
          have HRR := Lib.hid hR
          clear hR
          go_upto_region 7 with (fail)
          clear f01 f02 f03 f11 f12 f13 f21 f22 f23 f31 f32 f33
          have hdr : Below w10.heap.size w10 w10.drew := below_drewN 1 (Below.refl _ w10)
          have S11 := Lib.hid (S10.out.step hdr)
          have HS := Lib.hid (show ∀ W, Below w10.drew.heap.size w10.drew W → (fun W => (∀ i, W.cell? ⟨w.heap.size, i, none⟩ = ([.int .i64 rx, .int .i64 cx, .slice ax zx.length px] : List Value)[i]?) ∧ (∀ i, W.cell? ⟨w.heap.size + 1, i, none⟩ = ([.int .i64 ry, .int .i64 cy, .slice ay zy.length py] : List Value)[i]?) ∧ (∀ i, W.cell? ⟨w.heap.size + 1 + 1, i, none⟩ = ([.int .i64 rm, .int .i64 cm, .slice am zm.length pm] : List Value)[i]?) ∧ (∀ i, W.cell? ⟨P, i, none⟩ = ([.pointer v.p, .int .i64 v.r, .int .i64 v.c, .int .i64 v.o, .int .i64 v.d, .int .i64 v.u] : List Value)[i]?)) W from fun W h => ⟨((S11.out.step h).get 0 rfl).cell, ((S11.out.step h).get 1 rfl).cell, ((S11.out.step h).get 2 rfl).cell, ((S11.out.step h).get 3 rfl).cell⟩)
          refine wp_region_items 12 [(true, 0), (false, 1), (true, 2), (true, 3), (true, 4), (true, 5), (true, 6), (true, 7), (true, 8), (true, 9), (true, 10), (false, 11)] (fun W => (∀ i, W.cell? ⟨w.heap.size, i, none⟩ = ([.int .i64 rx, .int .i64 cx, .slice ax zx.length px] : List Value)[i]?) ∧ (∀ i, W.cell? ⟨w.heap.size + 1, i, none⟩ = ([.int .i64 ry, .int .i64 cy, .slice ay zy.length py] : List Value)[i]?) ∧ (∀ i, W.cell? ⟨w.heap.size + 1 + 1, i, none⟩ = ([.int .i64 rm, .int .i64 cm, .slice am zm.length pm] : List Value)[i]?) ∧ (∀ i, W.cell? ⟨P, i, none⟩ = ([.pointer v.p, .int .i64 v.r, .int .i64 v.c, .int .i64 v.o, .int .i64 v.d, .int .i64 v.u] : List Value)[i]?)) (by kernel_rfl) (by kernel_rfl) (HS.out _ (Below.refl _ _)) ?_
          generalize w10.drew = w11 at *
          clear hdr
          iterate 1 (refine iW_take (v := ?_) rfl rfl ?_ ?_; rotate_left; (next => (intro w' hSw; (try dsimp only at hSw); go_simp; (try (rw [if_pos (by omega)]; go_simp)); (try with_reducible rfl))); (simp only [Act.put, List.setIfInBounds_toArray, List.set_cons_zero, List.set_cons_succ]))
          refine iW_mid rfl rfl ?_
          go_simp
          refine (num8_any _ _).mono ?_
          rintro e w' ⟨rfl, rfl⟩
          refine ⟨HS.out _ (Below.refl _ _), ?_⟩
          iterate 9 (refine iW_take (v := ?_) rfl rfl ?_ ?_; rotate_left; (next => (intro w' hSw; (try dsimp only at hSw); go_simp; (try (rw [if_pos (by omega)]; go_simp)); (try with_reducible rfl))); (simp only [Act.put, List.setIfInBounds_toArray, List.set_cons_zero, List.set_cons_succ]))
          refine iW_mid rfl rfl ?_
          go_simp
          refine (RGer_any w11 a rm cm am ax ay zm zx zy pm px py (Hm.out.fls w11 S11.out.below) (Hx.out.fls w11 S11.out.below) (Hy.out.fls w11 S11.out.below) (by have := Hm.out.hl; omega) (by have := Hx.out.hl; omega) (by have := Hy.out.hl; omega) Hm.out.hn Hm.out.hr Hm.out.hc HEE.out.2.2.1 HEE.out.2.2.2).mono ?_
          rintro e w12 ⟨⟨da, dc, rfl, hF⟩, hb⟩
          have S12 := Lib.hid (S11.out.step hb)
          refine ⟨HS.out _ hb, ?_⟩
          have HSw12 := Lib.hid (fun W (h : Below w12.heap.size w12 W) => HS.out W (below_step hb hb.size h))
          have HF := Lib.hid hF
          clear hb hF
          have HSh := Lib.hid (shows_any w12 v sb us rm cm da (fillL (gerD a zx zy zm cm) cm zm (rm * cm)) dc S12.out.ok HU.out.2 Po.out.er Po.out.ec HF.out (fillL_words Hm.out.words (fun i j => gerD_lt _ _ _ _ _ _ _) _) (by rw [fillL_len]; have := Hm.out.hl; omega) HRR.out)
          refine iW_nil ?_
          go_simp
          go_wp2_with fail
          refine HSh.out.mono ?_
          rintro e w13 ⟨rfl, hb⟩
          have S13 := Lib.hid (S12.out.step hb)
          clear hb HSh
          dsimp only
          go_wp2_with fail
          refine (known08_any _).mono ?_
          rintro e w14 ⟨rfl, hb⟩
          have S14 := Lib.hid (S13.out.step hb)
          clear hb
          dsimp only
          go_wp2_with fail
          refine NoPanic.normal ?_
          go_wp2_with fail
          go_ret
          exact ⟨rfl, S14.out.below⟩
end Go.Proofs.Ytbcdpibcieadlaa

/- 'plumblinelaw08.KernelsGer' at every input (printed by gen_lw.py). No condition but on lengths. -/
namespace Go.Proofs.Ytbcdpibcieadlaa
open Go Go.RowKit
set_option maxRecDepth 1000000

set_option maxHeartbeats 8000000 in
theorem ger8_any (w : World) (a : Nat) (rx cx : Int) (ax : Option Addr) (zx : List Nat) (px : Nat) (ry cy : Int) (ay : Option Addr) (zy : List Nat) (py : Nat) (rm cm : Int) (am : Option Addr) (zm : List Nat) (pm : Nat) (t : Bool) (_ha : a < 18446744073709551616) (hZx : Cel w ax zx) (hWx : Words zx) (hlx : zx.length ≤ maxLen) (hkx : zx.length ≤ px) (hmx : px ≤ maxLen) (hZy : Cel w ay zy) (hWy : Words zy) (hly : zy.length ≤ maxLen) (hky : zy.length ≤ py) (hmy : py ≤ maxLen) (hZm : Cel w am zm) (hWm : Words zm) (hlm : zm.length ≤ maxLen) (hkm : zm.length ≤ pm) (hmm : pm ≤ maxLen) :
    Calls Try.prog 9 #[.float .f64 a, .agg #[.int .i64 rx, .int .i64 cx, .slice ax zx.length px], .agg #[.int .i64 ry, .int .i64 cy, .slice ay zy.length py], .agg #[.int .i64 rm, .int .i64 cm, .slice am zm.length pm], .bool t] w fun e w' => e = .returned (.bool true) ∧ Below w.heap.size w w' := by
  have Bx := fun W => big8_any rx cx ax zx.length px W hlx
  have By := fun W => big8_any ry cy ay zy.length py W hly
  have Bm := fun W => big8_any rm cm am zm.length pm W hlm
  by_cases hs : (!mayM rx cx zx.length || decide (150 < zx.length)) = false ∧ (!mayM ry cy zy.length || decide (150 < zy.length)) = false ∧ (!mayM rm cm zm.length || decide (150 < zm.length)) = false
  · obtain ⟨gx, gy, gm⟩ := hs
    rw [gx] at Bx
    rw [gy] at By
    rw [gm] at Bm
    simp only [Bool.or_eq_false_iff, Bool.not_eq_false', decide_eq_false_iff_not] at gx gy gm
    obtain ⟨rx, cx, rfl, rfl, ux, vx, nx⟩ := mayM_nat gx.1
    obtain ⟨ry, cy, rfl, rfl, uy, vy, ny⟩ := mayM_nat gy.1
    obtain ⟨rm, cm, rfl, rfl, um, vm, nm⟩ := mayM_nat gm.1
    exact ger8_small w a rx cx ry cy rm cm ax ay am zx zy zm px py pm t ⟨hZx, hWx, ux, vx, nx, by omega, hkx, hmx⟩ ⟨hZy, hWy, uy, vy, ny, by omega, hky, hmy⟩ ⟨hZm, hWm, um, vm, nm, by omega, hkm, hmm⟩ Bx By Bm
  · skip
    obtain ⟨W0, hW0⟩ : ∃ W0, W0 = (((w.alloc (.cells #[.int .i64 rx, .int .i64 cx, .slice ax zx.length px] 24)).alloc (.cells #[.int .i64 ry, .int .i64 cy, .slice ay zy.length py] 24)).alloc (.cells #[.int .i64 rm, .int .i64 cm, .slice am zm.length pm] 24)) := ⟨_, rfl⟩
    have hB0 : Below w.heap.size w W0 := hW0 ▸ (((Below.refl _ _).alloc (Nat.le_refl _) _).alloc (by simp) _).alloc (by simp; omega) _
    have x0 : Box W0 (w.heap.size) [.int .i64 rx, .int .i64 cx, .slice ax zx.length px] := hW0 ▸ (((Box.newA w [.int .i64 rx, .int .i64 cx, .slice ax zx.length px] _ rfl).alloc _).alloc _)
    have x1 : Box W0 (w.heap.size + 1) [.int .i64 ry, .int .i64 cy, .slice ay zy.length py] := hW0 ▸ ((Box.newA _ [.int .i64 ry, .int .i64 cy, .slice ay zy.length py] _ (by simp)).alloc _)
    have x2 : Box W0 (w.heap.size + 1 + 1) [.int .i64 rm, .int .i64 cm, .slice am zm.length pm] := hW0 ▸ (Box.newA _ [.int .i64 rm, .int .i64 cm, .slice am zm.length pm] _ (by simp))
    have S0 := Lib.hid (show BoxS w W0 [(w.heap.size, [.int .i64 rx, .int .i64 cx, .slice ax zx.length px]), (w.heap.size + 1, [.int .i64 ry, .int .i64 cy, .slice ay zy.length py]), (w.heap.size + 1 + 1, [.int .i64 rm, .int .i64 cm, .slice am zm.length pm])] from ⟨fun p hp => by
      simp only [List.mem_cons, List.not_mem_nil, or_false] at hp
      rcases hp with rfl | rfl | rfl
      · exact x0
      · exact x1
      · exact x2
      , hB0⟩)
    clear hB0 x0 x1 x2
    have HBx := Lib.hid Bx
    have HBy := Lib.hid By
    have HBm := Lib.hid Bm
    clear Bx hZx hWx hlx hkx hmx By hZy hWy hly hky hmy Bm hZm hWm hlm hkm hmm
    generalize (!mayM rx cx zx.length || decide (150 < zx.length)) = qx at *
    generalize (!mayM ry cy zy.length || decide (150 < zy.length)) = qy at *
    generalize (!mayM rm cm zm.length || decide (150 < zm.length)) = qm at *
    have HS := Lib.hid hs
    clear hs
    go_enter Try.func9, Try.ntmps9
    go_upto_region 1 with (fail)
    rw [← hW0]
    clear hW0
    obtain ⟨f01, f02, f03⟩ := (S0.out.get 0 rfl).facts
    obtain ⟨f11, f12, f13⟩ := (S0.out.get 1 rfl).facts
    obtain ⟨f21, f22, f23⟩ := (S0.out.get 2 rfl).facts
    go_wp2_with fail
    refine (HBm.out _).mono ?_
    rintro e w1 ⟨rfl, hb⟩
    have S1 := Lib.hid (S0.out.step hb)
    clear hb f01 f02 f03 f11 f12 f13 f21 f22 f23
    dsimp only
    cases qm
    case true =>
      go_wp2_with fail
      refine (known08_any _).mono ?_
      rintro e w9 ⟨rfl, hb⟩
      have S9 := Lib.hid (S1.out.step hb)
      clear hb
      dsimp only
      go_wp2_with fail
      go_ret
      exact ⟨rfl, S9.out.below⟩
    case false =>
    obtain ⟨f01, f02, f03⟩ := (S1.out.get 0 rfl).facts
    obtain ⟨f11, f12, f13⟩ := (S1.out.get 1 rfl).facts
    obtain ⟨f21, f22, f23⟩ := (S1.out.get 2 rfl).facts
    go_wp2_with fail
    refine (HBx.out _).mono ?_
    rintro e w2 ⟨rfl, hb⟩
    have S2 := Lib.hid (S1.out.step hb)
    clear hb f01 f02 f03 f11 f12 f13 f21 f22 f23
    dsimp only
    cases qx
    case true =>
      go_wp2_with fail
      refine (known08_any _).mono ?_
      rintro e w9 ⟨rfl, hb⟩
      have S9 := Lib.hid (S2.out.step hb)
      clear hb
      dsimp only
      go_wp2_with fail
      go_ret
      exact ⟨rfl, S9.out.below⟩
    case false =>
    obtain ⟨f01, f02, f03⟩ := (S2.out.get 0 rfl).facts
    obtain ⟨f11, f12, f13⟩ := (S2.out.get 1 rfl).facts
    obtain ⟨f21, f22, f23⟩ := (S2.out.get 2 rfl).facts
    go_wp2_with fail
    refine (HBy.out _).mono ?_
    rintro e w3 ⟨rfl, hb⟩
    have S3 := Lib.hid (S2.out.step hb)
    clear hb f01 f02 f03 f11 f12 f13 f21 f22 f23
    dsimp only
    cases qy
    case true =>
      go_wp2_with fail
      refine (known08_any _).mono ?_
      rintro e w9 ⟨rfl, hb⟩
      have S9 := Lib.hid (S3.out.step hb)
      clear hb
      dsimp only
      go_wp2_with fail
      go_ret
      exact ⟨rfl, S9.out.below⟩
    case false =>
    exact absurd (by simp) HS.out
end Go.Proofs.Ytbcdpibcieadlaa

/- Arguments opened: slices of floats; a way up for results. No condition. -/
namespace Go.Proofs.Ytbcdpibcieadlaa
open Go Go.RowKit Go.ChangeShapes Go.WideShapes Go.Deep

section
variable {H : Type} {enc : TypeId × Value → H} {P : Program} {w : World} {base : Nat} {spare : Nat → Bool} {held : Bool}

theorem trod_f64 {fuel : Nat} {t : TypeId} {cs : List Value} {x : DataW H × List MemPlace} (ht : P.underlying t = some (.float .f64)) (h : DataW.trod enc P w base spare held fuel t cs = some x) : ∃ n, cs = [.float .f64 n] ∧ x = (.lit (.float .f64 n), []) ∧ n < 18446744073709551616 := by
  cases fuel with
  | zero => simp [DataW.trod] at h
  | succ n =>
    unfold DataW.trod at h
    rw [ht] at h
    split at h <;> simp_all
    rename_i k k' b hk
    subst hk
    obtain ⟨⟨rfl, hw⟩, rfl⟩ := h
    simp [Lit.wf] at hw
    exact hw

/-- A slice of floats: where it lies, its floats. -/
theorem open_fls {t e : TypeId} {fuel : Nat} {v : Value} {x : DataW H × List MemPlace} (ht : P.underlying t = some (.slice e)) (he : P.underlying e = some (.float .f64)) (hc : P.cellsOf e = 1) (h : DataW.trod enc P w base spare held fuel t [v] = some x) :
    ∃ (a : Option Addr) (zs : List Nat) (cap : Nat), v = .slice a zs.length cap ∧ Fls w a zs ∧ Words zs ∧ zs.length ≤ maxLen := by
  rcases open_slice1 ht hc h with ⟨h1, h2⟩ | ⟨a, len, cap, m, n, V, D, Pl, h1, hb, hl, hm, hmm, h2, hx⟩
  · simp only [List.cons.injEq, and_true] at h1
    subst h1
    exact ⟨none, [], 0, rfl, fun hz => absurd rfl hz, fun v hv => (by cases hv), Nat.zero_le _⟩
  · simp only [List.cons.injEq, and_true] at h1
    subst h1
    have hlm : len ≤ m := by rw [hmm]; split <;> omega
    obtain ⟨F, hF⟩ := choose_lt (α := Nat) (p := fun i x => w.cell? (a.add i) = some (.float .f64 x) ∧ x < 18446744073709551616) (n := len) (fun i hi => by
      obtain ⟨c, ht2⟩ := hx i (by omega)
      obtain ⟨x, hx1, _, hx2⟩ := trod_f64 he ht2
      simp only [List.cons.injEq, and_true] at hx1
      exact ⟨x, by rw [c, hx1], hx2⟩)
    refine ⟨some a, (List.range len).map F, cap, by simp, ?_, ?_, by simp; omega⟩
    · intro hz
      have hlen : 0 < len := by
        cases len with
        | zero => exact absurd rfl hz
        | succ n => omega
      have h0 := (hF 0 hlen).1
      obtain ⟨b, off, spot⟩ := a
      have hsp : spot = none ∧ b < w.heap.size := by
        unfold Addr.add World.cell? at h0
        simp only [if_true] at h0
        cases hh : w.heap[b]? with
        | none => rw [hh] at h0; cases h0
        | some o =>
          rw [hh] at h0
          refine ⟨?_, (Array.getElem?_eq_some_iff.1 hh).1⟩
          cases o with
          | cells c T r => simp only [] at h0; cases spot with
            | none => rfl
            | some s => simp at h0
          | _ => simp at h0
      obtain ⟨rfl, hbl⟩ := hsp
      refine ⟨b, off, rfl, hbl, fun i v hv => ?_⟩
      simp only [List.getElem?_map, Option.map_eq_some_iff] at hv
      obtain ⟨j, hj, rfl⟩ := hv
      have hi : i < len := by
        by_cases hi : i < len
        · exact hi
        · rw [List.getElem?_eq_none (by simp; omega)] at hj; cases hj
      rw [List.getElem?_range hi] at hj
      cases hj
      have := (hF i hi).1
      have ha : (Addr.add ⟨b, off, none⟩ i) = ⟨b, off + i, none⟩ := by
        unfold Addr.add
        split
        · subst_vars; rfl
        · rfl
      rw [ha] at this
      obtain ⟨s, hs⟩ := raw_self (hF i hi).2
      exact ⟨s, by rw [this, ← hs]⟩
    · intro v hv
      simp only [List.mem_map, List.mem_range] at hv
      obtain ⟨i, hi, rfl⟩ := hv
      exact (hF i hi).2
end
end Go.Proofs.Ytbcdpibcieadlaa

/- A law's row closed: the result is true, nothing that was there has turned, each argument reads as it did. No condition. -/
namespace Go.Proofs.Ytbcdpibcieadlaa
open Go Go.RowKit Go.ChangeShapes Go.WideShapes

section
variable {H : Type} {enc : TypeId × Value → H} {P : Program}

theorem trodAll_stays (hl : laidOutB P = true) {W W' : World} {sp : Nat → Bool} : ∀ {ts : List TypeId} {vs : List Value} {ds : List (DataW H)} {ps : List MemPlace},
    ts.all (fun t => P.readableRec t && decide (t < P.types.size)) = true → DataW.TrodAll enc P W 0 (fun _ => true) true ts vs ds ps → (∀ p ∈ ps, W.sameAt W' p) → (∀ p ∈ ps, sp p.block = true) → DataW.TrodAll enc P W' 0 sp true ts vs ds ps
  | [], _, _, _, _, h, _, _ => by
    obtain ⟨rfl, rfl, rfl⟩ := trodAll_nil h
    rfl
  | t :: ts, _, _, _, ht, h, h1, h2 => by
    obtain ⟨v, vs, d, ds, p, q, rfl, rfl, rfl, hd, hr⟩ := trodAll_cons h
    simp only [List.all_cons, Bool.and_eq_true, decide_eq_true_eq] at ht
    refine ⟨p, q, WideElems.Trod_stays hl ht.1.1 ht.1.2 hd (fun x hx => h1 x (by simp [hx])) (fun x hx => h2 x (by simp [hx])), trodAll_stays hl ht.2 hr (fun x hx => h1 x (by simp [hx])) (fun x hx => h2 x (by simp [hx])), rfl⟩

/-- What a law's row asks in the end. -/
theorem post_of_below {f : Func} {s : ChangeSpec} {apart fresh handsOn again : Bool} {W W' : World} {args : Array Value} {ds : List (DataW H)} {before : List MemPlace} {tb : TypeId}
    (hl : laidOutB P = true) (hread : f.params.toList.all (fun t => P.readableRec t && decide (t < P.types.size)) = true) (hv : s.vars = [])
    (hW : DataW.Whole enc P f.params.toList s.vars apart W args.toList ds [] before)
    (hs : s.fn H ds = { results := [.lit (.bool true)], args := ds }) (hb : Below W.heap.size W W') (hr : f.resultTypes = #[tb]) (htb : P.underlying tb = some .bool) :
    s.post enc P f apart fresh handsOn again W args (.bool true) W' := by
  have hlt : ∀ p ∈ before, p.block < W.heap.size := fun p hp => hW.lt p hp
  have hsame : ∀ p ∈ before, W.sameAt W' p := fun p hp => hb.same (hlt p hp)
  have hW0 := hW
  obtain ⟨p, q, hA, hV, rfl, hz, hn⟩ := hW0
  have hq : q = [] := by rw [hv] at hV; exact hV
  subst hq
  rw [List.append_nil] at hlt hsame hz hn
  have hres : ∀ (b : Nat) (sp : Nat → Bool) (hd : Bool), DataW.TrodAll enc P W' b sp hd f.resultTypes.toList ((Value.bool true).resultList f.resultTypes.size) (s.fn H (ds ++ [])).results [] := by
    intro b sp hd
    rw [List.append_nil, hs, hr]
    exact trodAll_mk1 (shut_bool htb _)
  have hargs : ∀ sp : Nat → Bool, (∀ x ∈ p, sp x.block = true) → DataW.TrodAll enc P W' 0 sp true f.params.toList args.toList (s.fn H (ds ++ [])).args p := by
    intro sp hsp
    rw [List.append_nil, hs]
    exact trodAll_stays hl hread hA hsame hsp
  have hvars : ∀ sp : Nat → Bool, DataW.TrodVars enc P W' sp s.vars (s.fn H (ds ++ [])).vars [] := by
    intro sp
    rw [List.append_nil, hs, hv]
    rfl
  have hold : ∀ x ∈ p, (fun b => decide (b < W.heap.size)) x.block = true := fun x hx => by simpa using hlt x hx
  refine ⟨ds, [], p ++ [], [], p, [], hW, hres _ _ _, hargs _ hold, hvars _, hb.frame _, fun _ => ?_⟩
  refine ⟨?_, _, _, ([] ++ p) ++ [], ⟨[] ++ p, [], trodAll_append (hargs _ (fun _ _ => rfl)) (hres _ _ _), hvars _, rfl, ?_, ?_⟩, ?_⟩
  · exact ok_one hr rfl (okWide_bool_mk htb _)
  · intro b off hp
    have h1 := hlt (MemPlace.cell b off) (by simpa using hp)
    rw [hb.frozen (p := ⟨b, off, none⟩) h1]
    exact hz b off (by simpa using hp)
  · intro ha
    have := hn ha
    simpa using this
  · intro x hx _
    simpa using hx
end
end Go.Proofs.Ytbcdpibcieadlaa

/- Arguments opened: slices of floats, cell by cell; a struct of five. No condition. -/
namespace Go.Proofs.Ytbcdpibcieadlaa
open Go Go.RowKit Go.ChangeShapes Go.WideShapes Go.Deep

section
variable {H : Type} {enc : TypeId × Value → H} {P : Program} {w : World} {base : Nat} {spare : Nat → Bool} {held : Bool}

/-- A slice of floats: where it lies, its floats. -/
theorem open_cel {t e : TypeId} {fuel : Nat} {v : Value} {x : DataW H × List MemPlace} (ht : P.underlying t = some (.slice e)) (he : P.underlying e = some (.float .f64)) (hc : P.cellsOf e = 1) (h : DataW.trod enc P w base spare held fuel t [v] = some x) :
    ∃ (a : Option Addr) (zs : List Nat) (cap : Nat), v = .slice a zs.length cap ∧ Cel w a zs ∧ Words zs ∧ zs.length ≤ maxLen := by
  rcases open_slice1 ht hc h with ⟨h1, h2⟩ | ⟨a, len, cap, m, n, V, D, Pl, h1, hb, hl, hm, hmm, h2, hx⟩
  · simp only [List.cons.injEq, and_true] at h1
    subst h1
    exact ⟨none, [], 0, rfl, fun hz => absurd rfl hz, fun v hv => (by cases hv), Nat.zero_le _⟩
  · simp only [List.cons.injEq, and_true] at h1
    subst h1
    have hlm : len ≤ m := by rw [hmm]; split <;> omega
    obtain ⟨F, hF⟩ := choose_lt (α := Nat) (p := fun i x => w.cell? (a.add i) = some (.float .f64 x) ∧ x < 18446744073709551616) (n := len) (fun i hi => by
      obtain ⟨c, ht2⟩ := hx i (by omega)
      obtain ⟨x, hx1, _, hx2⟩ := trod_f64 he ht2
      simp only [List.cons.injEq, and_true] at hx1
      exact ⟨x, by rw [c, hx1], hx2⟩)
    refine ⟨some a, (List.range len).map F, cap, by simp, ?_, ?_, by simp; omega⟩
    · intro hz
      have hlen : 0 < len := by
        cases len with
        | zero => exact absurd rfl hz
        | succ n => omega
      have h0 := (hF 0 hlen).1
      obtain ⟨b, off, spot⟩ := a
      have hsp : spot = none ∧ b < w.heap.size := by
        unfold Addr.add World.cell? at h0
        simp only [if_true] at h0
        cases hh : w.heap[b]? with
        | none => rw [hh] at h0; cases h0
        | some o =>
          rw [hh] at h0
          refine ⟨?_, (Array.getElem?_eq_some_iff.1 hh).1⟩
          cases o with
          | cells c T r => simp only [] at h0; cases spot with
            | none => rfl
            | some s => simp at h0
          | _ => simp at h0
      obtain ⟨rfl, hbl⟩ := hsp
      refine ⟨b, off, rfl, hbl, fun i v hv => ?_⟩
      simp only [List.getElem?_map, Option.map_eq_some_iff] at hv
      obtain ⟨j, hj, rfl⟩ := hv
      have hi : i < len := by
        by_cases hi : i < len
        · exact hi
        · rw [List.getElem?_eq_none (by simp; omega)] at hj; cases hj
      rw [List.getElem?_range hi] at hj
      cases hj
      have := (hF i hi).1
      have ha : (Addr.add ⟨b, off, none⟩ i) = ⟨b, off + i, none⟩ := by
        unfold Addr.add
        split
        · subst_vars; rfl
        · rfl
      rw [ha] at this
      exact this
    · intro v hv
      simp only [List.mem_map, List.mem_range] at hv
      obtain ⟨i, hi, rfl⟩ := hv
      exact (hF i hi).2

theorem array5 {α : Type} {cs : Array α} (h : cs.size = 5) : ∃ c0 c1 c2 c3 c4, cs = #[c0, c1, c2, c3, c4] := by
  obtain ⟨l⟩ := cs
  match l, h with
  | [c0, c1, c2, c3, c4], _ => exact ⟨c0, c1, c2, c3, c4, rfl⟩

/-- Five ints, by value. -/
theorem trod_ints5 {t ti : TypeId} {fuel : Nat} {cs : List Value} {x : DataW H × List MemPlace} {f0 f1 f2 f3 f4 : Field} (hs : P.underlying t = some (.struct #[f0, f1, f2, f3, f4]))
    (hf : [f0, f1, f2, f3, f4].all (fun f => f.type == ti) = true) (ho : f0.offset = 0 ∧ f1.offset = 1 ∧ f2.offset = 2 ∧ f3.offset = 3 ∧ f4.offset = 4) (hi : P.underlying ti = some (.int .i64)) (hc : P.cellsOf ti = 1) (hC : P.cellsOf t = 5)
    (h : DataW.trod enc P w base spare held fuel t cs = some x) : ∃ K A B C D : Int, cs = [.int .i64 K, .int .i64 A, .int .i64 B, .int .i64 C, .int .i64 D] ∧ x.2 = [] := by
  obtain ⟨xs, n, _, rfl, hl, hlen, hfl⟩ := DataW.trod_struct hs h
  rw [hC] at hl
  obtain ⟨c0, c1, c2, c3, c4, hcs⟩ := array5 (cs := cs.toArray) (by simpa using hl)
  obtain rfl : cs = [c0, c1, c2, c3, c4] := by simpa using congrArg Array.toList hcs
  simp only [List.all_cons, List.all_nil, Bool.and_eq_true, beq_iff_eq, and_true] at hf
  obtain ⟨e0, e1, e2, e3, e4⟩ := hf
  obtain ⟨o0, o1, o2, o3, o4⟩ := ho
  match xs, hlen with
  | [y0, y1, y2, y3, y4], _ =>
    have g0 := hfl 0 f0 rfl
    have g1 := hfl 1 f1 rfl
    have g2 := hfl 2 f2 rfl
    have g3 := hfl 3 f3 rfl
    have g4 := hfl 4 f4 rfl
    simp only [e0, e1, e2, e3, e4, o0, o1, o2, o3, o4, hc, List.drop_zero, List.drop_succ_cons, List.take_succ_cons, List.take_zero, List.getElem?_cons_zero, List.getElem?_cons_succ] at g0 g1 g2 g3 g4
    obtain ⟨K, k1, k2, _⟩ := DataW.trod_int hi g0
    obtain ⟨A, a1, a2, _⟩ := DataW.trod_int hi g1
    obtain ⟨B, b1, b2, _⟩ := DataW.trod_int hi g2
    obtain ⟨C, c1, c2, _⟩ := DataW.trod_int hi g3
    obtain ⟨D, d1, d2, _⟩ := DataW.trod_int hi g4
    simp only [List.cons.injEq, and_true] at k1 a1 b1 c1 d1
    refine ⟨K, A, B, C, D, by rw [k1, a1, b1, c1, d1], ?_⟩
    simp [k2, a2, b2, c2, d2]

theorem open_step {r : Reach} {b0 : Nat} {t ti : TypeId} {v : Value} {d : DataW H} {p : List MemPlace} {f0 f1 f2 f3 f4 : Field} (hs : P.underlying t = some (.struct #[f0, f1, f2, f3, f4]))
    (hf : [f0, f1, f2, f3, f4].all (fun f => f.type == ti) = true) (ho : f0.offset = 0 ∧ f1.offset = 1 ∧ f2.offset = 2 ∧ f3.offset = 3 ∧ f4.offset = 4) (hi : P.underlying ti = some (.int .i64)) (hc : P.cellsOf ti = 1) (hC : P.cellsOf t = 5)
    (hv : Value.okWide P w r b0 t v) (h : DataW.Trod enc P w base spare held t v d p) : ∃ K A B C D : Int, v = .agg #[.int .i64 K, .int .i64 A, .int .i64 B, .int .i64 C, .int .i64 D] := by
  obtain ⟨cs, rfl, hsz⟩ := okWide_struct hs hv
  obtain ⟨fuel, h⟩ := h
  obtain ⟨K, A, B, C, D, hcs, _⟩ := trod_ints5 hs hf ho hi hc hC h
  refine ⟨K, A, B, C, D, ?_⟩
  have : cs.toList = [.int .i64 K, .int .i64 A, .int .i64 B, .int .i64 C, .int .i64 D] := by simpa [Value.cells] using hcs
  rw [show cs = cs.toList.toArray by simp, this]
end
end Go.Proofs.Ytbcdpibcieadlaa

/- Arguments opened: slices of floats, cell by cell, with what they can hold; five and six arguments. No condition. -/
namespace Go.Proofs.Ytbcdpibcieadlaa
open Go Go.RowKit Go.ChangeShapes Go.WideShapes Go.Deep
section
variable {H : Type} {enc : TypeId × Value → H} {P : Program} {w : World} {base : Nat} {spare : Nat → Bool} {held : Bool}
theorem open_cec {t e : TypeId} {fuel : Nat} {v : Value} {x : DataW H × List MemPlace} (ht : P.underlying t = some (.slice e)) (he : P.underlying e = some (.float .f64)) (hc : P.cellsOf e = 1) (h : DataW.trod enc P w base spare held fuel t [v] = some x) :
    ∃ (a : Option Addr) (zs : List Nat) (cap : Nat), v = .slice a zs.length cap ∧ Cel w a zs ∧ Words zs ∧ zs.length ≤ maxLen ∧ zs.length ≤ cap ∧ cap ≤ maxLen := by
  obtain ⟨a, zs, cap, hv, h1, h2, h3⟩ := open_cel ht he hc h
  refine ⟨a, zs, cap, hv, h1, h2, h3, ?_⟩
  rcases open_slice1 ht hc h with ⟨k1, _⟩ | ⟨a', len, cap', m, n, V, D, Pl, k1, _, k2, k3, _⟩
  · simp only [List.cons.injEq, and_true] at k1
    rw [k1] at hv
    simp only [Value.slice.injEq] at hv
    rw [← hv.2.1, ← hv.2.2]
    exact ⟨Nat.le_refl _, Nat.zero_le _⟩
  · simp only [List.cons.injEq, and_true] at k1
    rw [k1] at hv
    simp only [Value.slice.injEq] at hv
    rw [← hv.2.1, ← hv.2.2]
    exact ⟨k2, k3⟩
theorem trodAll_5 {t0 t1 t2 t3 t4 : TypeId} {args : Array Value} {ds : List (DataW H)} {ps : List MemPlace} (h : DataW.TrodAll enc P w base spare held [t0, t1, t2, t3, t4] args.toList ds ps) :
    ∃ v0 v1 v2 v3 v4 d0 d1 d2 d3 d4 p0 p1 p2 p3 p4, args = #[v0, v1, v2, v3, v4] ∧ ds = [d0, d1, d2, d3, d4] ∧ ps = p0 ++ p1 ++ p2 ++ p3 ++ p4 ∧ DataW.Trod enc P w base spare held t0 v0 d0 p0 ∧ DataW.Trod enc P w base spare held t1 v1 d1 p1 ∧ DataW.Trod enc P w base spare held t2 v2 d2 p2 ∧ DataW.Trod enc P w base spare held t3 v3 d3 p3 ∧ DataW.Trod enc P w base spare held t4 v4 d4 p4 := by
  obtain ⟨v0, vs0, d0, ds0, p0, q0, hargs, rfl, rfl, h0, r0⟩ := trodAll_cons h
  obtain ⟨v1, vs1, d1, ds1, p1, q1, rfl, rfl, rfl, h1, r1⟩ := trodAll_cons r0
  obtain ⟨v2, vs2, d2, ds2, p2, q2, rfl, rfl, rfl, h2, r2⟩ := trodAll_cons r1
  obtain ⟨v3, vs3, d3, ds3, p3, q3, rfl, rfl, rfl, h3, r3⟩ := trodAll_cons r2
  obtain ⟨v4, vs4, d4, ds4, p4, q4, rfl, rfl, rfl, h4, r4⟩ := trodAll_cons r3
  obtain ⟨rfl, rfl, rfl⟩ := trodAll_nil r4
  exact ⟨v0, v1, v2, v3, v4, d0, d1, d2, d3, d4, p0, p1, p2, p3, p4, by cases args; simp_all, rfl, by simp, h0, h1, h2, h3, h4⟩
theorem trodAll_6 {t0 t1 t2 t3 t4 t5 : TypeId} {args : Array Value} {ds : List (DataW H)} {ps : List MemPlace} (h : DataW.TrodAll enc P w base spare held [t0, t1, t2, t3, t4, t5] args.toList ds ps) :
    ∃ v0 v1 v2 v3 v4 v5 d0 d1 d2 d3 d4 d5 p0 p1 p2 p3 p4 p5, args = #[v0, v1, v2, v3, v4, v5] ∧ ds = [d0, d1, d2, d3, d4, d5] ∧ ps = p0 ++ p1 ++ p2 ++ p3 ++ p4 ++ p5 ∧ DataW.Trod enc P w base spare held t0 v0 d0 p0 ∧ DataW.Trod enc P w base spare held t1 v1 d1 p1 ∧ DataW.Trod enc P w base spare held t2 v2 d2 p2 ∧ DataW.Trod enc P w base spare held t3 v3 d3 p3 ∧ DataW.Trod enc P w base spare held t4 v4 d4 p4 ∧ DataW.Trod enc P w base spare held t5 v5 d5 p5 := by
  obtain ⟨v0, vs0, d0, ds0, p0, q0, hargs, rfl, rfl, h0, r0⟩ := trodAll_cons h
  obtain ⟨v1, vs1, d1, ds1, p1, q1, rfl, rfl, rfl, h1, r1⟩ := trodAll_cons r0
  obtain ⟨v2, vs2, d2, ds2, p2, q2, rfl, rfl, rfl, h2, r2⟩ := trodAll_cons r1
  obtain ⟨v3, vs3, d3, ds3, p3, q3, rfl, rfl, rfl, h3, r3⟩ := trodAll_cons r2
  obtain ⟨v4, vs4, d4, ds4, p4, q4, rfl, rfl, rfl, h4, r4⟩ := trodAll_cons r3
  obtain ⟨v5, vs5, d5, ds5, p5, q5, rfl, rfl, rfl, h5, r5⟩ := trodAll_cons r4
  obtain ⟨rfl, rfl, rfl⟩ := trodAll_nil r5
  exact ⟨v0, v1, v2, v3, v4, v5, d0, d1, d2, d3, d4, d5, p0, p1, p2, p3, p4, p5, by cases args; simp_all, rfl, by simp, h0, h1, h2, h3, h4, h5⟩
end
end Go.Proofs.Ytbcdpibcieadlaa

/- An argument opened: a float. No condition. -/
namespace Go.Proofs.Ytbcdpibcieadlaa
open Go Go.RowKit Go.ChangeShapes Go.WideShapes Go.Deep

section
variable {H : Type} {enc : TypeId × Value → H} {P : Program} {w : World} {base : Nat} {spare : Nat → Bool} {held : Bool}
theorem open_f64w {r : Reach} {b0 : Nat} {t : TypeId} {v : Value} {d : DataW H} {ps : List MemPlace} (ht : P.underlying t = some (.float .f64)) (hval : Value.okWide P w r b0 t v) (hd : DataW.Trod enc P w base spare held t v d ps) :
    ∃ n, v = .float .f64 n ∧ d = .lit (.float .f64 n) ∧ ps = [] ∧ n < 18446744073709551616 := by
  obtain ⟨n, rfl⟩ : ∃ n, v = .float .f64 n := by
    simp only [Value.okWide, ht, Cell.okWide] at hval
    cases v <;> simp_all [Cell.ok]
  obtain ⟨fuel, hf⟩ := hd
  obtain ⟨n', h, hx, hw⟩ := trod_f64 ht hf
  simp [Value.cells] at h
  subst h
  simp only [Prod.mk.injEq] at hx
  exact ⟨n, rfl, hx.1, hx.2, hw⟩
end
end Go.Proofs.Ytbcdpibcieadlaa
