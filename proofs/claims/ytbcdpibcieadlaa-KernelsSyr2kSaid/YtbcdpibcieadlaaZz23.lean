/- Layer 8, the document: Syr2k (printed by gen_pb.py). No condition but on lengths. -/
import Derived.Test.YtbcdpibcieadlaaZz22
import Derived.Test.YtbcdpibcieadlaaZz5
import Derived.Test.YtbcdpibcieadlaaZz13
import Derived.Test.YtbcdpibcieadlaaZz6
import Derived.Test.YtbcdpibcieadlaaKkZ
import Derived.Test.YtbcdpibcieadlaaZz20
namespace Go.Proofs.Ytbcdpibcieadlaa
open Go Go.RowKit
set_option maxRecDepth 1000000

set_option maxHeartbeats 16000000 in
theorem RSyr2k_any (w : World) (a b : Nat) (q : Nat) (am an ao : Option Addr) (zm zn zo : List Nat) (pm pn po : Nat) (hm : Fls w am zm) (hn : Fls w an zn) (ho : Fls w ao zo) (lm : zm.length ≤ 262144) (ln : zn.length ≤ 262144) (lo : zo.length ≤ 262144) (uq : q ≤ 512) (cm cn : Nat) (e1 : cm = cn) (nm : zm.length = q * cm) (nn : zn.length = q * cn) (no : zo.length = q * q) (um : cm ≤ 512) (hpm : zm.length ≤ pm) (hqm : pm ≤ maxLen) (hpn : zn.length ≤ pn) (hqn : pn ≤ maxLen) :
    Calls Try.prog 45 #[.float .f64 a, .agg #[.int .i64 q, .int .i64 cm, .slice am zm.length pm], .agg #[.int .i64 q, .int .i64 cn, .slice an zn.length pn], .float .f64 b, .agg #[.int .i64 q, .int .i64 q, .slice ao zo.length po]] w fun e w' => (∃ a' c' l, e = .returned (.agg #[.int .i64 q, .int .i64 q, .slice a' l.length c']) ∧ Fls w' a' l ∧ l.length = zo.length ∧ HalfP (syr2kD a b zm cm zn cn zo q) zo q q 0 l) ∧ Below w.heap.size w w' := by
  obtain ⟨W0, hW0⟩ : ∃ W0, W0 = ((((w.alloc (.cells #[.int .i64 q, .int .i64 cm, .slice am zm.length pm] 24)).alloc (.cells #[.int .i64 q, .int .i64 cn, .slice an zn.length pn] 24)).alloc (.cells #[.int .i64 q, .int .i64 q, .slice ao zo.length po] 24)).alloc (.cells #[.int .i64 0, .int .i64 0, .slice none 0 0] 24)) := ⟨_, rfl⟩
  have hB0 : Below w.heap.size w W0 := hW0 ▸ ((((Below.refl _ _).alloc (Nat.le_refl _) _).alloc (by simp) _).alloc (by simp; omega) _).alloc (by simp; omega) _
  have x0 : Box W0 (w.heap.size) [.int .i64 q, .int .i64 cm, .slice am zm.length pm] := hW0 ▸ ((((Box.newA w [.int .i64 q, .int .i64 cm, .slice am zm.length pm] _ rfl).alloc _).alloc _).alloc _)
  have x1 : Box W0 (w.heap.size + 1) [.int .i64 q, .int .i64 cn, .slice an zn.length pn] := hW0 ▸ (((Box.newA _ [.int .i64 q, .int .i64 cn, .slice an zn.length pn] _ (by simp)).alloc _).alloc _)
  have x2 : Box W0 (w.heap.size + 1 + 1) [.int .i64 q, .int .i64 q, .slice ao zo.length po] := hW0 ▸ ((Box.newA _ [.int .i64 q, .int .i64 q, .slice ao zo.length po] _ (by simp)).alloc _)
  have x3 : Box W0 (w.heap.size + 1 + 1 + 1) [.int .i64 0, .int .i64 0, .slice none 0 0] := hW0 ▸ (Box.newA _ [.int .i64 0, .int .i64 0, .slice none 0 0] _ (by simp))
  have S0 := Lib.hid (show BoxS w W0 [(w.heap.size, [.int .i64 q, .int .i64 cm, .slice am zm.length pm]), (w.heap.size + 1, [.int .i64 q, .int .i64 cn, .slice an zn.length pn]), (w.heap.size + 1 + 1, [.int .i64 q, .int .i64 q, .slice ao zo.length po]), (w.heap.size + 1 + 1 + 1, [.int .i64 0, .int .i64 0, .slice none 0 0])] from ⟨fun p hp => by
    simp only [List.mem_cons, List.not_mem_nil, or_false] at hp
    rcases hp with rfl | rfl | rfl | rfl
    · exact x0
    · exact x1
    · exact x2
    · exact x3
    , hB0⟩)
  have HAt := Lib.hid (fun W (h : Below w.heap.size w W) i j (hi : i < q) (hj : j < q) => RAt_any W q q i j ao zo po (ho.below h) lo (by rw [no]; exact place8 hi hj))
  have HCp := Lib.hid (fun W (h : Below w.heap.size w W) => RCopy_any W q q ao zo po (ho.below h) lo)
  have HRm := Lib.hid (fun W (h : Below w.heap.size w W) i (hi : i < q) => RRow_any W q cm i am zm pm (hm.below h) lm nm hi hpm hqm uq)
  have HRn := Lib.hid (fun W (h : Below w.heap.size w W) i (hi : i < q) => RRow_any W q cn i an zn pn (hn.below h) ln nn hi hpn hqn uq)
  have HD1 := Lib.hid (fun W i j a' cap' a2 cap2 (hF : Fls W a' (rowL zm cm i)) (hG : Fls W a2 (rowL zn cn j)) => RDotF_any W a' a2 (rowL zm cm i) (rowL zn cn j) cap' cap2 hF hG (by rw [rowL_len]; omega) (by rw [rowL_len, rowL_len]; omega))
  have HD2 := Lib.hid (fun W i j a' cap' a2 cap2 (hF : Fls W a' (rowL zn cn i)) (hG : Fls W a2 (rowL zm cm j)) => RDotF_any W a' a2 (rowL zn cn i) (rowL zm cm j) cap' cap2 hF hG (by rw [rowL_len]; omega) (by rw [rowL_len, rowL_len]; omega))
  simp only [rowL_len] at HRm HRn HD1 HD2
  have HN := Lib.hid (show _ ∧ _ from ⟨no, lo⟩)
  clear hB0 x0 x1 x2 x3 ho no hm lm hn ln e1 nm nn um hpm hqm hpn hqn lo
  go_enter Try.func45, Try.ntmps45
  go_upto_region 1 with (fail)
  rw [← hW0]
  clear hW0
  obtain ⟨f01, f02, f03⟩ := (S0.out.get 2 rfl).facts
  go_wp2_with fail
  refine (HCp.out _ S0.out.below).mono ?_
  rintro e w1 ⟨⟨ra, b0, rc, rfl, hMem⟩, hb⟩
  have D0 := Lib.hid (BoxS.copy (cs := [.int .i64 q, .int .i64 q, .slice ra zo.length rc]) (S0.out.step hb) S0.out hMem)
  clear f01 f02 f03 hMem hb HCp S0
  dsimp only
  go_upto_region 2 with (fail)
  obtain ⟨P, hPP⟩ : ∃ P, P = w1.heap.size := ⟨_, rfl⟩
  simp only [← hPP] at D0 ⊢
  generalize w1.alloc (.cells #[.int .i64 q, .int .i64 q, .slice ra zo.length rc] 24) = V0 at *
  clear hPP
  go_wp2_with fail
  go_loopw [12] (fun si wr => ∃ i : Nat, i ≤ q ∧ si = .int .i64 i ∧ ∃ l : List Nat, l.length = zo.length ∧ HalfP (syr2kD a b zm cm zn cn zo q) zo q i 0 l ∧ DocW w wr ([(w.heap.size, [.int .i64 q, .int .i64 cm, .slice am zm.length pm]), (w.heap.size + 1, [.int .i64 q, .int .i64 cn, .slice an zn.length pn]), (w.heap.size + 1 + 1, [.int .i64 q, .int .i64 q, .slice ao zo.length po]), (w.heap.size + 1 + 1 + 1, [.int .i64 0, .int .i64 0, .slice none 0 0])] ++ [(P, [.int .i64 q, .int .i64 q, .slice ra zo.length rc])]) ra b0 l) (fun si _ => q - (intOf si).toNat)
  case atStart => exact ⟨0, Nat.zero_le _, rfl, zo, rfl, HalfP.zero _ _ _, D0.out⟩
  case round =>
    obtain ⟨i, hi, rfl, l, hll, hP, hD⟩ := hrel
    have D1 := Lib.hid hD
    have HL1 := Lib.hid (And.intro hll hP)
    clear hD D0 hll hP
    by_cases hir : i < q
    · skip
      obtain ⟨f11, f12, f13⟩ := (D1.out.get 2 rfl).facts
      go_wp2_with fail
      clear f11 f12 f13
      go_loopw [13] (fun sj wr => ∃ j : Nat, j ≤ i + 1 ∧ sj = .int .i64 j ∧ ∃ l : List Nat, l.length = zo.length ∧ HalfP (syr2kD a b zm cm zn cn zo q) zo q i j l ∧ DocW w wr ([(w.heap.size, [.int .i64 q, .int .i64 cm, .slice am zm.length pm]), (w.heap.size + 1, [.int .i64 q, .int .i64 cn, .slice an zn.length pn]), (w.heap.size + 1 + 1, [.int .i64 q, .int .i64 q, .slice ao zo.length po]), (w.heap.size + 1 + 1 + 1, [.int .i64 0, .int .i64 0, .slice none 0 0])] ++ [(P, [.int .i64 q, .int .i64 q, .slice ra zo.length rc])]) ra b0 l) (fun sj _ => i + 1 - (intOf sj).toNat)
      case atStart => exact ⟨0, Nat.zero_le _, rfl, l, HL1.out.1, HL1.out.2, D1.out⟩
      case round =>
        clear HL1 D1
        obtain ⟨j, hj, rfl, l, hll, hP, hD⟩ := hrel
        have D2 := Lib.hid hD
        have HL2 := Lib.hid (And.intro hll hP)
        clear hD hll hP
        by_cases hji : j < i + 1
        · skip
          have hjc : j < q := by omega
          have tji : (j : Int) ≤ (i : Int) := by omega
          obtain ⟨PP, hPP⟩ : ∃ PP, PP = i * q := ⟨_, rfl⟩
          have t1 : wrap64 ((i : Int) * (q : Int)) = (PP : Int) ∧ IntKind.i64.wrap ((i : Int) * (q : Int)) = (PP : Int) := by
            have hpl := place8 hir hjc
            have := HN.out.1
            have := HN.out.2
            exact ⟨w64m PP (by rw [hPP]; push_cast; rfl) (by omega), wi64m PP (by rw [hPP]; push_cast; rfl) (by omega)⟩
          have HPP := Lib.hid hPP
          clear hPP
          have t2 : IntKind.i64.wrap ((PP : Int) + (j : Int)) = (PP : Int) + j := by have hpl := place8 hir hjc; have h1 := HN.out.1; have h2 := HN.out.2; rw [IntKind.wrap_i64]; have := HPP.out; omega
          have HPl := Lib.hid (place8 hir hjc)
          have hPj : PP + j < 262144 := by have h1 := HPl.out; have h2 := HPP.out; have h3 := HN.out.1; have h4 := HN.out.2; omega
          have HA1 := Lib.hid (fun W h => HAt.out W h i j hir hjc)
          have HV := Lib.hid (show syr2kD a b zm cm zn cn zo q i j = bothW b (zo.getD (i * q + j) 0) a (fadd (sumG (atL (rowL zm cm i)) (atL (rowL zn cn j)) 0 cm) (sumG (atL (rowL zn cn i)) (atL (rowL zm cm j)) 0 cn)) from rfl)
          generalize zo.getD (i * q + j) 0 = zv at *
          go_upto_region 8 with (fail)
          have hdr : Below wr.heap.size wr wr.drew := below_drewN 1 (Below.refl _ wr)
          have E8 := Lib.hid (D2.out.step hdr)
          have HS := Lib.hid (show ∀ W, Below wr.drew.heap.size wr.drew W → (fun W => (∀ i, W.cell? ⟨w.heap.size, i, none⟩ = ([.int .i64 q, .int .i64 cm, .slice am zm.length pm] : List Value)[i]?) ∧ (∀ i, W.cell? ⟨w.heap.size + 1, i, none⟩ = ([.int .i64 q, .int .i64 cn, .slice an zn.length pn] : List Value)[i]?)) W from fun W h => ⟨((E8.out.step h).get 0 rfl).cell, ((E8.out.step h).get 1 rfl).cell⟩)
          refine wp_region_items 5 [(true, 0), (true, 1), (true, 3), (true, 4), (false, 2)] (fun W => (∀ i, W.cell? ⟨w.heap.size, i, none⟩ = ([.int .i64 q, .int .i64 cm, .slice am zm.length pm] : List Value)[i]?) ∧ (∀ i, W.cell? ⟨w.heap.size + 1, i, none⟩ = ([.int .i64 q, .int .i64 cn, .slice an zn.length pn] : List Value)[i]?)) (by kernel_rfl) (by kernel_rfl) (HS.out _ (Below.refl _ _)) ?_
          generalize wr.drew = v8 at *
          clear hdr
          iterate 4 (refine iW_take (v := ?_) rfl rfl ?_ ?_; rotate_left; (next => (intro w' hSw; (try dsimp only at hSw); go_simp; (try (rw [if_pos (by omega)]; go_simp)); (try with_reducible rfl))); (simp only [Act.put, List.setIfInBounds_toArray, List.set_cons_zero, List.set_cons_succ]))
          refine iW_mid rfl rfl ?_
          go_simp
          refine (HRm.out v8 E8.out.below i hir).mono ?_
          rintro e v8a ⟨⟨a1, q1, rfl, hF⟩, hb⟩
          have HF := Lib.hid hF
          have E8a := Lib.hid (E8.out.step hb)
          refine ⟨HS.out _ hb, ?_⟩
          clear hF hb
          refine iW_nil ?_
          go_simp
          go_wp2_with fail
          refine (HRn.out v8a E8a.out.below j hjc).mono ?_
          rintro e v8b ⟨⟨a2, q2, rfl, hG⟩, hb⟩
          have HG := Lib.hid (show _ ∧ _ from ⟨HF.out.below hb, hG⟩)
          have E8b := Lib.hid (E8a.out.step hb)
          clear hG hb
          dsimp only
          go_wp2_with fail
          refine (HD1.out v8b i j a1 q1 a2 q2 HG.out.1 HG.out.2).mono ?_
          rintro e v8c ⟨⟨s8, rfl⟩, hb⟩
          have E8c := Lib.hid (E8b.out.step hb)
          clear hb HF HG HS E8 E8a E8b
          dsimp only
          go_wp2_with fail
          refine NoPanic.normal ?_
          go_upto_region 9 with (fail)
          have hdr : Below v8c.heap.size v8c v8c.drew := below_drewN 1 (Below.refl _ v8c)
          have E9 := Lib.hid (E8c.out.step hdr)
          have HS := Lib.hid (show ∀ W, Below v8c.drew.heap.size v8c.drew W → (fun W => (∀ i, W.cell? ⟨w.heap.size, i, none⟩ = ([.int .i64 q, .int .i64 cm, .slice am zm.length pm] : List Value)[i]?) ∧ (∀ i, W.cell? ⟨w.heap.size + 1, i, none⟩ = ([.int .i64 q, .int .i64 cn, .slice an zn.length pn] : List Value)[i]?)) W from fun W h => ⟨((E9.out.step h).get 0 rfl).cell, ((E9.out.step h).get 1 rfl).cell⟩)
          refine wp_region_items 5 [(true, 0), (true, 1), (true, 3), (true, 4), (false, 2)] (fun W => (∀ i, W.cell? ⟨w.heap.size, i, none⟩ = ([.int .i64 q, .int .i64 cm, .slice am zm.length pm] : List Value)[i]?) ∧ (∀ i, W.cell? ⟨w.heap.size + 1, i, none⟩ = ([.int .i64 q, .int .i64 cn, .slice an zn.length pn] : List Value)[i]?)) (by kernel_rfl) (by kernel_rfl) (HS.out _ (Below.refl _ _)) ?_
          generalize v8c.drew = v9 at *
          clear hdr
          iterate 4 (refine iW_take (v := ?_) rfl rfl ?_ ?_; rotate_left; (next => (intro w' hSw; (try dsimp only at hSw); go_simp; (try (rw [if_pos (by omega)]; go_simp)); (try with_reducible rfl))); (simp only [Act.put, List.setIfInBounds_toArray, List.set_cons_zero, List.set_cons_succ]))
          refine iW_mid rfl rfl ?_
          go_simp
          refine (HRn.out v9 E9.out.below i hir).mono ?_
          rintro e v9a ⟨⟨a1, q1, rfl, hF⟩, hb⟩
          have HF := Lib.hid hF
          have E9a := Lib.hid (E9.out.step hb)
          refine ⟨HS.out _ hb, ?_⟩
          clear hF hb
          refine iW_nil ?_
          go_simp
          go_wp2_with fail
          refine (HRm.out v9a E9a.out.below j hjc).mono ?_
          rintro e v9b ⟨⟨a2, q2, rfl, hG⟩, hb⟩
          have HG := Lib.hid (show _ ∧ _ from ⟨HF.out.below hb, hG⟩)
          have E9b := Lib.hid (E9a.out.step hb)
          clear hG hb
          dsimp only
          go_wp2_with fail
          refine (HD2.out v9b i j a1 q1 a2 q2 HG.out.1 HG.out.2).mono ?_
          rintro e v9c ⟨⟨s9, rfl⟩, hb⟩
          have E9c := Lib.hid (E9b.out.step hb)
          clear hb HF HG HS E9 E9a E9b
          dsimp only
          go_wp2_with fail
          refine NoPanic.normal ?_
          go_upto_region 10 with (fail)
          have hdr : Below v9c.heap.size v9c v9c.drew := below_drewN 1 (Below.refl _ v9c)
          have D4 := Lib.hid (E9c.out.step hdr)
          have HS := Lib.hid (show ∀ W, Below v9c.drew.heap.size v9c.drew W → (fun W => (∀ i, W.cell? ⟨w.heap.size + 1 + 1, i, none⟩ = ([.int .i64 q, .int .i64 q, .slice ao zo.length po] : List Value)[i]?) ∧ (∀ i, W.cell? ⟨P, i, none⟩ = ([.int .i64 q, .int .i64 q, .slice ra zo.length rc] : List Value)[i]?)) W from fun W h => ⟨((D4.out.step h).get 2 rfl).cell, ((D4.out.step h).get 4 rfl).cell⟩)
          refine wp_region_many 18 60 [(0, 0), (0, 1), (0, 2), (0, 3), (0, 4), (0, 5), (0, 6), (0, 7), (0, 8), (0, 9), (0, 10), (0, 11), (0, 13), (0, 14), (0, 15), (3, 16), (1, 12), (2, 16), (1, 17)] (fun W => (∀ i, W.cell? ⟨w.heap.size + 1 + 1, i, none⟩ = ([.int .i64 q, .int .i64 q, .slice ao zo.length po] : List Value)[i]?) ∧ (∀ i, W.cell? ⟨P, i, none⟩ = ([.int .i64 q, .int .i64 q, .slice ra zo.length rc] : List Value)[i]?)) (by kernel_rfl) (by kernel_rfl) (HS.out _ (Below.refl _ _)) ?_
          generalize v9c.drew = v0 at *
          clear hdr E9c
          have hN := HL2.out
          iterate 15 (refine fm_take (v := ?_) rfl rfl ?_ ?_; rotate_left; (next => (intro w' hSw; (try dsimp only at hSw); go_simp; (try (rw [if_pos (by omega)]; go_simp)); (try with_reducible rfl))); (simp only [Act.put, List.setIfInBounds_toArray, List.set_cons_zero, List.set_cons_succ]))
          refine fm_from ?_
          refine fm_one1 ?_ ?_
          · skip
            refine opW_take rfl rfl ?_
            go_simp
            refine (HA1.out v0 D4.out.below).mono ?_
            rintro e u0 ⟨⟨s3, rfl⟩, hb⟩
            have G0 := Lib.hid (D4.out.step hb)
            refine ⟨HS.out _ hb, ?_⟩
            have HSq := Lib.hid (fun W (h : Below u0.heap.size u0 W) => HS.out W (below_step hb hb.size h))
            clear hb
            refine fm_now ?_
            refine opW_take rfl rfl ?_
            refine wp_flt rfl rfl rfl rfl ?_
            intro s4 n4
            have hb : Below u0.heap.size u0 (u0.drewN n4) := below_drewN n4 (Below.refl _ _)
            have G1 := Lib.hid (G0.out.step hb)
            generalize u0.drewN n4 = u1 at *
            refine ⟨HSq.out _ hb, ?_⟩
            have HSr := Lib.hid (fun W (h : Below u1.heap.size u1 W) => HSq.out W (below_step hb hb.size h))
            clear hb
            refine fm_one ?_
            refine opW_take rfl rfl ?_
            go_simp
            refine (RBoth_any u1 b zv a _ _ s3).mono ?_
            rintro e u2 ⟨⟨s7, rfl⟩, hb⟩
            have G2 := Lib.hid (G1.out.step hb)
            refine ⟨HSr.out _ hb, ?_⟩
            clear hb
            refine fm_nil ?_
            go_simp
            rw [← HV.out]
            obtain ⟨rfl, hF⟩ := G2.out.flb (k := i * q + j) (by rw [HL2.out.1, HN.out.1]; exact HPl.out)
            have hF1 := hF.lt
            have hF2 := hF.frozen
            obtain ⟨sf, hF3⟩ := hF.at (i := i * q + j) (by rw [HL2.out.1, HN.out.1]; exact HPl.out)
            have DD := Lib.hid (G2.out.set (k := i * q + j) (by rw [HL2.out.1, HN.out.1]; exact HPl.out) ((syr2kD a b zm cm zn cn zo q) i j) s7)
            have hpz : PP + j < zo.length := by rw [HN.out.1, HPP.out]; exact HPl.out
            rw [← HPP.out] at hF3 DD
            have hzz := HN.out.2
            have HL3 := Lib.hid (show (l.set (PP + j) ((syr2kD a b zm cm zn cn zo q) i j)).length = zo.length ∧ HalfP (syr2kD a b zm cm zn cn zo q) zo q i (j + 1) (l.set (PP + j) ((syr2kD a b zm cm zn cn zo q) i j)) from ⟨by rw [List.length_set]; exact HL2.out.1, by rw [HPP.out]; exact HL2.out.2.set (by rw [HL2.out.1, HN.out.1]) hir hjc⟩)
            generalize (syr2kD a b zm cm zn cn zo q) i j = tv at *
            clear hF hN
            go_wp2_with fail
            refine NoPanic.normal ?_
            go_wp2_with fail
            go_roundw
            case rel => exact ⟨j + 1, by omega, by go_num, _, HL3.out.1, HL3.out.2, DD.out⟩
            case measure => simp [intOf]; omega
          · skip
            refine opW_take rfl rfl ?_
            refine wp_flt rfl rfl rfl rfl ?_
            intro s4 n4
            have hb : Below v0.heap.size v0 (v0.drewN n4) := below_drewN n4 (Below.refl _ _)
            have G0 := Lib.hid (D4.out.step hb)
            generalize v0.drewN n4 = u0 at *
            refine ⟨HS.out _ hb, ?_⟩
            have HSq := Lib.hid (fun W (h : Below u0.heap.size u0 W) => HS.out W (below_step hb hb.size h))
            clear hb
            refine fm_one ?_
            refine opW_take rfl rfl ?_
            go_simp
            refine (HA1.out u0 G0.out.below).mono ?_
            rintro e u1 ⟨⟨s3, rfl⟩, hb⟩
            have G1 := Lib.hid (G0.out.step hb)
            refine ⟨HSq.out _ hb, ?_⟩
            have HSr := Lib.hid (fun W (h : Below u1.heap.size u1 W) => HSq.out W (below_step hb hb.size h))
            clear hb
            refine fm_skip rfl ?_
            refine fm_one ?_
            refine opW_take rfl rfl ?_
            go_simp
            refine (RBoth_any u1 b zv a _ _ s3).mono ?_
            rintro e u2 ⟨⟨s7, rfl⟩, hb⟩
            have G2 := Lib.hid (G1.out.step hb)
            refine ⟨HSr.out _ hb, ?_⟩
            clear hb
            refine fm_nil ?_
            go_simp
            rw [← HV.out]
            obtain ⟨rfl, hF⟩ := G2.out.flb (k := i * q + j) (by rw [HL2.out.1, HN.out.1]; exact HPl.out)
            have hF1 := hF.lt
            have hF2 := hF.frozen
            obtain ⟨sf, hF3⟩ := hF.at (i := i * q + j) (by rw [HL2.out.1, HN.out.1]; exact HPl.out)
            have DD := Lib.hid (G2.out.set (k := i * q + j) (by rw [HL2.out.1, HN.out.1]; exact HPl.out) ((syr2kD a b zm cm zn cn zo q) i j) s7)
            have hpz : PP + j < zo.length := by rw [HN.out.1, HPP.out]; exact HPl.out
            rw [← HPP.out] at hF3 DD
            have hzz := HN.out.2
            have HL3 := Lib.hid (show (l.set (PP + j) ((syr2kD a b zm cm zn cn zo q) i j)).length = zo.length ∧ HalfP (syr2kD a b zm cm zn cn zo q) zo q i (j + 1) (l.set (PP + j) ((syr2kD a b zm cm zn cn zo q) i j)) from ⟨by rw [List.length_set]; exact HL2.out.1, by rw [HPP.out]; exact HL2.out.2.set (by rw [HL2.out.1, HN.out.1]) hir hjc⟩)
            generalize (syr2kD a b zm cm zn cn zo q) i j = tv at *
            clear hF hN
            go_wp2_with fail
            refine NoPanic.normal ?_
            go_wp2_with fail
            go_roundw
            case rel => exact ⟨j + 1, by omega, by go_num, _, HL3.out.1, HL3.out.2, DD.out⟩
            case measure => simp [intOf]; omega
        · skip
          obtain rfl : j = i + 1 := by omega
          go_wp2_with fail
          go_roundw
          case rel => exact ⟨i + 1, hir, by go_num, l, HL2.out.1, HL2.out.2.next, D2.out⟩
          case measure => simp [intOf]; omega
    · skip
      obtain rfl : i = q := by omega
      obtain ⟨f11, f12, f13⟩ := (D1.out.get 2 rfl).facts
      obtain ⟨f21, f22, f23⟩ := (D1.out.get 3 rfl).facts
      obtain ⟨f31, f32, f33⟩ := (D1.out.get 4 rfl).facts
      go_wp2_with fail
      have hx2 := D1.out.get 3 rfl
      have hne := D1.out.ne
      have hfs := D1.out.fs
      have hbl := D1.out.below
      refine bodyPost_ret (results_one rfl (rv_cell (g := w.heap.size + 1 + 1 + 1) rfl (hx2.put3 _ _ _) rfl Try.underlying24 (by kernel_rfl))) rfl ⟨⟨ra, rc, l, by rw [HL1.out.1], ?_, HL1.out.1, HL1.out.2⟩, ?_⟩
      · have hq : ∀ u0 u1 u2, Fls (((wr.setCell ⟨w.heap.size + 1 + 1 + 1, 0, none⟩ u0).setCell ⟨w.heap.size + 1 + 1 + 1, 1, none⟩ u1).setCell ⟨w.heap.size + 1 + 1 + 1, 2, none⟩ u2) ra l := fun u0 u1 u2 => by
          by_cases hz : l = []
          · rw [hz]; exact fun h => absurd rfl h
          · rcases hfs with h | ⟨e, hF⟩
            · exact absurd h hz
            · subst e
              have hn := hne hz (w.heap.size + 1 + 1 + 1, [.int .i64 0, .int .i64 0, .slice none 0 0]) (List.mem_of_getElem? (i := 3) rfl)
              exact (((hF.other (Ne.symm hn) _ _).other (Ne.symm hn) _ _).other (Ne.symm hn) _ _).fls
        exact hq _ _ _
      · exact below_put3 hbl (by omega) _ _ _
end Go.Proofs.Ytbcdpibcieadlaa

/- Views: the range over all places of a view whose store its rounds write. No condition. -/
namespace Go.Proofs.Ytbcdpibcieadlaa
open Go Go.RowKit Go.Shelf
attribute [local go_sem] Oper.semAt_some
set_option maxRecDepth 100000

theorem still_of_below {b : Nat} {A B : World} (hb : b ≤ A.heap.size) (h : Below A.heap.size A B) : StillC b A B :=
  ⟨h.mono hb, fun k o ho _ => by rw [h.block k (Array.getElem?_eq_some_iff.1 ho).1]; exact ho⟩
set_option maxHeartbeats 4000000 in
theorem All_givesJ (n : Nat) (hn : 1 ≤ n) (v : Vw) (sb Bv l : Nat) (hr : v.r ≤ 512) (hc : v.c ≤ 512) (J : Nat → World → Prop) (W : World) (hJ : ∀ k A B, J k A → Below A.heap.size A B → J k B)
    (hJv : ∀ k A, J k A → Box A Bv [.pointer v.p, .int .i64 v.r, .int .i64 v.c, .int .i64 v.o, .int .i64 v.d, .int .i64 v.u] ∧ ∃ ws, v.Ok A sb ws)
    (hY : ∀ (i j x : Nat) (A : World) (ws : List Nat), i < v.r → j < v.c → J (i * v.c + j) A → v.Ok A sb ws → x = v.get ws i j → YieldAt Fence.wide (n - 1) Try.prog l #[.agg #[.int .i64 (i : Int), .int .i64 (j : Int)], .float .f64 x] A fun e A' => e = .returned (.bool true) ∧ J (i * v.c + j + 1) A')
    (h0 : J 0 W) : CallsIn Fence.wide n Try.prog 111 (#[.func (.yield l) #[] #[]] ++ #[.pointer (some ⟨Bv, 0, none⟩)]) W fun e W' => (∃ u, e = .returned u) ∧ J (v.r * v.c) W' := by
  have hb := (hJv _ _ h0).1.facts
  obtain ⟨p, r, c, o, d, u⟩ := v
  dsimp only at hr hc hY hb hJv ⊢
  obtain ⟨b1, b2, b3⟩ := hb
  refine callsIn_of_wp Try.func111 rfl trivial ?_ rfl
  simp only [Try.ntmps111, List.size_toArray, List.length_cons, List.length_nil, Nat.reduceAdd, Nat.reduceSub, Array.replicate_succ, Array.replicate_zero, List.push_toArray, List.append_toArray, List.nil_append, List.cons_append]
  gi_wp2
  gi_loopw [7] (fun s7 wr => ∃ i : Nat, i ≤ r ∧ s7 = .int .i64 i ∧ J (i * c) wr) (fun s7 _ => r - (intOf s7).toNat)
  case atStart => exact ⟨0, Nat.zero_le _, rfl, by rw [Nat.zero_mul]; exact h0⟩
  case round =>
    obtain ⟨i, hi, rfl, hJs⟩ := hrel
    obtain ⟨e1, e2, e3⟩ := (hJv _ _ hJs).1.facts
    clear b1 b2 b3
    by_cases hlt : i < r
    · gi_wp2
      gi_loopw [12] (fun s12 wr => ∃ j : Nat, j ≤ c ∧ s12 = .int .i64 j ∧ J (i * c + j) wr) (fun s12 _ => c - (intOf s12).toNat)
      case atStart => exact ⟨0, Nat.zero_le _, rfl, hJs⟩
      case round =>
        clear hJs e1 e2 e3
        obtain ⟨j, hj, rfl, hJs⟩ := hrel
        obtain ⟨hbx, ws, hok⟩ := hJv _ _ hJs
        obtain ⟨e1, e2, e3⟩ := hbx.facts
        by_cases hlt2 : j < c
        · gi_wp2_with fail
          refine ⟨trivial, (callsIn_wide.2 (At_any wr ⟨p, r, c, o, d, u⟩ sb ws i j hok)).mono ?_⟩
          rintro e w2 ⟨rfl, hb2⟩
          have hJ2 := hJ _ _ _ hJs hb2
          obtain ⟨fn, tmps, assign, body, hy, hR⟩ := hY i j _ w2 ws hlt hlt2 hJ2 (hok.below hb2) rfl
          generalize (Vw.mk p r c o d u).get ws i j = x at hy ⊢
          have hb3 := hbx.below hb2
          clear e1 e2 e3 hbx
          obtain ⟨e1, e2, e3⟩ := hb3.facts
          clear hb3
          gi_wp2
          refine hR.mono ?_
          rintro e W3 ⟨rfl, hJ3⟩
          gi_wp2
          go_roundw
          case rel => exact ⟨j + 1, by omega, by go_num, by rw [← Nat.add_assoc]; exact hJ3⟩
          case measure => simp [intOf]; omega
        · obtain rfl : j = c := by omega
          gi_wp2
          go_roundw
          case rel => exact ⟨i + 1, by omega, by go_num, by rw [Nat.succ_mul]; exact hJs⟩
          case measure => simp [intOf]; omega
    · obtain rfl : i = r := by omega
      gi_wp2
      go_end0
      exact ⟨⟨_, rfl⟩, hJs⟩
/-- How a round ends. -/
def roundJ (b : Nat) (I : Nat → World → Prop) (k : Nat) (W : World) : Exit → Act → World → Prop
  | .normal, _, W' => KeepsFrom b W W' ∧ I k W'
  | _, _, _ => False
theorem view_loopJ {g : Operand} {ps : Array Tmp} {assign body : Code} {Q : Exit → Act → World → Prop} {T : Array Value} {ds : List Deferred} {w : World} (n : Nat) (hn : 3 ≤ n) {v : Vw} {sb Bv : Nat} (hr : v.r ≤ 512) (hc : v.c ≤ 512)
    (hg : (Act.mk T ds).eval g = .func (.func 111) #[] #[.pointer (some ⟨Bv, 0, none⟩)]) (hps : ps.size = 2)
    (I : Nat → World → Prop) (hI : ∀ k A, I k A → w.heap.size ≤ A.heap.size) (hIs : ∀ k A B, I k A → StillC w.heap.size A B → I k B)
    (hIv : ∀ k A, I k A → Box A Bv [.pointer v.p, .int .i64 v.r, .int .i64 v.c, .int .i64 v.o, .int .i64 v.d, .int .i64 v.u] ∧ ∃ ws, v.Ok A sb ws) (h0 : I 0 w) (upd : Array Value → Nat → Nat → Nat → Nat → Array Value)
    (hassign : ∀ (l i j x : Nat) (W : World) (K : Act → World → Prop), K ⟨upd T i j x W.heap.size, []⟩ (W.alloc (.cells #[.int .i64 (i : Int), .int .i64 (j : Int)] 92)) →
      assign.wpIn (Fence.wide.inRound l) (n - 1 - 1) Try.prog (Exit.then K (fun _ _ _ => False)) { tmps := (ps.zip #[.agg #[.int .i64 (i : Int), .int .i64 (j : Int)], .float .f64 x]).foldl (fun t (p, v) => t.setIfInBounds p v) T, defers := [] } W)
    (hbody : ∀ (l i j x Bx : Nat) (W : World) (ws : List Nat), i < v.r → j < v.c → I (i * v.c + j) W → v.Ok W sb ws → x = v.get ws i j → Box W Bx [.int .i64 (i : Int), .int .i64 (j : Int)] → w.heap.size ≤ Bx →
      body.wpIn (Fence.wide.inRound l) (n - 1 - 1) Try.prog (roundJ w.heap.size I (i * v.c + j + 1) W) ⟨upd T i j x Bx, []⟩ W)
    (hdone : ∀ (D : Nat) (W : World), w.heap.size ≤ D → I (v.r * v.c) W → W.heap[D]? = some (.deferred (some [])) → Q .normal ⟨T, { target := .collected D, args := #[] } :: ds⟩ W) :
    (Code.rangeFunc g ps assign body).wpIn Fence.wide n Try.prog Q ⟨T, ds⟩ w := by
  refine wpIn_rangeFunc fun fn hfn => ?_
  rw [show Fence.wide.round = none from rfl]
  obtain ⟨mk, hmk⟩ : ∃ mk : LoopState → Option Code → Loop, mk = fun s c => { state := s, pending := c, fn, tmps := T, params := ps, assign, body, defers := w.heap.size } := ⟨_, rfl⟩
  obtain ⟨V, hV⟩ : ∃ V, V = (w.alloc (.deferred (some []))).alloc (.loop (mk .ready none)) := ⟨_, rfl⟩
  have eg := enters_of (P := Try.prog) Try.func111 (by kernel_rfl) rfl
  -- the two blocks of the loop itself
  have hloop : V.heap[w.heap.size + 1]? = some (.loop (mk .ready none)) := by
    have h := World.alloc_heap_new (w.alloc (.deferred (some []))) (.loop (mk .ready none))
    rw [World.size_alloc] at h
    rw [hV]; exact h
  have hdef : V.heap[w.heap.size]? = some (.deferred (some [])) := by
    rw [hV]
    exact (Below.heap_alloc _ _ _ (by simp)).trans (World.alloc_heap_new w _)
  have hBV : Below w.heap.size w V := hV ▸ ((Below.refl _ _).alloc (Nat.le_refl _) _).alloc (by simp) _
  have hIV : I 0 V := hIs _ _ _ h0 (still_of_below (Nat.le_refl _) hBV)
  have J : ∀ k A B, (I k A ∧ A.heap[w.heap.size + 1]? = some (.loop (mk .ready none)) ∧ A.heap[w.heap.size]? = some (.deferred (some []))) → Below A.heap.size A B → (I k B ∧ B.heap[w.heap.size + 1]? = some (.loop (mk .ready none)) ∧ B.heap[w.heap.size]? = some (.deferred (some []))) :=
    fun k A B h hb => ⟨hIs _ _ _ h.1 (still_of_below (hI _ _ h.1) hb), (hb.block _ (Array.getElem?_eq_some_iff.1 h.2.1).1).trans h.2.1, (hb.block _ (Array.getElem?_eq_some_iff.1 h.2.2).1).trans h.2.2⟩
  have turn : ∀ k A (o o' : Obj), I k A → A.heap[w.heap.size + 1]? = some o → o.isCells = false → I k (A.putObj (w.heap.size + 1) o') :=
    fun k A o o' h ho hc => hIs _ _ _ h (StillC.put (by omega) ho hc)
  refine ⟨w.heap.size + 1, [{ target := .collected w.heap.size, args := #[] }], V, { target := .fn (.func 111) #[.pointer (some ⟨Bv, 0, none⟩)], args := #[.func (.yield (w.heap.size + 1)) #[] #[]] }, V, 111,
    #[.func (.yield (w.heap.size + 1)) #[] #[]] ++ #[.pointer (some ⟨Bv, 0, none⟩)], V, ?_, ?_, ?_, ?_, fun _ => by omega, ?_⟩
  · rw [hV, hmk]; exact run_enterLoop_outer _ _ _ _ _
  · simp only [resolve, hg]
    simp [go_sem]
  · intro f hf
    simp [Target.leads] at hf
    subst hf
    trivial
  · simp [invoke, go_sem, eg _ _]
  · refine (All_givesJ (n - 1) (by omega) v sb Bv (w.heap.size + 1) hr hc (fun k A => I k A ∧ A.heap[w.heap.size + 1]? = some (.loop (mk .ready none)) ∧ A.heap[w.heap.size]? = some (.deferred (some []))) V J (fun k A h => hIv k A h.1) ?_ ⟨hIV, hloop, hdef⟩).mono ?_
    · rintro i j x A ws hi hj ⟨hIA, hlA, hdA⟩ hok hx
      have hlt := (Array.getElem?_eq_some_iff.1 hlA).1
      have hy := run_yield (P := Try.prog) (args := #[.agg #[.int .i64 (i : Int), .int .i64 (j : Int)], .float .f64 x]) hlA (by rw [hmk]; exact hps.symm)
      rw [hmk] at hy
      refine ⟨fn, _, assign, body, hy, roundIn_of_wpIn hfn (hassign _ i j x A _ ?_)⟩
      clear hy
      have hbA : Below A.heap.size A (A.alloc (.cells #[.int .i64 (i : Int), .int .i64 (j : Int)] 92)) := (Below.refl _ _).alloc (Nat.le_refl _) _
      have hxb : Box (A.alloc (.cells #[.int .i64 (i : Int), .int .i64 (j : Int)] 92)) A.heap.size [.int .i64 (i : Int), .int .i64 (j : Int)] := Box.newA A [_, _] _ rfl
      obtain ⟨hIB, hlB, hdB⟩ := J _ _ _ ⟨hIA, hlA, hdA⟩ hbA
      have hokB := hok.below hbA
      have hwA := hI _ _ hIA
      generalize A.alloc (.cells #[.int .i64 (i : Int), .int .i64 (j : Int)] 92) = B at *
      have hltB := (Array.getElem?_eq_some_iff.1 hlB).1
      refine ⟨_, run_beginRound hlB (by rw [hmk]), ?_⟩
      obtain ⟨busy, hbusy⟩ : ∃ b : Loop, b = { mk .ready none with state := .busy } := ⟨_, rfl⟩
      have hs1 : StillC w.heap.size B (B.putObj (w.heap.size + 1) (.loop busy)) := StillC.put (by omega) hlB rfl
      have hlC : (B.putObj (w.heap.size + 1) (.loop busy)).heap[w.heap.size + 1]? = some (.loop busy) := World.putObj_heap_same hltB
      have hdC : (B.putObj (w.heap.size + 1) (.loop busy)).heap[w.heap.size]? = some (.deferred (some [])) := (World.putObj_heap_other (by omega)).trans hdB
      rw [← hbusy]
      refine wpIn_mono (hbody _ i j x A.heap.size _ ws hi hj (hIs _ _ _ hIB hs1) (hokB.still hs1) hx (hxb.still hs1) hwA) ?_
      intro e a3 W3 hp
      cases e with
      | normal =>
        obtain ⟨hk3, hi3⟩ := hp
        have hl3 := hk3.same _ _ (by omega) hlC rfl
        have hd3 := hk3.same _ _ (Nat.le_refl _) hdC rfl
        have hlt3 := (Array.getElem?_eq_some_iff.1 hl3).1
        have he := run_endRound (P := Try.prog) none hl3
        rw [hbusy, hmk] at he
        refine ⟨_, _, he, rfl, ?_⟩
        have hfin : (W3.putObj (w.heap.size + 1) (.loop (mk .ready none))).heap[w.heap.size + 1]? = some (.loop (mk .ready none)) := World.putObj_heap_same hlt3
        have hfd : (W3.putObj (w.heap.size + 1) (.loop (mk .ready none))).heap[w.heap.size]? = some (.deferred (some [])) := (World.putObj_heap_other (by omega)).trans hd3
        have hit := turn _ _ _ (.loop (mk .ready none)) hi3 hl3 rfl
        rw [hmk] at hfin hfd hit ⊢
        exact ⟨hit, hfin, hfd⟩
      | ret => exact hp.elim
      | exit id => exact hp.elim
      | goto t => exact hp.elim
      | panic ch => exact hp.elim
      | outgrown => exact hp.elim
    · rintro e W2 ⟨⟨u, rfl⟩, hi, hl, hk⟩
      have he := run_endLoop (P := Try.prog) hl (by rw [hmk]; simp)
      rw [hmk] at he
      exact ⟨none, _, he, hdone _ _ (Nat.le_refl _) (turn _ _ _ _ hi hl rfl) ((World.putObj_heap_other (by omega)).trans hk)⟩
end Go.Proofs.Ytbcdpibcieadlaa

/- Drawn regions: what a call gives need not be told ahead: two contracts on one call speak of one end. No condition. -/
namespace Go.Proofs.Ytbcdpibcieadlaa
open Go Go.RowKit
section
variable {P : Program} {C : World → Prop}
theorem calls_one {f : FuncId} {args : Array Value} {w : World} {R R' : World → Prop} {V V' : Value}
    (h : Calls P f args w fun e w' => e = .returned V ∧ R w') (h' : Calls P f args w fun e w' => e = .returned V' ∧ R' w') (hi : P.inits.idxOf? f = none) : V = V' := by
  obtain ⟨n, v, w1, e1, r1⟩ := (h.mono (R' := fun | .returned v, w' => v = V ∧ R w' | _, _ => False) (fun e w' ⟨he, q⟩ => by subst he; exact ⟨rfl, q⟩)).done hi
  obtain ⟨m, v', w2, e2, r2⟩ := (h'.mono (R' := fun | .returned v, w' => v = V' ∧ R' w' | _, _ => False) (fun e w' ⟨he, q⟩ => by subst he; exact ⟨rfl, q⟩)).done hi
  have a := runN_ended e1 m
  have b := runN_ended e2 n
  rw [Nat.add_comm, a] at b
  injection b with ho hw
  injection ho with hv
  rw [← r1.1, ← r2.1, hv]
/-- A value that every contract on the call tells. -/
def FD (P : Program) (C : World → Prop) (f : FuncId) (args : Array Value) (v : Value) : Prop :=
  ∀ V, (∀ w1, C w1 → Calls P f args w1 fun e w2 => e = .returned V ∧ C w2) → v = V
theorem fd_both {f : FuncId} {args : Array Value} {K : Value → Prop} {V : Value} (hi : P.inits.idxOf? f = none)
    (c : ∀ w1, C w1 → Calls P f args w1 fun e w2 => e = .returned V ∧ C w2) (hK : K V) :
    (∀ w1, C w1 → Calls P f args w1 (fun e w2 => ∃ v, e = .returned v ∧ FD P C f args v ∧ C w2)) ∧ ∀ v, FD P C f args v → K v :=
  ⟨fun w1 h1 => (c w1 h1).mono fun _ _ ⟨he, hc⟩ => ⟨V, he, fun _ c' => calls_one (c w1 h1) (c' w1 h1) hi, hc⟩, fun v hv => by rw [hv V c]; exact hK⟩
theorem wp_region_nqd {id : Nat} {Q : Exit → Act → World → Prop} {a : Act} {w : World} {l : List Oper} (n : Nat)
    (hm : P.follows .mixedOrders = true) (hB : nqB l n = true)
    (h : ∀ (C : World → Prop) (R : Act → Prop), (∀ w', Cls C w' → ∀ b o, b < w.heap.size → w'.cell? ⟨b, o, none⟩ = w.cell? ⟨b, o, none⟩) → (∀ w', Cls C w' → Below w.heap.size w w') →
      (∀ w' w'', Cls C w' → Below w'.heap.size w' w'' → Cls C w'') → (∀ w' n, Cls C w' → Cls C (w'.drewN n)) →
      (∀ a', (∀ w', Below w.heap.size w w' → wpList P l.toArray Q (l.drop n) a' w') → R a') → nqW P l.toArray (Cls C) (FD P (Cls C)) R (l.take n) a) : (Code.region id l.toArray true).wp P Q a w :=
  wp_region_nq n (FD P (Cls (Below w.heap.size w))) (Below w.heap.size w) hm hB (below_drewN 1 (Below.refl _ _))
    (h (Below w.heap.size w) (fun a' => ∀ w', Below w.heap.size w w' → wpList P l.toArray Q (l.drop n) a' w') (fun _ hw' => (below_cells hw').1) (fun _ h => h)
      (fun _ _ h1 h2 => h1.trans (h2.mono h1.size)) (fun _ n h => below_drewN n h) (fun _ h => h))
end
section
variable {P : Program} {l0 : Nat} {nf : Nat}
theorem wpIn_region_nqd {id : Nat} {Q : Exit → Act → World → Prop} {a : Act} {w : World} {l : List Oper} (n : Nat)
    (hm : P.follows .mixedOrders = true) (hB : (nqB l n && noDefer l) = true)
    (h : ∀ (C : World → Prop) (R : Act → Prop), (∀ w', Cls C w' → ∀ b o, b < w.heap.size → w'.cell? ⟨b, o, none⟩ = w.cell? ⟨b, o, none⟩) → (∀ w', Cls C w' → Below w.heap.size w w') →
      (∀ w' w'', Cls C w' → Below w'.heap.size w' w'' → Cls C w'') → (∀ w' n, Cls C w' → Cls C (w'.drewN n)) →
      (∀ a', (∀ w', Below w.heap.size w w' → wpListIn (Fence.wide.inRound l0) nf P l.toArray Q (l.drop n) a' w') → R a') → nqW P l.toArray (Cls C) (FD P (Cls C)) R (l.take n) a) : (Code.region id l.toArray true).wpIn (Fence.wide.inRound l0) nf P Q a w :=
  wpIn_region_nq n (FD P (Cls (Below w.heap.size w))) (Below w.heap.size w) hm hB (below_drewN 1 (Below.refl _ _))
    (h (Below w.heap.size w) (fun a' => ∀ w', Below w.heap.size w w' → wpListIn (Fence.wide.inRound l0) nf P l.toArray Q (l.drop n) a' w') (fun _ hw' => (below_cells hw').1) (fun _ h => h)
      (fun _ _ h1 h2 => h1.trans (h2.mono h1.size)) (fun _ n h => below_drewN n h) (fun _ h => h))
end
end Go.Proofs.Ytbcdpibcieadlaa

/- Layer 8: what kernels hold on to that range over a view which they write. No condition. -/
namespace Go.Proofs.Ytbcdpibcieadlaa
open Go Go.RowKit
set_option maxRecDepth 1000000

/-- Boxes, and views, apart from a block that is written. -/
structure KerW (W : World) (bs : List (Nat × List Value)) (cs : List (Vw × Nat × List Nat)) (sm : Nat) : Prop where
  bx : ∀ p ∈ bs, Box W p.1 p.2
  ne : ∀ p ∈ bs, p.1 ≠ sm
  ap : ∀ q ∈ cs, q.1.Apart W q.2.1 q.2.2 sm
section
variable {W W' : World} {bs : List (Nat × List Value)} {cs : List (Vw × Nat × List Nat)} {sm : Nat}
theorem KerW.bel (h : KerW W bs cs sm) (hb : Bel W.heap.size sm W W') : KerW W' bs cs sm := ⟨fun p hp => (h.bx p hp).bel (h.ne p hp) hb, h.ne, fun q hq => (h.ap q hq).bel hb⟩
theorem KerW.below (h : KerW W bs cs sm) (hb : Below W.heap.size W W') : KerW W' bs cs sm := h.bel (Bel.of hb)
theorem KerW.still {b : Nat} (h : KerW W bs cs sm) (hs : StillC b W W') : KerW W' bs cs sm := ⟨fun p hp => (h.bx p hp).still hs, h.ne, fun q hq => ⟨(h.ap q hq).1.still hs, (h.ap q hq).2⟩⟩
theorem KerW.get (h : KerW W bs cs sm) (k : Nat) {n : Nat} {vs : List Value} (hk : bs[k]? = some (n, vs)) : Box W n vs := h.bx (n, vs) (List.mem_of_getElem? hk)
theorem KerW.vw (h : KerW W bs cs sm) (k : Nat) {v : Vw} {sb : Nat} {ws : List Nat} (hk : cs[k]? = some (v, sb, ws)) : v.Apart W sb ws sm := h.ap (v, sb, ws) (List.mem_of_getElem? hk)
theorem KerW.box {n : Nat} {vs : List Value} (h : KerW W bs cs sm) (hb : Box W n vs) (hn : n ≠ sm) : KerW W (bs ++ [(n, vs)]) cs sm :=
  ⟨fun p hp => by
    rcases List.mem_append.1 hp with hp | hp
    · exact h.bx p hp
    · simp only [List.mem_cons, List.not_mem_nil, or_false] at hp
      subst hp; exact hb,
   fun p hp => by
    rcases List.mem_append.1 hp with hp | hp
    · exact h.ne p hp
    · simp only [List.mem_cons, List.not_mem_nil, or_false] at hp
      subst hp; exact hn, h.ap⟩
end
/-- What a copy is. -/
structure CpyF (x : Vw) (xs : List Nat) (st : Nat) (y : Vw) : Prop where
  p : y.p = some ⟨st, 0, none⟩
  r : y.r = x.r
  c : y.c = x.c
  bnd : y.Bnd 0
  get : ∀ i k : Nat, i < x.r → k < x.c → y.get (x.list xs) i k = x.get xs i k
  vec : vecV x.p x.r x.c = true → ∀ k : Nat, k < lenV x.p x.r x.c → y.getVec (x.list xs) k = x.getVec xs k
theorem CpyF.of {x : Vw} (xs : List Nat) (st : Nat) (h : x.p.isSome = true) (h1 : x.r ≤ 512) (h2 : x.c ≤ 512) : CpyF x xs st (cpyV x st) := by
  have e := cpy_new h st
  exact ⟨by rw [e]; rfl, by rw [e]; rfl, by rw [e]; rfl, by rw [e]; exact newV_bnd h1 h2, fun i k hi hk => cpy_get x xs st i k h hi hk, fun hv k hk => cpy_getVec x xs st k hv hk⟩
theorem row_getVec {v : Vw} {ws : List Nat} {i k : Nat} (hp : v.p.isSome = true) (hc : v.c ≤ 512) (hi : i < v.r) (hk : k < v.c) : (v.row i).getVec ws k = v.get ws i k := by
  have hrow : v.row i = ⟨v.p, 1, v.c, v.o + i * v.d + 0 * v.u, v.d, v.u⟩ := by
    unfold Vw.row Vw.part
    rw [hp]
    rw [if_pos (by unfold fitsV; simp; omega)]
    simp
  rw [hrow]
  unfold Vw.getVec
  rw [if_pos (by unfold vecV; rw [hp]; simp)]
  unfold Vw.al Vw.get
  simp only [if_true]
  rw [if_pos (by unfold inV; simp; omega), if_pos (by unfold inV; simp; omega)]
  try simp
theorem ok_uniq {v : Vw} {w : World} {sb : Nat} {ws us : List Nat} (h : v.Ok w sb ws) (k : v.Ok w sb us) (hp : v.p ≠ none) : ws = us := by
  have h1 := (ok_box h hp).cell
  have h2 := (ok_box k hp).cell
  refine List.ext_getElem? fun i => ?_
  have e := (h1 i).symm.trans (h2 i)
  rw [List.getElem?_map, List.getElem?_map] at e
  cases h3 : ws[i]? <;> cases h4 : us[i]? <;> rw [h3, h4] at e <;> simp_all
theorem bothW_raw (b o a s k : Nat) : bothW b (raw o k) a s = bothW b o a s := by unfold bothW; rw [fmul_rawr]
theorem val_ne {x y : Vw} {a b : Nat} (hx : x.p = some ⟨a, 0, none⟩) (hy : y.p = some ⟨b, 0, none⟩) (h : a ≠ b) : x.val ≠ y.val := fun e => by
  obtain ⟨p, r, c, o, d, u⟩ := x
  obtain ⟨p', r', c', o', d', u'⟩ := y
  dsimp only at hx hy
  subst hx hy
  unfold Vw.val at e
  simp at e
  try exact absurd e.1 h
end Go.Proofs.Ytbcdpibcieadlaa
