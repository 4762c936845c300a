/- Layer 8, the document: Gemm (printed by gen_lm.py). No condition but on lengths. -/
import Derived.Test.YtbcdpibcieadlaaZz27
namespace Go.Proofs.Ytbcdpibcieadlaa
open Go Go.RowKit
set_option maxRecDepth 1000000

def colL (zs : List Nat) (c r j : Nat) : List Nat := (List.range r).map fun i => zs.getD (i * c + j) 0
theorem colL_len (zs : List Nat) (c r j : Nat) : (colL zs c r j).length = r := by unfold colL; simp
theorem colL_at (zs : List Nat) (c r j k : Nat) (hk : k < r) : atL (colL zs c r j) k = zs.getD (k * c + j) 0 := by
  unfold atL colL
  rw [List.getD_eq_getElem?_getD, List.getElem?_map, List.getElem?_range hk]
  rfl
theorem colL_succ (zs : List Nat) (c r j : Nat) : colL zs c (r + 1) j = colL zs c r j ++ [zs.getD (r * c + j) 0] := by
  unfold colL
  rw [List.range_succ, List.map_append]
  rfl
set_option maxHeartbeats 4000000 in
theorem RCol_any (w : World) (r c j : Nat) (a : Option Addr) (zs : List Nat) (cap : Nat) (hZ : Fls w a zs) (hl : zs.length ≤ 262144) (hn : zs.length = r * c) (hj : j < c) (hr : r ≤ 512) :
    Calls Try.prog 83 #[.agg #[.int .i64 r, .int .i64 c, .slice a zs.length cap], .int .i64 j] w fun e w' => (∃ v, e = .returned v ∧ OwnF w' w.heap.size v (colL zs c r j)) ∧ Below w.heap.size w w' := by
  obtain ⟨W1, hW1⟩ : ∃ W1, W1 = w.alloc (.cells #[.int .i64 r, .int .i64 c, .slice a zs.length cap] 24) := ⟨_, rfl⟩
  have hB0 : Below w.heap.size w W1 := hW1 ▸ (Below.refl _ _).alloc (Nat.le_refl _) _
  have x0 : Box W1 w.heap.size [.int .i64 r, .int .i64 c, .slice a zs.length cap] := hW1 ▸ Box.newA w [.int .i64 r, .int .i64 c, .slice a zs.length cap] 24 rfl
  have HA := Lib.hid (fun W (h : Below w.heap.size w W) i (hi : i < r) => RAt_any W r c i j a zs cap (hZ.below h) hl (by rw [hn]; exact place8 hi hj))
  have HX := Lib.hid (show _ ∧ _ from ⟨hB0, x0⟩)
  clear hZ hB0 x0 hl hn
  go_enter Try.func83, Try.ntmps83
  go_upto_region 2 with (fail)
  rw [← hW1]
  clear hW1
  go_wp2_with fail
  go_loopw [5, 6] (fun s5 s6 wr => ∃ k : Nat, k ≤ r ∧ OwnF wr W1.heap.size s5 (colL zs c k j) ∧ s6 = .int .i64 k ∧ Below W1.heap.size W1 wr) (fun _ s6 _ => r - (intOf s6).toNat)
  case atStart => exact ⟨0, Nat.zero_le _, OwnF.nil _ _, rfl, Below.refl _ _⟩
  case round =>
    obtain ⟨k, hk, hO, rfl, hB⟩ := hrel
    have hBw := below_step HX.out.1 HX.out.1.size hB
    have x1 := HX.out.2.below hB
    obtain ⟨q1, q2, q3⟩ := x1.facts
    by_cases hlt : k < r
    · have HH := Lib.hid (show _ ∧ _ ∧ _ ∧ _ from ⟨hO, hB, hBw, hlt⟩)
      clear x1 hO hB hBw hk
      go_wp2_with fail
      refine (HA.out wr HH.out.2.2.1 k HH.out.2.2.2).mono ?_
      rintro e w3 ⟨⟨s3, rfl⟩, hb3⟩
      have HO3 := Lib.hid (HH.out.1.below hb3)
      have HB3 := Lib.hid (below_step HH.out.2.1 HH.out.2.1.size hb3)
      clear hb3 q1 q2 q3
      dsimp only
      have hlen := HH.out.2.2.2
      go_wp2_with (at_builtin; refine wpList_append_one rfl _ _ rfl W1.heap.size _ (colL zs c k j) rfl HO3.out _ _ _ rfl (by rw [colL_len]; omega) HB3.out.size ?_; intro v' w6 hO6 hb6)
      go_roundw
      case rel => exact ⟨k + 1, HH.out.2.2.2, by rw [colL_succ]; exact hO6, by go_num, HB3.out.trans hb6⟩
      case measure => simp [intOf]; omega
    · obtain rfl : k = r := by omega
      have HB := Lib.hid (show _ ∧ _ from ⟨hO, hBw⟩)
      clear hB hk hO hBw x1
      go_wp2_with fail
      go_ret
      exact ⟨⟨_, rfl, HB.out.1.mono HX.out.1.size⟩, HB.out.2⟩
/-- An entry of a product of matrices, added to another one, as the document says. -/
def gemmD (a b : Nat) (zm : List Nat) (cm : Nat) (zn : List Nat) (cn rn : Nat) (zo : List Nat) (co i j : Nat) : Nat := bothW b (zo.getD (i * co + j) 0) a (sumG (atL (rowL zm cm i)) (atL (colL zn cn rn j)) 0 cm)
theorem gemmD_lt (a b : Nat) (zm : List Nat) (cm : Nat) (zn : List Nat) (cn rn : Nat) (zo : List Nat) (co i j : Nat) : gemmD a b zm cm zn cn rn zo co i j < 18446744073709551616 := bothW_lt _ _ _ _
set_option maxHeartbeats 16000000 in
theorem RGemm_any (w : World) (a b : Nat) (rm cm rn cn ro co : Nat) (am an ao : Option Addr) (zm zn zo : List Nat) (pm pn po : Nat) (hm : Fls w am zm) (hn : Fls w an zn) (ho : Fls w ao zo) (lm : zm.length ≤ 262144) (ln : zn.length ≤ 262144) (lo : zo.length ≤ 262144) (nm : zm.length = rm * cm) (nn : zn.length = rn * cn) (no : zo.length = ro * co) (um : rm ≤ 512) (vm : cm ≤ 512) (un : rn ≤ 512) (vn : cn ≤ 512) (uo : ro ≤ 512) (vo : co ≤ 512) (e1 : cm = rn) (e2 : ro = rm) (e3 : co = cn) (hpm : zm.length ≤ pm) (hqm : pm ≤ maxLen) :
    Calls Try.prog 32 #[.float .f64 a, .agg #[.int .i64 rm, .int .i64 cm, .slice am zm.length pm], .agg #[.int .i64 rn, .int .i64 cn, .slice an zn.length pn], .float .f64 b, .agg #[.int .i64 ro, .int .i64 co, .slice ao zo.length po]] w fun e w' => (∃ a' c', e = .returned (.agg #[.int .i64 ro, .int .i64 co, .slice a' (fillL (gemmD a b zm cm zn cn rn zo co) co zo (ro * co)).length c']) ∧ Fls w' a' (fillL (gemmD a b zm cm zn cn rn zo co) co zo (ro * co))) ∧ Below w.heap.size w w' := by
  rw [fillL_len]
  obtain ⟨W0, hW0⟩ : ∃ W0, W0 = ((((w.alloc (.cells #[.int .i64 rm, .int .i64 cm, .slice am zm.length pm] 24)).alloc (.cells #[.int .i64 rn, .int .i64 cn, .slice an zn.length pn] 24)).alloc (.cells #[.int .i64 ro, .int .i64 co, .slice ao zo.length po] 24)).alloc (.cells #[.int .i64 0, .int .i64 0, .slice none 0 0] 24)) := ⟨_, rfl⟩
  have hB0 : Below w.heap.size w W0 := hW0 ▸ ((((Below.refl _ _).alloc (Nat.le_refl _) _).alloc (by simp) _).alloc (by simp; omega) _).alloc (by simp; omega) _
  have x0 : Box W0 (w.heap.size) [.int .i64 rm, .int .i64 cm, .slice am zm.length pm] := hW0 ▸ ((((Box.newA w [.int .i64 rm, .int .i64 cm, .slice am zm.length pm] _ rfl).alloc _).alloc _).alloc _)
  have x1 : Box W0 (w.heap.size + 1) [.int .i64 rn, .int .i64 cn, .slice an zn.length pn] := hW0 ▸ (((Box.newA _ [.int .i64 rn, .int .i64 cn, .slice an zn.length pn] _ (by simp)).alloc _).alloc _)
  have x2 : Box W0 (w.heap.size + 1 + 1) [.int .i64 ro, .int .i64 co, .slice ao zo.length po] := hW0 ▸ ((Box.newA _ [.int .i64 ro, .int .i64 co, .slice ao zo.length po] _ (by simp)).alloc _)
  have x3 : Box W0 (w.heap.size + 1 + 1 + 1) [.int .i64 0, .int .i64 0, .slice none 0 0] := hW0 ▸ (Box.newA _ [.int .i64 0, .int .i64 0, .slice none 0 0] _ (by simp))
  have S0 := Lib.hid (show BoxS w W0 [(w.heap.size, [.int .i64 rm, .int .i64 cm, .slice am zm.length pm]), (w.heap.size + 1, [.int .i64 rn, .int .i64 cn, .slice an zn.length pn]), (w.heap.size + 1 + 1, [.int .i64 ro, .int .i64 co, .slice ao zo.length po]), (w.heap.size + 1 + 1 + 1, [.int .i64 0, .int .i64 0, .slice none 0 0])] from ⟨fun p hp => by
    simp only [List.mem_cons, List.not_mem_nil, or_false] at hp
    rcases hp with rfl | rfl | rfl | rfl
    · exact x0
    · exact x1
    · exact x2
    · exact x3
    , hB0⟩)
  have HAt := Lib.hid (fun W (h : Below w.heap.size w W) i j (hi : i < ro) (hj : j < co) => RAt_any W ro co i j ao zo po (ho.below h) lo (by rw [no]; exact place8 hi hj))
  have HCp := Lib.hid (fun W (h : Below w.heap.size w W) => RCopy_any W ro co ao zo po (ho.below h) lo)
  have HRo := Lib.hid (fun W (h : Below w.heap.size w W) i (hi : i < rm) => RRow_any W rm cm i am zm pm (hm.below h) lm nm hi hpm hqm um)
  have HCl := Lib.hid (fun W (h : Below w.heap.size w W) j (hj : j < cn) => RCol_any W rn cn j an zn pn (hn.below h) ln nn hj un)
  have HDo := Lib.hid (fun W i j a' cap' a2 cap2 (hF : Fls W a' (rowL zm cm i)) (hG : Fls W a2 (colL zn cn rn j)) => RDotF_any W a' a2 (rowL zm cm i) (colL zn cn rn j) cap' cap2 hF hG (by rw [rowL_len]; omega) (by rw [rowL_len, colL_len, e1]))
  simp only [rowL_len, colL_len] at HDo HRo
  have HE := Lib.hid (show _ ∧ _ ∧ _ from ⟨e1, e2, e3⟩)
  have HN := Lib.hid (show _ ∧ _ from ⟨no, lo⟩)
  have hco : co ≤ 512 := vo
  have hro : ro ≤ 512 := uo
  clear hB0 x0 x1 x2 x3 hm lm hn ln ho lo nm nn no um vm un vn uo vo e1 e2 e3 hpm hqm
  go_enter Try.func32, Try.ntmps32
  go_upto_region 1 with (fail)
  rw [← hW0]
  clear hW0
  obtain ⟨f01, f02, f03⟩ := (S0.out.get 2 rfl).facts
  go_wp2_with fail
  refine (HCp.out _ S0.out.below).mono ?_
  rintro e w1 ⟨⟨ra, b0, rc, rfl, hMem⟩, hb⟩
  have D0 := Lib.hid (BoxS.copy (cs := [.int .i64 ro, .int .i64 co, .slice ra zo.length rc]) (S0.out.step hb) S0.out hMem)
  clear f01 f02 f03 hMem hb HCp S0
  dsimp only
  go_upto_region 2 with (fail)
  obtain ⟨P, hPP⟩ : ∃ P, P = w1.heap.size := ⟨_, rfl⟩
  simp only [← hPP] at D0 ⊢
  generalize w1.alloc (.cells #[.int .i64 ro, .int .i64 co, .slice ra zo.length rc] 24) = V0 at *
  clear hPP
  replace D0 : Hid (DocW w V0 ([(w.heap.size, [.int .i64 rm, .int .i64 cm, .slice am zm.length pm]), (w.heap.size + 1, [.int .i64 rn, .int .i64 cn, .slice an zn.length pn]), (w.heap.size + 1 + 1, [.int .i64 ro, .int .i64 co, .slice ao zo.length po]), (w.heap.size + 1 + 1 + 1, [.int .i64 0, .int .i64 0, .slice none 0 0])] ++ [(P, [.int .i64 ro, .int .i64 co, .slice ra zo.length rc])]) ra b0 (fillL (gemmD a b zm cm zn cn rn zo co) co zo (0 * co))) := by rw [Nat.zero_mul]; exact D0
  go_wp2_with fail
  go_loopw [12] (fun si wr => ∃ i : Nat, i ≤ ro ∧ si = .int .i64 i ∧ DocW w wr ([(w.heap.size, [.int .i64 rm, .int .i64 cm, .slice am zm.length pm]), (w.heap.size + 1, [.int .i64 rn, .int .i64 cn, .slice an zn.length pn]), (w.heap.size + 1 + 1, [.int .i64 ro, .int .i64 co, .slice ao zo.length po]), (w.heap.size + 1 + 1 + 1, [.int .i64 0, .int .i64 0, .slice none 0 0])] ++ [(P, [.int .i64 ro, .int .i64 co, .slice ra zo.length rc])]) ra b0 (fillL (gemmD a b zm cm zn cn rn zo co) co zo (i * co))) (fun si _ => ro - (intOf si).toNat)
  case atStart => exact ⟨0, Nat.zero_le _, rfl, D0.out⟩
  case round =>
    obtain ⟨i, hi, rfl, hD⟩ := hrel
    have D1 := Lib.hid hD
    clear hD D0
    by_cases hir : i < ro
    · skip
      obtain ⟨f11, f12, f13⟩ := (D1.out.get 2 rfl).facts
      go_wp2_with fail
      clear f11 f12 f13
      go_loopw [13] (fun sj wr => ∃ j : Nat, j ≤ co ∧ sj = .int .i64 j ∧ DocW w wr ([(w.heap.size, [.int .i64 rm, .int .i64 cm, .slice am zm.length pm]), (w.heap.size + 1, [.int .i64 rn, .int .i64 cn, .slice an zn.length pn]), (w.heap.size + 1 + 1, [.int .i64 ro, .int .i64 co, .slice ao zo.length po]), (w.heap.size + 1 + 1 + 1, [.int .i64 0, .int .i64 0, .slice none 0 0])] ++ [(P, [.int .i64 ro, .int .i64 co, .slice ra zo.length rc])]) ra b0 (fillL (gemmD a b zm cm zn cn rn zo co) co zo (i * co + j))) (fun sj _ => co - (intOf sj).toNat)
      case atStart => exact ⟨0, Nat.zero_le _, rfl, D1.out⟩
      case round =>
        obtain ⟨j, hj, rfl, hD⟩ := hrel
        have D2 := Lib.hid hD
        clear hD D1
        by_cases hjc : j < co
        · skip
          obtain ⟨f11, f12, f13⟩ := (D2.out.get 2 rfl).facts
          obtain ⟨PP, hPP⟩ : ∃ PP, PP = i * co := ⟨_, rfl⟩
          have t1 : wrap64 ((i : Int) * (co : Int)) = (PP : Int) ∧ IntKind.i64.wrap ((i : Int) * (co : Int)) = (PP : Int) := by
            have hpl := place8 hir hjc
            have := HN.out.1
            have := HN.out.2
            exact ⟨w64m PP (by rw [hPP]; push_cast; rfl) (by omega), wi64m PP (by rw [hPP]; push_cast; rfl) (by omega)⟩
          have HPP := Lib.hid hPP
          clear hPP
          have t2 : IntKind.i64.wrap ((PP : Int) + (j : Int)) = (PP : Int) + j := by have hpl := place8 hir hjc; have h1 := HN.out.1; have h2 := HN.out.2; rw [IntKind.wrap_i64]; have := HPP.out; omega
          have HA1 := Lib.hid (fun W h => HAt.out W h i j hir hjc)
          have hV : gemmD a b zm cm zn cn rn zo co i j = bothW b (zo.getD (i * co + j) 0) a (sumG (atL (rowL zm cm i)) (atL (colL zn cn rn j)) 0 cm) := rfl
          have HV := Lib.hid hV
          clear hV
          generalize zo.getD (i * co + j) 0 = zv at *
          -- REGION
          go_upto_region 8 with (fail)
          have hdr : Below wr.heap.size wr wr.drew := below_drewN 1 (Below.refl _ wr)
          have D4 := Lib.hid (D2.out.step hdr)
          clear D2 f11 f12 f13
          have HS := Lib.hid (show ∀ W, Below wr.drew.heap.size wr.drew W → (fun W => (∀ i, W.cell? ⟨w.heap.size, i, none⟩ = ([.int .i64 rm, .int .i64 cm, .slice am zm.length pm] : List Value)[i]?) ∧ (∀ i, W.cell? ⟨w.heap.size + 1, i, none⟩ = ([.int .i64 rn, .int .i64 cn, .slice an zn.length pn] : List Value)[i]?) ∧ (∀ i, W.cell? ⟨w.heap.size + 1 + 1, i, none⟩ = ([.int .i64 ro, .int .i64 co, .slice ao zo.length po] : List Value)[i]?) ∧ (∀ i, W.cell? ⟨P, i, none⟩ = ([.int .i64 ro, .int .i64 co, .slice ra zo.length rc] : List Value)[i]?)) W from fun W h => ⟨((D4.out.step h).get 0 rfl).cell, ((D4.out.step h).get 1 rfl).cell, ((D4.out.step h).get 2 rfl).cell, ((D4.out.step h).get 4 rfl).cell⟩)
          have HPl := Lib.hid (place8 hir hjc)
          refine wp_region_items 22 [(true, 0), (true, 1), (true, 2), (true, 3), (true, 4), (true, 5), (true, 6), (true, 7), (true, 8), (true, 9), (true, 10), (true, 11), (true, 13), (true, 14), (true, 15), (true, 17), (true, 18), (false, 12), (false, 16), (false, 19), (false, 20), (false, 21)] (fun W => (∀ i, W.cell? ⟨w.heap.size, i, none⟩ = ([.int .i64 rm, .int .i64 cm, .slice am zm.length pm] : List Value)[i]?) ∧ (∀ i, W.cell? ⟨w.heap.size + 1, i, none⟩ = ([.int .i64 rn, .int .i64 cn, .slice an zn.length pn] : List Value)[i]?) ∧ (∀ i, W.cell? ⟨w.heap.size + 1 + 1, i, none⟩ = ([.int .i64 ro, .int .i64 co, .slice ao zo.length po] : List Value)[i]?) ∧ (∀ i, W.cell? ⟨P, i, none⟩ = ([.int .i64 ro, .int .i64 co, .slice ra zo.length rc] : List Value)[i]?)) (by kernel_rfl) (by kernel_rfl) (HS.out _ (Below.refl _ _)) ?_
          generalize wr.drew = w2 at *
          clear hdr
          have hPj : PP + j < 262144 := by have h1 := HPl.out; have h2 := HPP.out; have h3 := HN.out.1; have h4 := HN.out.2; omega
          iterate 17 (refine iW_take (v := ?_) rfl rfl ?_ ?_; rotate_left; (next => (intro w' hSw; (try dsimp only at hSw); go_simp; (try (rw [if_pos (by omega)]; go_simp)); (try with_reducible rfl))); (simp only [Act.put, List.setIfInBounds_toArray, List.set_cons_zero, List.set_cons_succ]))
          refine iW_mid rfl rfl ?_
          go_simp
          refine (HA1.out w2 D4.out.below).mono ?_
          rintro e w3 ⟨⟨s3, rfl⟩, hb⟩
          have D5 := Lib.hid (D4.out.step hb)
          refine ⟨HS.out _ hb, ?_⟩
          have HS2 := Lib.hid (fun W (h : Below w3.heap.size w3 W) => HS.out W (below_step hb hb.size h))
          clear hb
          refine iW_mid rfl rfl ?_
          go_simp
          refine (HRo.out w3 D5.out.below i (by have := HE.out.2.1; omega)).mono ?_
          rintro e w4 ⟨⟨a1, q1, rfl, hF⟩, hb⟩
          have D6 := Lib.hid (D5.out.step hb)
          refine ⟨HS2.out _ hb, ?_⟩
          have HS3 := Lib.hid (fun W (h : Below w4.heap.size w4 W) => HS2.out W (below_step hb hb.size h))
          have HF := Lib.hid hF
          clear hb hF
          refine iW_mid rfl rfl ?_
          go_simp
          refine (HCl.out w4 D6.out.below j (by have := HE.out.2.2; omega)).mono ?_
          rintro e w5 ⟨⟨dv, rfl, hO⟩, hb⟩
          have D7 := Lib.hid (D6.out.step hb)
          refine ⟨HS3.out _ hb, ?_⟩
          have HS4 := Lib.hid (fun W (h : Below w5.heap.size w5 W) => HS3.out W (below_step hb hb.size h))
          obtain ⟨a2, q2, rfl, hG⟩ := hO.fls
          have HG := Lib.hid (show _ ∧ _ from ⟨HF.out.below hb, hG⟩)
          clear hb hG hO
          simp only [colL_len] at *
          refine iW_mid rfl rfl ?_
          go_simp
          refine (HDo.out w5 i j a1 q1 a2 q2 HG.out.1 HG.out.2).mono ?_
          rintro e w6 ⟨⟨s6, rfl⟩, hb⟩
          have D8 := Lib.hid (D7.out.step hb)
          refine ⟨HS4.out _ hb, ?_⟩
          have HS5 := Lib.hid (fun W (h : Below w6.heap.size w6 W) => HS4.out W (below_step hb hb.size h))
          clear hb
          refine iW_mid rfl rfl ?_
          go_simp
          refine (RBoth_any w6 b _ a _ s6 s3).mono ?_
          rintro e w7 ⟨⟨s7, rfl⟩, hb⟩
          have D9 := Lib.hid (D8.out.step hb)
          refine ⟨HS5.out _ hb, ?_⟩
          have HS6 := Lib.hid (fun W (h : Below w7.heap.size w7 W) => HS5.out W (below_step hb hb.size h))
          clear hb
          rw [← HV.out]
          refine iW_nil ?_
          go_simp
          have hlen := fillL_len (gemmD a b zm cm zn cn rn zo co) co zo (i * co + j)
          obtain ⟨rfl, hF⟩ := D9.out.flb (k := i * co + j) (by rw [hlen, HN.out.1]; exact HPl.out)
          have hF1 := hF.lt
          have hF2 := hF.frozen
          obtain ⟨sf, hF3⟩ := hF.at (i := i * co + j) (by rw [hlen, HN.out.1]; exact HPl.out)
          have DD := Lib.hid (show DocW w (w7.setCell ⟨b0, i * co + j, none⟩ (.float .f64 (raw (gemmD a b zm cm zn cn rn zo co i j) s7))) ([(w.heap.size, [.int .i64 rm, .int .i64 cm, .slice am zm.length pm]), (w.heap.size + 1, [.int .i64 rn, .int .i64 cn, .slice an zn.length pn]), (w.heap.size + 1 + 1, [.int .i64 ro, .int .i64 co, .slice ao zo.length po]), (w.heap.size + 1 + 1 + 1, [.int .i64 0, .int .i64 0, .slice none 0 0])] ++ [(P, [.int .i64 ro, .int .i64 co, .slice (some ⟨b0, 0, none⟩) zo.length rc])]) (some ⟨b0, 0, none⟩) b0 (fillL (gemmD a b zm cm zn cn rn zo co) co zo (i * co + (j + 1))) from by
            rw [← Nat.add_assoc, fillL_at _ _ _ hjc]
            exact D9.out.set (by rw [hlen, HN.out.1]; exact HPl.out) _ s7)
          generalize gemmD a b zm cm zn cn rn zo co i j = tv at *
          have hpz : PP + j < zo.length := by rw [HN.out.1, HPP.out]; exact HPl.out
          rw [← HPP.out] at hF3 DD
          have hzz := HN.out.2
          clear hF hlen D9
          go_wp2_with fail
          refine NoPanic.normal ?_
          go_wp2_with fail
          go_roundw
          case rel => exact ⟨j + 1, hjc, by go_num, by rw [← HPP.out]; exact DD.out⟩
          case measure => simp [intOf]; omega
        · skip
          obtain rfl : j = co := by omega
          obtain ⟨f11, f12, f13⟩ := (D2.out.get 2 rfl).facts
          go_wp2_with fail
          go_roundw
          case rel => exact ⟨i + 1, hir, by go_num, by rw [Nat.succ_mul]; exact D2.out⟩
          case measure => simp [intOf]; omega
    · skip
      obtain rfl : i = ro := by omega
      obtain ⟨f11, f12, f13⟩ := (D1.out.get 2 rfl).facts
      obtain ⟨f21, f22, f23⟩ := (D1.out.get 3 rfl).facts
      obtain ⟨f31, f32, f33⟩ := (D1.out.get 4 rfl).facts
      go_wp2_with fail
      have hx2 := D1.out.get 3 rfl
      have hne := D1.out.ne
      have hfs := D1.out.fs
      have hbl := D1.out.below
      refine bodyPost_ret (results_one rfl (rv_cell (g := w.heap.size + 1 + 1 + 1) rfl (hx2.put3 _ _ _) rfl Try.underlying24 (by kernel_rfl))) rfl ⟨⟨ra, rc, rfl, ?_⟩, ?_⟩
      · have hq : ∀ u0 u1 u2, Fls (((wr.setCell ⟨w.heap.size + 1 + 1 + 1, 0, none⟩ u0).setCell ⟨w.heap.size + 1 + 1 + 1, 1, none⟩ u1).setCell ⟨w.heap.size + 1 + 1 + 1, 2, none⟩ u2) ra (fillL (gemmD a b zm cm zn cn rn zo co) co zo (i * co)) := fun u0 u1 u2 => by
          by_cases hz : (fillL (gemmD a b zm cm zn cn rn zo co) co zo (i * co)) = []
          · rw [hz]; exact fun h => absurd rfl h
          · rcases hfs with h | ⟨e, hF⟩
            · exact absurd h hz
            · subst e
              have hn := hne hz (w.heap.size + 1 + 1 + 1, [.int .i64 0, .int .i64 0, .slice none 0 0]) (List.mem_of_getElem? (i := 3) rfl)
              exact (((hF.other (Ne.symm hn) _ _).other (Ne.symm hn) _ _).other (Ne.symm hn) _ _).fls
        exact hq _ _ _
      · exact below_put3 hbl (by omega) _ _ _
end Go.Proofs.Ytbcdpibcieadlaa
