/- Layer 14, the document's: a tridiagonal factored (printed by gen_ji.py). No condition but on lengths. -/
import Derived.Test.YtdljnhdhigbefaaJhZ
namespace Go.Proofs.Ytdljnhdhigbefaa
open Go Go.RowKit
set_option maxRecDepth 1000000
set_option linter.unusedSimpArgs false
set_option linter.unusedVariables false

set_option maxHeartbeats 32000000 in
theorem RFactor14 (w : World) (da ea : Option Addr) (ds es : List Nat) (dc ec x n m : Nat) (hdl : ds.length = n) (hel : es.length = m) (hT : TrI w da ea ds es dc ec) (hn : n ≤ 512) (hm : m = n - 1) (hf : (ds ++ es).all ffin = true) :
    Calls Try.prog 40 #[.agg #[.slice da n dc, .slice ea m ec], .float .f64 x] w fun e w' => ∃ X ba bb bc bl bk, e = .returned (.agg #[.slice (some ⟨ba, 0, none⟩) n n, .slice (some ⟨bb, 0, none⟩) n n, .slice (some ⟨bc, 0, none⟩) n n, .slice (some ⟨bl, 0, none⟩) m m, .slice (some ⟨bk, 0, none⟩) m m]) ∧ FaM w w' X (some ⟨ba, 0, none⟩) n ba bb bc bl bk n m (facI ds es x) := by
  have hsz := szL_num (fin_numI hf) (ds ++ es).length
  have HFLO := Lib.hid (fun (W : World) => (show Calls Try.prog 77 #[.float .f64 (sizI ds es)] W fun e w' => e = .returned (.float .f64 (lowI ds es)) ∧ Below W.heap.size W w' from RFloor14 W (sizI ds es) hsz.1 hsz.2))
  have H2 := Lib.hid (fun (W : World) (hW : Below w.heap.size w W) => RSize14 W da ea ds es dc ec n m hdl hel (hT.below hW) (by omega) (by omega) hf)
  have HT := Lib.hid (fun (W : World) (hW : Below w.heap.size w W) => hT.below hW)
  have HLN := Lib.hid (show n ≤ 512 ∧ m = n - 1 ∧ m ≤ 512 ∧ ds.length = n ∧ es.length = m from ⟨by omega, by omega, by omega, hdl, hel⟩)
  have HWE := Lib.hid hT.wdE
  have HWD := Lib.hid hT.wdD
  clear hT hf hsz hn hm hdl hel
  have hn9 : n ≤ 512 := HLN.out.1
  have hm9 : m ≤ 512 := HLN.out.2.2.1
  have x1 : Box ((w.alloc (.cells #[.slice da n dc, .slice ea m ec] 54)).alloc (.cells #[.slice none 0 0, .slice none 0 0, .slice none 0 0, .slice none 0 0, .slice none 0 0] 45)) w.heap.size [.slice da n dc, .slice ea m ec] := (Box.newA w [.slice da n dc, .slice ea m ec] _ rfl).alloc _
  have x2 : Box ((w.alloc (.cells #[.slice da n dc, .slice ea m ec] 54)).alloc (.cells #[.slice none 0 0, .slice none 0 0, .slice none 0 0, .slice none 0 0, .slice none 0 0] 45)) (w.heap.size + 1) [.slice none 0 0, .slice none 0 0, .slice none 0 0, .slice none 0 0, .slice none 0 0] := Box.newA _ [.slice none 0 0, .slice none 0 0, .slice none 0 0, .slice none 0 0, .slice none 0 0] _ (by simp)
  have hB0 : Below w.heap.size w ((w.alloc (.cells #[.slice da n dc, .slice ea m ec] 54)).alloc (.cells #[.slice none 0 0, .slice none 0 0, .slice none 0 0, .slice none 0 0, .slice none 0 0] 45)) := ((Below.refl _ _).alloc (Nat.le_refl _) _).alloc (by simp) _
  obtain ⟨w3, hw3⟩ : ∃ W, W = ((w.alloc (.cells #[.slice da n dc, .slice ea m ec] 54)).alloc (.cells #[.slice none 0 0, .slice none 0 0, .slice none 0 0, .slice none 0 0, .slice none 0 0] 45)) := ⟨_, rfl⟩
  rw [← hw3] at x1 x2 hB0
  have Y1 := Lib.hid x1
  have Y2 := Lib.hid x2
  have B3 := Lib.hid hB0
  clear x1 x2 hB0
  go_enter Try.func40, Try.ntmps40
  go_upto_region 1 with (fail)
  rw [← hw3]
  clear hw3
  obtain ⟨q1, q2, q3⟩ := Y1.out.facts
  go_upto_region 2 with (fail)
  go_cut [6] from 17 to 31 (fun s6 wx => ∃ (X ba bb bc bl bk : Nat), s6 = .pointer (some ⟨X, 0, none⟩) ∧ FaM w3 wx X (some ⟨ba, 0, none⟩) n ba bb bc bl bk n m ⟨List.replicate n 0, List.replicate n 0, List.replicate n 0, List.replicate m 0, List.replicate m false⟩)
  case first =>
    have hdr := below_drewN 1 (Below.refl w3.heap.size w3)
    have C4 := Lib.hid (show Below w3.heap.size w3 w3.drew from hdr)
    have Z1 := Lib.hid (show Box w3.drew w.heap.size _ from Y1.out.below hdr)
    clear hdr q1 q2 q3
    obtain ⟨D, hD⟩ : ∃ D, D = w3.drew := ⟨_, rfl⟩
    rw [← hD] at Z1 C4
    obtain ⟨J, hJ⟩ : ∃ J : List Nat → List Nat → Act → World → Prop, J = (fun rc pd A W => ∃ (s : Nat → Value) (K : Nat → Nat), FamI D W (fun i => FkP w3.heap.size n m [] (kdR i)) 0 [1, 3, 5, 9, 13, 15] pd s K ∧ (rc = [] → ∀ i ∈ [1, 3, 5, 9, 13], i ∉ pd) ∧ A = { tmps := #[.agg #[.slice da n dc, .slice ea m ec], .float .f64 x, .pointer (some ⟨w.heap.size, 0, none⟩), undef, .pointer (some ⟨w.heap.size + 1, 0, none⟩), .int .i64 (n : Int), s 15, undef, undef, undef, undef, undef, undef, undef, .pointer (some ⟨w.heap.size, 0, none⟩), .slice da n dc, .int .i64 (n : Int), .int .i64 (n : Int), s 1, .int .i64 (n : Int), s 3, .int .i64 (n : Int), s 5, .pointer (some ⟨w.heap.size, 1, none⟩), .slice ea m ec, .int .i64 (m : Int), s 9, .pointer (some ⟨w.heap.size, 1, none⟩), .slice ea m ec, .int .i64 (m : Int), s 13, bif rc.isEmpty then .agg #[s 1, s 3, s 5, s 9, s 13] else undef, undef, undef, undef, undef, undef, undef, undef, undef, undef, undef, undef, undef, undef, undef, undef, undef, undef, undef, undef, undef, undef, undef, undef, undef, undef, undef, undef, undef, undef, undef, undef, undef, undef, undef, undef, undef, undef, undef, undef, undef, undef, undef, undef, undef, undef, undef, undef, undef, undef, undef, undef, undef, undef, undef, undef, undef, undef, undef, undef, undef, undef, undef, undef, undef, undef, undef, undef, undef, undef, undef, undef, undef, undef, undef, undef, undef, undef, undef, undef, undef, undef, undef, undef, undef, undef, undef, undef, undef, undef, undef, undef, undef, undef, undef, undef, undef, undef, undef, undef, undef, undef, undef, undef, undef, undef, undef, undef, undef, undef, undef, undef, undef, undef, undef, undef, undef, undef, undef, undef, undef, undef, undef, undef, undef, undef, undef, undef, undef, undef, undef, undef, undef, undef, undef, undef, undef, undef, undef, undef, undef, undef, undef, undef, undef, undef, undef, undef, undef, undef, undef, undef, undef, undef, undef, undef, undef, undef, undef, undef, undef, undef, undef, undef, undef, undef, undef, undef, undef, undef, undef, undef, undef, undef, undef, undef, undef, undef, undef, undef, undef, undef, undef, undef, undef, undef, undef, undef, undef, undef, undef, undef, undef, undef, undef, undef, undef, undef, undef, undef], defers := [] }) := ⟨_, rfl⟩
    have HJ := Lib.hid hJ
    clear hJ
    have hmk := run_mkF n (by omega)
    have hmk2 := run_mkF m (by omega)
    have hmk3 := run_mkB m (by omega)
    refine wp_region_invN 16 [(true, 0), (true, 2), (true, 4), (true, 6), (true, 7), (true, 8), (true, 10), (true, 11), (true, 12)] [14] [1, 3, 5, 9, 13, 15] [(14, 1), (14, 3), (14, 5), (14, 9), (14, 13)] (fun W => (∀ i, W.cell? ⟨w.heap.size, i, none⟩ = ([.slice da n dc, .slice ea m ec] : List Value)[i]?) ∧ Box W w.heap.size [.slice da n dc, .slice ea m ec]) J (by kernel_rfl) (by kernel_rfl) (hD ▸ ⟨Z1.out.cell, Z1.out⟩) ?_ ?_ ?_ ?_
    · skip
      iterate 9 (refine iW_take (v := ?_) rfl rfl ?_ ?_; rotate_left; (next => (intro w' hSw; (try dsimp only at hSw); go_simp; (try (rw [if_pos (by omega)]; go_simp)); (try with_reducible rfl))); (simp only [Act.put, List.setIfInBounds_toArray, List.set_cons_zero, List.set_cons_succ]))
      refine iW_nil ?_
      rw [HJ.out, ← hD]
      exact ⟨fun _ => undef, fun _ => 0, FamI.start D _ 0 (fun i hi h => h hi) _ _, (fun e => by cases e), rfl⟩
    · intro c rc pd A W hsuf hsub hwt hSW hJ'
      rw [HJ.out] at hJ'
      obtain ⟨s, K, hA, hno, rfl⟩ := hJ'
      simp only [sufs, List.mem_cons, List.cons.injEq, List.not_mem_nil, or_false, reduceCtorEq] at hsuf
      obtain ⟨rfl, rfl⟩ := hsuf
      have hin : ∀ i ∈ [1, 3, 5, 9, 13], i ∉ pd := fun i hi h => by
          have h2 := hwt
          simp only [List.mem_cons, List.not_mem_nil, or_false] at hi
          rcases hi with rfl | rfl | rfl | rfl | rfl <;> simp [waitB, h] at h2
      obtain ⟨e1, _⟩ : FkP w3.heap.size n m [] 1 W (s 1) (K 1) := hA.fact 1 (by decide) (hin 1 (by decide))
      obtain ⟨e3, _⟩ : FkP w3.heap.size n m [] 1 W (s 3) (K 3) := hA.fact 3 (by decide) (hin 3 (by decide))
      obtain ⟨e5, _⟩ : FkP w3.heap.size n m [] 1 W (s 5) (K 5) := hA.fact 5 (by decide) (hin 5 (by decide))
      obtain ⟨e9, _⟩ : FkP w3.heap.size n m [] 2 W (s 9) (K 9) := hA.fact 9 (by decide) (hin 9 (by decide))
      obtain ⟨e13, _⟩ : FkP w3.heap.size n m [] 3 W (s 13) (K 13) := hA.fact 13 (by decide) (hin 13 (by decide))
      have HA := Lib.hid hA
      have HIN := Lib.hid hin
      have HSW := Lib.hid hSW
      have HE := Lib.hid (show _ ∧ _ ∧ _ ∧ _ ∧ _ from ⟨e1, e3, e5, e9, e13⟩)
      rw [e1, e3, e5, e9, e13]
      clear e1 e3 e5 e9 e13 hA hin hno hwt hsub hSW
      refine opW_take rfl rfl ?_
      go_simp
      refine ⟨HSW.out, ?_⟩
      rw [HJ.out]
      exact ⟨s, K, HA.out, fun _ => HIN.out, by rw [HE.out.1, HE.out.2.1, HE.out.2.2.1, HE.out.2.2.2.1, HE.out.2.2.2.2]; rfl⟩
    · intro q rc pd A W hsuf hsub hq hSW hJ'
      rw [HJ.out] at hJ'
      obtain ⟨s, K, hA, hno, rfl⟩ := hJ'
      have HA := Lib.hid hA
      have HBx := Lib.hid hSW.2
      have hq8 := (subsL_sub _ _ hsub).subset hq
      have HNO := Lib.hid hno
      clear hA hSW hsub hno
      simp only [sufs, List.mem_cons, List.not_mem_nil, or_false] at hsuf
      simp only [List.mem_cons, List.not_mem_nil, or_false] at hq8
      rcases hq8 with rfl | rfl | rfl | rfl | rfl | rfl
      · skip
        rcases hsuf with rfl | rfl
        case inr => exact absurd hq (HNO.out rfl 1 (by decide))
        refine opW_take rfl rfl ?_
        go_simp
        have hb : Below W.heap.size W (W.alloc (.cells (List.replicate n (Value.float .f64 0)).toArray 40)) := (Below.refl _ _).alloc (Nat.le_refl _) _
        refine ⟨⟨(HBx.out.below hb).cell, HBx.out.below hb⟩, ?_⟩
        rw [HJ.out]
        exact ⟨_, _, HA.out.step (FkP.below w3.heap.size n m [] kdR) 1 (k := W.heap.size) (.inl ⟨by decide, Nat.le_refl _⟩) (by simp) (show FkP w3.heap.size n m [] 1 _ _ _ from ⟨rfl, flb_mk W n⟩) hb, (fun e => by cases e), rfl⟩
      · skip
        rcases hsuf with rfl | rfl
        case inr => exact absurd hq (HNO.out rfl 3 (by decide))
        refine opW_take rfl rfl ?_
        go_simp
        have hb : Below W.heap.size W (W.alloc (.cells (List.replicate n (Value.float .f64 0)).toArray 40)) := (Below.refl _ _).alloc (Nat.le_refl _) _
        refine ⟨⟨(HBx.out.below hb).cell, HBx.out.below hb⟩, ?_⟩
        rw [HJ.out]
        exact ⟨_, _, HA.out.step (FkP.below w3.heap.size n m [] kdR) 3 (k := W.heap.size) (.inl ⟨by decide, Nat.le_refl _⟩) (by simp) (show FkP w3.heap.size n m [] 1 _ _ _ from ⟨rfl, flb_mk W n⟩) hb, (fun e => by cases e), rfl⟩
      · skip
        rcases hsuf with rfl | rfl
        case inr => exact absurd hq (HNO.out rfl 5 (by decide))
        refine opW_take rfl rfl ?_
        go_simp
        have hb : Below W.heap.size W (W.alloc (.cells (List.replicate n (Value.float .f64 0)).toArray 40)) := (Below.refl _ _).alloc (Nat.le_refl _) _
        refine ⟨⟨(HBx.out.below hb).cell, HBx.out.below hb⟩, ?_⟩
        rw [HJ.out]
        exact ⟨_, _, HA.out.step (FkP.below w3.heap.size n m [] kdR) 5 (k := W.heap.size) (.inl ⟨by decide, Nat.le_refl _⟩) (by simp) (show FkP w3.heap.size n m [] 1 _ _ _ from ⟨rfl, flb_mk W n⟩) hb, (fun e => by cases e), rfl⟩
      · skip
        rcases hsuf with rfl | rfl
        case inr => exact absurd hq (HNO.out rfl 9 (by decide))
        refine opW_take rfl rfl ?_
        go_simp
        have hb : Below W.heap.size W (W.alloc (.cells (List.replicate m (Value.float .f64 0)).toArray 40)) := (Below.refl _ _).alloc (Nat.le_refl _) _
        refine ⟨⟨(HBx.out.below hb).cell, HBx.out.below hb⟩, ?_⟩
        rw [HJ.out]
        exact ⟨_, _, HA.out.step (FkP.below w3.heap.size n m [] kdR) 9 (k := W.heap.size) (.inl ⟨by decide, Nat.le_refl _⟩) (by simp) (show FkP w3.heap.size n m [] 2 _ _ _ from ⟨rfl, flb_mk W m⟩) hb, (fun e => by cases e), rfl⟩
      · skip
        rcases hsuf with rfl | rfl
        case inr => exact absurd hq (HNO.out rfl 13 (by decide))
        refine opW_take rfl rfl ?_
        go_simp
        have hb : Below W.heap.size W (W.alloc (.cells (List.replicate m (Value.bool false)).toArray 4)) := (Below.refl _ _).alloc (Nat.le_refl _) _
        refine ⟨⟨(HBx.out.below hb).cell, HBx.out.below hb⟩, ?_⟩
        rw [HJ.out]
        exact ⟨_, _, HA.out.step (FkP.below w3.heap.size n m [] kdR) 13 (k := W.heap.size) (.inl ⟨by decide, Nat.le_refl _⟩) (by simp) (show FkP w3.heap.size n m [] 3 _ _ _ from ⟨rfl, box_mkB W m⟩) hb, (fun e => by cases e), rfl⟩
      · skip
        rcases hsuf with rfl | rfl
        · skip
          refine opW_take rfl rfl ?_
          go_simp
          have hb : Below W.heap.size W (W.alloc (.cells #[.slice none 0 0, .slice none 0 0, .slice none 0 0, .slice none 0 0, .slice none 0 0] 45)) := (Below.refl _ _).alloc (Nat.le_refl _) _
          refine ⟨⟨(HBx.out.below hb).cell, HBx.out.below hb⟩, ?_⟩
          rw [HJ.out]
          exact ⟨_, _, HA.out.step (FkP.below w3.heap.size n m [] kdR) 15 (k := W.heap.size) (.inl ⟨by decide, Nat.le_refl _⟩) (by simp) (show FkP w3.heap.size n m [] 4 _ _ _ from ⟨rfl, Box.newA W [.slice none 0 0, .slice none 0 0, .slice none 0 0, .slice none 0 0, .slice none 0 0] _ rfl⟩) hb, (fun e => by cases e), rfl⟩
        · skip
          refine opW_take rfl rfl ?_
          go_simp
          have hb : Below W.heap.size W (W.alloc (.cells #[.slice none 0 0, .slice none 0 0, .slice none 0 0, .slice none 0 0, .slice none 0 0] 45)) := (Below.refl _ _).alloc (Nat.le_refl _) _
          refine ⟨⟨(HBx.out.below hb).cell, HBx.out.below hb⟩, ?_⟩
          rw [HJ.out]
          exact ⟨_, _, HA.out.step (FkP.below w3.heap.size n m [] kdR) 15 (k := W.heap.size) (.inl ⟨by decide, Nat.le_refl _⟩) (by simp) (show FkP w3.heap.size n m [] 4 _ _ _ from ⟨rfl, Box.newA W [.slice none 0 0, .slice none 0 0, .slice none 0 0, .slice none 0 0, .slice none 0 0] _ rfl⟩) hb, (fun _ i hi h => HNO.out rfl i hi (List.mem_of_mem_erase h)), rfl⟩
    · intro A W hJ'
      rw [HJ.out] at hJ'
      obtain ⟨s, K, hA, hno, rfl⟩ := hJ'
      obtain ⟨e1, e3, e5, e9, e13, e15, hF⟩ := fam_doneR C4.out hA
      have HF := Lib.hid hF
      have hbx : Box W (K 15) [.slice none 0 0, .slice none 0 0, .slice none 0 0, .slice none 0 0, .slice none 0 0] := (hA.fact 15 (by decide) (by decide)).2
      rw [e1, e3, e5, e9, e13, e15]
      obtain ⟨q1, q2, q3⟩ := hbx.facts
      clear e1 e3 e5 e9 e13 e15 hA hF hbx hmk hmk2 hmk3 HJ
      simp only [List.isEmpty_nil, cond_true]
      go_simp
      go_wp2
      refine NoPanic.normal ?_
      go_wp2_with fail
      go_meet
      case rel => exact ⟨K 15, K 1, K 3, K 5, K 9, K 13, rfl, HF.out⟩
  case rest =>
    obtain ⟨X, ba, bb, bc, bl, bk, rfl, hF⟩ := hcut
    have S := Lib.hid hF
    clear hF q1 q2 q3
    have HWT := Lib.hid (fun W (h : Below w3.heap.size w3 W) => HT.out W (below_step B3.out B3.out.size h))
    have HTB := Lib.hid (fun W (h : Below w3.heap.size w3 W) => (Y1.out.below h))
    have HZB := Lib.hid (fun W (h : Below w3.heap.size w3 W) => (Y2.out.below h))
    have HBB := Lib.hid (fun W (h : Below w3.heap.size w3 W) => below_step B3.out B3.out.size h)
    clear HT Y1 Y2
    obtain ⟨q1, q2, q3⟩ := (HTB.out _ S.out.bel).facts
    go_wp2_with fail
    refine (H2.out _ (HBB.out _ S.out.bel)).mono ?_
    rintro e w6 ⟨rfl, hb⟩
    replace S := Lib.hid (S.out.step hb)
    clear q1 q2 q3 hb H2
    dsimp only
    go_wp2_with fail
    refine (HFLO.out _).mono ?_
    rintro e w7 ⟨rfl, hb⟩
    replace S := Lib.hid (S.out.step hb)
    clear hb HFLO
    obtain ⟨low, hlow⟩ : ∃ l, l = lowI ds es := ⟨_, rfl⟩
    have HLO := Lib.hid (show low = lowI ds es ∧ low < 18446744073709551616 from ⟨hlow, by rw [hlow]; exact lowI_lt ds es⟩)
    rw [← hlow]
    clear hlow
    dsimp only
    go_wp2_with fail
    replace S := Lib.hid (show FaM w3 w7 X (some ⟨ba, 0, none⟩) n ba bb bc bl bk n m ⟨putZ (fun i => fsub (ds.getD i 0) x) (List.replicate n 0) (0), putZ (fun i => es.getD i 0) (List.replicate n 0) (min (0) m), List.replicate n 0, List.replicate m 0, List.replicate m false⟩ from by rw [Nat.zero_min]; exact S.out)
    go_loopw [8] (fun s8 wr => ∃ i : Nat, s8 = .int .i64 i ∧ i ≤ n ∧ FaM w3 wr X (some ⟨ba, 0, none⟩) n ba bb bc bl bk n m ⟨putZ (fun i => fsub (ds.getD i 0) x) (List.replicate n 0) (i), putZ (fun i => es.getD i 0) (List.replicate n 0) (min (i) m), List.replicate n 0, List.replicate m 0, List.replicate m false⟩) (fun s8 _ => n - (intOf s8).toNat)
    case atStart => exact ⟨0, rfl, Nat.zero_le _, S.out⟩
    case round =>
      obtain ⟨i, rfl, hi, hG⟩ := hrel
      have G := Lib.hid hG
      clear hG S
      by_cases hlt : i < n
      case pos =>
        have hn0 : n ≠ 0 := by omega
        have hi9 : i < 1000 := by omega
        go_upto_region 7 with (fail)
        have hdr := below_drewN 1 (Below.refl wr.heap.size wr)
        replace G := Lib.hid (show FaM w3 wr.drew X _ n ba bb bc bl bk n m _ from G.out.step hdr)
        clear hdr
        obtain ⟨bd, od, sd, rfl, hbd, cd⟩ := FlsI.at (HWT.out _ G.out.bel).D (show i < ds.length by rw [HLN.out.2.2.2.1]; exact hlt)
        obtain ⟨dv, hlet⟩ : ∃ v, v = ds.getD i 0 := ⟨_, rfl⟩
        have HDV := Lib.hid (show dv = ds.getD i 0 from hlet)
        clear hlet
        rw [← HDV.out] at cd
        clear hbd
        refine wp_region_items 10 [(true, 0), (true, 1), (true, 2), (true, 3), (true, 4), (true, 5), (true, 6), (true, 7), (true, 8), (false, 9)] (fun W => (∀ j, W.cell? ⟨w.heap.size, j, none⟩ = ([.slice (some ⟨bd, od, none⟩) n dc, .slice ea m ec] : List Value)[j]?) ∧ (∀ j, W.cell? ⟨X, j, none⟩ = ([.slice (some ⟨ba, 0, none⟩) n n, .slice (some ⟨bb, 0, none⟩) n n, .slice (some ⟨bc, 0, none⟩) n n, .slice (some ⟨bl, 0, none⟩) m m, .slice (some ⟨bk, 0, none⟩) m m] : List Value)[j]?) ∧ W.cell? ⟨bd, od + i, none⟩ = some (.float .f64 (raw dv sd))) (by kernel_rfl) (by kernel_rfl) ⟨(HTB.out _ G.out.bel).cell, G.out.box.cell, cd⟩ ?_
        generalize wr.drew = y0 at *
        iterate 9 (refine iW_take (v := ?_) rfl rfl ?_ ?_; rotate_left; (next => (intro w' hSw; (try dsimp only at hSw); go_simp; (try (rw [if_pos (by omega)]; go_simp)); (try with_reducible rfl))); (simp only [Act.put, List.setIfInBounds_toArray, List.set_cons_zero, List.set_cons_succ]))
        refine iW_mid rfl rfl ?_
        refine wp_flt rfl rfl rfl rfl ?_
        intro s1 n1
        refine ⟨⟨(HTB.out _ G.out.bel).cell, G.out.box.cell, cd⟩, ?_⟩
        clear cd
        replace G := Lib.hid (G.out.step (below_drewN n1 (Below.refl _ _)))
        generalize y0.drewN n1 = y1 at *
        refine iW_nil ?_
        (try simp only [fadd_rawl, fadd_rawr, fsub_rawl, fsub_rawr, fmul_rawl, fmul_rawr, fdiv_rawl, fdiv_rawr])
        obtain ⟨av, hlet⟩ : ∃ v, v = fsub dv x := ⟨_, rfl⟩
        have HAV := Lib.hid (show av = fsub dv x ∧ av < 18446744073709551616 from ⟨hlet, by rw [hlet]; exact fsub_lt _ _⟩)
        clear hlet
        rw [← HAV.out.1]
        obtain ⟨k1, k2⟩ : ba < y1.heap.size ∧ ∀ j, y1.frozen? ⟨ba, j, none⟩ = false := ⟨(G.out.addr hn0).2.lt, (G.out.addr hn0).2.frozen⟩
        obtain ⟨s9, c9⟩ := G.out.atA hlt
        go_simp
        go_wp2_with fail
        refine NoPanic.normal ?_
        go_upto_region 8 with (fail)
        clear k1 k2 c9
        obtain ⟨y2, hyw⟩ : ∃ y, y = y1.setCell ⟨ba, i, none⟩ (.float .f64 (raw av s1)) := ⟨_, rfl⟩
        rw [← hyw]
        replace G := Lib.hid (show FaM w3 y2 X _ n ba bb bc bl bk n m _ from hyw ▸ G.out.setA hn0 i av s1 HAV.out.2)
        clear hyw
        have HN1 := Lib.hid (show putZ (fun i => fsub (ds.getD i 0) x) (List.replicate n 0) (i + 1) = (putZ (fun i => fsub (ds.getD i 0) x) (List.replicate n 0) i).set i av from by rw [putZ, HAV.out.1, HDV.out])
        obtain ⟨q1, q2, q3⟩ := (HTB.out _ G.out.bel).facts
        by_cases hie : i < m
        · skip
          have h1 : (i : Int) < (m : Int) := by omega
          have h1d : decide ((i : Int) < (m : Int)) = true := decide_eq_true h1
          go_upto_region 9 with (fail)
          clear q1 q2 q3
          have hdr := below_drewN 1 (Below.refl y2.heap.size y2)
          replace G := Lib.hid (show FaM w3 y2.drew X _ n ba bb bc bl bk n m _ from G.out.step hdr)
          clear hdr
          obtain ⟨be, oe, se, rfl, hbe, ce⟩ := FlsI.at (HWT.out _ G.out.bel).E (show i < es.length by rw [HLN.out.2.2.2.2]; exact hie)
          obtain ⟨ev, hlet⟩ : ∃ v, v = es.getD i 0 := ⟨_, rfl⟩
          have HEV := Lib.hid (show ev = es.getD i 0 ∧ ev < 18446744073709551616 from ⟨hlet, by rw [hlet]; exact HWE.out.at i⟩)
          clear hlet
          rw [← HEV.out.1] at ce
          clear hbe
          refine wp_region_items 8 [(true, 0), (true, 1), (true, 2), (true, 3), (true, 4), (true, 5), (true, 6), (true, 7)] (fun W => (∀ j, W.cell? ⟨w.heap.size, j, none⟩ = ([.slice (some ⟨bd, od, none⟩) n dc, .slice (some ⟨be, oe, none⟩) m ec] : List Value)[j]?) ∧ (∀ j, W.cell? ⟨X, j, none⟩ = ([.slice (some ⟨ba, 0, none⟩) n n, .slice (some ⟨bb, 0, none⟩) n n, .slice (some ⟨bc, 0, none⟩) n n, .slice (some ⟨bl, 0, none⟩) m m, .slice (some ⟨bk, 0, none⟩) m m] : List Value)[j]?) ∧ W.cell? ⟨be, oe + i, none⟩ = some (.float .f64 (raw ev se))) (by kernel_rfl) (by kernel_rfl) ⟨(HTB.out _ G.out.bel).cell, G.out.box.cell, ce⟩ ?_
          generalize y2.drew = y3 at *
          iterate 8 (refine iW_take (v := ?_) rfl rfl ?_ ?_; rotate_left; (next => (intro w' hSw; (try dsimp only at hSw); go_simp; (try (rw [if_pos (by omega)]; go_simp)); (try with_reducible rfl))); (simp only [Act.put, List.setIfInBounds_toArray, List.set_cons_zero, List.set_cons_succ]))
          refine iW_nil ?_
          clear ce
          obtain ⟨k1, k2⟩ : bb < y3.heap.size ∧ ∀ j, y3.frozen? ⟨bb, j, none⟩ = false := ⟨G.out.b.lt, G.out.b.frozen⟩
          obtain ⟨s8, c8⟩ := G.out.atB hlt
          go_simp
          go_wp2_with fail
          refine NoPanic.normal ?_
          go_wp2_with fail
          go_roundw
          case rel => exact ⟨i + 1, by go_num, hlt, by rw [HN1.out, Nat.min_eq_left (by omega : i + 1 ≤ m), putZ, ← HEV.out.1]; have h := G.out.setB i ev se HEV.out.2; rw [Nat.min_eq_left (by omega : i ≤ m)] at h; exact h⟩
          case measure => simp [intOf]; omega
        · skip
          have h1 : ¬ (i : Int) < (m : Int) := by omega
          have h1d : decide ((i : Int) < (m : Int)) = false := decide_eq_false h1
          go_wp2_with fail
          go_roundw
          case rel => exact ⟨i + 1, by go_num, hlt, by rw [HN1.out, Nat.min_eq_right (by omega : m ≤ i + 1)]; have h := G.out; rw [Nat.min_eq_right (by omega : m ≤ i)] at h; exact h⟩
          case measure => simp [intOf]; omega
      case neg =>
        have hin : i = n := by omega
        skip
        have HZ0 := Lib.hid (show faL ds es x low 0 = ⟨putZ (fun i => fsub (ds.getD i 0) x) (List.replicate n 0) (n), putZ (fun i => es.getD i 0) (List.replicate n 0) (min (n) m), List.replicate n 0, List.replicate m 0, List.replicate m false⟩ from by
            have h1 := putZ_stL (fun _ v => fsub v x) ds
            have h2 := putZ_app es n (by have := HLN.out; omega)
            rw [HLN.out.2.2.2.1] at h1
            rw [HLN.out.2.2.2.2] at h2
            rw [faL_zero (n := n) (m := m) HLN.out.2.2.2.1 HLN.out.2.2.2.2, Nat.min_eq_right (by have := HLN.out.2.1; omega), h1, h2])
        have G0 := Lib.hid (show FaM w3 wr X (some ⟨ba, 0, none⟩) n ba bb bc bl bk n m (faL ds es x low 0) from by rw [HZ0.out]; have h := G.out; rw [hin] at h; exact h)
        have h0 : ¬ (i : Int) < (n : Int) := by omega
        clear G hin hi hlt
        go_wp2_with fail
        go_loopw [9] (fun s9 wr => ∃ i : Nat, s9 = .int .i64 i ∧ i ≤ m ∧ FaM w3 wr X (some ⟨ba, 0, none⟩) n ba bb bc bl bk n m (faL ds es x low i)) (fun s9 _ => m - (intOf s9).toNat)
        case atStart => exact ⟨0, rfl, Nat.zero_le _, G0.out⟩
        skip
        case round =>
          obtain ⟨i, rfl, hi, hG⟩ := hrel
          have G := Lib.hid hG
          clear hG G0 HZ0 h0
          by_cases hlt : i < m
          case pos =>
            have HI := Lib.hid (show i < n ∧ i + 1 < n ∧ n ≠ 0 ∧ i < 1000 from by have := HLN.out.2.1; omega)
            have hn0 := HI.out.2.2.1
            have hin : i < n := HI.out.1
            have hi9 := HI.out.2.2.2
            have hcd : (i : Int) < (n : Int) - 1 := by have := HI.out.2.1; omega
            have hcd2 : decide ((i : Int) < (n : Int) - 1) = true := decide_eq_true hcd
            obtain ⟨i1, hi1⟩ : ∃ i1, i1 = i + 1 := ⟨_, rfl⟩
            have hz1 : wrap64 ((i : Int) + 1) = (i1 : Int) := by unfold wrap64; omega
            have hz2 : IntKind.i64.wrap ((i : Int) + 1) = (i1 : Int) := by rw [IntKind.wrap_i64]; omega
            have hi1n : i1 < n := by rw [hi1]; exact HI.out.2.1
            have hii : i1 ≠ i := by omega
            have HI1 := Lib.hid hi1
            clear hi1
            obtain ⟨be, oe, se, rfl, hbe, ce⟩ := FlsI.at (HWT.out _ G.out.bel).E (show i < es.length by rw [HLN.out.2.2.2.2]; exact hlt)
            have HFN := Lib.hid (show faL ds es x low (i + 1) = faN low (es.getD i 0) (faL ds es x low i) i from rfl)
            have HBL := Lib.hid (show es.getD i 0 < 18446744073709551616 from HWE.out.at i)
            obtain ⟨bv, hbv⟩ : ∃ v, v = es.getD i 0 := ⟨_, rfl⟩
            rw [← hbv] at ce HFN HBL
            clear hbv
            obtain ⟨f, hf⟩ : ∃ f, f = faL ds es x low i := ⟨_, rfl⟩
            rw [← hf] at G HFN
            clear hf
            obtain ⟨sa0, ca0⟩ := G.out.atA hin
            obtain ⟨a0, ha0⟩ : ∃ v, v = f.a.getD i 0 := ⟨_, rfl⟩
            rw [← ha0] at ca0
            have HA0 := Lib.hid (show a0 = f.a.getD i 0 ∧ a0 < 18446744073709551616 from ⟨ha0, by rw [ha0]; exact G.out.wd.1.at i⟩)
            clear ha0
            have HFL := Lib.hid (show _ ∧ Words f.a ∧ Words f.b from ⟨G.out.len, G.out.wd.1, G.out.wd.2.1⟩)
            have A1 := Lib.hid (fun s W => AbsF a0 s HA0.out.2 W)
            have A2 := Lib.hid (fun s W => AbsF bv s HBL.out W)
            obtain ⟨f1, f2, f3⟩ := G.out.box.facts
            obtain ⟨q1, q2, q3⟩ := (HTB.out _ G.out.bel).facts
            go_wp2_with fail
            refine (A1.out _ _).mono ?_
            rintro e w9 ⟨⟨t1, rfl⟩, rfl⟩
            go_wp2_with fail
            refine (A2.out _ _).mono ?_
            rintro e w9 ⟨⟨t2, rfl⟩, rfl⟩
            obtain ⟨c, hc⟩ : ∃ c, c = flt (fabs a0) (fabs bv) := ⟨_, rfl⟩
            have hc2 : flt (fabs a0) (fabs bv) = c := hc.symm
            have HC := Lib.hid hc2
            clear hc A2 ce hbe q1 q2 q3
            dsimp only
            cases c
            case true =>
              clear ca0 A1
              obtain ⟨k1, k2, k3⟩ := G.out.s.facts
              have kS := G.out.atS hlt
              clear k2
              go_upto_region 21 with (fail)
              obtain ⟨y1, hyw⟩ : ∃ y, y = wr.setCell ⟨bk, i, none⟩ (.bool true) := ⟨_, rfl⟩
              rw [← hyw]
              replace G := Lib.hid (show FaM w3 y1 X _ n ba bb bc bl bk n m _ from hyw ▸ G.out.setS i true)
              clear hyw
              clear k1 k3 kS f1 f2 f3
              have hdr := below_drewN 1 (Below.refl y1.heap.size y1)
              replace G := Lib.hid (show FaM w3 y1.drew X _ n ba bb bc bl bk n m _ from G.out.step hdr)
              clear hdr
              obtain ⟨s1, c1⟩ : ∃ s, y1.drew.cell? ⟨ba, i, none⟩ = some (.float .f64 (raw a0 s)) := by
                  have h := G.out.atA hin
                  rw [show FaS.a _ = f.a from rfl, ← HA0.out.1] at h
                  exact h
              refine wp_region_items 10 [(true, 0), (true, 1), (true, 2), (true, 3), (true, 4), (true, 5), (true, 6), (true, 7), (true, 8), (false, 9)] (fun W => (∀ j, W.cell? ⟨X, j, none⟩ = ([.slice (some ⟨ba, 0, none⟩) n n, .slice (some ⟨bb, 0, none⟩) n n, .slice (some ⟨bc, 0, none⟩) n n, .slice (some ⟨bl, 0, none⟩) m m, .slice (some ⟨bk, 0, none⟩) m m] : List Value)[j]?) ∧ W.cell? ⟨ba, i, none⟩ = some (.float .f64 (raw a0 s1))) (by kernel_rfl) (by kernel_rfl) ⟨G.out.box.cell, c1⟩ ?_
              generalize y1.drew = y2 at *
              iterate 9 (refine iW_take (v := ?_) rfl rfl ?_ ?_; rotate_left; (next => (intro w' hSw; (try dsimp only at hSw); go_simp; (try (rw [if_pos (by omega)]; go_simp)); (try with_reducible rfl))); (simp only [Act.put, List.setIfInBounds_toArray, List.set_cons_zero, List.set_cons_succ]))
              refine iW_mid rfl rfl ?_
              refine wp_flt rfl rfl rfl rfl ?_
              intro s2 n2
              refine ⟨⟨G.out.box.cell, c1⟩, ?_⟩
              clear c1
              replace G := Lib.hid (G.out.step (below_drewN n2 (Below.refl _ _)))
              generalize y2.drewN n2 = y3 at *
              refine iW_nil ?_
              (try simp only [fadd_rawl, fadd_rawr, fsub_rawl, fsub_rawr, fmul_rawl, fmul_rawr, fdiv_rawl, fdiv_rawr])
              obtain ⟨qv, hlet⟩ : ∃ v, v = fdiv a0 bv := ⟨_, rfl⟩
              have HQV := Lib.hid (show qv = fdiv a0 bv ∧ qv < 18446744073709551616 from ⟨hlet, by rw [hlet]; exact fdiv_lt _ _⟩)
              clear hlet
              rw [← HQV.out.1]
              obtain ⟨k1, k2⟩ : bl < y3.heap.size ∧ ∀ j, y3.frozen? ⟨bl, j, none⟩ = false := ⟨G.out.l.lt, G.out.l.frozen⟩
              obtain ⟨s3, c3⟩ := G.out.atL hlt
              go_simp
              go_wp2_with fail
              refine NoPanic.normal ?_
              go_upto_region 22 with (fail)
              obtain ⟨y4, hyw⟩ : ∃ y, y = y3.setCell ⟨bl, i, none⟩ (.float .f64 (raw qv s2)) := ⟨_, rfl⟩
              rw [← hyw]
              replace G := Lib.hid (show FaM w3 y4 X _ n ba bb bc bl bk n m _ from hyw ▸ G.out.setL i qv s2 HQV.out.2)
              clear hyw
              clear k1 k2 c3
              obtain ⟨a1, hlet⟩ : ∃ v, v = f.a.getD i1 0 := ⟨_, rfl⟩
              have HA1 := Lib.hid (show a1 = f.a.getD i1 0 ∧ a1 < 18446744073709551616 from ⟨hlet, by rw [hlet]; exact HFL.out.2.1.at i1⟩)
              clear hlet
              obtain ⟨s4, c4⟩ : ∃ s, y4.cell? ⟨ba, i1, none⟩ = some (.float .f64 (raw a1 s)) := by
                  have h := G.out.atA hi1n
                  rw [show FaS.a _ = f.a from rfl, ← HA1.out.1] at h
                  exact h
              obtain ⟨f1, f2, f3⟩ := G.out.box.facts
              obtain ⟨k1, k2⟩ : ba < y4.heap.size ∧ ∀ j, y4.frozen? ⟨ba, j, none⟩ = false := ⟨(G.out.addr hn0).2.lt, (G.out.addr hn0).2.frozen⟩
              obtain ⟨s9, c9⟩ := G.out.atA hin
              go_upto_region 24 with (fail)
              clear k1 k2 c9 c4 f1 f2 f3
              obtain ⟨y5, hyw⟩ : ∃ y, y = y4.setCell ⟨ba, i, none⟩ (.float .f64 (raw bv se)) := ⟨_, rfl⟩
              rw [← hyw]
              replace G := Lib.hid (show FaM w3 y5 X _ n ba bb bc bl bk n m _ from hyw ▸ G.out.setA hn0 i bv se HBL.out)
              clear hyw
              obtain ⟨s5, c5⟩ : ∃ s, y5.cell? ⟨bl, i, none⟩ = some (.float .f64 (raw qv s)) := by
                  have h := G.out.atL hlt
                  rw [show FaS.l _ = f.l.set i qv from rfl, gsame (by rw [HFL.out.1.2.2.2.1]; exact hlt)] at h
                  exact h
              obtain ⟨f1, f2, f3⟩ := G.out.box.facts
              go_upto_region 25 with (first | (refine wpList_flt rfl rfl rfl rfl rfl ?_; intro K hK s6 n6; go_frame; refine hK _ _ ?_; clear hK K))
              (try simp only [fadd_rawl, fadd_rawr, fsub_rawl, fsub_rawr, fmul_rawl, fmul_rawr, fdiv_rawl, fdiv_rawr])
              obtain ⟨pv, hlet⟩ : ∃ v, v = fmul qv a1 := ⟨_, rfl⟩
              have HPV := Lib.hid (show pv = fmul qv a1 from hlet)
              clear hlet
              rw [← HPV.out]
              clear c5 f1 f2 f3
              replace G := Lib.hid (G.out.step (below_drewN n6 (Below.refl _ _)))
              generalize y5.drewN n6 = y6 at *
              obtain ⟨b0, hlet⟩ : ∃ v, v = f.b.getD i 0 := ⟨_, rfl⟩
              have HB0 := Lib.hid (show b0 = f.b.getD i 0 from hlet)
              clear hlet
              obtain ⟨dv, hlet⟩ : ∃ v, v = fsub b0 pv := ⟨_, rfl⟩
              have HDV := Lib.hid (show dv = fsub b0 pv ∧ dv < 18446744073709551616 from ⟨hlet, by rw [hlet]; exact fsub_lt _ _⟩)
              clear hlet
              have hdr := below_drewN 1 (Below.refl y6.heap.size y6)
              replace G := Lib.hid (show FaM w3 y6.drew X _ n ba bb bc bl bk n m _ from G.out.step hdr)
              clear hdr
              obtain ⟨s7, c7⟩ : ∃ s, y6.drew.cell? ⟨bb, i, none⟩ = some (.float .f64 (raw b0 s)) := by
                  have h := G.out.atB hin
                  rw [show FaS.b _ = f.b from rfl, ← HB0.out] at h
                  exact h
              refine wp_region_items 11 [(true, 0), (true, 1), (true, 2), (true, 3), (true, 4), (true, 5), (true, 6), (true, 7), (true, 8), (true, 9), (false, 10)] (fun W => (∀ j, W.cell? ⟨X, j, none⟩ = ([.slice (some ⟨ba, 0, none⟩) n n, .slice (some ⟨bb, 0, none⟩) n n, .slice (some ⟨bc, 0, none⟩) n n, .slice (some ⟨bl, 0, none⟩) m m, .slice (some ⟨bk, 0, none⟩) m m] : List Value)[j]?) ∧ W.cell? ⟨bb, i, none⟩ = some (.float .f64 (raw b0 s7))) (by kernel_rfl) (by kernel_rfl) ⟨G.out.box.cell, c7⟩ ?_
              generalize y6.drew = y7 at *
              iterate 10 (refine iW_take (v := ?_) rfl rfl ?_ ?_; rotate_left; (next => (intro w' hSw; (try dsimp only at hSw); go_simp; (try (rw [if_pos (by omega)]; go_simp)); (try with_reducible rfl))); (simp only [Act.put, List.setIfInBounds_toArray, List.set_cons_zero, List.set_cons_succ]))
              refine iW_mid rfl rfl ?_
              refine wp_flt rfl rfl rfl rfl ?_
              intro s8 n8
              refine ⟨⟨G.out.box.cell, c7⟩, ?_⟩
              clear c7
              replace G := Lib.hid (G.out.step (below_drewN n8 (Below.refl _ _)))
              generalize y7.drewN n8 = y8 at *
              refine iW_nil ?_
              (try simp only [fadd_rawl, fadd_rawr, fsub_rawl, fsub_rawr, fmul_rawl, fmul_rawr, fdiv_rawl, fdiv_rawr])
              rw [← HDV.out.1]
              obtain ⟨k1, k2⟩ : ba < y8.heap.size ∧ ∀ j, y8.frozen? ⟨ba, j, none⟩ = false := ⟨(G.out.addr hn0).2.lt, (G.out.addr hn0).2.frozen⟩
              obtain ⟨s9, c9⟩ := G.out.atA hi1n
              go_simp
              go_wp2_with fail
              refine NoPanic.normal ?_
              go_upto_region 26 with (fail)
              clear k1 k2 c9
              obtain ⟨y9, hyw⟩ : ∃ y, y = y8.setCell ⟨ba, i1, none⟩ (.float .f64 (raw dv s8)) := ⟨_, rfl⟩
              rw [← hyw]
              replace G := Lib.hid (show FaM w3 y9 X _ n ba bb bc bl bk n m _ from hyw ▸ G.out.setA hn0 i1 dv s8 HDV.out.2)
              clear hyw
              obtain ⟨b1, hlet⟩ : ∃ v, v = f.b.getD i1 0 := ⟨_, rfl⟩
              have HB1 := Lib.hid (show b1 = f.b.getD i1 0 ∧ b1 < 18446744073709551616 from ⟨hlet, by rw [hlet]; exact HFL.out.2.2.at i1⟩)
              clear hlet
              have hdr := below_drewN 1 (Below.refl y9.heap.size y9)
              replace G := Lib.hid (show FaM w3 y9.drew X _ n ba bb bc bl bk n m _ from G.out.step hdr)
              clear hdr
              obtain ⟨s10, c10⟩ : ∃ s, y9.drew.cell? ⟨bb, i1, none⟩ = some (.float .f64 (raw b1 s)) := by
                  have h := G.out.atB hi1n
                  rw [show FaS.b _ = f.b from rfl, ← HB1.out.1] at h
                  exact h
              refine wp_region_items 9 [(true, 0), (true, 1), (true, 2), (true, 3), (true, 4), (true, 5), (true, 6), (true, 7), (true, 8)] (fun W => (∀ j, W.cell? ⟨X, j, none⟩ = ([.slice (some ⟨ba, 0, none⟩) n n, .slice (some ⟨bb, 0, none⟩) n n, .slice (some ⟨bc, 0, none⟩) n n, .slice (some ⟨bl, 0, none⟩) m m, .slice (some ⟨bk, 0, none⟩) m m] : List Value)[j]?) ∧ W.cell? ⟨bb, i1, none⟩ = some (.float .f64 (raw b1 s10))) (by kernel_rfl) (by kernel_rfl) ⟨G.out.box.cell, c10⟩ ?_
              generalize y9.drew = z0 at *
              iterate 9 (refine iW_take (v := ?_) rfl rfl ?_ ?_; rotate_left; (next => (intro w' hSw; (try dsimp only at hSw); go_simp; (try (rw [if_pos (by omega)]; go_simp)); (try with_reducible rfl))); (simp only [Act.put, List.setIfInBounds_toArray, List.set_cons_zero, List.set_cons_succ]))
              refine iW_nil ?_
              clear c10
              obtain ⟨k1, k2⟩ : bc < z0.heap.size ∧ ∀ j, z0.frozen? ⟨bc, j, none⟩ = false := ⟨G.out.c.lt, G.out.c.frozen⟩
              obtain ⟨s9, c9⟩ := G.out.atC hin
              go_simp
              go_wp2_with fail
              refine NoPanic.normal ?_
              go_upto_region 27 with (fail)
              clear k1 k2 c9
              obtain ⟨z1, hyw⟩ : ∃ y, y = z0.setCell ⟨bc, i, none⟩ (.float .f64 (raw b1 s10)) := ⟨_, rfl⟩
              rw [← hyw]
              replace G := Lib.hid (show FaM w3 z1 X _ n ba bb bc bl bk n m _ from hyw ▸ G.out.setC i b1 s10 HB1.out.2)
              clear hyw
              obtain ⟨f1, f2, f3⟩ := G.out.box.facts
              obtain ⟨k1, k2⟩ : bb < z1.heap.size ∧ ∀ j, z1.frozen? ⟨bb, j, none⟩ = false := ⟨G.out.b.lt, G.out.b.frozen⟩
              obtain ⟨s9, c9⟩ := G.out.atB hin
              go_upto_region 28 with (fail)
              clear k1 k2 c9 f1 f2 f3
              obtain ⟨z2, hyw⟩ : ∃ y, y = z1.setCell ⟨bb, i, none⟩ (.float .f64 (raw a1 s4)) := ⟨_, rfl⟩
              rw [← hyw]
              replace G := Lib.hid (show FaM w3 z2 X _ n ba bb bc bl bk n m _ from hyw ▸ G.out.setB i a1 s4 HA1.out.2)
              clear hyw
              have hdr := below_drewN 1 (Below.refl z2.heap.size z2)
              replace G := Lib.hid (show FaM w3 z2.drew X _ n ba bb bc bl bk n m _ from G.out.step hdr)
              clear hdr
              obtain ⟨s11, c11⟩ : ∃ s, z2.drew.cell? ⟨bl, i, none⟩ = some (.float .f64 (raw qv s)) := by
                  have h := G.out.atL hlt
                  rw [show FaS.l _ = f.l.set i qv from rfl, gsame (by rw [HFL.out.1.2.2.2.1]; exact hlt)] at h
                  exact h
              obtain ⟨s12, c12⟩ : ∃ s, z2.drew.cell? ⟨bc, i, none⟩ = some (.float .f64 (raw b1 s)) := by
                  have h := G.out.atC hin
                  rw [show FaS.c _ = f.c.set i b1 from rfl, gsame (by rw [HFL.out.1.2.2.1]; exact hin)] at h
                  exact h
              refine wp_region_items 16 [(true, 0), (true, 1), (true, 2), (true, 3), (true, 4), (true, 5), (true, 6), (true, 7), (true, 8), (true, 9), (true, 10), (true, 11), (true, 12), (true, 13), (false, 14), (true, 15)] (fun W => (∀ j, W.cell? ⟨X, j, none⟩ = ([.slice (some ⟨ba, 0, none⟩) n n, .slice (some ⟨bb, 0, none⟩) n n, .slice (some ⟨bc, 0, none⟩) n n, .slice (some ⟨bl, 0, none⟩) m m, .slice (some ⟨bk, 0, none⟩) m m] : List Value)[j]?) ∧ W.cell? ⟨bl, i, none⟩ = some (.float .f64 (raw qv s11)) ∧ W.cell? ⟨bc, i, none⟩ = some (.float .f64 (raw b1 s12))) (by kernel_rfl) (by kernel_rfl) ⟨G.out.box.cell, c11, c12⟩ ?_
              generalize z2.drew = z3 at *
              iterate 14 (refine iW_take (v := ?_) rfl rfl ?_ ?_; rotate_left; (next => (intro w' hSw; (try dsimp only at hSw); go_simp; (try (rw [if_pos (by omega)]; go_simp)); (try with_reducible rfl))); (simp only [Act.put, List.setIfInBounds_toArray, List.set_cons_zero, List.set_cons_succ]))
              refine iW_mid rfl rfl ?_
              refine wp_flt rfl rfl rfl rfl ?_
              intro s13 n13
              refine ⟨⟨G.out.box.cell, c11, c12⟩, ?_⟩
              clear c11 c12
              replace G := Lib.hid (G.out.step (below_drewN n13 (Below.refl _ _)))
              generalize z3.drewN n13 = z4 at *
              (try simp only [fadd_rawl, fadd_rawr, fsub_rawl, fsub_rawr, fmul_rawl, fmul_rawr, fdiv_rawl, fdiv_rawr])
              obtain ⟨tv, hlet⟩ : ∃ v, v = fmul qv b1 := ⟨_, rfl⟩
              have HTV := Lib.hid (show tv = fmul qv b1 ∧ tv < 18446744073709551616 from ⟨hlet, by rw [hlet]; exact fmul_lt _ _⟩)
              clear hlet
              rw [← HTV.out.1]
              iterate 1 (refine iW_take (v := ?_) rfl rfl ?_ ?_; rotate_left; (next => (intro w' hSw; (try dsimp only at hSw); go_simp; (try (rw [if_pos (by omega)]; go_simp)); (try with_reducible rfl))); (simp only [Act.put, List.setIfInBounds_toArray, List.set_cons_zero, List.set_cons_succ]))
              refine iW_nil ?_
              obtain ⟨s14, hs14⟩ := neg_raw tv s13 HTV.out.2
              rw [hs14]
              clear hs14
              obtain ⟨nv, hlet⟩ : ∃ v, v = fneg tv := ⟨_, rfl⟩
              have HNV := Lib.hid (show nv = fneg tv ∧ nv < 18446744073709551616 from ⟨hlet, by rw [hlet]; exact fneg_lt HTV.out.2⟩)
              clear hlet
              rw [← HNV.out.1]
              obtain ⟨k1, k2⟩ : bb < z4.heap.size ∧ ∀ j, z4.frozen? ⟨bb, j, none⟩ = false := ⟨G.out.b.lt, G.out.b.frozen⟩
              obtain ⟨s9, c9⟩ := G.out.atB hi1n
              go_simp
              go_wp2_with fail
              refine NoPanic.normal ?_
              have HE := Lib.hid (show faL ds es x low (i + 1) = ⟨(f.a.set i bv).set i1 dv, (f.b.set i a1).set i1 nv, f.c.set i b1, f.l.set i qv, f.s.set i true⟩ from by
                  rw [HFN.out]
                  unfold faN
                  rw [← HI1.out, ← HA0.out.1, HC.out, if_pos rfl, ← HA1.out.1, ← HB0.out, ← HB1.out.1, ← HQV.out.1, ← HPV.out, ← HDV.out.1, ← HTV.out.1, ← HNV.out.1])
              go_wp2_with fail
              go_roundw
              case rel => exact ⟨i + 1, by first | rfl | rw [HI1.out] | go_num, hlt, by rw [HE.out]; exact G.out.setB i1 nv s14 HNV.out.2⟩
              case measure => simp [intOf]; have := HI1.out; omega
            case false =>
              obtain ⟨cl, hcl⟩ : ∃ c, c = flt (fabs a0) low := ⟨_, rfl⟩
              have hcl2 : flt (fabs a0) low = cl := hcl.symm
              have HCL := Lib.hid (show liftF low f.a i = if cl then f.a.set i low else f.a from by unfold liftF; rw [← HA0.out.1, hcl])
              clear hcl
              skip
              go_wp2_with fail
              refine (A1.out _ _).mono ?_
              rintro e w9 ⟨⟨t3, rfl⟩, rfl⟩
              dsimp only
              skip
              obtain ⟨ai, hlet⟩ : ∃ v, v = (liftF low f.a i).getD i 0 := ⟨_, rfl⟩
              have HAI := Lib.hid (show ai = (liftF low f.a i).getD i 0 from hlet)
              clear hlet
              obtain ⟨aj, hlet⟩ : ∃ v, v = (liftF low f.a i).getD i1 0 := ⟨_, rfl⟩
              have HAJ := Lib.hid (show aj = (liftF low f.a i).getD i1 0 from hlet)
              clear hlet
              cases cl
              · skip
                have hla := Lib.hid (show f = { f with a := liftF low f.a i } from by rw [HCL.out]; rfl)
                replace G := Lib.hid (show FaM w3 wr X (some ⟨ba, 0, none⟩) n ba bb bc bl bk n m { f with a := liftF low f.a i } from hla.out ▸ G.out)
                clear hla ca0 A1
                go_upto_region 17 with (fail)
                clear f1 f2 f3
                have hdr := below_drewN 1 (Below.refl wr.heap.size wr)
                replace G := Lib.hid (show FaM w3 wr.drew X _ n ba bb bc bl bk n m _ from G.out.step hdr)
                clear hdr
                obtain ⟨s1, c1⟩ : ∃ s, wr.drew.cell? ⟨ba, i, none⟩ = some (.float .f64 (raw ai s)) := by
                    have h := G.out.atA hin
                    rw [show FaS.a _ = liftF low f.a i from rfl, ← HAI.out] at h
                    exact h
                refine wp_region_items 10 [(true, 0), (true, 1), (true, 2), (true, 3), (true, 4), (true, 5), (true, 6), (true, 7), (true, 8), (false, 9)] (fun W => (∀ j, W.cell? ⟨X, j, none⟩ = ([.slice (some ⟨ba, 0, none⟩) n n, .slice (some ⟨bb, 0, none⟩) n n, .slice (some ⟨bc, 0, none⟩) n n, .slice (some ⟨bl, 0, none⟩) m m, .slice (some ⟨bk, 0, none⟩) m m] : List Value)[j]?) ∧ W.cell? ⟨ba, i, none⟩ = some (.float .f64 (raw ai s1))) (by kernel_rfl) (by kernel_rfl) ⟨G.out.box.cell, c1⟩ ?_
                generalize wr.drew = y2 at *
                iterate 9 (refine iW_take (v := ?_) rfl rfl ?_ ?_; rotate_left; (next => (intro w' hSw; (try dsimp only at hSw); go_simp; (try (rw [if_pos (by omega)]; go_simp)); (try with_reducible rfl))); (simp only [Act.put, List.setIfInBounds_toArray, List.set_cons_zero, List.set_cons_succ]))
                refine iW_mid rfl rfl ?_
                refine wp_flt rfl rfl rfl rfl ?_
                intro s2 n2
                refine ⟨⟨G.out.box.cell, c1⟩, ?_⟩
                clear c1
                replace G := Lib.hid (G.out.step (below_drewN n2 (Below.refl _ _)))
                generalize y2.drewN n2 = y3 at *
                refine iW_nil ?_
                (try simp only [fadd_rawl, fadd_rawr, fsub_rawl, fsub_rawr, fmul_rawl, fmul_rawr, fdiv_rawl, fdiv_rawr])
                obtain ⟨qv, hlet⟩ : ∃ v, v = fdiv bv ai := ⟨_, rfl⟩
                have HQV := Lib.hid (show qv = fdiv bv ai ∧ qv < 18446744073709551616 from ⟨hlet, by rw [hlet]; exact fdiv_lt _ _⟩)
                clear hlet
                rw [← HQV.out.1]
                obtain ⟨k1, k2⟩ : bl < y3.heap.size ∧ ∀ j, y3.frozen? ⟨bl, j, none⟩ = false := ⟨G.out.l.lt, G.out.l.frozen⟩
                obtain ⟨s3, c3⟩ := G.out.atL hlt
                go_simp
                go_wp2_with fail
                refine NoPanic.normal ?_
                go_upto_region 18 with (fail)
                obtain ⟨y4, hyw⟩ : ∃ y, y = y3.setCell ⟨bl, i, none⟩ (.float .f64 (raw qv s2)) := ⟨_, rfl⟩
                rw [← hyw]
                replace G := Lib.hid (show FaM w3 y4 X _ n ba bb bc bl bk n m _ from hyw ▸ G.out.setL i qv s2 HQV.out.2)
                clear hyw
                clear k1 k2 c3
                have hdr := below_drewN 1 (Below.refl y4.heap.size y4)
                replace G := Lib.hid (show FaM w3 y4.drew X _ n ba bb bc bl bk n m _ from G.out.step hdr)
                clear hdr
                obtain ⟨b0, hlet⟩ : ∃ v, v = f.b.getD i 0 := ⟨_, rfl⟩
                have HB0 := Lib.hid (show b0 = f.b.getD i 0 from hlet)
                clear hlet
                obtain ⟨s10, c10⟩ : ∃ s, y4.drew.cell? ⟨bl, i, none⟩ = some (.float .f64 (raw qv s)) := by
                    have h := G.out.atL hlt
                    rw [show FaS.l _ = f.l.set i qv from rfl, gsame (by rw [HFL.out.1.2.2.2.1]; exact hlt)] at h
                    exact h
                obtain ⟨s7, c7⟩ : ∃ s, y4.drew.cell? ⟨bb, i, none⟩ = some (.float .f64 (raw b0 s)) := by
                    have h := G.out.atB hin
                    rw [show FaS.b _ = f.b from rfl, ← HB0.out] at h
                    exact h
                refine wp_region_items 10 [(true, 0), (true, 1), (true, 2), (true, 3), (true, 4), (true, 5), (true, 6), (true, 7), (true, 8), (true, 9)] (fun W => (∀ j, W.cell? ⟨X, j, none⟩ = ([.slice (some ⟨ba, 0, none⟩) n n, .slice (some ⟨bb, 0, none⟩) n n, .slice (some ⟨bc, 0, none⟩) n n, .slice (some ⟨bl, 0, none⟩) m m, .slice (some ⟨bk, 0, none⟩) m m] : List Value)[j]?) ∧ W.cell? ⟨bl, i, none⟩ = some (.float .f64 (raw qv s10)) ∧ W.cell? ⟨bb, i, none⟩ = some (.float .f64 (raw b0 s7))) (by kernel_rfl) (by kernel_rfl) ⟨G.out.box.cell, c10, c7⟩ ?_
                generalize y4.drew = y5 at *
                iterate 10 (refine iW_take (v := ?_) rfl rfl ?_ ?_; rotate_left; (next => (intro w' hSw; (try dsimp only at hSw); go_simp; (try (rw [if_pos (by omega)]; go_simp)); (try with_reducible rfl))); (simp only [Act.put, List.setIfInBounds_toArray, List.set_cons_zero, List.set_cons_succ]))
                refine iW_nil ?_
                clear c10 c7
                go_simp
                go_wp2_with (first | (refine wpList_flt rfl rfl rfl rfl rfl ?_; intro K hK s6 n6; go_frame; refine hK _ _ ?_; clear hK K))
                refine NoPanic.normal ?_
                (try simp only [fadd_rawl, fadd_rawr, fsub_rawl, fsub_rawr, fmul_rawl, fmul_rawr, fdiv_rawl, fdiv_rawr])
                obtain ⟨pv, hlet⟩ : ∃ v, v = fmul qv b0 := ⟨_, rfl⟩
                have HPV := Lib.hid (show pv = fmul qv b0 from hlet)
                clear hlet
                rw [← HPV.out]
                replace G := Lib.hid (G.out.step (below_drewN n6 (Below.refl _ _)))
                generalize y5.drewN n6 = y6 at *
                go_upto_region 19 with (fail)
                have hdr := below_drewN 1 (Below.refl y6.heap.size y6)
                replace G := Lib.hid (show FaM w3 y6.drew X _ n ba bb bc bl bk n m _ from G.out.step hdr)
                clear hdr
                obtain ⟨s8, c8⟩ : ∃ s, y6.drew.cell? ⟨ba, i1, none⟩ = some (.float .f64 (raw aj s)) := by
                    have h := G.out.atA hi1n
                    rw [show FaS.a _ = liftF low f.a i from rfl, ← HAJ.out] at h
                    exact h
                refine wp_region_items 12 [(true, 0), (true, 1), (true, 2), (true, 3), (true, 4), (true, 5), (true, 6), (true, 7), (true, 8), (true, 9), (true, 10), (false, 11)] (fun W => (∀ j, W.cell? ⟨X, j, none⟩ = ([.slice (some ⟨ba, 0, none⟩) n n, .slice (some ⟨bb, 0, none⟩) n n, .slice (some ⟨bc, 0, none⟩) n n, .slice (some ⟨bl, 0, none⟩) m m, .slice (some ⟨bk, 0, none⟩) m m] : List Value)[j]?) ∧ W.cell? ⟨ba, i1, none⟩ = some (.float .f64 (raw aj s8))) (by kernel_rfl) (by kernel_rfl) ⟨G.out.box.cell, c8⟩ ?_
                generalize y6.drew = y7 at *
                iterate 11 (refine iW_take (v := ?_) rfl rfl ?_ ?_; rotate_left; (next => (intro w' hSw; (try dsimp only at hSw); go_simp; (try (rw [if_pos (by omega)]; go_simp)); (try with_reducible rfl))); (simp only [Act.put, List.setIfInBounds_toArray, List.set_cons_zero, List.set_cons_succ]))
                refine iW_mid rfl rfl ?_
                refine wp_flt rfl rfl rfl rfl ?_
                intro s9 n9
                refine ⟨⟨G.out.box.cell, c8⟩, ?_⟩
                clear c8
                replace G := Lib.hid (G.out.step (below_drewN n9 (Below.refl _ _)))
                generalize y7.drewN n9 = y8 at *
                refine iW_nil ?_
                (try simp only [fadd_rawl, fadd_rawr, fsub_rawl, fsub_rawr, fmul_rawl, fmul_rawr, fdiv_rawl, fdiv_rawr])
                obtain ⟨dv, hlet⟩ : ∃ v, v = fsub aj pv := ⟨_, rfl⟩
                have HDV := Lib.hid (show dv = fsub aj pv ∧ dv < 18446744073709551616 from ⟨hlet, by rw [hlet]; exact fsub_lt _ _⟩)
                clear hlet
                rw [← HDV.out.1]
                obtain ⟨k1, k2⟩ : ba < y8.heap.size ∧ ∀ j, y8.frozen? ⟨ba, j, none⟩ = false := ⟨(G.out.addr hn0).2.lt, (G.out.addr hn0).2.frozen⟩
                obtain ⟨sz, cz⟩ := G.out.atA hi1n
                go_simp
                go_wp2_with fail
                refine NoPanic.normal ?_
                have HE := Lib.hid (show faL ds es x low (i + 1) = ⟨(liftF low f.a i).set i1 dv, f.b, f.c, f.l.set i qv, f.s⟩ from by
                    rw [HFN.out]
                    unfold faN
                    rw [← HI1.out, ← HA0.out.1, HC.out, if_neg (by decide)]
                    dsimp only
                    rw [← HAI.out, ← HAJ.out, ← HB0.out, ← HQV.out.1, ← HPV.out, ← HDV.out.1])
                go_wp2_with fail
                go_roundw
                case rel => exact ⟨i + 1, by first | rfl | rw [HI1.out] | go_num, hlt, by rw [HE.out]; exact G.out.setA hn0 i1 dv s9 HDV.out.2⟩
                case measure => simp [intOf]; have := HI1.out; omega
              · skip
                have hla := Lib.hid (show liftF low f.a i = f.a.set i low from by rw [HCL.out]; rfl)
                obtain ⟨k1, k2⟩ : ba < wr.heap.size ∧ ∀ j, wr.frozen? ⟨ba, j, none⟩ = false := ⟨(G.out.addr hn0).2.lt, (G.out.addr hn0).2.frozen⟩
                go_upto_region 17 with (fail)
                clear k1 k2 ca0 A1 f1 f2 f3
                obtain ⟨kl, hkl⟩ := raw_self HLO.out.2
                obtain ⟨y1, hyw⟩ : ∃ y, y = wr.setCell ⟨ba, i, none⟩ (.float .f64 low) := ⟨_, rfl⟩
                rw [← hyw]
                replace G := Lib.hid (show FaM w3 y1 X (some ⟨ba, 0, none⟩) n ba bb bc bl bk n m { f with a := liftF low f.a i } from by
                    have h := G.out.setA hn0 i low kl HLO.out.2
                    rw [← hkl, ← hla.out, ← hyw] at h
                    exact h)
                clear hyw hkl hla
                have hdr := below_drewN 1 (Below.refl y1.heap.size y1)
                replace G := Lib.hid (show FaM w3 y1.drew X _ n ba bb bc bl bk n m _ from G.out.step hdr)
                clear hdr
                obtain ⟨s1, c1⟩ : ∃ s, y1.drew.cell? ⟨ba, i, none⟩ = some (.float .f64 (raw ai s)) := by
                    have h := G.out.atA hin
                    rw [show FaS.a _ = liftF low f.a i from rfl, ← HAI.out] at h
                    exact h
                refine wp_region_items 10 [(true, 0), (true, 1), (true, 2), (true, 3), (true, 4), (true, 5), (true, 6), (true, 7), (true, 8), (false, 9)] (fun W => (∀ j, W.cell? ⟨X, j, none⟩ = ([.slice (some ⟨ba, 0, none⟩) n n, .slice (some ⟨bb, 0, none⟩) n n, .slice (some ⟨bc, 0, none⟩) n n, .slice (some ⟨bl, 0, none⟩) m m, .slice (some ⟨bk, 0, none⟩) m m] : List Value)[j]?) ∧ W.cell? ⟨ba, i, none⟩ = some (.float .f64 (raw ai s1))) (by kernel_rfl) (by kernel_rfl) ⟨G.out.box.cell, c1⟩ ?_
                generalize y1.drew = y2 at *
                iterate 9 (refine iW_take (v := ?_) rfl rfl ?_ ?_; rotate_left; (next => (intro w' hSw; (try dsimp only at hSw); go_simp; (try (rw [if_pos (by omega)]; go_simp)); (try with_reducible rfl))); (simp only [Act.put, List.setIfInBounds_toArray, List.set_cons_zero, List.set_cons_succ]))
                refine iW_mid rfl rfl ?_
                refine wp_flt rfl rfl rfl rfl ?_
                intro s2 n2
                refine ⟨⟨G.out.box.cell, c1⟩, ?_⟩
                clear c1
                replace G := Lib.hid (G.out.step (below_drewN n2 (Below.refl _ _)))
                generalize y2.drewN n2 = y3 at *
                refine iW_nil ?_
                (try simp only [fadd_rawl, fadd_rawr, fsub_rawl, fsub_rawr, fmul_rawl, fmul_rawr, fdiv_rawl, fdiv_rawr])
                obtain ⟨qv, hlet⟩ : ∃ v, v = fdiv bv ai := ⟨_, rfl⟩
                have HQV := Lib.hid (show qv = fdiv bv ai ∧ qv < 18446744073709551616 from ⟨hlet, by rw [hlet]; exact fdiv_lt _ _⟩)
                clear hlet
                rw [← HQV.out.1]
                obtain ⟨k1, k2⟩ : bl < y3.heap.size ∧ ∀ j, y3.frozen? ⟨bl, j, none⟩ = false := ⟨G.out.l.lt, G.out.l.frozen⟩
                obtain ⟨s3, c3⟩ := G.out.atL hlt
                go_simp
                go_wp2_with fail
                refine NoPanic.normal ?_
                go_upto_region 18 with (fail)
                obtain ⟨y4, hyw⟩ : ∃ y, y = y3.setCell ⟨bl, i, none⟩ (.float .f64 (raw qv s2)) := ⟨_, rfl⟩
                rw [← hyw]
                replace G := Lib.hid (show FaM w3 y4 X _ n ba bb bc bl bk n m _ from hyw ▸ G.out.setL i qv s2 HQV.out.2)
                clear hyw
                clear k1 k2 c3
                have hdr := below_drewN 1 (Below.refl y4.heap.size y4)
                replace G := Lib.hid (show FaM w3 y4.drew X _ n ba bb bc bl bk n m _ from G.out.step hdr)
                clear hdr
                obtain ⟨b0, hlet⟩ : ∃ v, v = f.b.getD i 0 := ⟨_, rfl⟩
                have HB0 := Lib.hid (show b0 = f.b.getD i 0 from hlet)
                clear hlet
                obtain ⟨s10, c10⟩ : ∃ s, y4.drew.cell? ⟨bl, i, none⟩ = some (.float .f64 (raw qv s)) := by
                    have h := G.out.atL hlt
                    rw [show FaS.l _ = f.l.set i qv from rfl, gsame (by rw [HFL.out.1.2.2.2.1]; exact hlt)] at h
                    exact h
                obtain ⟨s7, c7⟩ : ∃ s, y4.drew.cell? ⟨bb, i, none⟩ = some (.float .f64 (raw b0 s)) := by
                    have h := G.out.atB hin
                    rw [show FaS.b _ = f.b from rfl, ← HB0.out] at h
                    exact h
                refine wp_region_items 10 [(true, 0), (true, 1), (true, 2), (true, 3), (true, 4), (true, 5), (true, 6), (true, 7), (true, 8), (true, 9)] (fun W => (∀ j, W.cell? ⟨X, j, none⟩ = ([.slice (some ⟨ba, 0, none⟩) n n, .slice (some ⟨bb, 0, none⟩) n n, .slice (some ⟨bc, 0, none⟩) n n, .slice (some ⟨bl, 0, none⟩) m m, .slice (some ⟨bk, 0, none⟩) m m] : List Value)[j]?) ∧ W.cell? ⟨bl, i, none⟩ = some (.float .f64 (raw qv s10)) ∧ W.cell? ⟨bb, i, none⟩ = some (.float .f64 (raw b0 s7))) (by kernel_rfl) (by kernel_rfl) ⟨G.out.box.cell, c10, c7⟩ ?_
                generalize y4.drew = y5 at *
                iterate 10 (refine iW_take (v := ?_) rfl rfl ?_ ?_; rotate_left; (next => (intro w' hSw; (try dsimp only at hSw); go_simp; (try (rw [if_pos (by omega)]; go_simp)); (try with_reducible rfl))); (simp only [Act.put, List.setIfInBounds_toArray, List.set_cons_zero, List.set_cons_succ]))
                refine iW_nil ?_
                clear c10 c7
                go_simp
                go_wp2_with (first | (refine wpList_flt rfl rfl rfl rfl rfl ?_; intro K hK s6 n6; go_frame; refine hK _ _ ?_; clear hK K))
                refine NoPanic.normal ?_
                (try simp only [fadd_rawl, fadd_rawr, fsub_rawl, fsub_rawr, fmul_rawl, fmul_rawr, fdiv_rawl, fdiv_rawr])
                obtain ⟨pv, hlet⟩ : ∃ v, v = fmul qv b0 := ⟨_, rfl⟩
                have HPV := Lib.hid (show pv = fmul qv b0 from hlet)
                clear hlet
                rw [← HPV.out]
                replace G := Lib.hid (G.out.step (below_drewN n6 (Below.refl _ _)))
                generalize y5.drewN n6 = y6 at *
                go_upto_region 19 with (fail)
                have hdr := below_drewN 1 (Below.refl y6.heap.size y6)
                replace G := Lib.hid (show FaM w3 y6.drew X _ n ba bb bc bl bk n m _ from G.out.step hdr)
                clear hdr
                obtain ⟨s8, c8⟩ : ∃ s, y6.drew.cell? ⟨ba, i1, none⟩ = some (.float .f64 (raw aj s)) := by
                    have h := G.out.atA hi1n
                    rw [show FaS.a _ = liftF low f.a i from rfl, ← HAJ.out] at h
                    exact h
                refine wp_region_items 12 [(true, 0), (true, 1), (true, 2), (true, 3), (true, 4), (true, 5), (true, 6), (true, 7), (true, 8), (true, 9), (true, 10), (false, 11)] (fun W => (∀ j, W.cell? ⟨X, j, none⟩ = ([.slice (some ⟨ba, 0, none⟩) n n, .slice (some ⟨bb, 0, none⟩) n n, .slice (some ⟨bc, 0, none⟩) n n, .slice (some ⟨bl, 0, none⟩) m m, .slice (some ⟨bk, 0, none⟩) m m] : List Value)[j]?) ∧ W.cell? ⟨ba, i1, none⟩ = some (.float .f64 (raw aj s8))) (by kernel_rfl) (by kernel_rfl) ⟨G.out.box.cell, c8⟩ ?_
                generalize y6.drew = y7 at *
                iterate 11 (refine iW_take (v := ?_) rfl rfl ?_ ?_; rotate_left; (next => (intro w' hSw; (try dsimp only at hSw); go_simp; (try (rw [if_pos (by omega)]; go_simp)); (try with_reducible rfl))); (simp only [Act.put, List.setIfInBounds_toArray, List.set_cons_zero, List.set_cons_succ]))
                refine iW_mid rfl rfl ?_
                refine wp_flt rfl rfl rfl rfl ?_
                intro s9 n9
                refine ⟨⟨G.out.box.cell, c8⟩, ?_⟩
                clear c8
                replace G := Lib.hid (G.out.step (below_drewN n9 (Below.refl _ _)))
                generalize y7.drewN n9 = y8 at *
                refine iW_nil ?_
                (try simp only [fadd_rawl, fadd_rawr, fsub_rawl, fsub_rawr, fmul_rawl, fmul_rawr, fdiv_rawl, fdiv_rawr])
                obtain ⟨dv, hlet⟩ : ∃ v, v = fsub aj pv := ⟨_, rfl⟩
                have HDV := Lib.hid (show dv = fsub aj pv ∧ dv < 18446744073709551616 from ⟨hlet, by rw [hlet]; exact fsub_lt _ _⟩)
                clear hlet
                rw [← HDV.out.1]
                obtain ⟨k1, k2⟩ : ba < y8.heap.size ∧ ∀ j, y8.frozen? ⟨ba, j, none⟩ = false := ⟨(G.out.addr hn0).2.lt, (G.out.addr hn0).2.frozen⟩
                obtain ⟨sz, cz⟩ := G.out.atA hi1n
                go_simp
                go_wp2_with fail
                refine NoPanic.normal ?_
                have HE := Lib.hid (show faL ds es x low (i + 1) = ⟨(liftF low f.a i).set i1 dv, f.b, f.c, f.l.set i qv, f.s⟩ from by
                    rw [HFN.out]
                    unfold faN
                    rw [← HI1.out, ← HA0.out.1, HC.out, if_neg (by decide)]
                    dsimp only
                    rw [← HAI.out, ← HAJ.out, ← HB0.out, ← HQV.out.1, ← HPV.out, ← HDV.out.1])
                go_wp2_with fail
                go_roundw
                case rel => exact ⟨i + 1, by first | rfl | rw [HI1.out] | go_num, hlt, by rw [HE.out]; exact G.out.setA hn0 i1 dv s9 HDV.out.2⟩
                case measure => simp [intOf]; have := HI1.out; omega
          case neg =>
            have hie : m = i := by omega
            subst hie
            clear hi hlt
            have HB3 := Lib.hid (HBB.out _ (Below.refl w3.heap.size w3))
            have HZL := Lib.hid (show w.heap.size + 1 < w3.heap.size from (HZB.out _ (Below.refl _ _)).lt)
            have hcd : ¬ (m : Int) < (n : Int) - 1 := by have := HLN.out.2.1; omega
            have hcd2 : decide ((m : Int) < (n : Int) - 1) = false := decide_eq_false hcd
            by_cases hn0 : n = 0
            case pos =>
              have h0 : ¬ (0 : Int) < (n : Int) := by omega
              have h0' : decide ((0 : Int) < (n : Int)) = false := decide_eq_false h0
              have h0n : ¬ 0 < n := by omega
              have h0m : decide (0 < n) = false := decide_eq_false h0n
              have HFI := Lib.hid (show facI ds es x = faL ds es x low m from by unfold facI; rw [← HLO.out.1, HLN.out.2.2.2.1, HLN.out.2.2.2.2]; simp [hn0])
              clear hn0
              obtain ⟨f1, f2, f3⟩ := G.out.box.facts
              obtain ⟨z1, z2, z3⟩ := (HZB.out _ G.out.bel).facts
              go_wp2_with fail
              have hbz := (HZB.out _ G.out.bel).put5s (.slice (some ⟨ba, 0, none⟩) n n) (.slice (some ⟨bb, 0, none⟩) n n) (.slice (some ⟨bc, 0, none⟩) n n) (.slice (some ⟨bl, 0, none⟩) m m) (.slice (some ⟨bk, 0, none⟩) m m)
              have hff := G.out.fin HB3.out (k := w.heap.size + 1) (by omega) HZL.out (.slice (some ⟨ba, 0, none⟩) n n) (.slice (some ⟨bb, 0, none⟩) n n) (.slice (some ⟨bc, 0, none⟩) n n) (.slice (some ⟨bl, 0, none⟩) m m) (.slice (some ⟨bk, 0, none⟩) m m)
              exact bodyPost_ret (results_one rfl (rv_cell (g := w.heap.size + 1) rfl hbz rfl Try.underlying45 (by kernel_rfl))) rfl ⟨X, ba, bb, bc, bl, bk, rfl, by rw [HFI.out]; exact hff⟩
            case neg =>
              have h0 : (0 : Int) < (n : Int) := by omega
              have h0n : 0 < n := by omega
              have h0' : decide ((0 : Int) < (n : Int)) = true := decide_eq_true h0
              have h0m : decide (0 < n) = true := decide_eq_true h0n
              obtain ⟨k, hk⟩ : ∃ k, k = n - 1 := ⟨_, rfl⟩
              have hk1 : (n : Int) - 1 = (k : Int) := by omega
              have hkn : k < n := by omega
              have hwk : IntKind.i64.wrap (k : Int) = k := by rw [IntKind.wrap_i64]; omega
              have HFI := Lib.hid (show facI ds es x = { faL ds es x low m with a := liftF low (faL ds es x low m).a k } from by unfold facI; rw [← HLO.out.1, HLN.out.2.2.2.1, HLN.out.2.2.2.2, hk]; simp [h0n])
              clear hk
              rw [hk1] at hcd hcd2
              skip
              obtain ⟨f, hf⟩ : ∃ f, f = faL ds es x low m := ⟨_, rfl⟩
              rw [← hf] at G HFI
              clear hf
              obtain ⟨sa0, ca0⟩ := G.out.atA hkn
              obtain ⟨a0, ha0⟩ : ∃ v, v = f.a.getD k 0 := ⟨_, rfl⟩
              rw [← ha0] at ca0
              have A1 := Lib.hid (fun s W => AbsF a0 s (by rw [ha0]; exact G.out.wd.1.at k) W)
              obtain ⟨cl, hcl⟩ : ∃ c, c = flt (fabs a0) low := ⟨_, rfl⟩
              have hcl2 : flt (fabs a0) low = cl := hcl.symm
              have HCL := Lib.hid (show liftF low f.a k = if cl then f.a.set k low else f.a from by unfold liftF; rw [← ha0, hcl])
              clear hcl ha0
              obtain ⟨f1, f2, f3⟩ := G.out.box.facts
              go_wp2_with fail
              refine (A1.out _ _).mono ?_
              rintro e w9 ⟨⟨t3, rfl⟩, rfl⟩
              dsimp only
              clear ca0 A1
              cases cl
              · skip
                have HFI2 := Lib.hid (show facI ds es x = f from by rw [HFI.out, HCL.out]; rfl)
                clear f1 f2 f3
                obtain ⟨f1, f2, f3⟩ := G.out.box.facts
                obtain ⟨z1, z2, z3⟩ := (HZB.out _ G.out.bel).facts
                go_wp2_with fail
                have hbz := (HZB.out _ G.out.bel).put5s (.slice (some ⟨ba, 0, none⟩) n n) (.slice (some ⟨bb, 0, none⟩) n n) (.slice (some ⟨bc, 0, none⟩) n n) (.slice (some ⟨bl, 0, none⟩) m m) (.slice (some ⟨bk, 0, none⟩) m m)
                have hff := G.out.fin HB3.out (k := w.heap.size + 1) (by omega) HZL.out (.slice (some ⟨ba, 0, none⟩) n n) (.slice (some ⟨bb, 0, none⟩) n n) (.slice (some ⟨bc, 0, none⟩) n n) (.slice (some ⟨bl, 0, none⟩) m m) (.slice (some ⟨bk, 0, none⟩) m m)
                exact bodyPost_ret (results_one rfl (rv_cell (g := w.heap.size + 1) rfl hbz rfl Try.underlying45 (by kernel_rfl))) rfl ⟨X, ba, bb, bc, bl, bk, rfl, by rw [HFI2.out]; exact hff⟩
              · skip
                obtain ⟨k1, k2⟩ : ba < wr.heap.size ∧ ∀ j, wr.frozen? ⟨ba, j, none⟩ = false := ⟨(G.out.addr hn0).2.lt, (G.out.addr hn0).2.frozen⟩
                obtain ⟨s9, c9⟩ := G.out.atA hkn
                go_upto_region 31 with (fail)
                clear k1 k2 c9 f1 f2 f3
                obtain ⟨kl, hkl⟩ := raw_self HLO.out.2
                obtain ⟨y1, hyw⟩ : ∃ y, y = wr.setCell ⟨ba, k, none⟩ (.float .f64 low) := ⟨_, rfl⟩
                rw [← hyw]
                replace G := Lib.hid (show FaM w3 y1 X (some ⟨ba, 0, none⟩) n ba bb bc bl bk n m { f with a := liftF low f.a k } from by
                    have h := G.out.setA hn0 k low kl HLO.out.2
                    rw [← hkl, ← hyw] at h
                    rw [HCL.out]
                    exact h)
                clear hyw hkl
                obtain ⟨f1, f2, f3⟩ := G.out.box.facts
                obtain ⟨z1, z2, z3⟩ := (HZB.out _ G.out.bel).facts
                go_wp2_with fail
                have hbz := (HZB.out _ G.out.bel).put5s (.slice (some ⟨ba, 0, none⟩) n n) (.slice (some ⟨bb, 0, none⟩) n n) (.slice (some ⟨bc, 0, none⟩) n n) (.slice (some ⟨bl, 0, none⟩) m m) (.slice (some ⟨bk, 0, none⟩) m m)
                have hff := G.out.fin HB3.out (k := w.heap.size + 1) (by omega) HZL.out (.slice (some ⟨ba, 0, none⟩) n n) (.slice (some ⟨bb, 0, none⟩) n n) (.slice (some ⟨bc, 0, none⟩) n n) (.slice (some ⟨bl, 0, none⟩) m m) (.slice (some ⟨bk, 0, none⟩) m m)
                exact bodyPost_ret (results_one rfl (rv_cell (g := w.heap.size + 1) rfl hbz rfl Try.underlying45 (by kernel_rfl))) rfl ⟨X, ba, bb, bc, bl, bk, rfl, by rw [HFI.out]; exact hff⟩
end Go.Proofs.Ytdljnhdhigbefaa
