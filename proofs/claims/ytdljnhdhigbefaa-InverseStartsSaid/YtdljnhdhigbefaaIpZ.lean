/- Layer 14, the program: a tridiagonal factored (printed by gen_ip.py). No condition but on lengths. -/
import Derived.Test.YtdljnhdhigbefaaIoZ
namespace Go.Proofs.Ytdljnhdhigbefaa
open Go Go.RowKit
set_option maxRecDepth 1000000
set_option linter.unusedSimpArgs false
set_option linter.unusedVariables false

set_option maxHeartbeats 32000000 in
theorem Factor_ok (w : World) (da ea : Option Addr) (ds es : List Nat) (dc ec x n m : Nat) (hdl : ds.length = n) (hel : es.length = m) (hT : TrI w da ea ds es dc ec) (hv : askS ds es [x] = 0) (hx : x < 18446744073709551616) :
    Calls Try.prog 37 #[.agg #[.slice da n dc, .slice ea m ec], .float .f64 x] w fun e w' => ∃ X aa ca ba bb bc bl bk, e = .returned (.tuple #[.agg #[.slice aa n ca, .slice (some ⟨bb, 0, none⟩) n n, .slice (some ⟨bc, 0, none⟩) n n, .slice (some ⟨bl, 0, none⟩) m m, .slice (some ⟨bk, 0, none⟩) m m], .int .i64 0]) ∧ FaM w w' X aa ca ba bb bc bl bk n m (facI ds es x) := by
  obtain ⟨⟨hn, hm⟩, hfd, hfe, hfx⟩ := askS_zero hv
  have hxf : ffin x = true := by simpa using hfx
  have hxn : isnan x = false := isnan_ffinq hxf
  have hsz := szL_num (fin_numI (show (ds ++ es).all ffin = true by rw [List.all_append, hfd, hfe]; rfl)) (ds ++ es).length
  have hmx := lowI_max hsz.1 hsz.2
  have HMX := Lib.hid (show isnan (fmul (sizI ds es) 4372995238176751616) = false ∧ ∀ (W : World) (ts : Array TypeId) (t : TypeId), (Builtin.max_ ts t #[.float .f64 (fmul (sizI ds es) 4372995238176751616), .float .f64 103582791429521408]).run Try.prog W = .ok (.float .f64 (lowI ds es)) W from hmx)
  have hH1 := fun (W : World) (g : Nat) (hW : Below w.heap.size w W) (hM : Box W g [.float .f64 x]) => by
    have h := askI_any W da ea (some ⟨g, 0, none⟩) ds es [x] dc ec 1 (hT.D.below hW) (hT.E.below hW) (fun _ => ⟨g, 0, rfl, hM.lt, fun i v hi => by
      cases i with
      | zero => obtain rfl : x = v := by simpa using hi
                exact ⟨0, by rw [raw_of_not hxn]; exact hM.cell 0⟩
      | succ i => simp at hi⟩) (by unfold maxLen; omega) (by unfold maxLen; omega) (by show 1 ≤ maxLen; unfold maxLen; omega)
    rw [hv, hdl, hel] at h
    exact h
  have H1 := Lib.hid hH1
  have H2 := Lib.hid (fun (W : World) (hW : Below w.heap.size w W) => by
    have h := isize_any W da ea ds es dc ec (hT.D.below hW) (hT.E.below hW) hT.d0 hT.e0 (by omega) (by omega) hT.W (by rw [List.all_append, hfd, hfe]; rfl)
    rw [hdl, hel] at h
    exact h)
  have H3 := Lib.hid (fun (W : World) (hW : Below w.heap.size w W) => by
    have h := Clone_any W da ds dc (hT.D.below hW) (by omega) (fun e => (hT.d0 e).1)
    rw [hdl] at h
    exact h)
  have HT := Lib.hid (fun (W : World) (hW : Below w.heap.size w W) => hT.below hW)
  have HX := Lib.hid (And.intro hx hxn)
  have HLN := Lib.hid (show n ≤ 512 ∧ m = n - 1 ∧ m ≤ 512 ∧ ds.length = n ∧ es.length = m from ⟨by omega, by omega, by omega, hdl, hel⟩)
  clear hT hv hfd hfe hfx hxf hxn hsz hmx hH1 hx hn hm hdl hel
  have hn9 : n ≤ 512 := HLN.out.1
  have hm9 : m ≤ 512 := HLN.out.2.2.1
  have x1 : Box ((w.alloc (.cells #[.slice da n dc, .slice ea m ec] 54)).alloc (.cells #[.slice none 0 0, .slice none 0 0, .slice none 0 0, .slice none 0 0, .slice none 0 0] 45)) w.heap.size [.slice da n dc, .slice ea m ec] := (Box.newA w [.slice da n dc, .slice ea m ec] _ rfl).alloc _
  have x2 : Box ((w.alloc (.cells #[.slice da n dc, .slice ea m ec] 54)).alloc (.cells #[.slice none 0 0, .slice none 0 0, .slice none 0 0, .slice none 0 0, .slice none 0 0] 45)) (w.heap.size + 1) [.slice none 0 0, .slice none 0 0, .slice none 0 0, .slice none 0 0, .slice none 0 0] := Box.newA _ [.slice none 0 0, .slice none 0 0, .slice none 0 0, .slice none 0 0, .slice none 0 0] _ (by simp)
  have hB0 : Below w.heap.size w ((w.alloc (.cells #[.slice da n dc, .slice ea m ec] 54)).alloc (.cells #[.slice none 0 0, .slice none 0 0, .slice none 0 0, .slice none 0 0, .slice none 0 0] 45)) := ((Below.refl _ _).alloc (Nat.le_refl _) _).alloc (by simp) _
  have hs2 : ((w.alloc (.cells #[.slice da n dc, .slice ea m ec] 54)).alloc (.cells #[.slice none 0 0, .slice none 0 0, .slice none 0 0, .slice none 0 0, .slice none 0 0] 45)).heap.size = w.heap.size + 1 + 1 := by simp
  obtain ⟨w2, hw2⟩ : ∃ W, W = ((w.alloc (.cells #[.slice da n dc, .slice ea m ec] 54)).alloc (.cells #[.slice none 0 0, .slice none 0 0, .slice none 0 0, .slice none 0 0, .slice none 0 0] 45)) := ⟨_, rfl⟩
  rw [← hw2] at x1 x2 hB0 hs2
  have HB := Lib.hid (And.intro hB0 hs2)
  have X1 := Lib.hid x1
  have X2 := Lib.hid x2
  have x3 : Box (w2.alloc (.cells #[.float .f64 x] 40)) (w.heap.size + 1 + 1) [.float .f64 x] := Box.newA _ [_] _ hs2
  have hB1 : Below w.heap.size w (w2.alloc (.cells #[.float .f64 x] 40)) := hB0.alloc (by rw [hs2]; omega) _
  have HC := Lib.hid (H1.out _ _ hB1 x3)
  have HB1 := Lib.hid hB1
  obtain ⟨q1, q2, q3⟩ := X1.out.facts
  clear hB0 x1 x2 x3 hB1 H1
  go_enter Try.func37, Try.ntmps37
  go_upto_region 1 with (fail)
  rw [← hw2]
  clear hw2
  go_wp2_with fail
  refine HC.out.mono ?_
  rintro e w3 ⟨rfl, hb⟩
  have hbb : Below w2.heap.size w2 w3 := below_step ((Below.refl _ _).alloc (Nat.le_refl _) _) (by simp) hb
  have B3 := Lib.hid (below_step HB.out.1 HB.out.1.size hbb)
  have Y1 := Lib.hid (X1.out.below hbb)
  have Y2 := Lib.hid (X2.out.below hbb)
  clear q1 q2 q3 hb hbb HC HB1 X1 X2 HB hs2
  obtain ⟨q1, q2, q3⟩ := Y1.out.facts
  go_upto_region 5 with (fail)
  go_cut [8] from 28 to 43 (fun s8 wx => ∃ (X : Nat) (aa : Option Addr) (ca ba bb bc bl bk : Nat), s8 = .pointer (some ⟨X, 0, none⟩) ∧ FaM w3 wx X aa ca ba bb bc bl bk n m ⟨ds, List.replicate n 0, List.replicate n 0, List.replicate m 0, List.replicate m false⟩)
  case first =>
    have hdr := below_drewN 1 (Below.refl w3.heap.size w3)
    have C4 := Lib.hid (show Below w3.heap.size w3 w3.drew from hdr)
    have B4 := Lib.hid (show Below w.heap.size w w3.drew from below_step B3.out B3.out.size hdr)
    have Z1 := Lib.hid (show Box w3.drew w.heap.size _ from Y1.out.below hdr)
    have Z2 := Lib.hid (show Box w3.drew (w.heap.size + 1) _ from Y2.out.below hdr)
    clear hdr B3 Y2 q1 q2 q3 H2
    obtain ⟨D, hD⟩ : ∃ D, D = w3.drew := ⟨_, rfl⟩
    rw [← hD] at B4 Z1 Z2 C4
    obtain ⟨J, hJ⟩ : ∃ J : List Nat → List Nat → Act → World → Prop, J = (fun rc pd A W => ∃ (s : Nat → Value) (K : Nat → Nat), FamI D W (fun i => FkP w3.heap.size n m ds (kdP i)) 2 [2, 4, 6, 10, 14, 16] pd s K ∧ (rc = [] → ∀ i ∈ [2, 4, 6, 10, 14], i ∉ pd) ∧ A = { tmps := #[.agg #[.slice da n dc, .slice ea m ec], .float .f64 x, .pointer (some ⟨w.heap.size, 0, none⟩), undef, .pointer (some ⟨w.heap.size + 1, 0, none⟩), .int .i64 0, .int .i64 0, .int .i64 (n : Int), s 16, undef, undef, undef, undef, undef, undef, undef, undef, .agg #[.slice da n dc, .slice ea m ec], .float .f64 x, .slice (some ⟨w.heap.size + 1 + 1, 0, none⟩) 1 1, .int .i64 0, .int .i64 0, .bool false, undef, undef, .pointer (some ⟨w.heap.size, 0, none⟩), .slice da n dc, .int .i64 (n : Int), .pointer (some ⟨w.heap.size, 0, none⟩), .slice da n dc, s 2, .int .i64 (n : Int), s 4, .int .i64 (n : Int), s 6, .pointer (some ⟨w.heap.size, 1, none⟩), .slice ea m ec, .int .i64 (m : Int), s 10, .pointer (some ⟨w.heap.size, 1, none⟩), .slice ea m ec, .int .i64 (m : Int), s 14, bif rc.isEmpty then .agg #[s 2, s 4, s 6, s 10, s 14] else undef, undef, undef, undef, undef, undef, undef, undef, undef, undef, undef, undef, undef, undef, undef, undef, undef, undef, undef, undef, undef, undef, undef, undef, undef, undef, undef, undef, undef, undef, undef, undef, undef, undef, undef, undef, undef, undef, undef, undef, undef, undef, undef, undef, undef, undef, undef, undef, undef, undef, undef, undef, undef, undef, undef, undef, undef, undef, undef, undef, undef, undef, undef, undef, undef, undef, undef, undef, undef, undef, undef, undef, undef, undef, undef, undef, undef, undef, undef, undef, undef, undef, undef, undef, undef, undef, undef, undef, undef, undef, undef, undef, undef, undef, undef, undef, undef, undef, undef, undef, undef, undef, undef, undef, undef, undef, undef, undef, undef, undef, undef, undef, undef, undef, undef, undef, undef, undef, undef, undef, undef, undef, undef, undef, undef, undef, undef, undef, undef, undef, undef, undef, undef, undef, undef, undef, undef, undef, undef, undef, undef, undef, undef, undef, undef, undef, undef, undef, undef, undef, undef, undef, undef, undef, undef, undef, undef, undef, undef, undef], defers := [] }) := ⟨_, rfl⟩
    have HJ := Lib.hid hJ
    clear hJ
    have hmk := run_mkF n (by omega)
    have hmk2 := run_mkF m (by omega)
    have hmk3 := run_mkB m (by omega)
    refine wp_region_invN 17 [(true, 0), (true, 1), (true, 3), (true, 5), (true, 7), (true, 8), (true, 9), (true, 11), (true, 12), (true, 13)] [15] [2, 4, 6, 10, 14, 16] [(15, 2), (15, 4), (15, 6), (15, 10), (15, 14)] (fun W => (∀ i, W.cell? ⟨w.heap.size, i, none⟩ = ([.slice da n dc, .slice ea m ec] : List Value)[i]?) ∧ Box W w.heap.size [.slice da n dc, .slice ea m ec]) J (by kernel_rfl) (by kernel_rfl) (hD ▸ ⟨Z1.out.cell, Z1.out⟩) ?_ ?_ ?_ ?_
    · skip
      iterate 10 (refine iW_take (v := ?_) rfl rfl ?_ ?_; rotate_left; (next => (intro w' hSw; (try dsimp only at hSw); go_simp; (try (rw [if_pos (by omega)]; go_simp)); (try with_reducible rfl))); (simp only [Act.put, List.setIfInBounds_toArray, List.set_cons_zero, List.set_cons_succ]))
      refine iW_nil ?_
      rw [HJ.out, ← hD]
      exact ⟨fun _ => undef, fun _ => 0, FamI.start D _ 2 (fun i hi h => h hi) _ _, (fun e => by cases e), rfl⟩
    · intro c rc pd A W hsuf hsub hwt hSW hJ'
      rw [HJ.out] at hJ'
      obtain ⟨s, K, hA, hno, rfl⟩ := hJ'
      simp only [sufs, List.mem_cons, List.cons.injEq, List.not_mem_nil, or_false, reduceCtorEq] at hsuf
      obtain ⟨rfl, rfl⟩ := hsuf
      have hin : ∀ i ∈ [2, 4, 6, 10, 14], i ∉ pd := fun i hi h => by
          have h2 := hwt
          simp only [List.mem_cons, List.not_mem_nil, or_false] at hi
          rcases hi with rfl | rfl | rfl | rfl | rfl <;> simp [waitB, h] at h2
      obtain ⟨aa, ca, e2, _, _⟩ : FkP w3.heap.size n m ds 0 W (s 2) (K 2) := hA.fact 2 (by decide) (hin 2 (by decide))
      obtain ⟨e4, _⟩ : FkP w3.heap.size n m ds 1 W (s 4) (K 4) := hA.fact 4 (by decide) (hin 4 (by decide))
      obtain ⟨e6, _⟩ : FkP w3.heap.size n m ds 1 W (s 6) (K 6) := hA.fact 6 (by decide) (hin 6 (by decide))
      obtain ⟨e10, _⟩ : FkP w3.heap.size n m ds 2 W (s 10) (K 10) := hA.fact 10 (by decide) (hin 10 (by decide))
      obtain ⟨e14, _⟩ : FkP w3.heap.size n m ds 3 W (s 14) (K 14) := hA.fact 14 (by decide) (hin 14 (by decide))
      have HA := Lib.hid hA
      have HIN := Lib.hid hin
      have HSW := Lib.hid hSW
      clear hSW
      have HE := Lib.hid (show _ ∧ _ ∧ _ ∧ _ ∧ _ from ⟨e2, e4, e6, e10, e14⟩)
      rw [e2, e4, e6, e10, e14]
      clear e2 e4 e6 e10 e14 hA hin hno hwt hsub
      refine opW_take rfl rfl ?_
      go_simp
      refine ⟨HSW.out, ?_⟩
      rw [HJ.out]
      exact ⟨s, K, HA.out, fun _ => HIN.out, by rw [HE.out.1, HE.out.2.1, HE.out.2.2.1, HE.out.2.2.2.1, HE.out.2.2.2.2]; rfl⟩
    · intro q rc pd A W hsuf hsub hq hSW hJ'
      rw [HJ.out] at hJ'
      obtain ⟨s, K, hA, hno, rfl⟩ := hJ'
      have HA := Lib.hid hA
      have HBx := Lib.hid hSW.2
      have hq8 := (subsL_sub _ _ hsub).subset hq
      have HNO := Lib.hid hno
      clear hA hSW hsub hno
      simp only [sufs, List.mem_cons, List.not_mem_nil, or_false] at hsuf
      simp only [List.mem_cons, List.not_mem_nil, or_false] at hq8
      rcases hq8 with rfl | rfl | rfl | rfl | rfl | rfl
      · skip
        rcases hsuf with rfl | rfl
        case inr => exact absurd hq (HNO.out rfl 2 (by decide))
        refine opW_take rfl rfl ?_
        go_simp
        refine (H3.out W (below_step B4.out B4.out.size HA.out.below)).mono ?_
        rintro e W' ⟨⟨v, rfl, hO⟩, hb⟩
        refine ⟨⟨(HBx.out.below hb).cell, HBx.out.below hb⟩, ?_⟩
        rw [HJ.out]
        obtain ⟨a, b, cap, e1, _, _, hlb, hF, hlt⟩ := hO.fs
        rw [HLN.out.2.2.2.1] at e1
        by_cases h0 : ds = []
        · exact ⟨_, _, HA.out.step (FkP.below w3.heap.size n m ds kdP) 2 (v := v) (k := 0) (.inr ⟨rfl, .inl (Nat.lt_of_le_of_lt (Nat.zero_le _) Z1.out.lt)⟩) (Nat.lt_of_le_of_lt (Nat.zero_le _) (HBx.out.below hb).lt) (show FkP w3.heap.size n m ds 0 W' v 0 from ⟨a, cap, e1, .inl h0, fun h => absurd h0 h⟩) hb, (fun e => by cases e), rfl⟩
        · exact ⟨_, _, HA.out.step (FkP.below w3.heap.size n m ds kdP) 2 (v := v) (k := b) (.inr ⟨rfl, .inr hlb⟩) (hlt h0) (show FkP w3.heap.size n m ds 0 W' v b from ⟨a, cap, e1, hF, fun _ => Nat.le_trans C4.out.size (Nat.le_trans HA.out.below.size hlb)⟩) hb, (fun e => by cases e), rfl⟩
      · skip
        rcases hsuf with rfl | rfl
        case inr => exact absurd hq (HNO.out rfl 4 (by decide))
        refine opW_take rfl rfl ?_
        go_simp
        have hb : Below W.heap.size W (W.alloc (.cells (List.replicate n (Value.float .f64 0)).toArray 40)) := (Below.refl _ _).alloc (Nat.le_refl _) _
        refine ⟨⟨(HBx.out.below hb).cell, HBx.out.below hb⟩, ?_⟩
        rw [HJ.out]
        exact ⟨_, _, HA.out.step (FkP.below w3.heap.size n m ds kdP) 4 (k := W.heap.size) (.inl ⟨by decide, Nat.le_refl _⟩) (by simp) (show FkP w3.heap.size n m ds 1 _ _ _ from ⟨rfl, flb_mk W n⟩) hb, (fun e => by cases e), rfl⟩
      · skip
        rcases hsuf with rfl | rfl
        case inr => exact absurd hq (HNO.out rfl 6 (by decide))
        refine opW_take rfl rfl ?_
        go_simp
        have hb : Below W.heap.size W (W.alloc (.cells (List.replicate n (Value.float .f64 0)).toArray 40)) := (Below.refl _ _).alloc (Nat.le_refl _) _
        refine ⟨⟨(HBx.out.below hb).cell, HBx.out.below hb⟩, ?_⟩
        rw [HJ.out]
        exact ⟨_, _, HA.out.step (FkP.below w3.heap.size n m ds kdP) 6 (k := W.heap.size) (.inl ⟨by decide, Nat.le_refl _⟩) (by simp) (show FkP w3.heap.size n m ds 1 _ _ _ from ⟨rfl, flb_mk W n⟩) hb, (fun e => by cases e), rfl⟩
      · skip
        rcases hsuf with rfl | rfl
        case inr => exact absurd hq (HNO.out rfl 10 (by decide))
        refine opW_take rfl rfl ?_
        go_simp
        have hb : Below W.heap.size W (W.alloc (.cells (List.replicate m (Value.float .f64 0)).toArray 40)) := (Below.refl _ _).alloc (Nat.le_refl _) _
        refine ⟨⟨(HBx.out.below hb).cell, HBx.out.below hb⟩, ?_⟩
        rw [HJ.out]
        exact ⟨_, _, HA.out.step (FkP.below w3.heap.size n m ds kdP) 10 (k := W.heap.size) (.inl ⟨by decide, Nat.le_refl _⟩) (by simp) (show FkP w3.heap.size n m ds 2 _ _ _ from ⟨rfl, flb_mk W m⟩) hb, (fun e => by cases e), rfl⟩
      · skip
        rcases hsuf with rfl | rfl
        case inr => exact absurd hq (HNO.out rfl 14 (by decide))
        refine opW_take rfl rfl ?_
        go_simp
        have hb : Below W.heap.size W (W.alloc (.cells (List.replicate m (Value.bool false)).toArray 4)) := (Below.refl _ _).alloc (Nat.le_refl _) _
        refine ⟨⟨(HBx.out.below hb).cell, HBx.out.below hb⟩, ?_⟩
        rw [HJ.out]
        exact ⟨_, _, HA.out.step (FkP.below w3.heap.size n m ds kdP) 14 (k := W.heap.size) (.inl ⟨by decide, Nat.le_refl _⟩) (by simp) (show FkP w3.heap.size n m ds 3 _ _ _ from ⟨rfl, box_mkB W m⟩) hb, (fun e => by cases e), rfl⟩
      · skip
        rcases hsuf with rfl | rfl
        · skip
          refine opW_take rfl rfl ?_
          go_simp
          have hb : Below W.heap.size W (W.alloc (.cells #[.slice none 0 0, .slice none 0 0, .slice none 0 0, .slice none 0 0, .slice none 0 0] 45)) := (Below.refl _ _).alloc (Nat.le_refl _) _
          refine ⟨⟨(HBx.out.below hb).cell, HBx.out.below hb⟩, ?_⟩
          rw [HJ.out]
          exact ⟨_, _, HA.out.step (FkP.below w3.heap.size n m ds kdP) 16 (k := W.heap.size) (.inl ⟨by decide, Nat.le_refl _⟩) (by simp) (show FkP w3.heap.size n m ds 4 _ _ _ from ⟨rfl, Box.newA W [.slice none 0 0, .slice none 0 0, .slice none 0 0, .slice none 0 0, .slice none 0 0] _ rfl⟩) hb, (fun e => by cases e), rfl⟩
        · skip
          refine opW_take rfl rfl ?_
          go_simp
          have hb : Below W.heap.size W (W.alloc (.cells #[.slice none 0 0, .slice none 0 0, .slice none 0 0, .slice none 0 0, .slice none 0 0] 45)) := (Below.refl _ _).alloc (Nat.le_refl _) _
          refine ⟨⟨(HBx.out.below hb).cell, HBx.out.below hb⟩, ?_⟩
          rw [HJ.out]
          exact ⟨_, _, HA.out.step (FkP.below w3.heap.size n m ds kdP) 16 (k := W.heap.size) (.inl ⟨by decide, Nat.le_refl _⟩) (by simp) (show FkP w3.heap.size n m ds 4 _ _ _ from ⟨rfl, Box.newA W [.slice none 0 0, .slice none 0 0, .slice none 0 0, .slice none 0 0, .slice none 0 0] _ rfl⟩) hb, (fun _ i hi h => HNO.out rfl i hi (List.mem_of_mem_erase h)), rfl⟩
    · intro A W hJ'
      rw [HJ.out] at hJ'
      obtain ⟨s, K, hA, hno, rfl⟩ := hJ'
      obtain ⟨aa, ca, e2, e4, e6, e10, e14, e16, hF⟩ := fam_done (w := w3) HLN.out.2.2.2.1 C4.out (HT.out w (Below.refl _ _)).wdD hA
      have HF := Lib.hid hF
      have hbx : Box W (K 16) [.slice none 0 0, .slice none 0 0, .slice none 0 0, .slice none 0 0, .slice none 0 0] := (hA.fact 16 (by decide) (by decide)).2
      rw [e2, e4, e6, e10, e14, e16]
      obtain ⟨q1, q2, q3⟩ := hbx.facts
      clear e2 e4 e6 e10 e14 e16 hA hF hbx hmk hmk2 hmk3 H3 HMX HJ
      simp only [List.isEmpty_nil, cond_true]
      go_simp
      go_wp2
      refine NoPanic.normal ?_
      go_wp2_with fail
      go_meet
      case rel => exact ⟨K 16, aa, ca, K 2, K 4, K 6, K 10, K 14, rfl, HF.out⟩
  case rest =>
    obtain ⟨X, aa, ca, ba, bb, bc, bl, bk, rfl, hF⟩ := hcut
    have S := Lib.hid hF
    clear hF H3 q1 q2 q3
    have HWT := Lib.hid (fun W (h : Below w3.heap.size w3 W) => HT.out W (below_step B3.out B3.out.size h))
    have HTB := Lib.hid (fun W (h : Below w3.heap.size w3 W) => (Y1.out.below h))
    have HZB := Lib.hid (fun W (h : Below w3.heap.size w3 W) => (Y2.out.below h))
    have HBB := Lib.hid (fun W (h : Below w3.heap.size w3 W) => below_step B3.out B3.out.size h)
    have HWE := Lib.hid (HT.out w (Below.refl _ _)).wdE
    clear HT Y1 Y2
    obtain ⟨q1, q2, q3⟩ := (HTB.out _ S.out.bel).facts
    obtain ⟨f1, f2, f3⟩ := S.out.box.facts
    have HE0 := Lib.hid (HWT.out _ S.out.bel).E
    go_upto_region 6 with (fail)
    go_upto_region 7 with (refine wpList_copy_flb rfl _ _ 22 22 rfl 40 Try.underlying22 (by kernel_rfl) bb _ _ n m ea (List.replicate n 0) es rfl rfl (by simp) HLN.out.2.2.2.2 (by have := HLN.out.2.1; omega) S.out.b HE0.out ?_; intro w5 hf5 hb5)
    have S5 := Lib.hid (S.out.putB hf5 hb5 (by simp; have := HLN.out; omega) (words_app_rep HWE.out _ _))
    clear S HE0 q1 q2 q3 f1 f2 f3 hf5 hb5
    rw [show es ++ List.drop m (List.replicate n 0) = es ++ List.replicate (n - m) 0 by simp] at S5
    obtain ⟨q1, q2, q3⟩ := (HTB.out _ S5.out.bel).facts
    go_wp2_with fail
    refine (H2.out _ (HBB.out _ S5.out.bel)).mono ?_
    rintro e w6 ⟨rfl, hb⟩
    have S6 := Lib.hid (S5.out.step hb)
    clear S5 q1 q2 q3 hb H2
    have hmx := HMX.out.2
    obtain ⟨low, hlow⟩ : ∃ l, l = lowI ds es := ⟨_, rfl⟩
    rw [← hlow] at hmx
    have HLO := Lib.hid (show low = lowI ds es ∧ low < 18446744073709551616 from ⟨hlow, by rw [hlow]; exact lowI_lt ds es⟩)
    clear hlow
    go_upto_region 8 with (first | (refine wpList_flt rfl rfl rfl rfl rfl ?_; intro K hK s7 n7; go_frame; rw [raw_of_not HMX.out.1]; refine hK _ _ ?_; clear hK K; have S7 := Lib.hid (S6.out.step (below_drewN n7 (Below.refl _ _))); generalize w6.drewN n7 = w7 at *))
    have S8 := Lib.hid (LoM.make S7.out low 40)
    obtain ⟨Lo, hLo⟩ : ∃ L, L = w7.heap.size := ⟨_, rfl⟩
    rw [← hLo] at S8 ⊢
    clear hLo S6 S7 hmx
    generalize w7.alloc (.cells #[.float .f64 low] 40) = w8 at *
    skip
    replace S8 := Lib.hid (show LoM w3 w8 X Lo aa ca ba bb bc bl bk n m low ⟨stL (fun _ v => fsub v x) ds (0), es ++ List.replicate (n - m) 0, List.replicate n 0, List.replicate m 0, List.replicate m false⟩ from S8.out)
    go_wp2_with fail
    go_loopw [55] (fun s55 wr => ∃ i : Nat, s55 = .int .i64 i ∧ i ≤ n ∧ LoM w3 wr X Lo aa ca ba bb bc bl bk n m low ⟨stL (fun _ v => fsub v x) ds (i), es ++ List.replicate (n - m) 0, List.replicate n 0, List.replicate m 0, List.replicate m false⟩) (fun s55 _ => n - (intOf s55).toNat)
    case atStart => exact ⟨0, rfl, Nat.zero_le _, S8.out⟩
    case round =>
      obtain ⟨i, rfl, hi, hG⟩ := hrel
      have G := Lib.hid hG
      clear hG
      by_cases hlt : i < n
      case pos =>
        have hn0 : n ≠ 0 := by omega
        obtain ⟨rfl, _⟩ := G.out.fa.addr hn0
        have hi9 : i < 1000 := by omega
        obtain ⟨s0, c0⟩ := G.out.fa.atA hlt
        rw [stL_getD _ _ _ _ (Nat.le_refl _)] at c0
        have HN := Lib.hid (show stL (fun _ v => fsub v x) ds (i + 1) = (stL (fun _ v => fsub v x) ds i).set i (fsub (ds.getD i 0) x) by rw [stL_succ])
        obtain ⟨a, ha⟩ : ∃ a, a = ds.getD i 0 := ⟨_, rfl⟩
        rw [← ha] at c0 HN
        clear ha
        obtain ⟨f1, f2, f3⟩ := G.out.fa.box.facts
        have g1 := (G.out.fa.addr hn0).2.lt
        have g2 := (G.out.fa.addr hn0).2.frozen
        go_wp2_with (first | (refine wpList_flt rfl rfl rfl rfl rfl ?_; intro K hK s1 n1; go_frame; refine hK _ _ ?_; clear hK K))
        (try simp only [fadd_rawl, fadd_rawr, fsub_rawl, fsub_rawr, fmul_rawl, fmul_rawr, fdiv_rawl, fdiv_rawr])
        go_roundw
        case rel => exact ⟨i + 1, by go_num, hlt, by rw [HN.out]; exact (G.out.step (below_drewN n1 (Below.refl _ _))).setA hn0 i _ s1 (fsub_lt _ _)⟩
        case measure => simp [intOf]; omega
      case neg =>
        have hie : i = n := by omega
        rw [hie, ← faL_zero (x := x) (low := low) HLN.out.2.2.2.1 HLN.out.2.2.2.2] at G
        have G0 := Lib.hid G.out
        clear hie
        clear G S8 hi
        obtain ⟨q1, q2, q3⟩ := (HTB.out _ G0.out.fa.bel).facts
        go_wp2_with fail
        clear q1 q2 q3
        go_loopw [70] (fun s70 wr => ∃ i : Nat, s70 = .int .i64 i ∧ i ≤ m ∧ LoM w3 wr X Lo aa ca ba bb bc bl bk n m low (faL ds es x low i)) (fun s70 _ => m - (intOf s70).toNat)
        case atStart => exact ⟨0, rfl, Nat.zero_le _, G0.out⟩
        case round =>
          obtain ⟨i, rfl, hi, hG⟩ := hrel
          have G := Lib.hid hG
          clear hG G0 hlt
          by_cases hlt : i < m
          case pos =>
            have HI := Lib.hid (show i < n ∧ i + 1 < n ∧ n ≠ 0 ∧ i < 1000 from by have := HLN.out.2.1; omega)
            have hn0 := HI.out.2.2.1
            have hin : i < n := HI.out.1
            have hi9 := HI.out.2.2.2
            obtain ⟨rfl, _⟩ := G.out.fa.addr hn0
            obtain ⟨i1, hi1⟩ : ∃ i1, i1 = i + 1 := ⟨_, rfl⟩
            have hz1 : wrap64 ((i : Int) + 1) = (i1 : Int) := by unfold wrap64; omega
            have hz2 : IntKind.i64.wrap ((i : Int) + 1) = (i1 : Int) := by rw [IntKind.wrap_i64]; omega
            have hi1n : i1 < n := by rw [hi1]; exact HI.out.2.1
            have hii : i1 ≠ i := by omega
            have HI1 := Lib.hid hi1
            clear hi1
            obtain ⟨be, oe, se, rfl, hbe, ce⟩ := FlsI.at (HWT.out _ G.out.fa.bel).E (show i < es.length by rw [HLN.out.2.2.2.2]; exact hlt)
            have HFN := Lib.hid (show faL ds es x low (i + 1) = faN low (es.getD i 0) (faL ds es x low i) i from rfl)
            have HBL := Lib.hid (show es.getD i 0 < 18446744073709551616 from HWE.out.at i)
            obtain ⟨bv, hbv⟩ : ∃ v, v = es.getD i 0 := ⟨_, rfl⟩
            rw [← hbv] at ce HFN HBL
            clear hbv
            obtain ⟨f, hf⟩ : ∃ f, f = faL ds es x low i := ⟨_, rfl⟩
            rw [← hf] at G HFN
            clear hf
            obtain ⟨sa0, ca0⟩ := G.out.fa.atA hin
            obtain ⟨a0, ha0⟩ : ∃ v, v = f.a.getD i 0 := ⟨_, rfl⟩
            rw [← ha0] at ca0
            have HA0 := Lib.hid (show a0 = f.a.getD i 0 ∧ a0 < 18446744073709551616 from ⟨ha0, by rw [ha0]; exact G.out.fa.wd.1.at i⟩)
            clear ha0
            have HFL := Lib.hid (show _ ∧ Words f.a ∧ Words f.b from ⟨G.out.fa.len, G.out.fa.wd.1, G.out.fa.wd.2.1⟩)
            have A1 := Lib.hid (fun s W => AbsF a0 s HA0.out.2 W)
            have A2 := Lib.hid (fun s W => AbsF bv s HBL.out W)
            obtain ⟨f1, f2, f3⟩ := G.out.fa.box.facts
            go_wp2_with fail
            refine (A1.out _ _).mono ?_
            rintro e w9 ⟨⟨t1, rfl⟩, rfl⟩
            go_wp2_with fail
            refine (A2.out _ _).mono ?_
            rintro e w9 ⟨⟨t2, rfl⟩, rfl⟩
            obtain ⟨c, hc⟩ : ∃ c, c = flt (fabs a0) (fabs bv) := ⟨_, rfl⟩
            have hc2 : flt (fabs a0) (fabs bv) = c := hc.symm
            have HC := Lib.hid hc2
            clear hc
            clear A1 A2 ca0 ce hbe
            dsimp only
            cases c
            case true =>
              obtain ⟨k1, k2, k3⟩ := G.out.fa.s.facts
              have kS := G.out.fa.atS hlt
              clear k2
              go_upto_region 19 with (fail)
              obtain ⟨y1, hyw⟩ : ∃ y, y = wr.setCell ⟨bk, i, none⟩ (.bool true) := ⟨_, rfl⟩
              rw [← hyw]
              replace G := Lib.hid (show LoM w3 y1 X Lo _ ca ba bb bc bl bk n m low _ from hyw ▸ G.out.setS i true)
              clear hyw
              clear k1 k3 kS f1 f2 f3
              have hdr := below_drewN 1 (Below.refl y1.heap.size y1)
              replace G := Lib.hid (show LoM w3 y1.drew X Lo _ ca ba bb bc bl bk n m low _ from G.out.step hdr)
              clear hdr
              obtain ⟨s1, c1⟩ : ∃ s, y1.drew.cell? ⟨ba, i, none⟩ = some (.float .f64 (raw a0 s)) := by
                  have h := G.out.fa.atA hin
                  rw [show FaS.a _ = f.a from rfl, ← HA0.out.1] at h
                  exact h
              refine wp_region_items 10 [(true, 0), (true, 1), (true, 2), (true, 3), (true, 4), (true, 5), (true, 6), (true, 7), (true, 8), (false, 9)] (fun W => (∀ j, W.cell? ⟨X, j, none⟩ = ([.slice (some ⟨ba, 0, none⟩) n ca, .slice (some ⟨bb, 0, none⟩) n n, .slice (some ⟨bc, 0, none⟩) n n, .slice (some ⟨bl, 0, none⟩) m m, .slice (some ⟨bk, 0, none⟩) m m] : List Value)[j]?) ∧ W.cell? ⟨ba, i, none⟩ = some (.float .f64 (raw a0 s1))) (by kernel_rfl) (by kernel_rfl) ⟨G.out.fa.box.cell, c1⟩ ?_
              generalize y1.drew = y2 at *
              iterate 9 (refine iW_take (v := ?_) rfl rfl ?_ ?_; rotate_left; (next => (intro w' hSw; (try dsimp only at hSw); go_simp; (try (rw [if_pos (by omega)]; go_simp)); (try with_reducible rfl))); (simp only [Act.put, List.setIfInBounds_toArray, List.set_cons_zero, List.set_cons_succ]))
              refine iW_mid rfl rfl ?_
              refine wp_flt rfl rfl rfl rfl ?_
              intro s2 n2
              refine ⟨⟨G.out.fa.box.cell, c1⟩, ?_⟩
              clear c1
              replace G := Lib.hid (G.out.step (below_drewN n2 (Below.refl _ _)))
              generalize y2.drewN n2 = y3 at *
              refine iW_nil ?_
              (try simp only [fadd_rawl, fadd_rawr, fsub_rawl, fsub_rawr, fmul_rawl, fmul_rawr, fdiv_rawl, fdiv_rawr])
              obtain ⟨qv, hlet⟩ : ∃ v, v = fdiv a0 bv := ⟨_, rfl⟩
              have HQV := Lib.hid (show qv = fdiv a0 bv ∧ qv < 18446744073709551616 from ⟨hlet, by rw [hlet]; exact fdiv_lt _ _⟩)
              clear hlet
              rw [← HQV.out.1]
              obtain ⟨k1, k2⟩ : bl < y3.heap.size ∧ ∀ j, y3.frozen? ⟨bl, j, none⟩ = false := ⟨G.out.fa.l.lt, G.out.fa.l.frozen⟩
              obtain ⟨s3, c3⟩ := G.out.fa.atL hlt
              go_simp
              go_wp2_with fail
              refine NoPanic.normal ?_
              go_upto_region 20 with (fail)
              obtain ⟨y4, hyw⟩ : ∃ y, y = y3.setCell ⟨bl, i, none⟩ (.float .f64 (raw qv s2)) := ⟨_, rfl⟩
              rw [← hyw]
              replace G := Lib.hid (show LoM w3 y4 X Lo _ ca ba bb bc bl bk n m low _ from hyw ▸ G.out.setL i qv s2 HQV.out.2)
              clear hyw
              clear k1 k2 c3
              obtain ⟨a1, hlet⟩ : ∃ v, v = f.a.getD i1 0 := ⟨_, rfl⟩
              have HA1 := Lib.hid (show a1 = f.a.getD i1 0 ∧ a1 < 18446744073709551616 from ⟨hlet, by rw [hlet]; exact HFL.out.2.1.at i1⟩)
              clear hlet
              obtain ⟨s4, c4⟩ : ∃ s, y4.cell? ⟨ba, i1, none⟩ = some (.float .f64 (raw a1 s)) := by
                  have h := G.out.fa.atA hi1n
                  rw [show FaS.a _ = f.a from rfl, ← HA1.out.1] at h
                  exact h
              obtain ⟨s5, c5⟩ : ∃ s, y4.cell? ⟨bl, i, none⟩ = some (.float .f64 (raw qv s)) := by
                  have h := G.out.fa.atL hlt
                  rw [show FaS.l _ = f.l.set i qv from rfl, gsame (by rw [HFL.out.1.2.2.2.1]; exact hlt)] at h
                  exact h
              obtain ⟨f1, f2, f3⟩ := G.out.fa.box.facts
              go_upto_region 22 with (first | (refine wpList_flt rfl rfl rfl rfl rfl ?_; intro K hK s6 n6; go_frame; refine hK _ _ ?_; clear hK K))
              (try simp only [fadd_rawl, fadd_rawr, fsub_rawl, fsub_rawr, fmul_rawl, fmul_rawr, fdiv_rawl, fdiv_rawr])
              obtain ⟨pv, hlet⟩ : ∃ v, v = fmul qv a1 := ⟨_, rfl⟩
              have HPV := Lib.hid (show pv = fmul qv a1 from hlet)
              clear hlet
              rw [← HPV.out]
              clear c4 c5 f1 f2 f3
              replace G := Lib.hid (G.out.step (below_drewN n6 (Below.refl _ _)))
              generalize y4.drewN n6 = y5 at *
              obtain ⟨b0, hlet⟩ : ∃ v, v = f.b.getD i 0 := ⟨_, rfl⟩
              have HB0 := Lib.hid (show b0 = f.b.getD i 0 from hlet)
              clear hlet
              obtain ⟨dv, hlet⟩ : ∃ v, v = fsub b0 pv := ⟨_, rfl⟩
              have HDV := Lib.hid (show dv = fsub b0 pv ∧ dv < 18446744073709551616 from ⟨hlet, by rw [hlet]; exact fsub_lt _ _⟩)
              clear hlet
              go_cut [128] from 112 to 127 (fun s128 wx => LoM w3 wx X Lo (some ⟨ba, 0, none⟩) ca ba bb bc bl bk n m low ⟨(f.a.set i bv).set i1 dv, f.b, f.c, f.l.set i qv, f.s.set i true⟩)
              case first =>
                have hdr := below_drewN 1 (Below.refl y5.heap.size y5)
                replace G := Lib.hid (show LoM w3 y5.drew X Lo _ ca ba bb bc bl bk n m low _ from G.out.step hdr)
                clear hdr
                obtain ⟨s7, c7⟩ : ∃ s, y5.drew.cell? ⟨bb, i, none⟩ = some (.float .f64 (raw b0 s)) := by
                    have h := G.out.fa.atB hin
                    rw [show FaS.b _ = f.b from rfl, ← HB0.out] at h
                    exact h
                refine wp_region_many 17 60 [(0, 0), (0, 1), (0, 2), (0, 3), (0, 4), (0, 5), (0, 6), (0, 7), (0, 8), (0, 9), (0, 10), (0, 11), (0, 12), (0, 13), (0, 15), (3, 14), (1, 16), (2, 14)] (fun W => (∀ j, W.cell? ⟨X, j, none⟩ = ([.slice (some ⟨ba, 0, none⟩) n ca, .slice (some ⟨bb, 0, none⟩) n n, .slice (some ⟨bc, 0, none⟩) n n, .slice (some ⟨bl, 0, none⟩) m m, .slice (some ⟨bk, 0, none⟩) m m] : List Value)[j]?) ∧ W.cell? ⟨bb, i, none⟩ = some (.float .f64 (raw b0 s7))) (by kernel_rfl) (by kernel_rfl) ⟨G.out.fa.box.cell, c7⟩ ?_
                generalize y5.drew = y6 at *
                iterate 15 (refine fm_take (v := ?_) rfl rfl ?_ ?_; rotate_left; (next => (intro w' hSw; (try dsimp only at hSw); go_simp; (try (rw [if_pos (by omega)]; go_simp)); (try with_reducible rfl))); (simp only [Act.put, List.setIfInBounds_toArray, List.set_cons_zero, List.set_cons_succ]))
                refine fm_from ?_
                refine fm_one1 ?_ ?_
                · skip
                  obtain ⟨k1, k2⟩ : ba < y6.heap.size ∧ ∀ j, y6.frozen? ⟨ba, j, none⟩ = false := ⟨(G.out.fa.addr hn0).2.lt, (G.out.fa.addr hn0).2.frozen⟩
                  obtain ⟨s9, c9⟩ := G.out.fa.atA hin
                  have HC7 := Lib.hid c7
                  clear c7
                  refine opW_take rfl rfl ?_
                  go_simp
                  clear k1 k2 c9
                  have d7 : (y6.setCell ⟨ba, i, none⟩ (.float .f64 (raw bv se))).cell? ⟨bb, i, none⟩ = some (.float .f64 (raw b0 s7)) := (World.cell?_setCell_other _ _ _ _ (by intro e; injection e with e1; exact (nodup6 G.out.fa.ne).2.1.1 e1)).trans HC7.out
                  obtain ⟨y7, hyw⟩ : ∃ y, y = y6.setCell ⟨ba, i, none⟩ (.float .f64 (raw bv se)) := ⟨_, rfl⟩
                  rw [← hyw] at d7 ⊢
                  replace G := Lib.hid (show LoM w3 y7 X Lo _ ca ba bb bc bl bk n m low _ from hyw ▸ G.out.setA hn0 i bv se HBL.out)
                  clear hyw
                  refine ⟨⟨G.out.fa.box.cell, d7⟩, ?_⟩
                  refine fm_now ?_
                  refine opW_take rfl rfl ?_
                  refine wp_flt rfl rfl rfl rfl ?_
                  intro s8 n8
                  refine ⟨⟨G.out.fa.box.cell, d7⟩, ?_⟩
                  replace G := Lib.hid (G.out.step (below_drewN n8 (Below.refl _ _)))
                  generalize y7.drewN n8 = y8 at *
                  clear d7
                  refine fm_nil ?_
                  (try simp only [fadd_rawl, fadd_rawr, fsub_rawl, fsub_rawr, fmul_rawl, fmul_rawr, fdiv_rawl, fdiv_rawr])
                  rw [← HDV.out.1]
                  obtain ⟨k1, k2⟩ : ba < y8.heap.size ∧ ∀ j, y8.frozen? ⟨ba, j, none⟩ = false := ⟨(G.out.fa.addr hn0).2.lt, (G.out.fa.addr hn0).2.frozen⟩
                  obtain ⟨s9, c9⟩ := G.out.fa.atA hi1n
                  go_simp
                  go_wp2_with fail
                  refine NoPanic.normal ?_
                  go_wp2_with fail
                  go_meet
                  case rel => exact G.out.setA hn0 i1 dv s8 HDV.out.2
                · skip
                  refine opW_take rfl rfl ?_
                  refine wp_flt rfl rfl rfl rfl ?_
                  intro s8 n8
                  refine ⟨⟨G.out.fa.box.cell, c7⟩, ?_⟩
                  have c7' : (y6.drewN n8).cell? ⟨bb, i, none⟩ = some (.float .f64 (raw b0 s7)) := c7
                  clear c7
                  replace G := Lib.hid (G.out.step (below_drewN n8 (Below.refl _ _)))
                  generalize y6.drewN n8 = y7 at *
                  skip
                  (try simp only [fadd_rawl, fadd_rawr, fsub_rawl, fsub_rawr, fmul_rawl, fmul_rawr, fdiv_rawl, fdiv_rawr])
                  rw [← HDV.out.1]
                  refine fm_one ?_
                  obtain ⟨k1, k2⟩ : ba < y7.heap.size ∧ ∀ j, y7.frozen? ⟨ba, j, none⟩ = false := ⟨(G.out.fa.addr hn0).2.lt, (G.out.fa.addr hn0).2.frozen⟩
                  obtain ⟨s9, c9⟩ := G.out.fa.atA hin
                  have HC7 := Lib.hid (show y7.cell? ⟨bb, i, none⟩ = some (.float .f64 (raw b0 s7)) from c7')
                  clear c7'
                  refine opW_take rfl rfl ?_
                  go_simp
                  clear k1 k2 c9
                  have d7 : (y7.setCell ⟨ba, i, none⟩ (.float .f64 (raw bv se))).cell? ⟨bb, i, none⟩ = some (.float .f64 (raw b0 s7)) := (World.cell?_setCell_other _ _ _ _ (by intro e; injection e with e1; exact (nodup6 G.out.fa.ne).2.1.1 e1)).trans HC7.out
                  obtain ⟨y8, hyw⟩ : ∃ y, y = y7.setCell ⟨ba, i, none⟩ (.float .f64 (raw bv se)) := ⟨_, rfl⟩
                  rw [← hyw] at d7 ⊢
                  replace G := Lib.hid (show LoM w3 y8 X Lo _ ca ba bb bc bl bk n m low _ from hyw ▸ G.out.setA hn0 i bv se HBL.out)
                  clear hyw
                  refine ⟨⟨G.out.fa.box.cell, d7⟩, ?_⟩
                  clear d7
                  refine fm_skip rfl ?_
                  refine fm_nil ?_
                  obtain ⟨k1, k2⟩ : ba < y8.heap.size ∧ ∀ j, y8.frozen? ⟨ba, j, none⟩ = false := ⟨(G.out.fa.addr hn0).2.lt, (G.out.fa.addr hn0).2.frozen⟩
                  obtain ⟨s9, c9⟩ := G.out.fa.atA hi1n
                  go_simp
                  go_wp2_with fail
                  refine NoPanic.normal ?_
                  go_wp2_with fail
                  go_meet
                  case rel => exact G.out.setA hn0 i1 dv s8 HDV.out.2
              case rest =>
                replace G := Lib.hid hcut
                clear hcut
                obtain ⟨b1, hlet⟩ : ∃ v, v = f.b.getD i1 0 := ⟨_, rfl⟩
                have HB1 := Lib.hid (show b1 = f.b.getD i1 0 ∧ b1 < 18446744073709551616 from ⟨hlet, by rw [hlet]; exact HFL.out.2.2.at i1⟩)
                clear hlet
                go_upto_region 23 with (fail)
                have hdr := below_drewN 1 (Below.refl wc.heap.size wc)
                replace G := Lib.hid (show LoM w3 wc.drew X Lo _ ca ba bb bc bl bk n m low _ from G.out.step hdr)
                clear hdr
                obtain ⟨s7, c7⟩ : ∃ s, wc.drew.cell? ⟨bb, i1, none⟩ = some (.float .f64 (raw b1 s)) := by
                    have h := G.out.fa.atB hi1n
                    rw [show FaS.b _ = f.b from rfl, ← HB1.out.1] at h
                    exact h
                refine wp_region_items 15 [(true, 0), (true, 1), (true, 2), (true, 3), (true, 4), (true, 5), (true, 6), (true, 7), (true, 8), (true, 9), (true, 10), (true, 11), (true, 12), (true, 13), (false, 14)] (fun W => (∀ j, W.cell? ⟨X, j, none⟩ = ([.slice (some ⟨ba, 0, none⟩) n ca, .slice (some ⟨bb, 0, none⟩) n n, .slice (some ⟨bc, 0, none⟩) n n, .slice (some ⟨bl, 0, none⟩) m m, .slice (some ⟨bk, 0, none⟩) m m] : List Value)[j]?) ∧ W.cell? ⟨bb, i1, none⟩ = some (.float .f64 (raw b1 s7))) (by kernel_rfl) (by kernel_rfl) ⟨G.out.fa.box.cell, c7⟩ ?_
                generalize wc.drew = y6 at *
                iterate 14 (refine iW_take (v := ?_) rfl rfl ?_ ?_; rotate_left; (next => (intro w' hSw; (try dsimp only at hSw); go_simp; (try (rw [if_pos (by omega)]; go_simp)); (try with_reducible rfl))); (simp only [Act.put, List.setIfInBounds_toArray, List.set_cons_zero, List.set_cons_succ]))
                refine iW_mid rfl rfl ?_
                obtain ⟨k1, k2⟩ : bb < y6.heap.size ∧ ∀ j, y6.frozen? ⟨bb, j, none⟩ = false := ⟨G.out.fa.b.lt, G.out.fa.b.frozen⟩
                obtain ⟨s9, c9⟩ := G.out.fa.atB hin
                have HC7 := Lib.hid c7
                clear c7
                go_simp
                clear k1 k2 c9
                have d7 : (y6.setCell ⟨bb, i, none⟩ (.float .f64 (raw a1 s4))).cell? ⟨bb, i1, none⟩ = some (.float .f64 (raw b1 s7)) := (World.cell?_setCell_other _ _ _ _ (by intro e; injection e with e1 e2; exact hii e2.symm)).trans HC7.out
                obtain ⟨y7, hyw⟩ : ∃ y, y = y6.setCell ⟨bb, i, none⟩ (.float .f64 (raw a1 s4)) := ⟨_, rfl⟩
                rw [← hyw] at d7 ⊢
                replace G := Lib.hid (show LoM w3 y7 X Lo _ ca ba bb bc bl bk n m low _ from hyw ▸ G.out.setB i a1 s4 HA1.out.2)
                clear hyw
                refine ⟨⟨G.out.fa.box.cell, by first | exact d7 | exact HC7.out⟩, ?_⟩
                clear d7
                refine iW_nil ?_
                obtain ⟨k1, k2⟩ : bc < y7.heap.size ∧ ∀ j, y7.frozen? ⟨bc, j, none⟩ = false := ⟨G.out.fa.c.lt, G.out.fa.c.frozen⟩
                obtain ⟨s9, c9⟩ := G.out.fa.atC hin
                go_simp
                go_wp2_with fail
                refine NoPanic.normal ?_
                go_upto_region 24 with (fail)
                clear k1 k2 c9
                obtain ⟨y8, hyw⟩ : ∃ y, y = y7.setCell ⟨bc, i, none⟩ (.float .f64 (raw b1 s7)) := ⟨_, rfl⟩
                rw [← hyw]
                replace G := Lib.hid (show LoM w3 y8 X Lo _ ca ba bb bc bl bk n m low _ from hyw ▸ G.out.setC i b1 s7 HB1.out.2)
                clear hyw
                have hdr := below_drewN 1 (Below.refl y8.heap.size y8)
                replace G := Lib.hid (show LoM w3 y8.drew X Lo _ ca ba bb bc bl bk n m low _ from G.out.step hdr)
                clear hdr
                obtain ⟨s10, c10⟩ : ∃ s, y8.drew.cell? ⟨bl, i, none⟩ = some (.float .f64 (raw qv s)) := by
                    have h := G.out.fa.atL hlt
                    rw [show FaS.l _ = f.l.set i qv from rfl, gsame (by rw [HFL.out.1.2.2.2.1]; exact hlt)] at h
                    exact h
                obtain ⟨s11, c11⟩ : ∃ s, y8.drew.cell? ⟨bc, i, none⟩ = some (.float .f64 (raw b1 s)) := by
                    have h := G.out.fa.atC hin
                    rw [show FaS.c _ = f.c.set i b1 from rfl, gsame (by rw [HFL.out.1.2.2.1]; exact hin)] at h
                    exact h
                refine wp_region_items 16 [(true, 0), (true, 1), (true, 2), (true, 3), (true, 4), (true, 5), (true, 6), (true, 7), (true, 8), (true, 9), (true, 10), (true, 11), (true, 12), (true, 13), (false, 14), (true, 15)] (fun W => (∀ j, W.cell? ⟨X, j, none⟩ = ([.slice (some ⟨ba, 0, none⟩) n ca, .slice (some ⟨bb, 0, none⟩) n n, .slice (some ⟨bc, 0, none⟩) n n, .slice (some ⟨bl, 0, none⟩) m m, .slice (some ⟨bk, 0, none⟩) m m] : List Value)[j]?) ∧ W.cell? ⟨bl, i, none⟩ = some (.float .f64 (raw qv s10)) ∧ W.cell? ⟨bc, i, none⟩ = some (.float .f64 (raw b1 s11))) (by kernel_rfl) (by kernel_rfl) ⟨G.out.fa.box.cell, c10, c11⟩ ?_
                generalize y8.drew = y9 at *
                iterate 14 (refine iW_take (v := ?_) rfl rfl ?_ ?_; rotate_left; (next => (intro w' hSw; (try dsimp only at hSw); go_simp; (try (rw [if_pos (by omega)]; go_simp)); (try with_reducible rfl))); (simp only [Act.put, List.setIfInBounds_toArray, List.set_cons_zero, List.set_cons_succ]))
                refine iW_mid rfl rfl ?_
                refine wp_flt rfl rfl rfl rfl ?_
                intro s12 n12
                refine ⟨⟨G.out.fa.box.cell, c10, c11⟩, ?_⟩
                clear c10 c11
                replace G := Lib.hid (G.out.step (below_drewN n12 (Below.refl _ _)))
                generalize y9.drewN n12 = z1 at *
                (try simp only [fadd_rawl, fadd_rawr, fsub_rawl, fsub_rawr, fmul_rawl, fmul_rawr, fdiv_rawl, fdiv_rawr])
                obtain ⟨tv, hlet⟩ : ∃ v, v = fmul qv b1 := ⟨_, rfl⟩
                have HTV := Lib.hid (show tv = fmul qv b1 ∧ tv < 18446744073709551616 from ⟨hlet, by rw [hlet]; exact fmul_lt _ _⟩)
                clear hlet
                rw [← HTV.out.1]
                iterate 1 (refine iW_take (v := ?_) rfl rfl ?_ ?_; rotate_left; (next => (intro w' hSw; (try dsimp only at hSw); go_simp; (try (rw [if_pos (by omega)]; go_simp)); (try with_reducible rfl))); (simp only [Act.put, List.setIfInBounds_toArray, List.set_cons_zero, List.set_cons_succ]))
                refine iW_nil ?_
                obtain ⟨s13, hs13⟩ := neg_raw tv s12 HTV.out.2
                rw [hs13]
                clear hs13
                obtain ⟨nv, hlet⟩ : ∃ v, v = fneg tv := ⟨_, rfl⟩
                have HNV := Lib.hid (show nv = fneg tv ∧ nv < 18446744073709551616 from ⟨hlet, by rw [hlet]; exact fneg_lt HTV.out.2⟩)
                clear hlet
                rw [← HNV.out.1]
                obtain ⟨k1, k2⟩ : bb < z1.heap.size ∧ ∀ j, z1.frozen? ⟨bb, j, none⟩ = false := ⟨G.out.fa.b.lt, G.out.fa.b.frozen⟩
                obtain ⟨s9, c9⟩ := G.out.fa.atB hi1n
                go_simp
                go_wp2_with fail
                refine NoPanic.normal ?_
                have HE := Lib.hid (show faL ds es x low (i + 1) = ⟨(f.a.set i bv).set i1 dv, (f.b.set i a1).set i1 nv, f.c.set i b1, f.l.set i qv, f.s.set i true⟩ from by
                    rw [HFN.out]
                    unfold faN
                    rw [← HI1.out, ← HA0.out.1, HC.out, if_pos rfl, ← HA1.out.1, ← HB0.out, ← HB1.out.1, ← HQV.out.1, ← HPV.out, ← HDV.out.1, ← HTV.out.1, ← HNV.out.1])
                go_wp2_with fail
                go_roundw
                case rel => exact ⟨i + 1, by first | rfl | rw [HI1.out] | go_num, hlt, by rw [HE.out]; exact G.out.setB i1 nv s13 HNV.out.2⟩
                case measure => simp [intOf]; have := HI1.out; omega
            case false =>
              clear f1 f2 f3
              go_wp2_with fail
              refine (G.out.lift hin hn9 HLO.out.2).mono ?_
              rintro e y1 ⟨rfl, hG⟩
              replace G := Lib.hid hG
              clear hG
              obtain ⟨ai, hlet⟩ : ∃ v, v = (liftF low f.a i).getD i 0 := ⟨_, rfl⟩
              have HAI := Lib.hid (show ai = (liftF low f.a i).getD i 0 from hlet)
              clear hlet
              obtain ⟨aj, hlet⟩ : ∃ v, v = (liftF low f.a i).getD i1 0 := ⟨_, rfl⟩
              have HAJ := Lib.hid (show aj = (liftF low f.a i).getD i1 0 from hlet)
              clear hlet
              dsimp only
              go_upto_region 26 with (fail)
              have hdr := below_drewN 1 (Below.refl y1.heap.size y1)
              replace G := Lib.hid (show LoM w3 y1.drew X Lo _ ca ba bb bc bl bk n m low _ from G.out.step hdr)
              clear hdr
              obtain ⟨s1, c1⟩ : ∃ s, y1.drew.cell? ⟨ba, i, none⟩ = some (.float .f64 (raw ai s)) := by
                  have h := G.out.fa.atA hin
                  rw [show FaS.a _ = liftF low f.a i from rfl, ← HAI.out] at h
                  exact h
              refine wp_region_items 10 [(true, 0), (true, 1), (true, 2), (true, 3), (true, 4), (true, 5), (true, 6), (true, 7), (true, 8), (false, 9)] (fun W => (∀ j, W.cell? ⟨X, j, none⟩ = ([.slice (some ⟨ba, 0, none⟩) n ca, .slice (some ⟨bb, 0, none⟩) n n, .slice (some ⟨bc, 0, none⟩) n n, .slice (some ⟨bl, 0, none⟩) m m, .slice (some ⟨bk, 0, none⟩) m m] : List Value)[j]?) ∧ W.cell? ⟨ba, i, none⟩ = some (.float .f64 (raw ai s1))) (by kernel_rfl) (by kernel_rfl) ⟨G.out.fa.box.cell, c1⟩ ?_
              generalize y1.drew = y2 at *
              iterate 9 (refine iW_take (v := ?_) rfl rfl ?_ ?_; rotate_left; (next => (intro w' hSw; (try dsimp only at hSw); go_simp; (try (rw [if_pos (by omega)]; go_simp)); (try with_reducible rfl))); (simp only [Act.put, List.setIfInBounds_toArray, List.set_cons_zero, List.set_cons_succ]))
              refine iW_mid rfl rfl ?_
              refine wp_flt rfl rfl rfl rfl ?_
              intro s2 n2
              refine ⟨⟨G.out.fa.box.cell, c1⟩, ?_⟩
              clear c1
              replace G := Lib.hid (G.out.step (below_drewN n2 (Below.refl _ _)))
              generalize y2.drewN n2 = y3 at *
              refine iW_nil ?_
              (try simp only [fadd_rawl, fadd_rawr, fsub_rawl, fsub_rawr, fmul_rawl, fmul_rawr, fdiv_rawl, fdiv_rawr])
              obtain ⟨qv, hlet⟩ : ∃ v, v = fdiv bv ai := ⟨_, rfl⟩
              have HQV := Lib.hid (show qv = fdiv bv ai ∧ qv < 18446744073709551616 from ⟨hlet, by rw [hlet]; exact fdiv_lt _ _⟩)
              clear hlet
              rw [← HQV.out.1]
              obtain ⟨k1, k2⟩ : bl < y3.heap.size ∧ ∀ j, y3.frozen? ⟨bl, j, none⟩ = false := ⟨G.out.fa.l.lt, G.out.fa.l.frozen⟩
              obtain ⟨s3, c3⟩ := G.out.fa.atL hlt
              go_simp
              go_wp2_with fail
              refine NoPanic.normal ?_
              go_upto_region 27 with (fail)
              obtain ⟨y4, hyw⟩ : ∃ y, y = y3.setCell ⟨bl, i, none⟩ (.float .f64 (raw qv s2)) := ⟨_, rfl⟩
              rw [← hyw]
              replace G := Lib.hid (show LoM w3 y4 X Lo _ ca ba bb bc bl bk n m low _ from hyw ▸ G.out.setL i qv s2 HQV.out.2)
              clear hyw
              clear k1 k2 c3
              have hdr := below_drewN 1 (Below.refl y4.heap.size y4)
              replace G := Lib.hid (show LoM w3 y4.drew X Lo _ ca ba bb bc bl bk n m low _ from G.out.step hdr)
              clear hdr
              obtain ⟨b0, hlet⟩ : ∃ v, v = f.b.getD i 0 := ⟨_, rfl⟩
              have HB0 := Lib.hid (show b0 = f.b.getD i 0 from hlet)
              clear hlet
              obtain ⟨s10, c10⟩ : ∃ s, y4.drew.cell? ⟨bl, i, none⟩ = some (.float .f64 (raw qv s)) := by
                  have h := G.out.fa.atL hlt
                  rw [show FaS.l _ = f.l.set i qv from rfl, gsame (by rw [HFL.out.1.2.2.2.1]; exact hlt)] at h
                  exact h
              obtain ⟨s7, c7⟩ : ∃ s, y4.drew.cell? ⟨bb, i, none⟩ = some (.float .f64 (raw b0 s)) := by
                  have h := G.out.fa.atB hin
                  rw [show FaS.b _ = f.b from rfl, ← HB0.out] at h
                  exact h
              refine wp_region_items 10 [(true, 0), (true, 1), (true, 2), (true, 3), (true, 4), (true, 5), (true, 6), (true, 7), (true, 8), (true, 9)] (fun W => (∀ j, W.cell? ⟨X, j, none⟩ = ([.slice (some ⟨ba, 0, none⟩) n ca, .slice (some ⟨bb, 0, none⟩) n n, .slice (some ⟨bc, 0, none⟩) n n, .slice (some ⟨bl, 0, none⟩) m m, .slice (some ⟨bk, 0, none⟩) m m] : List Value)[j]?) ∧ W.cell? ⟨bl, i, none⟩ = some (.float .f64 (raw qv s10)) ∧ W.cell? ⟨bb, i, none⟩ = some (.float .f64 (raw b0 s7))) (by kernel_rfl) (by kernel_rfl) ⟨G.out.fa.box.cell, c10, c7⟩ ?_
              generalize y4.drew = y5 at *
              iterate 10 (refine iW_take (v := ?_) rfl rfl ?_ ?_; rotate_left; (next => (intro w' hSw; (try dsimp only at hSw); go_simp; (try (rw [if_pos (by omega)]; go_simp)); (try with_reducible rfl))); (simp only [Act.put, List.setIfInBounds_toArray, List.set_cons_zero, List.set_cons_succ]))
              refine iW_nil ?_
              clear c10 c7
              go_simp
              go_wp2_with (first | (refine wpList_flt rfl rfl rfl rfl rfl ?_; intro K hK s6 n6; go_frame; refine hK _ _ ?_; clear hK K))
              refine NoPanic.normal ?_
              (try simp only [fadd_rawl, fadd_rawr, fsub_rawl, fsub_rawr, fmul_rawl, fmul_rawr, fdiv_rawl, fdiv_rawr])
              obtain ⟨pv, hlet⟩ : ∃ v, v = fmul qv b0 := ⟨_, rfl⟩
              have HPV := Lib.hid (show pv = fmul qv b0 from hlet)
              clear hlet
              rw [← HPV.out]
              replace G := Lib.hid (G.out.step (below_drewN n6 (Below.refl _ _)))
              generalize y5.drewN n6 = y6 at *
              obtain ⟨s8, c8⟩ : ∃ s, y6.cell? ⟨ba, i1, none⟩ = some (.float .f64 (raw aj s)) := by
                  have h := G.out.fa.atA hi1n
                  rw [show FaS.a _ = liftF low f.a i from rfl, ← HAJ.out] at h
                  exact h
              obtain ⟨f1, f2, f3⟩ := G.out.fa.box.facts
              obtain ⟨k1, k2⟩ : ba < y6.heap.size ∧ ∀ j, y6.frozen? ⟨ba, j, none⟩ = false := ⟨(G.out.fa.addr hn0).2.lt, (G.out.fa.addr hn0).2.frozen⟩
              have HE := Lib.hid (show faL ds es x low (i + 1) = ⟨(liftF low f.a i).set i1 (fsub aj pv), f.b, f.c, f.l.set i qv, f.s⟩ from by
                  rw [HFN.out]
                  unfold faN
                  rw [← HI1.out, ← HA0.out.1, HC.out, if_neg (by decide)]
                  dsimp only
                  rw [← HAI.out, ← HAJ.out, ← HB0.out, ← HQV.out.1, ← HPV.out])
              go_wp2_with (first | (refine wpList_flt rfl rfl rfl rfl rfl ?_; intro K hK s9 n9; go_frame; refine hK _ _ ?_; clear hK K))
              (try simp only [fadd_rawl, fadd_rawr, fsub_rawl, fsub_rawr, fmul_rawl, fmul_rawr, fdiv_rawl, fdiv_rawr])
              go_roundw
              case rel => exact ⟨i + 1, by first | rfl | rw [HI1.out] | go_num, hlt, by rw [HE.out]; exact (G.out.step (below_drewN n9 (Below.refl _ _))).setA hn0 i1 _ s9 (fsub_lt _ _)⟩
              case measure => simp [intOf]; have := HI1.out; omega
          case neg =>
            have hie : m = i := by omega
            subst hie
            clear hi hlt
            have hb3 := HBB.out _ (Below.refl w3.heap.size w3)
            have hzl : w.heap.size + 1 < w3.heap.size := (HZB.out _ (Below.refl _ _)).lt
            have HZL := Lib.hid hzl
            have HB3 := Lib.hid hb3
            clear hzl hb3
            by_cases hn0 : n = 0
            case pos =>
              have h0 : ¬ (0 : Int) < (n : Int) := by omega
              have h0' : decide ((0 : Int) < (n : Int)) = false := decide_eq_false h0
              have h0n : ¬ 0 < n := by omega
              have HFI := Lib.hid (show facI ds es x = faL ds es x low m from by unfold facI; rw [← HLO.out.1, HLN.out.2.2.2.1, HLN.out.2.2.2.2]; simp [hn0])
              clear hn0
              obtain ⟨f1, f2, f3⟩ := G.out.fa.box.facts
              obtain ⟨z1, z2, z3⟩ := (HZB.out _ G.out.fa.bel).facts
              go_wp2_with fail
              have hbz := (HZB.out _ G.out.fa.bel).put5s (.slice aa n ca) (.slice (some ⟨bb, 0, none⟩) n n) (.slice (some ⟨bc, 0, none⟩) n n) (.slice (some ⟨bl, 0, none⟩) m m) (.slice (some ⟨bk, 0, none⟩) m m)
              have hff := G.out.fa.fin HB3.out (k := w.heap.size + 1) (by omega) HZL.out (.slice aa n ca) (.slice (some ⟨bb, 0, none⟩) n n) (.slice (some ⟨bc, 0, none⟩) n n) (.slice (some ⟨bl, 0, none⟩) m m) (.slice (some ⟨bk, 0, none⟩) m m)
              exact bodyPost_ret (results_two rfl (rv_cell (g := w.heap.size + 1) rfl hbz rfl Try.underlying45 (by kernel_rfl)) (rv_tmp rfl)) rfl ⟨X, aa, ca, ba, bb, bc, bl, bk, rfl, by rw [HFI.out]; exact hff⟩
            case neg =>
              have h0 : (0 : Int) < (n : Int) := by omega
              have h0n : 0 < n := by omega
              have h0' : decide ((0 : Int) < (n : Int)) = true := decide_eq_true h0
              obtain ⟨k, hk⟩ : ∃ k, k = n - 1 := ⟨_, rfl⟩
              have hk1 : (n : Int) - 1 = (k : Int) := by omega
              have hkn : k < n := by omega
              have HFI := Lib.hid (show facI ds es x = { faL ds es x low m with a := liftF low (faL ds es x low m).a k } from by unfold facI; rw [← HLO.out.1, HLN.out.2.2.2.1, HLN.out.2.2.2.2, hk]; simp [h0n])
              clear hk
              go_wp2_with fail
              refine (G.out.lift hkn hn9 HLO.out.2).mono ?_
              rintro e y1 ⟨rfl, hG⟩
              replace G := Lib.hid hG
              clear hG
              dsimp only
              obtain ⟨f1, f2, f3⟩ := G.out.fa.box.facts
              obtain ⟨z1, z2, z3⟩ := (HZB.out _ G.out.fa.bel).facts
              go_wp2_with fail
              have hbz := (HZB.out _ G.out.fa.bel).put5s (.slice aa n ca) (.slice (some ⟨bb, 0, none⟩) n n) (.slice (some ⟨bc, 0, none⟩) n n) (.slice (some ⟨bl, 0, none⟩) m m) (.slice (some ⟨bk, 0, none⟩) m m)
              have hff := G.out.fa.fin HB3.out (k := w.heap.size + 1) (by omega) HZL.out (.slice aa n ca) (.slice (some ⟨bb, 0, none⟩) n n) (.slice (some ⟨bc, 0, none⟩) n n) (.slice (some ⟨bl, 0, none⟩) m m) (.slice (some ⟨bk, 0, none⟩) m m)
              exact bodyPost_ret (results_two rfl (rv_cell (g := w.heap.size + 1) rfl hbz rfl Try.underlying45 (by kernel_rfl)) (rv_tmp rfl)) rfl ⟨X, aa, ca, ba, bb, bc, bl, bk, rfl, by rw [HFI.out]; exact hff⟩
end Go.Proofs.Ytdljnhdhigbefaa
