/- The law's own helpers of layer 14; what is refused. No condition but on lengths. -/
import Derived.Test.YtdljnhdhigbefaaIuZ
namespace Go.Proofs.Ytdljnhdhigbefaa
open Go Go.RowKit
set_option maxRecDepth 1000000
set_option linter.unusedSimpArgs false
set_option linter.unusedVariables false

/-- Ints in cells. -/
def IcI (w : World) (a : Option Addr) (l : List Nat) : Prop := l ≠ [] → ∃ b off, a = some ⟨b, off, none⟩ ∧ b < w.heap.size ∧ ∀ (i x : Nat), l[i]? = some x → w.cell? ⟨b, off + i, none⟩ = some (.int .i64 (x : Int))
theorem IcI.below {w w' : World} {a : Option Addr} {l : List Nat} (h : IcI w a l) (hb : Below w.heap.size w w') : IcI w' a l := fun hz => by
  obtain ⟨b, off, e, hlt, hc⟩ := h hz
  exact ⟨b, off, e, Nat.lt_of_lt_of_le hlt hb.size, fun i x hi => by rw [(below_cells hb).1 _ _ hlt]; exact hc i x hi⟩
theorem IcI.at {w : World} {a : Option Addr} {l : List Nat} (h : IcI w a l) {i : Nat} (hi : i < l.length) : ∃ b off, a = some ⟨b, off, none⟩ ∧ b < w.heap.size ∧ w.cell? ⟨b, off + i, none⟩ = some (.int .i64 ((l.getD i 0 : Nat) : Int)) := by
  obtain ⟨b, off, e, hlt, hc⟩ := h (fun e => by rw [e] at hi; simp at hi)
  exact ⟨b, off, e, hlt, hc i _ (by rw [List.getD_eq_getElem?_getD, List.getElem?_eq_getElem hi]; rfl)⟩
theorem OwnC.ic {w : World} {B : Nat} {v : Value} {l : List Nat} (h : OwnC 3 w B v (intsV l)) : ∃ a cap, v = .slice a l.length cap ∧ IcI w a l := by
  obtain ⟨a, b, cap, rfl, _, _, _, _, h1, _, h2⟩ := h.form
  rw [intsV_len]
  refine ⟨a, cap, rfl, fun hz => ?_⟩
  obtain ⟨e, hlt⟩ := h1 (fun e => hz (List.eq_nil_of_length_eq_zero (by rw [← intsV_len l, e]; rfl)))
  exact ⟨b, 0, e, hlt, fun i x hi => by rw [Nat.zero_add]; exact h2 i _ (by unfold intsV; rw [List.getElem?_map, hi]; rfl)⟩
theorem IcI.lit (w : World) (T : TypeId) (l : List Nat) : IcI (w.alloc (.cells (l.map fun p : Nat => Value.int .i64 (p : Int)).toArray T)) (some ⟨w.heap.size, 0, none⟩) l := fun _ => by
  have h := Box.newA w (l.map fun p : Nat => Value.int .i64 (p : Int)) T rfl
  exact ⟨w.heap.size, 0, rfl, h.lt, fun i x hi => by rw [Nat.zero_add, h.cell, List.getElem?_map, hi]; rfl⟩
theorem num14 (n : Int) (w : World) : Calls Try.prog 30 #[.int .i64 n] w fun e w' => e = .returned (.int .i64 n) ∧ w = w' := by
  go_enter Try.func30, Try.ntmps30
  go_wp2
  go_ret
  exact ⟨rfl, rfl⟩
theorem tri14 (w : World) (da ea : Option Addr) (n dc m ec : Nat) : Calls Try.prog 34 #[.slice da n dc, .slice ea m ec] w fun e w' => e = .returned (.agg #[.slice da n dc, .slice ea m ec]) ∧ Below w.heap.size w w' := by
  have x0 : Box (w.alloc (.cells #[.slice none 0 0, .slice none 0 0] 54)) w.heap.size [.slice none 0 0, .slice none 0 0] := Box.newA w [_, _] _ rfl
  obtain ⟨a1, a2, a3⟩ := x0.facts
  go_enter Try.func34, Try.ntmps34
  go_wp2
  exact bodyPost_ret (results_one rfl (rv_cell (g := w.heap.size) rfl (Box.newA w [_, _] _ rfl) rfl Try.underlying54 (by kernel_rfl))) rfl ⟨rfl, (Below.refl _ _).alloc (Nat.le_refl _) _⟩
set_option maxHeartbeats 4000000 in
theorem ints14 (w : World) (aa ba : Option Addr) (a b : List Nat) (ac bc : Nat) (hA : IcI w aa a) (hB : IcI w ba b) (hl : a.length ≤ 1000) (hm : b.length ≤ 1000) :
    Calls Try.prog 44 #[.slice aa a.length ac, .slice ba b.length bc] w fun e w' => e = .returned (.bool (decide (a = b))) ∧ Below w.heap.size w w' := by
  obtain ⟨R, hR⟩ : ∃ R, R = decide (a = b) := ⟨_, rfl⟩
  rw [← hR]
  by_cases hlen : a.length = b.length
  case neg =>
    have hr : R = false := by rw [hR]; exact decide_eq_false (fun e => hlen (by rw [e]))
    subst hr
    have h1 : ¬ (a.length : Int) = (b.length : Int) := by omega
    go_enter Try.func44, Try.ntmps44
    go_wp2_with fail
    go_ret
    exact ⟨rfl, Below.refl _ _⟩
  case pos =>
    have HL := Lib.hid hlen
    have HA := Lib.hid hA
    have HB := Lib.hid hB
    have HR := Lib.hid hR
    have h1 : (a.length : Int) = (b.length : Int) := by omega
    obtain ⟨n, hn⟩ : ∃ n, n = a.length := ⟨_, rfl⟩
    have hn2 : b.length = n := by omega
    rw [hn2, ← hn]
    have HN := Lib.hid (show n = a.length ∧ b.length = n from ⟨hn, hn2⟩)
    have hn9 : n ≤ 1000 := by omega
    clear hA hB hR hlen h1 hn hn2 hl hm
    go_enter Try.func44, Try.ntmps44
    go_wp2_with fail
    go_loopw [5] (fun s5 wr => ∃ i : Nat, s5 = .int .i64 i ∧ i ≤ n ∧ (∀ t, t < i → a.getD t 0 = b.getD t 0) ∧ Below w.heap.size w wr) (fun s5 _ => n - (intOf s5).toNat)
    case atStart => exact ⟨0, rfl, Nat.zero_le _, fun t h => absurd h (Nat.not_lt_zero _), Below.refl _ _⟩
    case round =>
      obtain ⟨i, rfl, hi, hE, hBl⟩ := hrel
      have HE := Lib.hid hE
      have HBl := Lib.hid hBl
      clear hE hBl
      by_cases hlt : i < n
      case pos =>
        obtain ⟨b1, o1, rfl, hb1, c1⟩ := (HA.out.below HBl.out).at (show i < a.length by have := HN.out; omega)
        obtain ⟨b2, o2, rfl, hb2, c2⟩ := (HB.out.below HBl.out).at (show i < b.length by have := HN.out; omega)
        obtain ⟨x, hx⟩ : ∃ x, x = a.getD i 0 := ⟨_, rfl⟩
        obtain ⟨y, hy⟩ : ∃ x, x = b.getD i 0 := ⟨_, rfl⟩
        rw [← hx] at c1
        rw [← hy] at c2
        have HXY := Lib.hid (And.intro hx hy)
        clear hx hy
        have hi9 : i < 1000 := by omega
        go_upto_region 6 with (fail)
        refine wp_region_items 8 [(true, 0), (true, 1), (true, 2), (true, 3), (true, 4), (true, 5), (true, 6), (true, 7)] (fun W => W.cell? ⟨b1, o1 + i, none⟩ = some (.int .i64 (x : Int)) ∧ W.cell? ⟨b2, o2 + i, none⟩ = some (.int .i64 (y : Int))) (by kernel_rfl) (by kernel_rfl) ⟨c1, c2⟩ ?_
        have hdr := Lib.hid (below_step HBl.out HBl.out.size (below_drewN 1 (Below.refl wr.heap.size wr)))
        clear c1 c2
        iterate 8 (refine iW_take (v := ?_) rfl rfl ?_ ?_; rotate_left; (next => (intro w' hSw; (try dsimp only at hSw); go_simp; (try (rw [if_pos (by omega)]; go_simp)); (try with_reducible rfl))); (simp only [Act.put, List.setIfInBounds_toArray, List.set_cons_zero, List.set_cons_succ]))
        refine iW_nil ?_
        by_cases hxy : x = y
        · have t1 : ((x : Int) != (y : Int)) = false := by rw [hxy]; exact bne_self_eq_false _
          have t2 : (x : Int) = (y : Int) := by omega
          go_simp
          go_wp2_with fail
          refine NoPanic.normal ?_
          go_wp2_with fail
          go_roundw
          case rel => exact ⟨i + 1, by go_num, hlt, fun t ht => by
            by_cases e : t = i
            · rw [e, ← HXY.out.1, ← HXY.out.2]; exact hxy
            · exact HE.out t (by omega), hdr.out⟩
          case measure => simp [intOf]; omega
        · have t1 : ((x : Int) != (y : Int)) = true := by rw [bne_iff_ne]; omega
          have t2 : ¬ (x : Int) = (y : Int) := by omega
          have hr : R = false := by rw [HR.out]; exact decide_eq_false (fun e => hxy (by rw [HXY.out.1, HXY.out.2, e]))
          subst hr
          go_simp
          go_wp2_with fail
          refine NoPanic.normal ?_
          go_wp2_with fail
          go_ret
          exact ⟨rfl, hdr.out⟩
      case neg =>
        have hin : i = n := by omega
        have hr : R = true := by
          rw [HR.out]
          refine decide_eq_true (List.ext_getElem? fun t => ?_)
          by_cases ht : t < n
          · have h := HE.out t (by omega)
            rw [List.getD_eq_getElem?_getD, List.getD_eq_getElem?_getD, List.getElem?_eq_getElem (by have := HN.out; omega), List.getElem?_eq_getElem (by have := HN.out; omega)] at h
            rw [List.getElem?_eq_getElem (by have := HN.out; omega), List.getElem?_eq_getElem (by have := HN.out; omega)]
            exact congrArg some h
          · rw [List.getElem?_eq_none (by have := HN.out; omega), List.getElem?_eq_none (by have := HN.out; omega)]
        subst hr
        have h0 : ¬ (i : Int) < (n : Int) := by omega
        go_wp2_with fail
        go_ret
        exact ⟨rfl, HBl.out⟩
set_option maxHeartbeats 4000000 in
theorem Vectors_err (w : World) (da ea ma : Option Addr) (ds es ws : List Nat) (dc ec mc n m k : Nat) (hdl : ds.length = n) (hel : es.length = m) (hkl : ws.length = k) (hT : TrI w da ea ds es dc ec) (hM : Fls w ma ws) (hn : n ≤ 1000) (hm : m ≤ 1000) (hk : k ≤ 1000) (hv : valI ds es ws ≠ 0) :
    Calls Try.prog 33 #[.agg #[.slice da n dc, .slice ea m ec], .slice ma k mc] w fun e w' => e = .returned (.tuple #[.agg #[.int .i64 0, .int .i64 0, .slice none 0 0], .int .i64 0, .int .i64 (valI ds es ws)]) ∧ Below w.heap.size w w' := by
  have H1 := Lib.hid (fun (W : World) (hW : Below w.heap.size w W) => by
    have h := Clusters_err W da ea ma ds es ws dc ec mc (hT.below hW) (hM.below hW) (by omega) (by omega) (by omega) hv
    rw [hdl, hel, hkl] at h
    exact h)
  obtain ⟨q, hq⟩ : ∃ q, q = valI ds es ws := ⟨_, rfl⟩
  rw [← hq] at H1 hv ⊢
  clear hT hM hdl hel hkl hq
  have x1 : Box ((w.alloc (.cells #[.slice da n dc, .slice ea m ec] 54)).alloc (.cells #[.int .i64 0, .int .i64 0, .slice none 0 0] 26)) w.heap.size [.slice da n dc, .slice ea m ec] := (Box.newA w [_, _] _ rfl).alloc _
  have x2 : Box ((w.alloc (.cells #[.slice da n dc, .slice ea m ec] 54)).alloc (.cells #[.int .i64 0, .int .i64 0, .slice none 0 0] 26)) (w.heap.size + 1) [.int .i64 0, .int .i64 0, .slice none 0 0] := Box.newA _ [_, _, _] _ (by simp)
  have hB0 : Below w.heap.size w ((w.alloc (.cells #[.slice da n dc, .slice ea m ec] 54)).alloc (.cells #[.int .i64 0, .int .i64 0, .slice none 0 0] 26)) := ((Below.refl _ _).alloc (Nat.le_refl _) _).alloc (by simp) _
  obtain ⟨w2, hw2⟩ : ∃ W, W = ((w.alloc (.cells #[.slice da n dc, .slice ea m ec] 54)).alloc (.cells #[.int .i64 0, .int .i64 0, .slice none 0 0] 26)) := ⟨_, rfl⟩
  rw [← hw2] at x1 x2 hB0
  have X2 := Lib.hid x2
  have B2 := Lib.hid hB0
  obtain ⟨q1, q2, q3⟩ := x1.facts
  clear x1 x2 hB0
  go_enter Try.func33, Try.ntmps33
  go_upto_region 1 with (fail)
  rw [← hw2]
  clear hw2
  go_wp2_with fail
  refine (H1.out _ B2.out).mono ?_
  rintro e w3 ⟨rfl, hb⟩
  have Y2 := Lib.hid (X2.out.below hb)
  have B3 := Lib.hid (below_step B2.out B2.out.size hb)
  clear q1 q2 q3 hb X2 B2 H1
  obtain ⟨q1, q2, q3⟩ := Y2.out.facts
  have t1 : decide (q = 0) = false := decide_eq_false hv
  dsimp only
  go_wp2_with fail
  have hbz := Y2.out.put3I (.int .i64 0) (.int .i64 0) (.slice none 0 0)
  exact bodyPost_ret (results_three rfl (rv_cell (g := w.heap.size + 1) rfl hbz rfl Try.underlying26 (by kernel_rfl)) (rv_tmp rfl) (rv_tmp rfl)) rfl ⟨rfl, below3I B3.out (by omega) _ _ _⟩
end Go.Proofs.Ytdljnhdhigbefaa

/- The law's known rows of layer 14 hold. No condition. -/
namespace Go.Proofs.Ytdljnhdhigbefaa
open Go Go.RowKit
set_option maxRecDepth 1000000
set_option linter.unusedSimpArgs false
set_option linter.unusedVariables false

theorem flsI_lit (w : World) (T : TypeId) (l : List Nat) (hl : (l.all fun x => !isnan x) = true) : Fls (w.alloc (.cells (l.map (Value.float .f64)).toArray T)) (some ⟨w.heap.size, 0, none⟩) l :=
  (Flb.ofBox (zs := l) (Box.newA w _ T rfl) (fun x hx => by simpa using List.all_eq_true.1 hl x hx)).fls
theorem wordsI_of {l : List Nat} (h : (l.all fun x => decide (x < 18446744073709551616)) = true) : Words l := fun v hv => by simpa using List.all_eq_true.1 h v hv
theorem datI_22 (made : List (List Nat)) : datI made 2 2 2 = [(made.getD 0 []).getD 0 0, (made.getD 1 []).getD 0 0, (made.getD 0 []).getD 1 0, (made.getD 1 []).getD 1 0] := rfl
theorem kni4 : (let v := vcsL [4611686018427387904, 4607182418800017408] [0] [4607182418800017408, 4611686018427387904] [0, 1] 2; let e : Nat → Nat → Nat := fun j i => (v.made.getD j []).getD i 0; decide (e 0 0 < 18446744073709551616) && decide (e 0 1 < 18446744073709551616) && decide (e 1 0 < 18446744073709551616) && decide (e 1 1 < 18446744073709551616)) = true := by kernel_rfl
theorem vk1 (w : World) (a b m : Addr) (ha : Fls w (some a) [4611686018427387904, 4607182418800017408]) (hb : Fls w (some b) [0]) (hm : Fls w (some m) [4607182418800017408, 4611686018427387904]) :
    Calls Try.prog 33 #[.agg #[.slice (some a) 2 2, .slice (some b) 1 1], .slice (some m) 2 2] w fun e w' => (∃ D e0 e1 e2 e3, e = .returned (.tuple #[.agg #[.int .i64 2, .int .i64 2, .slice (some ⟨D, 0, none⟩) 4 4], .int .i64 6, .int .i64 0]) ∧ Flb w' D [e0, e1, e2, e3] ∧ (flt (fabs e0) 4472406533629990549 = true ∧ flt (fabs (fsub (fabs e1) 4607182418800017408)) 4472406533629990549 = true ∧ flt (fabs (fsub (fabs e2) 4607182418800017408)) 4472406533629990549 = true ∧ flt (fabs e3) 4472406533629990549 = true) ∧ (e0 < 18446744073709551616 ∧ e1 < 18446744073709551616 ∧ e2 < 18446744073709551616 ∧ e3 < 18446744073709551616)) ∧ Below w.heap.size w w' := by
  have hT : TrI w (some a) (some b) [4611686018427387904, 4607182418800017408] [0] 2 1 := ⟨ha, hb, (fun h => by cases h), (fun h => by cases h), wordsI_of (by kernel_rfl)⟩
  refine (Vectors_of w (some a) (some b) (some m) _ _ _ 2 1 2 2 1 2 rfl rfl rfl hT hm (wordsI_of (by kernel_rfl)) (by kernel_rfl) (fun x => askS [4611686018427387904, 4607182418800017408] [0] [x] = 0 ∧ x < 18446744073709551616) (fun h0 W x j ka kl kc cl h1 h2 => spec_fin w (some a) (some b) _ _ 2 1 2 1 rfl rfl h0 hT W x j ka kl kc cl h1 h2.1) (fun x hx => ⟨by have h := (askS_zero hx.1).2.2.2; exact isnan_ffinq (by simpa using h), hx.2⟩) (fun j hj _ => ?_)).mono ?_
  · rw [kni0]
    match j, hj with
    | 0, _ => exact ⟨(by kernel_rfl : askS [4611686018427387904, 4607182418800017408] [0] [4607182418800017408] = 0), by decide⟩
    | 1, _ => exact ⟨(by kernel_rfl : askS [4611686018427387904, 4607182418800017408] [0] [4611686018427387904] = 0), by decide⟩
  · rw [kni0]
    rintro e w' ⟨h1, h2, h3⟩
    have k3 := kni3
    have k4 := kni4
    dsimp only at k3 k4
    generalize vcsL [4611686018427387904, 4607182418800017408] [0] [4607182418800017408, 4611686018427387904] [0, 1] 2 = v at *
    simp only [Bool.and_eq_true, decide_eq_true_eq] at k3 k4
    obtain ⟨D, rfl, hF⟩ := h1 k3.1.1.1.1.1
    rw [datI_22] at hF
    refine ⟨⟨D, _, _, _, _, ?_, hF, ⟨k3.1.1.1.2, k3.1.1.2, k3.1.2, k3.2⟩, ⟨k4.1.1.1, k4.1.2, k4.1.1.2, k4.2⟩⟩, h3⟩
    rw [k3.1.1.1.1.2]
    rfl
theorem vk2 (w : World) : Calls Try.prog 33 #[.agg #[.slice none 0 0, .slice none 0 0], .slice none 0 0] w fun e w' => (∃ D, e = .returned (.tuple #[.agg #[.int .i64 0, .int .i64 0, .slice (some ⟨D, 0, none⟩) 0 0], .int .i64 0, .int .i64 0])) ∧ Below w.heap.size w w' := by
  have hT : TrI w none none [] [] 0 0 := ⟨fun h => absurd rfl h, fun h => absurd rfl h, fun _ => ⟨rfl, rfl⟩, fun _ => ⟨rfl, rfl⟩, fun x hx => by cases hx⟩
  refine (Vectors_of w none none none [] [] [] 0 0 0 0 0 0 rfl rfl rfl hT (fun h => absurd rfl h) (fun x hx => by cases hx) (by kernel_rfl) (fun x => isnan x = false ∧ x < 18446744073709551616) (fun h => absurd rfl h) (fun x hx => hx) (fun j hj => absurd hj (Nat.not_lt_zero _))).mono ?_
  rintro e w' ⟨h1, h2, h3⟩
  obtain ⟨D, rfl, _⟩ := h1 rfl
  exact ⟨⟨D, rfl⟩, h3⟩
theorem vk3 (w : World) (a m : Addr) (ha : Fls w (some a) [4611686018427387904]) (hm : Fls w (some m) [4607182418800017408, 4611686018427387904]) :
    Calls Try.prog 33 #[.agg #[.slice (some a) 1 1, .slice none 0 0], .slice (some m) 2 2] w fun e w' => e = .returned (.tuple #[.agg #[.int .i64 0, .int .i64 0, .slice none 0 0], .int .i64 0, .int .i64 2]) ∧ Below w.heap.size w w' := by
  have hv : valI [4611686018427387904] [] [4607182418800017408, 4611686018427387904] = 2 := by kernel_rfl
  have h := Vectors_err w (some a) none (some m) [4611686018427387904] [] [4607182418800017408, 4611686018427387904] 1 0 2 1 0 2 rfl rfl rfl ⟨ha, fun h => absurd rfl h, (fun h => by cases h), fun _ => ⟨rfl, rfl⟩, wordsI_of (by kernel_rfl)⟩ hm (by decide) (by decide) (by decide) (by rw [hv]; decide)
  rw [hv] at h
  exact h
theorem ck (w : World) (a b m : Addr) (ds es ws : List Nat) (c : List Nat) (hd : ds.length = 2) (he : es.length = 1) (hw : ws.length = 2) (ha : Fls w (some a) ds) (hb : Fls w (some b) es) (hm : Fls w (some m) ws) (hW : Words (ds ++ es)) (hv : valI ds es ws = 0) (hc : cluI ds es ws = c) :
    Calls Try.prog 42 #[.agg #[.slice (some a) 2 2, .slice (some b) 1 1], .slice (some m) 2 2] w fun e w' => (∃ x cp, e = .returned (.tuple #[.slice x c.length cp, .int .i64 0]) ∧ IcI w' x c) ∧ Below w.heap.size w w' := by
  have h := Clusters_ok w (some a) (some b) (some m) ds es ws 2 1 2 ⟨ha, hb, (fun h => by cases h), (fun h => by cases h), hW⟩ hm hv
  rw [hd, he, hw, hc] at h
  refine h.mono ?_
  rintro e w' ⟨⟨v, rfl, hO⟩, hb⟩
  obtain ⟨x, cp, rfl, hI⟩ := hO.ic
  exact ⟨⟨x, cp, rfl, hI⟩, hb⟩
theorem litI1 (V : World) (l : List Nat) (h : (l.all fun x => !isnan x) = true) : Fls (V.alloc (.cells (l.map (Value.float .f64)).toArray 40)) (some ⟨V.heap.size, 0, none⟩) l ∧ Below V.heap.size V (V.alloc (.cells (l.map (Value.float .f64)).toArray 40)) :=
  ⟨flsI_lit V _ l h, (Below.refl _ _).alloc (Nat.le_refl _) _⟩
theorem litI2 (V : World) (l l2 : List Nat) (h : (l.all fun x => !isnan x) = true) (h2 : (l2.all fun x => !isnan x) = true) : Fls ((V.alloc (.cells (l.map (Value.float .f64)).toArray 40)).alloc (.cells (l2.map (Value.float .f64)).toArray 40)) (some ⟨V.heap.size, 0, none⟩) l ∧ Fls ((V.alloc (.cells (l.map (Value.float .f64)).toArray 40)).alloc (.cells (l2.map (Value.float .f64)).toArray 40)) (some ⟨V.heap.size + 1, 0, none⟩) l2 ∧ Below V.heap.size V ((V.alloc (.cells (l.map (Value.float .f64)).toArray 40)).alloc (.cells (l2.map (Value.float .f64)).toArray 40)) := by
  have h3 := flsI_lit (V.alloc (.cells (l.map (Value.float .f64)).toArray 40)) 40 l2 h2
  rw [show (V.alloc (.cells (l.map (Value.float .f64)).toArray 40)).heap.size = V.heap.size + 1 by simp] at h3
  exact ⟨(flsI_lit V _ l h).below ((Below.refl _ _).alloc (Nat.le_refl _) _), h3, ((Below.refl _ _).alloc (Nat.le_refl _) _).alloc (by simp) _⟩
end Go.Proofs.Ytdljnhdhigbefaa

/- The law's known rows of layer 14 hold (printed by gen_ix.py). No condition. -/
namespace Go.Proofs.Ytdljnhdhigbefaa
open Go Go.RowKit
set_option maxRecDepth 1000000
set_option linter.unusedSimpArgs false
set_option linter.unusedVariables false

set_option maxHeartbeats 16000000 in
theorem known14_any (w : World) : Calls Try.prog 26 #[] w fun e w' => e = .returned (.bool true) ∧ Below w.heap.size w w' := by
  go_enter Try.func26, Try.ntmps26
  have HN := Lib.hid num14
  have BW := Lib.hid (show Below w.heap.size w w from Below.refl _ _)
  go_upto_region 1 with (fail)
  go_wp2_with fail
  have hl := litI2 w [4611686018427387904, 4607182418800017408] [0] (by kernel_rfl) (by kernel_rfl)
  simp only [List.map_cons, List.map_nil] at hl
  obtain ⟨V1, hV⟩ : ∃ V, V = ((w.alloc (.cells #[.float .f64 4611686018427387904, .float .f64 4607182418800017408] 40)).alloc (.cells #[.float .f64 0] 40)) := ⟨_, rfl⟩
  rw [← hV] at hl ⊢
  obtain ⟨hl1, hl2, hlb⟩ := hl
  replace BW := Lib.hid (below_step BW.out BW.out.size hlb)
  obtain ⟨pA1, hp0⟩ : ∃ p, p = w.heap.size := ⟨_, rfl⟩
  obtain ⟨pB1, hp1⟩ : ∃ p, p = w.heap.size + 1 := ⟨_, rfl⟩
  rw [← hp1] at hl2 ⊢
  rw [← hp0] at hl1 ⊢
  have A1 := Lib.hid (show Fls V1 (some ⟨pA1, 0, none⟩) [4611686018427387904, 4607182418800017408] from hl1)
  have B1 := Lib.hid (show Fls V1 (some ⟨pB1, 0, none⟩) [0] from hl2)
  clear hl1 hlb hV hp0 hp1 hl2
  refine (tri14 _ _ _ _ _ _ _).mono ?_
  rintro e V2 ⟨rfl, hb⟩
  replace BW := Lib.hid (below_step BW.out BW.out.size hb)
  replace A1 := Lib.hid (A1.out.below hb)
  replace B1 := Lib.hid (B1.out.below hb)
  dsimp only
  clear hb
  go_wp2_with fail
  have hl := litI1 V2 [4607182418800017408, 4611686018427387904] (by kernel_rfl)
  simp only [List.map_cons, List.map_nil] at hl
  obtain ⟨V3, hV⟩ : ∃ V, V = (V2.alloc (.cells #[.float .f64 4607182418800017408, .float .f64 4611686018427387904] 40)) := ⟨_, rfl⟩
  rw [← hV] at hl ⊢
  obtain ⟨hl1, hlb⟩ := hl
  replace BW := Lib.hid (below_step BW.out BW.out.size hlb)
  replace A1 := Lib.hid (A1.out.below hlb)
  replace B1 := Lib.hid (B1.out.below hlb)
  obtain ⟨pC1, hp0⟩ : ∃ p, p = V2.heap.size := ⟨_, rfl⟩
  rw [← hp0] at hl1 ⊢
  have C1 := Lib.hid (show Fls V3 (some ⟨pC1, 0, none⟩) [4607182418800017408, 4611686018427387904] from hl1)
  clear hl1 hlb hV hp0
  refine (vk1 _ _ _ _ A1.out B1.out C1.out).mono ?_
  rintro e V4 ⟨⟨D, e0, e1, e2, e3, rfl, hF, hQ, hW⟩, hb⟩
  replace BW := Lib.hid (below_step BW.out BW.out.size hb)
  dsimp only
  clear A1 B1 C1 hb
  have DF := Lib.hid (show Flb V4 D [e0, e1, e2, e3] from hF)
  have HQ := Lib.hid (And.intro hQ hW)
  clear hF hQ hW
  go_upto_region 2 with (fail)
  have hm := Box.newA V4 [.int .i64 2, .int .i64 2, .slice (some ⟨D, 0, none⟩) 4 4] 26 rfl
  have hb := (Below.refl V4.heap.size V4).alloc (Nat.le_refl _) (.cells #[.int .i64 2, .int .i64 2, .slice (some ⟨D, 0, none⟩) 4 4] 26)
  obtain ⟨V5, hV⟩ : ∃ V, V = V4.alloc (.cells #[.int .i64 2, .int .i64 2, .slice (some ⟨D, 0, none⟩) 4 4] 26) := ⟨_, rfl⟩
  have hm2 : Box V5 V4.heap.size [.int .i64 2, .int .i64 2, .slice (some ⟨D, 0, none⟩) 4 4] := hV ▸ hm
  rw [← hV] at hb ⊢
  replace BW := Lib.hid (below_step BW.out BW.out.size hb)
  replace DF := Lib.hid (DF.out.below hb)
  obtain ⟨pM1, hp⟩ : ∃ p, p = V4.heap.size := ⟨_, rfl⟩
  rw [← hp] at hm2 ⊢
  have M1 := Lib.hid (show Box V5 pM1 [.int .i64 2, .int .i64 2, .slice (some ⟨D, 0, none⟩) 4 4] from hm2)
  clear hm hm2 hb hV hp
  obtain ⟨f1, f2, f3⟩ := M1.out.facts
  go_upto_region 4 with (go_at_call 30; refine (HN.out _ _).mono ?_; rintro e w' ⟨rfl, rfl⟩)
  clear f1 f2 f3
  go_wp2_with fail
  refine (vk2 _).mono ?_
  rintro e V6 ⟨⟨D2, rfl⟩, hb⟩
  replace BW := Lib.hid (below_step BW.out BW.out.size hb)
  replace DF := Lib.hid (DF.out.below hb)
  replace M1 := Lib.hid (M1.out.below hb)
  dsimp only
  clear hb
  go_upto_region 5 with (fail)
  have hm := Box.newA V6 [.int .i64 0, .int .i64 0, .slice (some ⟨D2, 0, none⟩) 0 0] 26 rfl
  have hb := (Below.refl V6.heap.size V6).alloc (Nat.le_refl _) (.cells #[.int .i64 0, .int .i64 0, .slice (some ⟨D2, 0, none⟩) 0 0] 26)
  obtain ⟨V7, hV⟩ : ∃ V, V = V6.alloc (.cells #[.int .i64 0, .int .i64 0, .slice (some ⟨D2, 0, none⟩) 0 0] 26) := ⟨_, rfl⟩
  have hm2 : Box V7 V6.heap.size [.int .i64 0, .int .i64 0, .slice (some ⟨D2, 0, none⟩) 0 0] := hV ▸ hm
  rw [← hV] at hb ⊢
  replace BW := Lib.hid (below_step BW.out BW.out.size hb)
  replace DF := Lib.hid (DF.out.below hb)
  replace M1 := Lib.hid (M1.out.below hb)
  obtain ⟨pM2, hp⟩ : ∃ p, p = V6.heap.size := ⟨_, rfl⟩
  rw [← hp] at hm2 ⊢
  have M2 := Lib.hid (show Box V7 pM2 [.int .i64 0, .int .i64 0, .slice (some ⟨D2, 0, none⟩) 0 0] from hm2)
  clear hm hm2 hb hV hp
  go_wp2_with fail
  have hl := litI1 V7 [4611686018427387904] (by kernel_rfl)
  simp only [List.map_cons, List.map_nil] at hl
  obtain ⟨V8, hV⟩ : ∃ V, V = (V7.alloc (.cells #[.float .f64 4611686018427387904] 40)) := ⟨_, rfl⟩
  rw [← hV] at hl ⊢
  obtain ⟨hl1, hlb⟩ := hl
  replace BW := Lib.hid (below_step BW.out BW.out.size hlb)
  replace DF := Lib.hid (DF.out.below hlb)
  replace M1 := Lib.hid (M1.out.below hlb)
  replace M2 := Lib.hid (M2.out.below hlb)
  obtain ⟨pA3, hp0⟩ : ∃ p, p = V7.heap.size := ⟨_, rfl⟩
  rw [← hp0] at hl1 ⊢
  have A3 := Lib.hid (show Fls V8 (some ⟨pA3, 0, none⟩) [4611686018427387904] from hl1)
  clear hl1 hlb hV hp0
  refine (tri14 _ _ _ _ _ _ _).mono ?_
  rintro e V9 ⟨rfl, hb⟩
  replace BW := Lib.hid (below_step BW.out BW.out.size hb)
  replace DF := Lib.hid (DF.out.below hb)
  replace M1 := Lib.hid (M1.out.below hb)
  replace M2 := Lib.hid (M2.out.below hb)
  replace A3 := Lib.hid (A3.out.below hb)
  dsimp only
  clear hb
  go_wp2_with fail
  have hl := litI1 V9 [4607182418800017408, 4611686018427387904] (by kernel_rfl)
  simp only [List.map_cons, List.map_nil] at hl
  obtain ⟨V10, hV⟩ : ∃ V, V = (V9.alloc (.cells #[.float .f64 4607182418800017408, .float .f64 4611686018427387904] 40)) := ⟨_, rfl⟩
  rw [← hV] at hl ⊢
  obtain ⟨hl1, hlb⟩ := hl
  replace BW := Lib.hid (below_step BW.out BW.out.size hlb)
  replace DF := Lib.hid (DF.out.below hlb)
  replace M1 := Lib.hid (M1.out.below hlb)
  replace M2 := Lib.hid (M2.out.below hlb)
  replace A3 := Lib.hid (A3.out.below hlb)
  obtain ⟨pC3, hp0⟩ : ∃ p, p = V9.heap.size := ⟨_, rfl⟩
  rw [← hp0] at hl1 ⊢
  have C3 := Lib.hid (show Fls V10 (some ⟨pC3, 0, none⟩) [4607182418800017408, 4611686018427387904] from hl1)
  clear hl1 hlb hV hp0
  refine (vk3 _ _ _ A3.out C3.out).mono ?_
  rintro e V11 ⟨rfl, hb⟩
  replace BW := Lib.hid (below_step BW.out BW.out.size hb)
  replace DF := Lib.hid (DF.out.below hb)
  replace M1 := Lib.hid (M1.out.below hb)
  replace M2 := Lib.hid (M2.out.below hb)
  dsimp only
  clear A3 C3 hb
  go_upto_region 6 with (fail)
  have hm := Box.newA V11 [.int .i64 0, .int .i64 0, .slice none 0 0] 26 rfl
  have hb := (Below.refl V11.heap.size V11).alloc (Nat.le_refl _) (.cells #[.int .i64 0, .int .i64 0, .slice none 0 0] 26)
  obtain ⟨V12, hV⟩ : ∃ V, V = V11.alloc (.cells #[.int .i64 0, .int .i64 0, .slice none 0 0] 26) := ⟨_, rfl⟩
  have hm2 : Box V12 V11.heap.size [.int .i64 0, .int .i64 0, .slice none 0 0] := hV ▸ hm
  rw [← hV] at hb ⊢
  replace BW := Lib.hid (below_step BW.out BW.out.size hb)
  replace DF := Lib.hid (DF.out.below hb)
  replace M1 := Lib.hid (M1.out.below hb)
  replace M2 := Lib.hid (M2.out.below hb)
  obtain ⟨pM3, hp⟩ : ∃ p, p = V11.heap.size := ⟨_, rfl⟩
  rw [← hp] at hm2 ⊢
  have M3 := Lib.hid (show Box V12 pM3 [.int .i64 0, .int .i64 0, .slice none 0 0] from hm2)
  clear hm hm2 hb hV hp
  go_wp2_with fail
  have hl := litI2 V12 [0, 0] [4607182418800017408] (by kernel_rfl) (by kernel_rfl)
  simp only [List.map_cons, List.map_nil] at hl
  obtain ⟨V13, hV⟩ : ∃ V, V = ((V12.alloc (.cells #[.float .f64 0, .float .f64 0] 40)).alloc (.cells #[.float .f64 4607182418800017408] 40)) := ⟨_, rfl⟩
  rw [← hV] at hl ⊢
  obtain ⟨hl1, hl2, hlb⟩ := hl
  replace BW := Lib.hid (below_step BW.out BW.out.size hlb)
  replace DF := Lib.hid (DF.out.below hlb)
  replace M1 := Lib.hid (M1.out.below hlb)
  replace M2 := Lib.hid (M2.out.below hlb)
  replace M3 := Lib.hid (M3.out.below hlb)
  obtain ⟨pA4, hp0⟩ : ∃ p, p = V12.heap.size := ⟨_, rfl⟩
  obtain ⟨pB4, hp1⟩ : ∃ p, p = V12.heap.size + 1 := ⟨_, rfl⟩
  rw [← hp1] at hl2 ⊢
  rw [← hp0] at hl1 ⊢
  have A4 := Lib.hid (show Fls V13 (some ⟨pA4, 0, none⟩) [0, 0] from hl1)
  have B4 := Lib.hid (show Fls V13 (some ⟨pB4, 0, none⟩) [4607182418800017408] from hl2)
  clear hl1 hlb hV hp0 hp1 hl2
  refine (tri14 _ _ _ _ _ _ _).mono ?_
  rintro e V14 ⟨rfl, hb⟩
  replace BW := Lib.hid (below_step BW.out BW.out.size hb)
  replace DF := Lib.hid (DF.out.below hb)
  replace M1 := Lib.hid (M1.out.below hb)
  replace M2 := Lib.hid (M2.out.below hb)
  replace M3 := Lib.hid (M3.out.below hb)
  replace A4 := Lib.hid (A4.out.below hb)
  replace B4 := Lib.hid (B4.out.below hb)
  dsimp only
  clear hb
  go_wp2_with fail
  have hl := litI1 V14 [13830554455654793216, 4607182418800017408] (by kernel_rfl)
  simp only [List.map_cons, List.map_nil] at hl
  obtain ⟨V15, hV⟩ : ∃ V, V = (V14.alloc (.cells #[.float .f64 13830554455654793216, .float .f64 4607182418800017408] 40)) := ⟨_, rfl⟩
  rw [← hV] at hl ⊢
  obtain ⟨hl1, hlb⟩ := hl
  replace BW := Lib.hid (below_step BW.out BW.out.size hlb)
  replace DF := Lib.hid (DF.out.below hlb)
  replace M1 := Lib.hid (M1.out.below hlb)
  replace M2 := Lib.hid (M2.out.below hlb)
  replace M3 := Lib.hid (M3.out.below hlb)
  replace A4 := Lib.hid (A4.out.below hlb)
  replace B4 := Lib.hid (B4.out.below hlb)
  obtain ⟨pC4, hp0⟩ : ∃ p, p = V14.heap.size := ⟨_, rfl⟩
  rw [← hp0] at hl1 ⊢
  have C4 := Lib.hid (show Fls V15 (some ⟨pC4, 0, none⟩) [13830554455654793216, 4607182418800017408] from hl1)
  clear hl1 hlb hV hp0
  refine (ck _ _ _ _ _ _ _ [0, 1] rfl rfl rfl A4.out B4.out C4.out (wordsI_of (by kernel_rfl)) (by kernel_rfl) kni1).mono ?_
  rintro e V16 ⟨⟨xL1, cL1, rfl, hI⟩, hb⟩
  replace BW := Lib.hid (below_step BW.out BW.out.size hb)
  replace DF := Lib.hid (DF.out.below hb)
  replace M1 := Lib.hid (M1.out.below hb)
  replace M2 := Lib.hid (M2.out.below hb)
  replace M3 := Lib.hid (M3.out.below hb)
  dsimp only
  clear A4 B4 C4 hb
  have L1 := Lib.hid (show IcI V16 xL1 [0, 1] from hI)
  clear hI
  go_upto_region 7 with (fail)
  go_wp2_with fail
  have hl := litI2 V16 [4607182418800017408, 4607182418800017408] [0] (by kernel_rfl) (by kernel_rfl)
  simp only [List.map_cons, List.map_nil] at hl
  obtain ⟨V17, hV⟩ : ∃ V, V = ((V16.alloc (.cells #[.float .f64 4607182418800017408, .float .f64 4607182418800017408] 40)).alloc (.cells #[.float .f64 0] 40)) := ⟨_, rfl⟩
  rw [← hV] at hl ⊢
  obtain ⟨hl1, hl2, hlb⟩ := hl
  replace BW := Lib.hid (below_step BW.out BW.out.size hlb)
  replace DF := Lib.hid (DF.out.below hlb)
  replace M1 := Lib.hid (M1.out.below hlb)
  replace M2 := Lib.hid (M2.out.below hlb)
  replace M3 := Lib.hid (M3.out.below hlb)
  replace L1 := Lib.hid (L1.out.below hlb)
  obtain ⟨pA4, hp0⟩ : ∃ p, p = V16.heap.size := ⟨_, rfl⟩
  obtain ⟨pB4, hp1⟩ : ∃ p, p = V16.heap.size + 1 := ⟨_, rfl⟩
  rw [← hp1] at hl2 ⊢
  rw [← hp0] at hl1 ⊢
  have A4 := Lib.hid (show Fls V17 (some ⟨pA4, 0, none⟩) [4607182418800017408, 4607182418800017408] from hl1)
  have B4 := Lib.hid (show Fls V17 (some ⟨pB4, 0, none⟩) [0] from hl2)
  clear hl1 hlb hV hp0 hp1 hl2
  refine (tri14 _ _ _ _ _ _ _).mono ?_
  rintro e V18 ⟨rfl, hb⟩
  replace BW := Lib.hid (below_step BW.out BW.out.size hb)
  replace DF := Lib.hid (DF.out.below hb)
  replace M1 := Lib.hid (M1.out.below hb)
  replace M2 := Lib.hid (M2.out.below hb)
  replace M3 := Lib.hid (M3.out.below hb)
  replace L1 := Lib.hid (L1.out.below hb)
  replace A4 := Lib.hid (A4.out.below hb)
  replace B4 := Lib.hid (B4.out.below hb)
  dsimp only
  clear hb
  go_wp2_with fail
  have hl := litI1 V18 [4607182418800017408, 4607182418800017408] (by kernel_rfl)
  simp only [List.map_cons, List.map_nil] at hl
  obtain ⟨V19, hV⟩ : ∃ V, V = (V18.alloc (.cells #[.float .f64 4607182418800017408, .float .f64 4607182418800017408] 40)) := ⟨_, rfl⟩
  rw [← hV] at hl ⊢
  obtain ⟨hl1, hlb⟩ := hl
  replace BW := Lib.hid (below_step BW.out BW.out.size hlb)
  replace DF := Lib.hid (DF.out.below hlb)
  replace M1 := Lib.hid (M1.out.below hlb)
  replace M2 := Lib.hid (M2.out.below hlb)
  replace M3 := Lib.hid (M3.out.below hlb)
  replace L1 := Lib.hid (L1.out.below hlb)
  replace A4 := Lib.hid (A4.out.below hlb)
  replace B4 := Lib.hid (B4.out.below hlb)
  obtain ⟨pC4, hp0⟩ : ∃ p, p = V18.heap.size := ⟨_, rfl⟩
  rw [← hp0] at hl1 ⊢
  have C4 := Lib.hid (show Fls V19 (some ⟨pC4, 0, none⟩) [4607182418800017408, 4607182418800017408] from hl1)
  clear hl1 hlb hV hp0
  refine (ck _ _ _ _ _ _ _ [0, 0] rfl rfl rfl A4.out B4.out C4.out (wordsI_of (by kernel_rfl)) (by kernel_rfl) kni2).mono ?_
  rintro e V20 ⟨⟨xL2, cL2, rfl, hI⟩, hb⟩
  replace BW := Lib.hid (below_step BW.out BW.out.size hb)
  replace DF := Lib.hid (DF.out.below hb)
  replace M1 := Lib.hid (M1.out.below hb)
  replace M2 := Lib.hid (M2.out.below hb)
  replace M3 := Lib.hid (M3.out.below hb)
  replace L1 := Lib.hid (L1.out.below hb)
  dsimp only
  clear A4 B4 C4 hb
  have L2 := Lib.hid (show IcI V20 xL2 [0, 0] from hI)
  clear hI
  go_upto_region 8 with (fail)
  obtain ⟨f1, f2, f3⟩ := M1.out.facts
  obtain ⟨s0, c0⟩ := DF.out.at (i := 0) (by simp)
  obtain ⟨s1, c1⟩ := DF.out.at (i := 1) (by simp)
  obtain ⟨s2, c2⟩ := DF.out.at (i := 2) (by simp)
  obtain ⟨s3, c3⟩ := DF.out.at (i := 3) (by simp)
  simp only [List.getD_cons_zero, List.getD_cons_succ] at c0 c1 c2 c3
  have a0 := fun s W => AbsF e0 s HQ.out.2.1 W
  have a1 := fun s W => AbsF e1 s HQ.out.2.2.1 W
  have a2 := fun s W => AbsF e2 s HQ.out.2.2.2.1 W
  have a3 := fun s W => AbsF e3 s HQ.out.2.2.2.2 W
  have b1 := fun s W => AbsF (fsub (fabs e1) 4607182418800017408) s (fsub_lt _ _) W
  have b2 := fun s W => AbsF (fsub (fabs e2) 4607182418800017408) s (fsub_lt _ _) W
  have Ha0 := Lib.hid a0
  clear a0
  have Ha1 := Lib.hid a1
  clear a1
  have Ha2 := Lib.hid a2
  clear a2
  have Ha3 := Lib.hid a3
  clear a3
  have Hb1 := Lib.hid b1
  clear b1
  have Hb2 := Lib.hid b2
  clear b2
  have t0 := HQ.out.1.1
  have t1 := HQ.out.1.2.1
  have t2 := HQ.out.1.2.2.1
  have t3 := HQ.out.1.2.2.2
  go_cut [14] from 77 to 110 (fun s14 wx => s14 = .bool true ∧ Below V20.heap.size V20 wx)
  case first =>
    go_wp2_with fail
    refine (Ha0.out _ _).mono ?_
    rintro e w' ⟨⟨r0, rfl⟩, rfl⟩
    go_wp2_with fail
    refine (Ha1.out _ _).mono ?_
    rintro e w' ⟨⟨r1, rfl⟩, rfl⟩
    go_wp2_with (first | (refine wpList_flt rfl rfl rfl rfl rfl ?_; intro K hK q1 n1; go_frame; refine hK _ _ ?_; clear hK K))
    (try simp only [fsub_rawl, fsub_rawr, flt_rawl, flt_rawr])
    refine (Hb1.out _ _).mono ?_
    rintro e w' ⟨⟨r2, rfl⟩, rfl⟩
    go_wp2_with fail
    refine (Ha2.out _ _).mono ?_
    rintro e w' ⟨⟨r3, rfl⟩, rfl⟩
    go_wp2_with (first | (refine wpList_flt rfl rfl rfl rfl rfl ?_; intro K hK q2 n2; go_frame; refine hK _ _ ?_; clear hK K))
    (try simp only [fsub_rawl, fsub_rawr, flt_rawl, flt_rawr])
    refine (Hb2.out _ _).mono ?_
    rintro e w' ⟨⟨r4, rfl⟩, rfl⟩
    go_wp2_with fail
    refine (Ha3.out _ _).mono ?_
    rintro e w' ⟨⟨r5, rfl⟩, rfl⟩
    go_wp2_with fail
    go_meet
    case rel => exact ⟨rfl, by first | exact below_drewN _ (Below.refl _ _) | exact below_drewN _ (below_drewN _ (Below.refl _ _))⟩
  case rest =>
    obtain ⟨rfl, hb⟩ := hcut
    clear f1 f2 f3 c0 c1 c2 c3 t0 t1 t2 t3 Ha0 Ha1 Ha2 Ha3 Hb1 Hb2
    replace BW := Lib.hid (below_step BW.out BW.out.size hb)
    replace DF := Lib.hid (DF.out.below hb)
    replace M1 := Lib.hid (M1.out.below hb)
    replace M2 := Lib.hid (M2.out.below hb)
    replace M3 := Lib.hid (M3.out.below hb)
    replace L1 := Lib.hid (L1.out.below hb)
    replace L2 := Lib.hid (L2.out.below hb)
    clear hb
    obtain ⟨f1, f2, f3⟩ := M2.out.facts
    go_wp2_with (go_at_call 30; refine (HN.out _ _).mono ?_; rintro e w' ⟨rfl, rfl⟩)
    have hi := IcI.lit wc 3 [0, 1]
    have hb := (Below.refl wc.heap.size wc).alloc (Nat.le_refl _) (.cells #[.int .i64 0, .int .i64 1] 3)
    refine (ints14 _ _ _ [0, 1] [0, 1] _ _ (L1.out.below hb) hi (by decide) (by decide)).mono ?_
    rintro e w8 ⟨rfl, hb8⟩
    have hbb := below_step hb hb.size hb8
    replace BW := Lib.hid (below_step BW.out BW.out.size hbb)
    replace DF := Lib.hid (DF.out.below hbb)
    replace M1 := Lib.hid (M1.out.below hbb)
    replace M2 := Lib.hid (M2.out.below hbb)
    replace M3 := Lib.hid (M3.out.below hbb)
    replace L1 := Lib.hid (L1.out.below hbb)
    replace L2 := Lib.hid (L2.out.below hbb)
    clear hi hb hb8 hbb f1 f2 f3
    dsimp only
    go_wp2_with (go_at_call 30; refine (HN.out _ _).mono ?_; rintro e w' ⟨rfl, rfl⟩)
    have hi := IcI.lit w8 3 [0, 0]
    have hb := (Below.refl w8.heap.size w8).alloc (Nat.le_refl _) (.cells #[.int .i64 0, .int .i64 0] 3)
    refine (ints14 _ _ _ [0, 0] [0, 0] _ _ (L2.out.below hb) hi (by decide) (by decide)).mono ?_
    rintro e w9 ⟨rfl, hb9⟩
    have hbb := below_step hb hb.size hb9
    have BF := Lib.hid (below_step BW.out BW.out.size hbb)
    clear hi hb hb9 hbb
    dsimp only
    go_wp2_with (go_at_call 30; refine (HN.out _ _).mono ?_; rintro e w' ⟨rfl, rfl⟩)
    go_ret
    exact ⟨rfl, BF.out⟩
end Go.Proofs.Ytdljnhdhigbefaa

/- Layer 14: 'same' on floats up to a NaN's bits. No condition but on lengths. -/
namespace Go.Proofs.Ytdljnhdhigbefaa
open Go Go.RowKit
set_option maxRecDepth 1000000
set_option linter.unusedSimpArgs false
set_option linter.unusedVariables false

theorem Fls.celI {W : World} {a : Option Addr} {l : List Nat} (h : Fls W a l) (hw : Words l) : ∃ ws : List Nat, ws.length = l.length ∧ Cel W a ws ∧ Words ws ∧ ∀ i, i < l.length → ∃ s, ws[i]? = some (raw (l.getD i 0) s) := by
  by_cases h0 : l = []
  · subst h0
    exact ⟨[], rfl, (fun h => absurd rfl h), (fun x hx => by cases hx), fun i hi => absurd hi (Nat.not_lt_zero _)⟩
  · obtain ⟨b, off, rfl, hlt, hc⟩ := h h0
    have key : ∀ i, i < l.length → ∃ s, W.cell? ⟨b, off + i, none⟩ = some (.float .f64 (raw (l.getD i 0) s)) := fun i hi => hc i _ (by rw [List.getD_eq_getElem?_getD, List.getElem?_eq_getElem hi]; rfl)
    obtain ⟨f, hf⟩ : ∃ f : Nat → Nat, ∀ i, i < l.length → (∃ s, f i = raw (l.getD i 0) s) ∧ W.cell? ⟨b, off + i, none⟩ = some (.float .f64 (f i)) := by
      refine (Classical.skolem (p := fun (i : Nat) (v : Nat) => i < l.length → (∃ s, v = raw (l.getD i 0) s) ∧ W.cell? ⟨b, off + i, none⟩ = some (.float .f64 v))).1 (fun i => ?_)
      by_cases hi : i < l.length
      · obtain ⟨s, hs⟩ := key i hi
        exact ⟨_, fun _ => ⟨⟨s, rfl⟩, hs⟩⟩
      · exact ⟨0, fun h => absurd h hi⟩
    refine ⟨(List.range l.length).map f, by simp, fun _ => ⟨b, off, rfl, hlt, fun i v hi => ?_⟩, fun x hx => ?_, fun i hi => ?_⟩
    · have hil : i < l.length := by
        have := (List.getElem?_eq_some_iff.1 hi).1
        simpa using this
      rw [List.getElem?_map, List.getElem?_range hil] at hi
      simp only [Option.map_some, Option.some.injEq] at hi
      rw [(hf i hil).2, hi]
    · obtain ⟨i, hi, rfl⟩ := List.mem_map.1 hx
      obtain ⟨s, hs⟩ := (hf i (by simpa using hi)).1
      rw [hs]
      exact raw_lt (hw.at i) s
    · obtain ⟨s, hs⟩ := (hf i hi).1
      exact ⟨s, by rw [List.getElem?_map, List.getElem?_range hi, Option.map_some, hs]⟩
theorem sameN_raw {l xs ys : List Nat} (h1 : ∀ i, i < l.length → ∃ s, xs[i]? = some (raw (l.getD i 0) s)) (h2 : ∀ i, i < l.length → ∃ s, ys[i]? = some (raw (l.getD i 0) s)) : ∀ n, n ≤ l.length → sameN xs ys n = true
  | 0, _ => rfl
  | n + 1, h => by
    obtain ⟨s, hs⟩ := h1 n (by omega)
    obtain ⟨t, ht⟩ := h2 n (by omega)
    rw [sameN, sameN_raw h1 h2 n (by omega), Bool.true_and, List.getD_eq_getElem?_getD, List.getD_eq_getElem?_getD, hs, ht, Option.getD_some, Option.getD_some]
    unfold sameF
    by_cases hn : isnan (l.getD n 0) = true
    · rw [isnan_raw, isnan_raw, hn]
      simp
    · rw [raw_of_not (by simpa using hn), raw_of_not (by simpa using hn)]
      simp
set_option maxHeartbeats 1000000 in
theorem same14 (w : World) (a b : Option Addr) (l : List Nat) (n ca cb : Nat) (hn : l.length = n) (ha : Fls w a l) (hb : Fls w b l) (hW : Words l) (hl : n ≤ 262144) :
    Calls Try.prog 28 #[.slice a n ca, .slice b n cb] w fun e w' => e = .returned (.bool true) ∧ Below w.heap.size w w' := by
  subst hn
  obtain ⟨xs, x1, x2, x3, x4⟩ := ha.celI hW
  obtain ⟨ys, y1, y2, y3, y4⟩ := hb.celI hW
  have h := SameFloats_any w a b xs ys ca cb x2 y2 x3 y3 (by unfold maxLen; omega) (by unfold maxLen; omega)
  have hs : sameFs xs ys = true := by
    unfold sameFs
    rw [x1, y1, sameN_raw x4 y4 l.length (Nat.le_refl _)]
    simp
  rw [hs, x1, y1] at h
  have H := Lib.hid h
  clear h x1 x2 x3 x4 y1 y2 y3 y4 hs ha hb hW hl
  go_enter Try.func28, Try.ntmps28
  go_wp2_with fail
  refine H.out.mono ?_
  rintro e w' ⟨rfl, hb⟩
  go_wp2_with fail
  go_ret
  exact ⟨rfl, hb⟩
end Go.Proofs.Ytdljnhdhigbefaa
