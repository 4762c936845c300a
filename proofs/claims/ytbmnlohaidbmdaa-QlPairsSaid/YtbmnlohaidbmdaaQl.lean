/- Layer 12: what may be solved is solved, or takes too many sweeps. No condition but on lengths. -/
import Derived.Test.YtbmnlohaidbmdaaQk
namespace Go.Proofs.Ytbmnlohaidbmdaa
open Go Go.RowKit
set_option maxRecDepth 1000000

theorem FS.belowB {W W' : World} {B b : Nat} {a : Option Addr} {l : List Nat} (h : FS W a b l) (hb : l ≠ [] → b < B) (hk : Below B W W') : FS W' a b l := by
  by_cases h0 : l = []
  · exact .inl h0
  · rcases h with h1 | ⟨h1, cs, ⟨T, h2⟩, h3⟩
    · exact absurd h1 h0
    · exact .inr ⟨h1, cs, ⟨T, by rw [hk.block b (hb h0)]; exact h2⟩, h3⟩
theorem Box.belowB {W W' : World} {B n : Nat} {cs : List Value} (h : Box W n cs) (hn : n < B) (hk : Below B W W') : Box W' n cs := by
  obtain ⟨T, h⟩ := h
  exact ⟨T, by rw [hk.block n hn]; exact h⟩
theorem Fls.one (w : World) (T : TypeId) (v : Nat) (hv : isnan v = false) : Fls (w.alloc (.cells #[.float .f64 v] T)) (some ⟨w.heap.size, 0, none⟩) [v] :=
  (Flb.ofBox (zs := [v]) (Box.newA w [_] T rfl) (fun x hx => by rw [List.mem_singleton] at hx; rw [hx]; exact hv)).fls
/-- What the solving comes to. -/
def SolveQ (w : World) (n M rows : Nat) (y : QlS × Nat × Bool) (r : Ending) (w' : World) : Prop :=
  if y.2.2 = true ∧ y.1.d.all ffin = true then
    ∃ a cap za zc, r = .returned (.tuple #[.slice a n cap, .agg #[.int .i64 rows, .int .i64 n, .slice za M zc], .int .i64 (y.2.1 : Nat), .int .i64 0]) ∧ Fls w' a (sortQ n rows y.1.d y.1.z n).1 ∧ Fls w' za (sortQ n rows y.1.d y.1.z n).2 ∧ Below w.heap.size w w'
  else r = .returned (.tuple #[.slice none 0 0, .agg #[.int .i64 0, .int .i64 0, .slice none 0 0], .int .i64 (y.2.1 : Nat), .int .i64 7]) ∧ Below w.heap.size w w'
def SolveP (w : World) (d e z : List Nat) (rows : Nat) (r : Ending) (w' : World) : Prop := SolveQ w d.length z.length rows (solQ d.length rows d.length ⟨d, e ++ [0], z⟩ 0) r w'
theorem Box.put3o {w : World} {n m : Nat} {cs : List Value} (h : Box w n cs) (hne : n ≠ m) (v0 v1 v2 : Value) : Box (((w.setCell ⟨m, 0, none⟩ v0).setCell ⟨m, 1, none⟩ v1).setCell ⟨m, 2, none⟩ v2) n cs := ((h.set_other hne 0 v0).set_other hne 1 v1).set_other hne 2 v2
theorem valQ_done {n rows l f : Nat} {T : QlS} (h : endL T.d T.e T.d.length l = l) : valQ n rows l f T = (T, 0, true) := by cases f <;> rw [valQ, if_pos h]
theorem valQ_zero {n rows l : Nat} {T : QlS} (h : ¬ endL T.d T.e T.d.length l = l) : valQ n rows l 0 T = (T, 0, false) := by rw [valQ, if_neg h]
theorem valQ_succ {n rows l f : Nat} {T : QlS} (h : ¬ endL T.d T.e T.d.length l = l) : valQ n rows l (f + 1) T = ((valQ n rows l f (sweepL n rows T l (endL T.d T.e T.d.length l))).1, (valQ n rows l f (sweepL n rows T l (endL T.d T.e T.d.length l))).2.1 + 1, (valQ n rows l f (sweepL n rows T l (endL T.d T.e T.d.length l))).2.2) := by rw [valQ, if_neg h]
theorem solQ_step {n rows l s : Nat} {S : QlS} (hl : l < n) : solQ n rows (n - l) S s = if (valQ n rows l 30 S).2.2 then solQ n rows (n - (l + 1)) (valQ n rows l 30 S).1 (s + (valQ n rows l 30 S).2.1) else ((valQ n rows l 30 S).1, s + (valQ n rows l 30 S).2.1, false) := by
  rw [show n - l = (n - (l + 1)) + 1 by omega, solQ, show n - ((n - (l + 1)) + 1) = l by omega]
set_option maxHeartbeats 32000000 in
theorem Solve_ok (w : World) (da ea za : Option Addr) (d e z : List Nat) (dc ec zc rows : Nat) (hd : Fls w da d) (he : Fls w ea e) (hz : Fls w za z) (hda : da = none → d = []) (hea : ea = none → e = []) (hza : za = none → z = []) (hWd : Words d) (hWe : Words e) (hWz : Words z) (hn : d.length ≤ 512) (hr : rows ≤ 512) (hel : e.length = d.length - 1) (hzl : z.length = rows * d.length) (fd : d.all ffin = true) (fe : e.all ffin = true) (fz : z.all ffin = true) :
    Calls Try.prog 10 #[.agg #[.slice da d.length dc, .slice ea e.length ec], .agg #[.int .i64 rows, .int .i64 d.length, .slice za z.length zc]] w (SolveP w d e z rows) := by
  have hrc : rows * d.length ≤ 262144 := Nat.le_trans (Nat.mul_le_mul hr hn) (by decide)
  have hml : d.length ≤ maxLen ∧ e.length ≤ maxLen ∧ z.length ≤ maxLen := by unfold maxLen; omega
  have hmt : mayT d.length e.length = true := by unfold mayT; simp; omega
  have HM := Lib.hid (fun W => mayB_of hr hn hzl ▸ QMay_any W (rows : Int) (d.length : Int) za z.length zc hml.2.2)
  have HT := Lib.hid (fun W => hmt ▸ TMay_any W da ea d.length e.length dc ec hml.1 hml.2.1)
  have HFd := Lib.hid (fun W (h : Below w.heap.size w W) => fd ▸ QFin_any W da d dc (hd.below h) hWd hml.1)
  have HFe := Lib.hid (fun W (h : Below w.heap.size w W) => fe ▸ QFin_any W ea e ec (he.below h) hWe hml.2.1)
  have HFz := Lib.hid (fun W (h : Below w.heap.size w W) => fz ▸ QFin_any W za z zc (hz.below h) hWz hml.2.2)
  have HCd := Lib.hid (fun W (h : Below w.heap.size w W) => Clone_any W da d dc (hd.below h) (by omega) hda)
  have HCe := Lib.hid (fun W (h : Below w.heap.size w W) => Clone_any W ea e ec (he.below h) (by omega) hea)
  have HCz := Lib.hid (fun W (h : Below w.heap.size w W) => Clone_any W za z zc (hz.below h) (by omega) hza)
  have t1 : ((d.length : Int) != (d.length : Int)) = false := bne_self_eq_false _
  obtain ⟨W0, hW0⟩ : ∃ W0, W0 = (((w.alloc (.cells #[.slice da d.length dc, .slice ea e.length ec] 24)).alloc (.cells #[.int .i64 rows, .int .i64 d.length, .slice za z.length zc] 26)).alloc (.cells #[.int .i64 0, .int .i64 0, .slice none 0 0] 26)) := ⟨_, rfl⟩
  have hB0 : Below w.heap.size w W0 := hW0 ▸ (((Below.refl _ _).alloc (Nat.le_refl _) _).alloc (by simp) _).alloc (by simp; omega) _
  have x2 : Box W0 w.heap.size [.slice da d.length dc, .slice ea e.length ec] := hW0 ▸ ((Box.newA w [_, _] _ rfl).alloc _).alloc _
  have x3 : Box W0 (w.heap.size + 1) [.int .i64 rows, .int .i64 d.length, .slice za z.length zc] := hW0 ▸ (Box.newA _ [_, _, _] _ (by simp)).alloc _
  have x5 : Box W0 (w.heap.size + 1 + 1) [.int .i64 0, .int .i64 0, .slice none 0 0] := hW0 ▸ Box.newA _ [_, _, _] _ (by simp)
  have HX := Lib.hid (show _ ∧ _ ∧ _ ∧ _ from ⟨hB0, x2, x3, x5⟩)
  have HL := Lib.hid (show _ ∧ _ ∧ _ ∧ _ from ⟨hel, hzl, hWd, hWe⟩)
  have hld : d.length ≤ 9223372036854775807 := by omega
  have hle : e.length ≤ 512 := by omega
  clear hd he hz hWd hWe hWz hB0 x2 x3 x5 hda hea hza fd fe fz hmt hml hel hzl
  go_enter Try.func10, Try.ntmps10
  go_wp2_with fail
  rw [← hW0]
  clear hW0
  obtain ⟨hB0, x2, x3, x5⟩ := HX.out
  refine (HT.out _).mono ?_
  rintro e W1 ⟨rfl, hb1⟩
  have hB1 := below_step hB0 hB0.size hb1
  have y2 := x2.below hb1
  have y3 := x3.below hb1
  have y5 := x5.below hb1
  obtain ⟨q1, q2, q3⟩ := y2.facts
  obtain ⟨p1, p2, p3⟩ := y3.facts
  have HY := Lib.hid (show _ ∧ _ ∧ _ ∧ _ from ⟨hB1, y2, y3, y5⟩)
  clear HX hB0 x2 x3 x5 y2 y3 hb1 y5 hB1
  go_wp2_with fail
  refine (HM.out _).mono ?_
  rintro e W2 ⟨rfl, hb2⟩
  obtain ⟨hB1, y2, y3, y5⟩ := HY.out
  have hB2 := below_step hB1 hB1.size hb2
  replace y2 := y2.below hb2
  replace y3 := y3.below hb2
  replace y5 := y5.below hb2
  have ylt2 := y5.lt
  clear q1 q2 q3 p1 p2 p3
  obtain ⟨q1, q2, q3⟩ := y2.facts
  obtain ⟨p1, p2, p3⟩ := y3.facts
  have HY2 := Lib.hid (show _ ∧ _ ∧ _ ∧ _ from ⟨hB2, y2, y3, y5⟩)
  clear HY y2 y3 hb2 y5 hB1 hB2 HM HT
  go_wp2_with fail
  refine (HFd.out _ HY2.out.1).mono ?_
  rintro e W3 ⟨rfl, rfl⟩
  go_wp2_with fail
  refine (HFe.out _ HY2.out.1).mono ?_
  rintro e W3 ⟨rfl, rfl⟩
  go_wp2_with fail
  refine (HFz.out _ HY2.out.1).mono ?_
  rintro e W3 ⟨rfl, rfl⟩
  clear HFd HFe HFz t1
  go_upto_region 8 with (fail)
  go_cut [9] from 53 to 70 (fun s9 wx => ∃ (X : Nat) (a1 a2 a3 : Option Addr) (bd be zb cd ce zc' : Nat), s9 = .pointer (some ⟨X, 0, none⟩) ∧ QlD w X bd be zb zc' rows d.length (e.length + 1) z.length ∧ QlW w wx X a1 a2 a3 bd be zb cd ce zc' rows d.length (e.length + 1) z.length ⟨d, e ++ [0], z⟩ ∧ Box wx (w.heap.size + 1) [.int .i64 rows, .int .i64 d.length, .slice za z.length zc] ∧ Box wx (w.heap.size + 1 + 1) [.int .i64 0, .int .i64 0, .slice none 0 0])
  case first =>
    obtain ⟨hw2, y2, y3, y5⟩ := HY2.out
    have hw2s := hw2.size
    have hbV : Below W2.heap.size W2 W2.drew := below_drewN 1 (Below.refl _ W2)
    have HS := Lib.hid (show ∀ W', Below W2.heap.size W2 W' → (fun W => (∀ i, W.cell? ⟨w.heap.size, i, none⟩ = ([.slice da d.length dc, .slice ea e.length ec] : List Value)[i]?) ∧ (∀ i, W.cell? ⟨w.heap.size + 1, i, none⟩ = ([.int .i64 rows, .int .i64 d.length, .slice za z.length zc] : List Value)[i]?)) W' from fun W' h => ⟨(y2.below h).cell, (y3.below h).cell⟩)
    have hs0 : W2.heap.size ≤ W2.drew.heap.size := hbV.size
    refine wp_region_float 18 6 [(0, 0), (0, 1), (0, 3), (0, 4), (0, 8), (0, 9), (0, 10), (0, 11), (0, 12), (0, 13), (2, 2), (2, 5), (3, 6), (1, 7), (1, 14), (1, 15), (1, 16), (1, 17)] (fun W => (∀ i, W.cell? ⟨w.heap.size, i, none⟩ = ([.slice da d.length dc, .slice ea e.length ec] : List Value)[i]?) ∧ (∀ i, W.cell? ⟨w.heap.size + 1, i, none⟩ = ([.int .i64 rows, .int .i64 d.length, .slice za z.length zc] : List Value)[i]?)) (by kernel_rfl) (by kernel_rfl) (HS.out _ hbV) ?_
    clear q1 q2 q3 p1 p2 p3
    generalize W2.drew = V0 at *
    iterate 10 (refine fl_take (v := ?_) rfl rfl ?_ ?_; rotate_left; (next => (intro w' hSw; (try dsimp only at hSw); go_simp; (try with_reducible rfl))); (simp only [Act.put, List.setIfInBounds_toArray, List.set_cons_zero, List.set_cons_succ]))
    refine fl_two ?_ ?_
    · refine opW_take rfl rfl ?_
      go_simp
      go_at_call 26
      refine (HCd.out V0 (hw2.trans (hbV.mono hw2s))).mono ?_
      rintro r V1 ⟨⟨vd, rfl, hOd⟩, hb⟩
      replace hbV : Below W2.heap.size W2 V1 := below_step hbV hbV.size hb
      have hs1 := hb.size
      refine ⟨HS.out _ hbV, ?_⟩
      obtain ⟨a1, bd, cd, rfl, kd1, kd2, kd3, hFd, kd4⟩ := hOd.fs
      clear hb hOd
      refine fl_two ?_ ?_
      · refine opW_take rfl rfl ?_
        go_simp
        go_at_call 26
        refine (HCe.out V1 (hw2.trans (hbV.mono hw2s))).mono ?_
        rintro r V2 ⟨⟨ve, rfl, hOe⟩, hb⟩
        replace hbV : Below W2.heap.size W2 V2 := below_step hbV hbV.size hb
        have hs2 := hb.size
        refine ⟨HS.out _ hbV, ?_⟩
        replace hFd := hFd.below hb
        have kB : (d ≠ [] → bd < V1.heap.size) := fun h => Nat.lt_of_lt_of_le (kd4 h) (by omega)
        clear hb
        refine fl_three ?_
        refine opW_take rfl rfl ?_
        go_simp
        have hb : Below V2.heap.size V2 (V2.alloc (.cells #[.float .f64 0] 42)) := (Below.refl _ _).alloc (Nat.le_refl _) _
        have hG0 := Fls.one V2 42 0 (by kernel_rfl)
        generalize V2.alloc (.cells #[.float .f64 0] 42) = V3 at *
        replace hbV : Below W2.heap.size W2 V3 := below_step hbV hbV.size hb
        have hs3 := hb.size
        refine ⟨HS.out _ hbV, ?_⟩
        replace hFd := hFd.below hb
        replace hOe := hOe.below hb
        have hG := hG0
        clear hb hG0
        refine fl_one ?_
        refine opW_take rfl rfl ?_
        refine wp_append_ownF (.tmp 58) (.tmp 59) rfl V1.heap.size ve e rfl hOe _ [0] 1 rfl hG (by simp only [List.length_singleton]; omega) (by omega) ?_
        intro v3 V4 hO3 hb
        have hs4 := hb.size
        replace hbV : Below W2.heap.size W2 V4 := hbV.trans (hb.mono (by omega))
        refine ⟨HS.out _ hbV, ?_⟩
        replace hFd := hFd.belowB kB hb
        clear hb hG hOe
        obtain ⟨a2, be, ce, rfl, ke1, ke2, ke3, hFe, ke4⟩ := hO3.fs
        clear hO3
        rw [List.length_append, List.length_singleton]
        refine fl_one ?_
        refine opW_take rfl rfl ?_
        go_simp
        go_at_call 26
        refine (HCz.out V4 (hw2.trans (hbV.mono hw2s))).mono ?_
        rintro r V5 ⟨⟨vz, rfl, hOz⟩, hb⟩
        replace hbV : Below W2.heap.size W2 V5 := below_step hbV hbV.size hb
        have hs5 := hb.size
        refine ⟨HS.out _ hbV, ?_⟩
        replace hFd := hFd.below hb
        replace hFe := hFe.below hb
        obtain ⟨a3, zb, zc', rfl, kz1, kz2, kz3, hFz, kz4⟩ := hOz.fs
        clear hb hOz
        refine fl_one (opW_take rfl rfl ?_)
        go_simp
        refine ⟨HS.out _ hbV, ?_⟩
        refine fl_one (opW_take rfl rfl ?_)
        go_simp
        refine ⟨HS.out _ hbV, ?_⟩
        refine fl_one (opW_take rfl rfl ?_)
        go_simp
        have hb : Below V5.heap.size V5 (V5.alloc (.cells #[.slice a1 d.length cd, .slice a2 (e.length + 1) ce, .int .i64 rows, .int .i64 d.length, .slice a3 z.length zc'] 53)) := (Below.refl _ _).alloc (Nat.le_refl _) _
        have hx := Box.newA V5 [.slice a1 d.length cd, .slice a2 (e.length + 1) ce, .int .i64 rows, .int .i64 d.length, .slice a3 z.length zc'] 53 rfl
        obtain ⟨zb', hFz', hz1, hz2⟩ : ∃ zb', FS V5 a3 zb' z ∧ V4.heap.size ≤ zb' ∧ zb' ≠ V5.heap.size := by
          by_cases hz0 : z = []
          · exact ⟨V5.heap.size + 1, .inl hz0, by omega, by omega⟩
          · exact ⟨zb, hFz, by omega, by have := kz4 hz0; omega⟩
        replace hFd := hFd.below hb
        replace hFe := hFe.below hb
        replace hFz' := hFz'.below hb
        have hbW := below_step hbV hbV.size hb
        have y3' := y3.below hbW
        have y5' := y5.below hbW
        have hbw := hw2.trans (hbW.mono hw2s)
        have he4 := ke4 (by simp)
        have HQ := Lib.hid (show _ ∧ _ ∧ _ ∧ _ from (⟨⟨fun h => by have := HL.out.1; omega, HL.out.2.1, ⟨kz1, kz2⟩, hn, hr, fun h e => by have := kB (by intro h0; rw [h0] at h; simp at h); omega, by omega, fun e => hz2 e.symm, fun h e => by have := kB (by intro h0; rw [h0] at h; simp at h); omega, fun h e => by have := kB (by intro h0; rw [h0] at h; simp at h); omega, by omega, by omega, fun _ => by omega, by omega, by omega⟩, ⟨hx, hFd, hFe, hFz', rfl, by simp, rfl, HL.out.2.2.1, (fun x hx => by rw [List.mem_append, List.mem_singleton] at hx; rcases hx with h | h; exact HL.out.2.2.2 x h; rw [h]; decide), hbw⟩, y3', y5'⟩ : QlD w V5.heap.size bd be zb' zc' rows d.length (e.length + 1) z.length ∧ QlW w (V5.alloc (.cells #[.slice a1 d.length cd, .slice a2 (e.length + 1) ce, .int .i64 rows, .int .i64 d.length, .slice a3 z.length zc'] 53)) V5.heap.size a1 a2 a3 bd be zb' cd ce zc' rows d.length (e.length + 1) z.length ⟨d, e ++ [0], z⟩ ∧ _ ∧ _))
        refine ⟨HS.out _ hbW, ?_⟩
        generalize (V5.alloc (.cells #[.slice a1 d.length cd, .slice a2 (e.length + 1) ce, .int .i64 rows, .int .i64 d.length, .slice a3 z.length zc'] 53)) = Wf at *
        clear hb hx hFd hFe hFz' hbW y3' y5' hbw hFz
        refine fl_nil ?_
        go_simp
        go_wp2
        refine NoPanic.normal ?_
        go_wp2_with fail
        go_meet
        case rel => exact ⟨_, a1, a2, a3, bd, be, zb', cd, ce, zc', rfl, HQ.out⟩
      · refine opW_take rfl rfl ?_
        go_simp
        have hb : Below V1.heap.size V1 (V1.alloc (.cells #[.float .f64 0] 42)) := (Below.refl _ _).alloc (Nat.le_refl _) _
        have hG0 := Fls.one V1 42 0 (by kernel_rfl)
        generalize V1.alloc (.cells #[.float .f64 0] 42) = V2 at *
        replace hbV : Below W2.heap.size W2 V2 := below_step hbV hbV.size hb
        have hs2 := hb.size
        refine ⟨HS.out _ hbV, ?_⟩
        replace hFd := hFd.below hb
        have hG := hG0
        clear hb hG0
        refine opW_take rfl rfl ?_
        go_simp
        go_at_call 26
        refine (HCe.out V2 (hw2.trans (hbV.mono hw2s))).mono ?_
        rintro r V3 ⟨⟨ve, rfl, hOe⟩, hb⟩
        replace hbV : Below W2.heap.size W2 V3 := below_step hbV hbV.size hb
        have hs3 := hb.size
        refine ⟨HS.out _ hbV, ?_⟩
        replace hFd := hFd.below hb
        replace hG := hG.below hb
        have kB : (d ≠ [] → bd < V2.heap.size) := fun h => Nat.lt_of_lt_of_le (kd4 h) (by omega)
        clear hb
        refine fl_threeN ?_
        refine fl_one ?_
        refine opW_take rfl rfl ?_
        refine wp_append_ownF (.tmp 58) (.tmp 59) rfl V2.heap.size ve e rfl hOe _ [0] 1 rfl hG (by simp only [List.length_singleton]; omega) (by omega) ?_
        intro v3 V4 hO3 hb
        have hs4 := hb.size
        replace hbV : Below W2.heap.size W2 V4 := hbV.trans (hb.mono (by omega))
        refine ⟨HS.out _ hbV, ?_⟩
        replace hFd := hFd.belowB kB hb
        clear hb hG hOe
        obtain ⟨a2, be, ce, rfl, ke1, ke2, ke3, hFe, ke4⟩ := hO3.fs
        clear hO3
        rw [List.length_append, List.length_singleton]
        refine fl_one ?_
        refine opW_take rfl rfl ?_
        go_simp
        go_at_call 26
        refine (HCz.out V4 (hw2.trans (hbV.mono hw2s))).mono ?_
        rintro r V5 ⟨⟨vz, rfl, hOz⟩, hb⟩
        replace hbV : Below W2.heap.size W2 V5 := below_step hbV hbV.size hb
        have hs5 := hb.size
        refine ⟨HS.out _ hbV, ?_⟩
        replace hFd := hFd.below hb
        replace hFe := hFe.below hb
        obtain ⟨a3, zb, zc', rfl, kz1, kz2, kz3, hFz, kz4⟩ := hOz.fs
        clear hb hOz
        refine fl_one (opW_take rfl rfl ?_)
        go_simp
        refine ⟨HS.out _ hbV, ?_⟩
        refine fl_one (opW_take rfl rfl ?_)
        go_simp
        refine ⟨HS.out _ hbV, ?_⟩
        refine fl_one (opW_take rfl rfl ?_)
        go_simp
        have hb : Below V5.heap.size V5 (V5.alloc (.cells #[.slice a1 d.length cd, .slice a2 (e.length + 1) ce, .int .i64 rows, .int .i64 d.length, .slice a3 z.length zc'] 53)) := (Below.refl _ _).alloc (Nat.le_refl _) _
        have hx := Box.newA V5 [.slice a1 d.length cd, .slice a2 (e.length + 1) ce, .int .i64 rows, .int .i64 d.length, .slice a3 z.length zc'] 53 rfl
        obtain ⟨zb', hFz', hz1, hz2⟩ : ∃ zb', FS V5 a3 zb' z ∧ V4.heap.size ≤ zb' ∧ zb' ≠ V5.heap.size := by
          by_cases hz0 : z = []
          · exact ⟨V5.heap.size + 1, .inl hz0, by omega, by omega⟩
          · exact ⟨zb, hFz, by omega, by have := kz4 hz0; omega⟩
        replace hFd := hFd.below hb
        replace hFe := hFe.below hb
        replace hFz' := hFz'.below hb
        have hbW := below_step hbV hbV.size hb
        have y3' := y3.below hbW
        have y5' := y5.below hbW
        have hbw := hw2.trans (hbW.mono hw2s)
        have he4 := ke4 (by simp)
        have HQ := Lib.hid (show _ ∧ _ ∧ _ ∧ _ from (⟨⟨fun h => by have := HL.out.1; omega, HL.out.2.1, ⟨kz1, kz2⟩, hn, hr, fun h e => by have := kB (by intro h0; rw [h0] at h; simp at h); omega, by omega, fun e => hz2 e.symm, fun h e => by have := kB (by intro h0; rw [h0] at h; simp at h); omega, fun h e => by have := kB (by intro h0; rw [h0] at h; simp at h); omega, by omega, by omega, fun _ => by omega, by omega, by omega⟩, ⟨hx, hFd, hFe, hFz', rfl, by simp, rfl, HL.out.2.2.1, (fun x hx => by rw [List.mem_append, List.mem_singleton] at hx; rcases hx with h | h; exact HL.out.2.2.2 x h; rw [h]; decide), hbw⟩, y3', y5'⟩ : QlD w V5.heap.size bd be zb' zc' rows d.length (e.length + 1) z.length ∧ QlW w (V5.alloc (.cells #[.slice a1 d.length cd, .slice a2 (e.length + 1) ce, .int .i64 rows, .int .i64 d.length, .slice a3 z.length zc'] 53)) V5.heap.size a1 a2 a3 bd be zb' cd ce zc' rows d.length (e.length + 1) z.length ⟨d, e ++ [0], z⟩ ∧ _ ∧ _))
        refine ⟨HS.out _ hbW, ?_⟩
        generalize (V5.alloc (.cells #[.slice a1 d.length cd, .slice a2 (e.length + 1) ce, .int .i64 rows, .int .i64 d.length, .slice a3 z.length zc'] 53)) = Wf at *
        clear hb hx hFd hFe hFz' hbW y3' y5' hbw hFz
        refine fl_nil ?_
        go_simp
        go_wp2
        refine NoPanic.normal ?_
        go_wp2_with fail
        go_meet
        case rel => exact ⟨_, a1, a2, a3, bd, be, zb', cd, ce, zc', rfl, HQ.out⟩
    · refine opW_take rfl rfl ?_
      go_simp
      have hb : Below V0.heap.size V0 (V0.alloc (.cells #[.float .f64 0] 42)) := (Below.refl _ _).alloc (Nat.le_refl _) _
      have hG0 := Fls.one V0 42 0 (by kernel_rfl)
      generalize V0.alloc (.cells #[.float .f64 0] 42) = V1 at *
      replace hbV : Below W2.heap.size W2 V1 := below_step hbV hbV.size hb
      have hs1 := hb.size
      refine ⟨HS.out _ hbV, ?_⟩
      have hG := hG0
      clear hb hG0
      refine opW_take rfl rfl ?_
      go_simp
      go_at_call 26
      refine (HCd.out V1 (hw2.trans (hbV.mono hw2s))).mono ?_
      rintro r V2 ⟨⟨vd, rfl, hOd⟩, hb⟩
      replace hbV : Below W2.heap.size W2 V2 := below_step hbV hbV.size hb
      have hs2 := hb.size
      refine ⟨HS.out _ hbV, ?_⟩
      replace hG := hG.below hb
      obtain ⟨a1, bd, cd, rfl, kd1, kd2, kd3, hFd, kd4⟩ := hOd.fs
      clear hb hOd
      refine fl_twoN ?_
      refine opW_take rfl rfl ?_
      go_simp
      go_at_call 26
      refine (HCe.out V2 (hw2.trans (hbV.mono hw2s))).mono ?_
      rintro r V3 ⟨⟨ve, rfl, hOe⟩, hb⟩
      replace hbV : Below W2.heap.size W2 V3 := below_step hbV hbV.size hb
      have hs3 := hb.size
      refine ⟨HS.out _ hbV, ?_⟩
      replace hFd := hFd.below hb
      replace hG := hG.below hb
      have kB : (d ≠ [] → bd < V2.heap.size) := fun h => Nat.lt_of_lt_of_le (kd4 h) (by omega)
      clear hb
      refine fl_threeN ?_
      refine fl_one ?_
      refine opW_take rfl rfl ?_
      refine wp_append_ownF (.tmp 58) (.tmp 59) rfl V2.heap.size ve e rfl hOe _ [0] 1 rfl hG (by simp only [List.length_singleton]; omega) (by omega) ?_
      intro v3 V4 hO3 hb
      have hs4 := hb.size
      replace hbV : Below W2.heap.size W2 V4 := hbV.trans (hb.mono (by omega))
      refine ⟨HS.out _ hbV, ?_⟩
      replace hFd := hFd.belowB kB hb
      clear hb hG hOe
      obtain ⟨a2, be, ce, rfl, ke1, ke2, ke3, hFe, ke4⟩ := hO3.fs
      clear hO3
      rw [List.length_append, List.length_singleton]
      refine fl_one ?_
      refine opW_take rfl rfl ?_
      go_simp
      go_at_call 26
      refine (HCz.out V4 (hw2.trans (hbV.mono hw2s))).mono ?_
      rintro r V5 ⟨⟨vz, rfl, hOz⟩, hb⟩
      replace hbV : Below W2.heap.size W2 V5 := below_step hbV hbV.size hb
      have hs5 := hb.size
      refine ⟨HS.out _ hbV, ?_⟩
      replace hFd := hFd.below hb
      replace hFe := hFe.below hb
      obtain ⟨a3, zb, zc', rfl, kz1, kz2, kz3, hFz, kz4⟩ := hOz.fs
      clear hb hOz
      refine fl_one (opW_take rfl rfl ?_)
      go_simp
      refine ⟨HS.out _ hbV, ?_⟩
      refine fl_one (opW_take rfl rfl ?_)
      go_simp
      refine ⟨HS.out _ hbV, ?_⟩
      refine fl_one (opW_take rfl rfl ?_)
      go_simp
      have hb : Below V5.heap.size V5 (V5.alloc (.cells #[.slice a1 d.length cd, .slice a2 (e.length + 1) ce, .int .i64 rows, .int .i64 d.length, .slice a3 z.length zc'] 53)) := (Below.refl _ _).alloc (Nat.le_refl _) _
      have hx := Box.newA V5 [.slice a1 d.length cd, .slice a2 (e.length + 1) ce, .int .i64 rows, .int .i64 d.length, .slice a3 z.length zc'] 53 rfl
      obtain ⟨zb', hFz', hz1, hz2⟩ : ∃ zb', FS V5 a3 zb' z ∧ V4.heap.size ≤ zb' ∧ zb' ≠ V5.heap.size := by
        by_cases hz0 : z = []
        · exact ⟨V5.heap.size + 1, .inl hz0, by omega, by omega⟩
        · exact ⟨zb, hFz, by omega, by have := kz4 hz0; omega⟩
      replace hFd := hFd.below hb
      replace hFe := hFe.below hb
      replace hFz' := hFz'.below hb
      have hbW := below_step hbV hbV.size hb
      have y3' := y3.below hbW
      have y5' := y5.below hbW
      have hbw := hw2.trans (hbW.mono hw2s)
      have he4 := ke4 (by simp)
      have HQ := Lib.hid (show _ ∧ _ ∧ _ ∧ _ from (⟨⟨fun h => by have := HL.out.1; omega, HL.out.2.1, ⟨kz1, kz2⟩, hn, hr, fun h e => by have := kB (by intro h0; rw [h0] at h; simp at h); omega, by omega, fun e => hz2 e.symm, fun h e => by have := kB (by intro h0; rw [h0] at h; simp at h); omega, fun h e => by have := kB (by intro h0; rw [h0] at h; simp at h); omega, by omega, by omega, fun _ => by omega, by omega, by omega⟩, ⟨hx, hFd, hFe, hFz', rfl, by simp, rfl, HL.out.2.2.1, (fun x hx => by rw [List.mem_append, List.mem_singleton] at hx; rcases hx with h | h; exact HL.out.2.2.2 x h; rw [h]; decide), hbw⟩, y3', y5'⟩ : QlD w V5.heap.size bd be zb' zc' rows d.length (e.length + 1) z.length ∧ QlW w (V5.alloc (.cells #[.slice a1 d.length cd, .slice a2 (e.length + 1) ce, .int .i64 rows, .int .i64 d.length, .slice a3 z.length zc'] 53)) V5.heap.size a1 a2 a3 bd be zb' cd ce zc' rows d.length (e.length + 1) z.length ⟨d, e ++ [0], z⟩ ∧ _ ∧ _))
      refine ⟨HS.out _ hbW, ?_⟩
      generalize (V5.alloc (.cells #[.slice a1 d.length cd, .slice a2 (e.length + 1) ce, .int .i64 rows, .int .i64 d.length, .slice a3 z.length zc'] 53)) = Wf at *
      clear hb hx hFd hFe hFz' hbW y3' y5' hbw hFz
      refine fl_nil ?_
      go_simp
      go_wp2
      refine NoPanic.normal ?_
      go_wp2_with fail
      go_meet
      case rel => exact ⟨_, a1, a2, a3, bd, be, zb', cd, ce, zc', rfl, HQ.out⟩
  case rest =>
    obtain ⟨X, a1, a2, a3, bd, be, zb, cd, ce, zc', rfl, hD, hQ, hb3, hb5⟩ := hcut
    obtain ⟨y, hy⟩ : ∃ y, y = solQ d.length rows d.length ⟨d, e ++ [0], z⟩ 0 := ⟨_, rfl⟩
    have HY := Lib.hid hy
    have HD := Lib.hid hD
    have HP := Lib.hid (show SolveP w d e z rows = SolveQ w d.length z.length rows y by rw [hy]; rfl)
    have HQ0 := Lib.hid (show _ ∧ _ ∧ _ from ⟨hQ, hb3, hb5⟩)
    clear hy hD hQ hb3 hb5 HCd HCe HCz HY2 q1 q2 q3 p1 p2 p3
    go_wp2_with fail
    go_loopw [10, 72] (fun s10 s72 wr => ∃ (l s : Nat) (S : QlS), s10 = .int .i64 s ∧ s72 = .int .i64 l ∧ l ≤ d.length ∧ s ≤ 30 * l ∧ solQ d.length rows (d.length - l) S s = y ∧ QlW w wr X a1 a2 a3 bd be zb cd ce zc' rows d.length (e.length + 1) z.length S ∧ Box wr (w.heap.size + 1) [.int .i64 rows, .int .i64 d.length, .slice za z.length zc] ∧ Box wr (w.heap.size + 1 + 1) [.int .i64 0, .int .i64 0, .slice none 0 0]) (fun _ s72 _ => d.length - (intOf s72).toNat)
    case atStart => exact ⟨0, 0, _, rfl, rfl, Nat.zero_le _, Nat.zero_le _, HY.out.symm, HQ0.out.1, HQ0.out.2.1, HQ0.out.2.2⟩
    case round =>
      obtain ⟨l, s, S, rfl, rfl, hl, hs, hy, hQ, hb3, hb5⟩ := hrel
      have HQr := Lib.hid (show _ ∧ _ ∧ _ from ⟨hQ, hb3, hb5⟩)
      have HYr := Lib.hid hy
      clear hy hQ hb3 hb5
      by_cases hlt : l < d.length
      · have HYs := Lib.hid (solQ_step (rows := rows) (s := s) (S := S) hlt ▸ HYr.out)
        go_wp2_with fail
        go_loopw [10, 12] (fun s10 s12 wr => ∃ (m : Nat) (T : QlS), s10 = .int .i64 ((s + m : Nat) : Int) ∧ s12 = .int .i64 m ∧ m ≤ 30 ∧ valQ d.length rows l 30 S = ((valQ d.length rows l (30 - m) T).1, (valQ d.length rows l (30 - m) T).2.1 + m, (valQ d.length rows l (30 - m) T).2.2) ∧ QlW w wr X a1 a2 a3 bd be zb cd ce zc' rows d.length (e.length + 1) z.length T ∧ Box wr (w.heap.size + 1) [.int .i64 rows, .int .i64 d.length, .slice za z.length zc] ∧ Box wr (w.heap.size + 1 + 1) [.int .i64 0, .int .i64 0, .slice none 0 0]) (fun _ s12 _ => 31 - (intOf s12).toNat)
        case atStart => exact ⟨0, S, rfl, rfl, by omega, rfl, HQr.out.1, HQr.out.2.1, HQr.out.2.2⟩
        case round =>
          obtain ⟨m, T, rfl, rfl, hm, hv, hT, hb3, hb5⟩ := hrel
          have HV := Lib.hid hv
          have HT := Lib.hid (show _ ∧ _ ∧ _ from ⟨hT, hb3, hb5⟩)
          have hbnd := endL_bnd T.d T.e T.d.length l
          have hTd := hT.dl
          have HE := Lib.hid (Ql_end HD.out hT hlt)
          have hq1 := hbnd.1
          have hq2 := hbnd.2 (by omega)
          obtain ⟨q, hq⟩ : ∃ q, q = endL T.d T.e T.d.length l := ⟨_, rfl⟩
          rw [← hq] at hq1 hq2 HE
          rw [hTd] at hq2
          have HQ := Lib.hid hq
          have hsm : s + m ≤ 262144 := by omega
          clear hv hT hb3 hb5 hbnd hTd hq
          go_wp2_with fail
          refine HE.out.mono ?_
          rintro r w1 ⟨rfl, hT, hb⟩
          have HT1 := Lib.hid (show _ ∧ _ ∧ _ from ⟨hT, HT.out.2.1.below hb, HT.out.2.2.below hb⟩)
          clear HE hb hT HT
          by_cases hql : q = l
          · have HV2 := Lib.hid (HV.out.trans (by rw [valQ_done (HQ.out ▸ hql)]))
            have hs2 := HYs.out
            rw [HV2.out] at hs2
            have HS2 := Lib.hid hs2
            subst hql
            clear hs2
            go_wp2
            go_roundw
            case rel => exact ⟨q + 1, s + m, T, rfl, by go_num, hlt, by omega, by have := HS2.out; simpa using this, HT1.out⟩
            case measure => simp [intOf]; omega
          · have hql' : ¬ (l : Int) = (q : Int) := by omega
            have hql'' : ¬ (q : Int) = (l : Int) := by omega
            have HNL := Lib.hid (show ¬ endL T.d T.e T.d.length l = l from fun h => hql (HQ.out.trans h))
            by_cases hm30 : m = 30
            · subst hm30
              have hs2 := HYs.out
              rw [HV.out, Nat.sub_self, valQ_zero HNL.out] at hs2
              simp only [Nat.zero_add, Bool.false_eq_true, if_false] at hs2
              have HS2 := Lib.hid hs2
              clear hs2
              obtain ⟨p1, p2, p3⟩ := HT1.out.2.2.facts
              have hbl := HT1.out.1.bel
              have hbx := HT1.out.2.2
              have HBB := Lib.hid (And.intro hbl hbx)
              clear hbl hbx
              go_wp2
              have hne : w.heap.size ≤ w.heap.size + 1 + 1 := by omega
              refine bodyPost_ret (results_four rfl (rv_tmp rfl) (rv_cell (g := w.heap.size + 1 + 1) rfl (HBB.out.2.put3 _ _ _) rfl Try.underlying26 (by kernel_rfl)) (rv_tmp rfl) (rv_tmp rfl)) rfl ?_
              rw [HP.out, ← HS2.out]
              unfold SolveQ
              rw [if_neg (by simp)]
              exact ⟨rfl, below_put3 HBB.out.1 hne _ _ _⟩
            · have hm' : ¬ (m : Int) = 30 := by omega
              have hv2 := HV.out
              rw [show 30 - m = (30 - (m + 1)) + 1 by omega, valQ_succ HNL.out, ← HQ.out] at hv2
              have HV2 := Lib.hid hv2
              have HW := Lib.hid (Ql_sweep HD.out HT1.out.1 (show l < q by omega) hq2)
              clear hv2
              go_wp2_with fail
              refine HW.out.mono ?_
              rintro r w2 ⟨rfl, hT2, hb⟩
              have hdd := HD.out
              have h3 := HT1.out.2.1.bls hb HT1.out.2.1.lt (by simp only [List.mem_cons, List.not_mem_nil, or_false, not_or]; have := hdd.d0 (by omega); have := hdd.e0; have := hdd.z0; omega)
              have h5 := HT1.out.2.2.bls hb HT1.out.2.2.lt (by simp only [List.mem_cons, List.not_mem_nil, or_false, not_or]; have := hdd.d0 (by omega); have := hdd.e0; have := hdd.z0; omega)
              have HT2 := Lib.hid (show _ ∧ _ ∧ _ from ⟨hT2, h3, h5⟩)
              clear hT2 h3 h5 hb hdd HW HT1
              go_wp2
              go_roundw
              case rel => exact ⟨m + 1, _, by go_num, by go_num, by omega, by rw [HV2.out]; simp only [Nat.add_assoc, Nat.add_comm 1 m], HT2.out⟩
              case measure => simp [intOf]; omega
      · obtain rfl : l = d.length := by omega
        have hy := HYr.out
        rw [Nat.sub_self, solQ] at hy
        have HY2 := Lib.hid hy
        clear hy
        have hQ := HQr.out.1
        have hsl : s ≤ 30 * d.length := hs
        have hdd := HD.out
        obtain ⟨p1, p2, p3⟩ := hQ.box.facts
        have hSd := hQ.dl
        have hSz := hQ.zl
        have hzr : S.z.length = rows * S.d.length := by rw [hSz, hSd, hdd.hM]
        have HB := Lib.hid (show _ ∧ _ ∧ _ from ⟨hQ.bel, HQr.out.2.1, HQr.out.2.2⟩)
        have HQB := Lib.hid hQ.box
        cases hfin : S.d.all ffin
        · have HSo := Lib.hid (fun W (h : Below wr.heap.size wr W) => Sorted_err W a1 a3 S.d cd S.z.length zc' (rows : Int) (S.d.length : Int) ((hQ.d.below h).fls) hQ.wd (by unfold maxLen; omega) (by rw [hzr, hSd]; unfold maxLen; omega) (by
            unfold sortE
            rw [mayB_of hr (by omega) hzr, decide_eq_true rfl, hfin]
            decide))
          have hE10 : sortE (rows : Int) (S.d.length : Int) S.z.length S.d = 10 := by
            unfold sortE
            rw [mayB_of hr (by omega) hzr, decide_eq_true rfl, hfin]
            rfl
          rw [hE10, hSd, hSz] at HSo
          clear hE10 hSd hSz hzr hdd hQ
          have HFi := Lib.hid hfin
          clear hfin
          go_wp2_with fail
          have hdr : Below wr.heap.size wr wr.drew := below_drewN 1 (Below.refl _ wr)
          refine wp_region_items 15 [(true, 0), (true, 1), (true, 2), (true, 3), (true, 4), (true, 5), (true, 6), (true, 7), (false, 8), (true, 9), (true, 10), (true, 11), (true, 12), (true, 13), (false, 14)] (fun W => ∀ i, W.cell? ⟨X, i, none⟩ = ([.slice a1 d.length cd, .slice a2 (e.length + 1) ce, .int .i64 rows, .int .i64 d.length, .slice a3 z.length zc'] : List Value)[i]?) (by kernel_rfl) (by kernel_rfl) ((HQB.out.below hdr).cell) ?_
          clear p1 p2 p3
          iterate 8 (refine iW_take (v := ?_) rfl rfl ?_ ?_; rotate_left; (next => (intro w' hSw; (try dsimp only at hSw); go_simp; (try with_reducible rfl))); (simp only [Act.put, List.setIfInBounds_toArray, List.set_cons_zero, List.set_cons_succ]))
          refine iW_mid rfl rfl ?_
          go_simp
          go_at_call 18
          refine (HSo.out _ hdr).mono ?_
          rintro r w2 ⟨rfl, hb⟩
          have hb2 := below_step hdr hdr.size hb
          refine ⟨(HQB.out.below hb2).cell, ?_⟩
          iterate 5 (refine iW_take (v := ?_) rfl rfl ?_ ?_; rotate_left; (next => (intro w' hSw; (try dsimp only at hSw); go_simp; (try with_reducible rfl))); (simp only [Act.put, List.setIfInBounds_toArray, List.set_cons_zero, List.set_cons_succ]))
          obtain ⟨k1, k3, k5⟩ := HB.out
          have hx3 := k3.below hb2
          have hx5 := k5.below hb2
          have hbw := below_step k1 k1.size hb2
          have hX := HQB.out.below hb2
          obtain ⟨p1, p2, p3⟩ := hx3.facts
          have hX0 := HD.out.X0
          have hX1 := Box.put3o hX (show X ≠ w.heap.size + 1 by omega) (.int .i64 0) (.int .i64 0) (.slice none 0 0)
          have hx51 := Box.put3o hx5 (show w.heap.size + 1 + 1 ≠ w.heap.size + 1 by omega) (.int .i64 0) (.int .i64 0) (.slice none 0 0)
          have HE := Lib.hid (show _ ∧ _ ∧ _ from ⟨hx51, below_put3 hbw (show w.heap.size ≤ w.heap.size + 1 by omega) (.int .i64 0) (.int .i64 0) (.slice none 0 0), hX1⟩)
          clear hb hb2 hx3 hx5 hbw k1 k3 k5 hdr hX hX0 hX1 hx51
          refine iW_mid rfl rfl ?_
          go_simp
          refine ⟨HE.out.2.2.cell, ?_⟩
          clear p1 p2 p3
          generalize ((w2.setCell ⟨w.heap.size + 1, 0, none⟩ (.int .i64 0)).setCell ⟨w.heap.size + 1, 1, none⟩ (.int .i64 0)).setCell ⟨w.heap.size + 1, 2, none⟩ (.slice none 0 0) = w3 at *
          obtain ⟨o1, o2, o3⟩ := HE.out.1.facts
          refine iW_nil ?_
          go_simp
          go_wp2
          refine NoPanic.normal ?_
          go_wp2
          have hne : w.heap.size ≤ w.heap.size + 1 + 1 := by omega
          obtain ⟨hx5, hbw, _⟩ := HE.out
          refine bodyPost_ret (results_four rfl (rv_tmp rfl) (rv_cell (g := w.heap.size + 1 + 1) rfl (hx5.put3 _ _ _) rfl Try.underlying26 (by kernel_rfl)) (rv_tmp rfl) (rv_tmp rfl)) rfl ?_
          rw [HP.out, ← HY2.out]
          unfold SolveQ
          rw [if_neg (by simp [HFi.out])]
          exact ⟨rfl, below_put3 hbw hne _ _ _⟩
        · have hn1 : a1 = none → S.d = [] := fun h => by rcases hQ.d with h0 | ⟨h0, _⟩; exact h0; rw [h] at h0; cases h0
          have hn3 : a3 = none → S.z = [] := fun h => by rcases hQ.z with h0 | ⟨h0, _⟩; exact h0; rw [h] at h0; cases h0
          have HSo := Lib.hid (fun W (h : Below wr.heap.size wr W) => Sorted_ok W a1 a3 S.d S.z cd zc' rows ((hQ.d.below h).fls) ((hQ.z.below h).fls) hn1 hn3 hQ.wd (by omega) hr hzr hfin)
          unfold SortedP at HSo
          rw [hSd, hSz] at HSo
          clear hSd hSz hzr hdd hQ hn1 hn3
          have HFi := Lib.hid hfin
          clear hfin
          go_wp2_with fail
          have hdr : Below wr.heap.size wr wr.drew := below_drewN 1 (Below.refl _ wr)
          refine wp_region_items 15 [(true, 0), (true, 1), (true, 2), (true, 3), (true, 4), (true, 5), (true, 6), (true, 7), (false, 8), (true, 9), (true, 10), (true, 11), (true, 12), (true, 13), (false, 14)] (fun W => ∀ i, W.cell? ⟨X, i, none⟩ = ([.slice a1 d.length cd, .slice a2 (e.length + 1) ce, .int .i64 rows, .int .i64 d.length, .slice a3 z.length zc'] : List Value)[i]?) (by kernel_rfl) (by kernel_rfl) ((HQB.out.below hdr).cell) ?_
          clear p1 p2 p3
          iterate 8 (refine iW_take (v := ?_) rfl rfl ?_ ?_; rotate_left; (next => (intro w' hSw; (try dsimp only at hSw); go_simp; (try with_reducible rfl))); (simp only [Act.put, List.setIfInBounds_toArray, List.set_cons_zero, List.set_cons_succ]))
          refine iW_mid rfl rfl ?_
          go_simp
          go_at_call 18
          refine (HSo.out _ hdr).mono ?_
          rintro r w2 ⟨b1, bcap, b3, bzc, gb, gz, rfl, hF1, hF2, hb, hg1, hg2⟩
          have hfs1 := hdr.size
          have hw1 := HB.out.2.2.lt
          have hF11 := FS.put3 hF1 (show gb ≠ w.heap.size + 1 by omega) (.int .i64 rows) (.int .i64 d.length) (.slice b3 z.length bzc)
          have hF22 := FS.put3 hF2 (show gz ≠ w.heap.size + 1 by omega) (.int .i64 rows) (.int .i64 d.length) (.slice b3 z.length bzc)
          have H10 := Lib.hid (show _ ∧ _ ∧ gb ≠ w.heap.size + 1 + 1 ∧ gz ≠ w.heap.size + 1 + 1 from ⟨hF11, hF22, by omega, by omega⟩)
          clear hF1 hF2 hF11 hF22 hg1 hg2 hfs1 hw1
          have hb2 := below_step hdr hdr.size hb
          refine ⟨(HQB.out.below hb2).cell, ?_⟩
          iterate 5 (refine iW_take (v := ?_) rfl rfl ?_ ?_; rotate_left; (next => (intro w' hSw; (try dsimp only at hSw); go_simp; (try with_reducible rfl))); (simp only [Act.put, List.setIfInBounds_toArray, List.set_cons_zero, List.set_cons_succ]))
          obtain ⟨k1, k3, k5⟩ := HB.out
          have hx3 := k3.below hb2
          have hx5 := k5.below hb2
          have hbw := below_step k1 k1.size hb2
          have hX := HQB.out.below hb2
          obtain ⟨p1, p2, p3⟩ := hx3.facts
          have hX0 := HD.out.X0
          have hX1 := Box.put3o hX (show X ≠ w.heap.size + 1 by omega) (.int .i64 rows) (.int .i64 d.length) (.slice b3 z.length bzc)
          have hx51 := Box.put3o hx5 (show w.heap.size + 1 + 1 ≠ w.heap.size + 1 by omega) (.int .i64 rows) (.int .i64 d.length) (.slice b3 z.length bzc)
          have hx31 : Box (((w2.setCell ⟨w.heap.size + 1, 0, none⟩ (.int .i64 rows)).setCell ⟨w.heap.size + 1, 1, none⟩ (.int .i64 d.length)).setCell ⟨w.heap.size + 1, 2, none⟩ (.slice b3 z.length bzc)) (w.heap.size + 1) [.int .i64 rows, .int .i64 d.length, .slice b3 z.length bzc] := hx3.put3 _ _ _
          have HE := Lib.hid (show _ ∧ _ ∧ _ ∧ _ from ⟨hx51, below_put3 hbw (show w.heap.size ≤ w.heap.size + 1 by omega) (.int .i64 rows) (.int .i64 d.length) (.slice b3 z.length bzc), hX1, hx31⟩)
          clear hb hb2 hx3 hx5 hbw k1 k3 k5 hdr hX hX0 hX1 hx51 hx31
          refine iW_mid rfl rfl ?_
          go_simp
          refine ⟨HE.out.2.2.1.cell, ?_⟩
          clear p1 p2 p3
          generalize ((w2.setCell ⟨w.heap.size + 1, 0, none⟩ (.int .i64 rows)).setCell ⟨w.heap.size + 1, 1, none⟩ (.int .i64 d.length)).setCell ⟨w.heap.size + 1, 2, none⟩ (.slice b3 z.length bzc) = w3 at *
          obtain ⟨o1, o2, o3⟩ := HE.out.1.facts
          refine iW_nil ?_
          go_simp
          go_wp2
          refine NoPanic.normal ?_
          go_wp2
          have hdr : Below w3.heap.size w3 w3.drew := below_drewN 1 (Below.refl _ w3)
          obtain ⟨z5, zb5, _, z3⟩ := HE.out
          have hz3 := z3.below hdr
          have hz5 := z5.below hdr
          have HZ := Lib.hid (show _ ∧ _ ∧ _ ∧ _ from ⟨hz5, below_step zb5 zb5.size hdr, H10.out.1.below hdr, H10.out.2.1.below hdr⟩)
          have hz35 := Box.put3o hz3 (show w.heap.size + 1 ≠ w.heap.size + 1 + 1 by omega) (.int .i64 rows) (.int .i64 d.length) (.slice b3 z.length bzc)
          have hz3c := hz3.cell
          have HZ3 := Lib.hid hz3c
          clear o1 o2 o3 z5 zb5 z3 hz3 hz35
          obtain ⟨o1, o2, o3⟩ := hz5.facts
          refine wp_region_items 5 [(true, 0), (true, 1), (true, 2), (true, 3), (false, 4)] (fun W => ∀ i, W.cell? ⟨w.heap.size + 1, i, none⟩ = ([.int .i64 rows, .int .i64 d.length, .slice b3 z.length bzc] : List Value)[i]?) (by kernel_rfl) (by kernel_rfl) hz3c ?_
          clear hz3c hz5
          generalize w3.drew = w4 at *
          iterate 4 (refine iW_take (v := ?_) rfl rfl ?_ ?_; rotate_left; (next => (intro w' hSw; (try dsimp only at hSw); go_simp; (try with_reducible rfl))); (simp only [Act.put, List.setIfInBounds_toArray, List.set_cons_zero, List.set_cons_succ]))
          refine iW_mid rfl rfl ?_
          go_simp
          refine ⟨HZ3.out, ?_⟩
          refine iW_nil ?_
          go_simp
          go_wp2
          refine NoPanic.normal ?_
          go_wp2
          have hne : w.heap.size ≤ w.heap.size + 1 + 1 := by omega
          obtain ⟨hx5, hbw, hG1, hG2⟩ := HZ.out
          refine bodyPost_ret (results_four rfl (rv_tmp rfl) (rv_cell (g := w.heap.size + 1 + 1) rfl (hx5.put3 _ _ _) rfl Try.underlying26 (by kernel_rfl)) (rv_tmp rfl) (rv_tmp rfl)) rfl ?_
          rw [HP.out, ← HY2.out]
          unfold SolveQ
          rw [if_pos ⟨rfl, HFi.out⟩]
          exact ⟨_, _, _, _, rfl, (FS.put3 hG1 H10.out.2.2.1 _ _ _).fls, (FS.put3 hG2 H10.out.2.2.2 _ _ _).fls, below_put3 hbw hne _ _ _⟩
end Go.Proofs.Ytbmnlohaidbmdaa
