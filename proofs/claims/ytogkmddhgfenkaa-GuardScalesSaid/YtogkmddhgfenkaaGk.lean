/- Package guard: Scale. -/
import Derived.Test.YtogkmddhgfenkaaGj
namespace Go.Proofs.Ytogkmddhgfenkaa
open Go Go.RowKit
set_option maxRecDepth 100000
def outP (p : Int) : Bool := decide (p < -2000) || decide (2000 < p)
def scaleC (r c : Int) (zs : List Nat) (p : Int) : Int := if szB r c = false ∨ outP p = true then 2 else wrongC r c zs
def scaleL (zs : List Nat) (p : Int) : List Nat := zs.map fun x => timesW x p
set_option maxHeartbeats 4000000 in
theorem scale_bad (w : World) (r c p : Int) (a : Option Addr) (zs : List Nat) (ac : Nat) (hZ : Cel w a zs) (hW : Words zs) (hn : zs.length ≤ 262144) (hb : scaleC r c zs p ≠ 0) :
    Calls Try.prog 47 #[.agg #[.int .i64 r, .int .i64 c, .slice a zs.length ac], .int .i64 p] w fun e w' => TakeR w w' r c (scaleL zs p) (scaleC r c zs p) e := by
  obtain ⟨W0, hW0⟩ : ∃ W0 : World, W0 = (w.alloc (.cells #[.int .i64 r, .int .i64 c, .slice a zs.length ac] 26)).alloc (.cells #[.int .i64 0, .int .i64 0, .slice none 0 0] 26) := ⟨_, rfl⟩
  have hB0 : Below w.heap.size w W0 := by rw [hW0]; exact ((Below.refl _ _).alloc (Nat.le_refl _) _).alloc (by simp) _
  have x0 : Box W0 w.heap.size [.int .i64 r, .int .i64 c, .slice a zs.length ac] := by rw [hW0]; exact (Box.newA w [_, _, _] _ rfl).alloc _
  have x1 : Box W0 (w.heap.size + 1) [.int .i64 0, .int .i64 0, .slice none 0 0] := by rw [hW0]; exact Box.newA _ [_, _, _] _ (by simp)
  have HS := Lib.hid (fun W => sizes_any W r c a zs.length ac)
  have HM := Lib.hid (fun W (hW' : Below w.heap.size w W) => wrong_any W r c a zs ac (hZ.below hW') hW (by unfold maxLen; omega))
  obtain ⟨C, hC⟩ : ∃ C, C = scaleC r c zs p := ⟨_, rfl⟩
  rw [← hC]
  have HCd := Lib.hid (And.intro hC (show C ≠ 0 by rw [hC]; exact hb))
  have H0 := Lib.hid hW0
  clear hZ hW hn hb hC hW0
  go_enter Try.func47, Try.ntmps47
  go_wp2_with fail
  rw [← H0.out]
  refine (HS.out _).mono ?_
  rintro e w1 ⟨rfl, hb1⟩
  have y0 := x0.below hb1
  have y1 := x1.below hb1
  have hB1 := below_step hB0 hB0.size hb1
  have hs1 := hb1.size
  have hl1 := x1.lt
  clear x0 x1 hb1
  obtain ⟨q1, q2, q3⟩ := y0.facts
  obtain ⟨q4, q5, q6⟩ := y1.facts
  cases hs : szB r c
  · have HC2 : Hid (C = 2) := by unfold Hid; rw [HCd.out.1]; unfold scaleC; rw [if_pos (.inl hs)]
    clear hs
    go_wp2
    refine bodyPost_ret (results_two rfl (rv_cell (g := w.heap.size + 1) rfl (((y1.set 0 _).set 1 _).set 2 _) rfl Try.underlying26 (by kernel_rfl)) (rv_tmp rfl)) rfl ⟨0, 0, .slice none 0 0, by rw [HC2.out]; rfl, fun h => absurd (HC2.out ▸ h) (by decide), fun _ => ⟨rfl, rfl, rfl⟩, below_set (below_set (below_set hB1 (by omega) _ _) (by omega) _ _) (by omega) _ _⟩
  · by_cases h1 : p < -2000
    · have HC2 : Hid (C = 2) := by unfold Hid; rw [HCd.out.1]; unfold scaleC outP; rw [if_pos (.inr (by simp; omega))]
      have t1 := decide_eq_true h1
      clear hs h1
      go_wp2
      refine bodyPost_ret (results_two rfl (rv_cell (g := w.heap.size + 1) rfl (((y1.set 0 _).set 1 _).set 2 _) rfl Try.underlying26 (by kernel_rfl)) (rv_tmp rfl)) rfl ⟨0, 0, .slice none 0 0, by rw [HC2.out]; rfl, fun h => absurd (HC2.out ▸ h) (by decide), fun _ => ⟨rfl, rfl, rfl⟩, below_set (below_set (below_set hB1 (by omega) _ _) (by omega) _ _) (by omega) _ _⟩
    · by_cases h2 : 2000 < p
      · have HC2 : Hid (C = 2) := by unfold Hid; rw [HCd.out.1]; unfold scaleC outP; rw [if_pos (.inr (by simp; omega))]
        have t1 := decide_eq_false h1
        have t2 := decide_eq_true h2
        clear hs h1 h2
        go_wp2
        refine bodyPost_ret (results_two rfl (rv_cell (g := w.heap.size + 1) rfl (((y1.set 0 _).set 1 _).set 2 _) rfl Try.underlying26 (by kernel_rfl)) (rv_tmp rfl)) rfl ⟨0, 0, .slice none 0 0, by rw [HC2.out]; rfl, fun h => absurd (HC2.out ▸ h) (by decide), fun _ => ⟨rfl, rfl, rfl⟩, below_set (below_set (below_set hB1 (by omega) _ _) (by omega) _ _) (by omega) _ _⟩
      · have HC2 : Hid (C = wrongC r c zs) := by unfold Hid; rw [HCd.out.1]; unfold scaleC outP; rw [if_neg (by rw [hs]; simp; omega)]
        have t1 := decide_eq_false h1
        have t2 := decide_eq_false h2
        clear hs h1 h2
        go_wp2_with fail
        refine (HM.out _ hB1).mono ?_
        rintro e w2 ⟨rfl, hb2⟩
        have z1 := y1.below hb2
        have hB2 := below_step hB1 hB1.size hb2
        have hs2 := hb2.size
        rw [← HC2.out]
        have hne : (C != 0) = true := by have := HCd.out.2; simp [this]
        clear q1 q2 q3 q4 q5 q6 y0 y1 hb2
        obtain ⟨q4, q5, q6⟩ := z1.facts
        go_wp2
        refine bodyPost_ret (results_two rfl (rv_cell (g := w.heap.size + 1) rfl (((z1.set 0 _).set 1 _).set 2 _) rfl Try.underlying26 (by kernel_rfl)) (rv_tmp rfl)) rfl ⟨0, 0, .slice none 0 0, rfl, fun h => absurd h HCd.out.2, fun _ => ⟨rfl, rfl, rfl⟩, below_set (below_set (below_set hB2 (by omega) _ _) (by omega) _ _) (by omega) _ _⟩
set_option maxHeartbeats 16000000 in
theorem scale_in (w : World) (r c p : Int) (a : Option Addr) (zs : List Nat) (ac : Nat) (hZ : Cel w a zs) (hW : Words zs) (hn : zs.length ≤ 262144) (hb : scaleC r c zs p = 0) :
    Calls Try.prog 47 #[.agg #[.int .i64 r, .int .i64 c, .slice a zs.length ac], .int .i64 p] w fun e w' => TakeR w w' r c (scaleL zs p) 0 e := by
  obtain ⟨i0, hi0, hz0, hz1, hz2⟩ := info_parts info_f64
  obtain ⟨W0, hW0⟩ : ∃ W0 : World, W0 = (w.alloc (.cells #[.int .i64 r, .int .i64 c, .slice a zs.length ac] 26)).alloc (.cells #[.int .i64 0, .int .i64 0, .slice none 0 0] 26) := ⟨_, rfl⟩
  have hB0 : Below w.heap.size w W0 := by rw [hW0]; exact ((Below.refl _ _).alloc (Nat.le_refl _) _).alloc (by simp) _
  have x0 : Box W0 w.heap.size [.int .i64 r, .int .i64 c, .slice a zs.length ac] := by rw [hW0]; exact (Box.newA w [_, _, _] _ rfl).alloc _
  have x1 : Box W0 (w.heap.size + 1) [.int .i64 0, .int .i64 0, .slice none 0 0] := by rw [hW0]; exact Box.newA _ [_, _, _] _ (by simp)
  have HS := Lib.hid (fun W => sizes_any W r c a zs.length ac)
  have HM := Lib.hid (fun W (hW' : Below w.heap.size w W) => wrong_any W r c a zs ac (hZ.below hW') hW (by unfold maxLen; omega))
  obtain ⟨h1, h2, h3⟩ : szB r c = true ∧ outP p = false ∧ wrongC r c zs = 0 := by
    unfold scaleC at hb
    split at hb
    · cases hb
    · rename_i h
      refine ⟨?_, ?_, hb⟩
      · cases hs : szB r c
        · exact absurd (.inl hs) h
        · rfl
      · cases hs : outP p
        · rfl
        · exact absurd (.inr hs) h
  rw [h1] at HS
  rw [h3] at HM
  unfold outP at h2
  rw [Bool.or_eq_false_iff] at h2
  obtain ⟨t1, t2⟩ := h2
  have H0 := Lib.hid hW0
  have HZ := Lib.hid hZ
  have HWd := Lib.hid hW
  clear hZ hW hb hW0 h1 h3
  go_enter Try.func47, Try.ntmps47
  go_wp2_with fail
  rw [← H0.out]
  refine (HS.out _).mono ?_
  rintro e w1 ⟨rfl, hb1⟩
  have y0 := x0.below hb1
  have y1 := x1.below hb1
  have hB1 := below_step hB0 hB0.size hb1
  have hs1 := hb1.size
  have hl1 := x1.lt
  clear x0 x1 hb1
  obtain ⟨q1, q2, q3⟩ := y0.facts
  go_wp2_with fail
  refine (HM.out _ hB1).mono ?_
  rintro e w2 ⟨rfl, hb2⟩
  have z0 := y0.below hb2
  have z1 := y1.below hb2
  have hB2 := below_step hB1 hB1.size hb2
  have hs2 := hb2.size
  clear q1 q2 q3 y0 y1 hb2 t1 t2
  obtain ⟨q1, q2, q3⟩ := z0.facts
  have hne1 : w.heap.size ≠ w2.heap.size := by omega
  have hne2 : w.heap.size < w2.heap.size + 1 := by omega
  go_wp2
  clear q1 q2 q3
  have hA1 : Below w2.heap.size w2 (w2.alloc (.cells #[.int .i64 r, .int .i64 c, .slice none 0 0] 26)) := (Below.refl _ _).alloc (Nat.le_refl _) _
  have hzb : Box (w2.alloc (.cells #[.int .i64 r, .int .i64 c, .slice none 0 0] 26)) w2.heap.size [.int .i64 r, .int .i64 c, .slice none 0 0] := Box.newA w2 [_, _, _] _ rfl
  have hs3 : (w2.alloc (.cells #[.int .i64 r, .int .i64 c, .slice none 0 0] 26)).heap.size = w2.heap.size + 1 := by simp
  have u1 := z1.below hA1
  have hB3 := below_step hB2 hB2.size hA1
  clear hA1 z0 z1
  generalize w2.alloc (.cells #[.int .i64 r, .int .i64 c, .slice none 0 0] 26) = W1 at *
  have hbm : w.heap.size + 1 < w2.heap.size := by omega
  clear hs1 hl1 hs2 hne1 hne2
  generalize w2.heap.size = bm at *
  go_loopw [36] (fun s wr => ∃ k : Nat, k ≤ zs.length ∧ s = .int .i64 k ∧ OM W1 bm (bm + 1) (.int .i64 r) (.int .i64 c) 35 ((scaleL zs p).map (Value.float .f64)) k wr) (fun s _ => zs.length - (intOf s).toNat)
  case atStart => exact ⟨0, Nat.zero_le _, rfl, ⟨.slice none 0 0, hzb, World.ownsRow_nil _ _ _ _⟩, Bel.refl _ _ _, by omega⟩
  case round =>
    obtain ⟨k, hk, rfl, hO⟩ := hrel
    obtain ⟨⟨sv, hbx, hrow⟩, hbel, hsz⟩ := hO
    by_cases hlt : k < zs.length
    · obtain ⟨b, o, rfl, hb, c0⟩ := HZ.out.at hlt
      have c1 : wr.cell? ⟨b, o + k, none⟩ = some (.float .f64 (zs.getD k 0)) := by
        unfold World.cell? at c0 ⊢
        rw [show wr.heap[(⟨b, o + k, none⟩ : Addr).block]? = wr.heap[b]? from rfl, hbel.block b (by omega) (by omega), hB3.block b hb]
        exact c0
      clear c0
      have hv := HWd.out.at k
      have HT0 := Lib.hid (fun W => Times_any (zs.getD k 0) p hv W)
      have hxk : ((scaleL zs p).map (Value.float .f64))[k]? = some (.float .f64 (timesW (zs.getD k 0) p)) := by unfold scaleL; simp [hlt]
      have HT := Lib.hid (take_get hxk)
      have HR := Lib.hid hrow
      obtain ⟨q1, q2, q3⟩ := hbx.facts
      generalize zs.getD k 0 = z at *
      generalize timesW z p = tz at *
      have hkr : k + 1 ≤ 262144 := by omega
      clear hxk hv hrow
      go_wp2
      have s0 := (SB.refl hsz).S
      have hl1 : bm < bm + 1 := by omega
      refine wp_region_first 7 [0, 1, 2, 3] [4, 5, 6] (fun W => SB (bm + 1) wr W ∧ ∀ b o, b < bm + 1 → W.cell? ⟨b, o, none⟩ = wr.cell? ⟨b, o, none⟩) (by kernel_rfl) (by kernel_rfl) (SBS.drew s0) ?_
      iterate 4 (refine pW_take (v := ?_) rfl rfl ?_ ?_; rotate_left; (next => (intro w' hSw; (try dsimp only at hSw); go_simp; (try with_reducible rfl))); (simp only [Act.put, List.setIfInBounds_toArray, List.set_cons_zero, List.set_cons_succ]))
      refine pW_nil ?_
      have hbD : Below wr.heap.size wr wr.drew := below_drewN 1 (Below.refl _ _)
      refine mW_take rfl rfl ?_
      go_simp
      go_at_call 30
      refine (HT0.out _).mono ?_
      rintro e w3 ⟨rfl, hb3⟩
      have hb3' : Below wr.heap.size wr w3 := below_step hbD hbD.size hb3
      have s3 : SBS (bm + 1) wr w3 := (SB.of (hb3'.mono hsz) (Nat.le_trans hsz hb3'.size)).S
      refine ⟨s3, ?_⟩
      have hrow3 := ownsRow_bel (s := bm) HR.out (Bel.of hb3') (by omega)
      have hbx3 := hbx.below hb3'
      have hbel3 : Bel (bm + 1) bm W1 w3 := hbel.trans (Bel.of (hb3'.mono hsz))
      have hsz3 : bm + 1 ≤ w3.heap.size := Nat.le_trans hsz hb3'.size
      have HR3 := Lib.hid hrow3
      clear hrow3
      refine mW_take rfl rfl ?_
      go_simp
      refine ⟨SBS.alloc s3, ?_⟩
      refine mW_take rfl rfl ?_
      refine wp_append_lies _ (.tmp 41) (.tmp 45) 24 rfl (bm + 1) 35 i0 (.float .f64 0) 1 8 Try.underlying24 hi0 hz0 hz1 hz2 rfl (by decide) _ k _ rfl (HR3.out.alloc _) _ 1 1 [.float .f64 tz] rfl rfl (cell_one_new _ _ _) (by simp [Value.oneCell']) (by decide) (by unfold maxLen; omega) (by omega) (by simp; omega) _ rfl ?_
      intro g cap w4 hown hgrow hat hlt'
      refine ⟨SBS.grown (SBS.alloc s3) hgrow (fun q e => (HR3.out.lt q e).1), ?_⟩
      refine mW_nil ?_
      have hbx1 := Box.grown (Box.alloc hbx3 _) hgrow (fun q e => by have := (HR3.out.lt q e).1; omega)
      clear q1 q2 q3
      obtain ⟨q1, q2, q3⟩ := hbx1.facts
      simp only [List.drop, Act.put, List.setIfInBounds_toArray, List.set_cons_zero, List.set_cons_succ]
      go_wp2
      refine NoPanic.normal ?_
      go_wp2
      go_roundw
      case rel => exact ⟨k + 1, hlt, by go_num, OM.app hbx3 HR3.out hbel3 hsz3 (by omega) HT.out hgrow hown⟩
      case measure => simp [intOf]; omega
    · obtain rfl : k = zs.length := by omega
      rw [List.take_of_length_le (by unfold scaleL; simp)] at hrow
      have HR := Lib.hid hrow
      obtain ⟨sa, scap, rfl⟩ := ownsRow_slice hrow
      clear hrow
      have v1 := u1.belB (by omega) (by omega) hbel
      obtain ⟨q1, q2, q3⟩ := v1.facts
      obtain ⟨q4, q5, q6⟩ := hbx.facts
      go_wp2
      refine bodyPost_ret (results_two rfl (rv_cell (g := w.heap.size + 1) rfl (((v1.set 0 _).set 1 _).set 2 _) rfl Try.underlying26 (by kernel_rfl)) (rv_tmp rfl)) rfl ⟨r, c, .slice sa zs.length scap, rfl, fun _ => ⟨rfl, rfl, ?_⟩, fun h => absurd rfl h, ?_⟩
      · have hset : Bel wr.heap.size (w.heap.size + 1) wr (((wr.setCell ⟨w.heap.size + 1, 0, none⟩ (.int .i64 r)).setCell ⟨w.heap.size + 1, 1, none⟩ (.int .i64 c)).setCell ⟨w.heap.size + 1, 2, none⟩ (.slice sa zs.length scap)) := (((Bel.refl _ _ _).set _ _).set _ _).set _ _
        have hlen : (scaleL zs p).length = zs.length := by unfold scaleL; simp
        rw [hlen]
        exact ownsRow_monoS' (ownsRow_bel HR.out hset (by omega)) (by omega)
      · have hB5 : Below w.heap.size w wr := hB3.trans ((hbel.mono (by omega)).below (by omega))
        exact below_set (below_set (below_set hB5 (by omega) _ _) (by omega) _ _) (by omega) _ _
theorem Scale_any (w : World) (r c p : Int) (a : Option Addr) (zs : List Nat) (ac : Nat) (hZ : Cel w a zs) (hW : Words zs) (hn : zs.length ≤ 262144) :
    Calls Try.prog 47 #[.agg #[.int .i64 r, .int .i64 c, .slice a zs.length ac], .int .i64 p] w fun e w' => TakeR w w' r c (scaleL zs p) (scaleC r c zs p) e := by
  by_cases hb : scaleC r c zs p = 0
  · rw [hb]; exact scale_in w r c p a zs ac hZ hW hn hb
  · exact scale_bad w r c p a zs ac hZ hW hn hb
end Go.Proofs.Ytogkmddhgfenkaa
