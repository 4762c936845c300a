/- A matrix's view, and the document's. -/
import Derived.Test.YtpjdibanjmmbkaaRo
import Derived.Test.YtpjdibanjmmbkaaVm
import Derived.Test.YtpjdibanjmmbkaaRc
namespace Go.Proofs.Ytpjdibanjmmbkaa
open Go Go.RowKit
set_option maxRecDepth 100000

theorem Sto.belO {w w' : World} {st sb m : Nat} {ws : List Nat} (h : Sto w (some ⟨st, 0, none⟩) sb ws) (h1 : st ≠ m) (h2 : sb ≠ m) (hb : ∀ B, Bel B m w w') : Sto w' (some ⟨st, 0, none⟩) sb ws := by
  obtain ⟨x, e, k1, k2, k3⟩ := h
  obtain rfl : st = x := by simpa using e
  exact ⟨st, rfl, k1.grown (grown_of_bel hb) (fun r e => by cases e; exact h1), k2.grown (grown_of_bel hb) (fun r e => by cases e; exact h2), k3⟩
theorem num_b0 (n : Int) (w : World) : Calls Try.prog 41 #[.int .i64 n] w fun e w' => e = .returned (.int .i64 n) ∧ Below w.heap.size w w' :=
  (num_any n w).mono fun _ _ ⟨he, hb⟩ => ⟨he, hb ▸ Below.refl _ _⟩
set_option maxHeartbeats 4000000 in
theorem open_no (w : World) (r c : Int) (a : Option Addr) (n cap : Nat) (hn : n ≤ maxLen) (hm : mayM r c n = false) :
    Calls Try.prog 22 #[.agg #[.int .i64 r, .int .i64 c, .slice a n cap]] w fun e w' => e = .returned (.tuple #[(.agg #[.pointer none, .int .i64 0, .int .i64 0, .int .i64 0, .int .i64 0, .int .i64 0]), .agg #[.slice none 0 0, .int .i64 0, .int .i64 0, .slice none 0 0, .bool false], .bool false]) ∧ Below w.heap.size w w' := by
  have HO := Lib.hid (fun W => Of_no r c a n cap W hn hm)
  clear hm
  have x0 : Box (((w.alloc (.cells #[.int .i64 r, .int .i64 c, .slice a n cap] 40)).alloc (.cells #[.pointer none, .int .i64 0, .int .i64 0, .int .i64 0, .int .i64 0, .int .i64 0] 45)).alloc (.cells #[.slice none 0 0, .int .i64 0, .int .i64 0, .slice none 0 0, .bool false] 48)) w.heap.size [.int .i64 r, .int .i64 c, .slice a n cap] := ((Box.newA w [_, _, _] _ rfl).alloc _).alloc _
  have x1 : Box (((w.alloc (.cells #[.int .i64 r, .int .i64 c, .slice a n cap] 40)).alloc (.cells #[.pointer none, .int .i64 0, .int .i64 0, .int .i64 0, .int .i64 0, .int .i64 0] 45)).alloc (.cells #[.slice none 0 0, .int .i64 0, .int .i64 0, .slice none 0 0, .bool false] 48)) (w.heap.size + 1) [.pointer none, .int .i64 0, .int .i64 0, .int .i64 0, .int .i64 0, .int .i64 0] := (Box.newA _ _ _ (by simp)).alloc _
  have x2 : Box (((w.alloc (.cells #[.int .i64 r, .int .i64 c, .slice a n cap] 40)).alloc (.cells #[.pointer none, .int .i64 0, .int .i64 0, .int .i64 0, .int .i64 0, .int .i64 0] 45)).alloc (.cells #[.slice none 0 0, .int .i64 0, .int .i64 0, .slice none 0 0, .bool false] 48)) (w.heap.size + 1 + 1) [.slice none 0 0, .int .i64 0, .int .i64 0, .slice none 0 0, .bool false] := Box.newA _ [_, _, _, _, _] _ (by simp)
  have hB0 : Below w.heap.size w (((w.alloc (.cells #[.int .i64 r, .int .i64 c, .slice a n cap] 40)).alloc (.cells #[.pointer none, .int .i64 0, .int .i64 0, .int .i64 0, .int .i64 0, .int .i64 0] 45)).alloc (.cells #[.slice none 0 0, .int .i64 0, .int .i64 0, .slice none 0 0, .bool false] 48)) := (((Below.refl _ _).alloc (Nat.le_refl _) _).alloc (by simp) _).alloc (by simp; omega) _
  go_enter Try.func22, Try.ntmps22
  go_wp2_with fail
  refine (HO.out _).mono ?_
  rintro e w1 ⟨rfl, hb1⟩
  rw [show Vw.none.val = (.agg #[.pointer none, .int .i64 0, .int .i64 0, .int .i64 0, .int .i64 0, .int .i64 0]) from rfl]
  have z1 := x1.below hb1
  have z2 := x2.below hb1
  have hB1 := below_step hB0 hB0.size hb1
  obtain ⟨a1, a2, a3⟩ := (x1.below hb1).facts
  obtain ⟨a4, a5, a6⟩ := (x2.below hb1).facts
  clear x0 x1 x2 hb1
  go_wp2_with (go_at_call 41; refine (num_any _ _).mono ?_; rintro e w' ⟨rfl, rfl⟩)
  refine bodyPost_ret (results_three rfl (rv_cell (g := w.heap.size + 1) rfl (((z1.put6 _ _ _ _ _ _).other5 (show w.heap.size + 1 ≠ w.heap.size + 1 + 1 by omega) _ _ _ _ _).alloc _) rfl Try.underlying45 (by kernel_rfl)) (rv_cell (g := w.heap.size + 1 + 1) rfl (((z2.other6 (show w.heap.size + 1 + 1 ≠ w.heap.size + 1 by omega) _ _ _ _ _ _).put5 _ _ _ _ _).alloc _) rfl Try.underlying48 (by kernel_rfl)) (rv_tmp rfl)) rfl ⟨rfl, ?_⟩
  have hb6 := below_put6 hB1 (show w.heap.size ≤ w.heap.size + 1 by omega) (.pointer none) (.int .i64 0) (.int .i64 0) (.int .i64 0) (.int .i64 0) (.int .i64 0)
  have hb5 := hb6.trans ((Bel.refl5 (n := w.heap.size + 1 + 1) w.heap.size (.slice none 0 0) (.int .i64 0) (.int .i64 0) (.slice none 0 0) (.bool false)).below (by omega))
  exact hb5.alloc hb5.size _

set_option maxHeartbeats 8000000 in
theorem open_yes2 (w : World) (R C : Nat) (a : Option Addr) (zs : List Nat) (cap : Nat) (hZ : Cel w a zs) (hR : R ≤ 512) (hC : C ≤ 512) (hn : zs.length = R * C) :
    Calls Try.prog 22 #[.agg #[.int .i64 R, .int .i64 C, .slice a zs.length cap]] w fun e w' => ∃ st sb da dc x B, e = .returned (.tuple #[(.agg #[.pointer (some ⟨st, 0, none⟩), .int .i64 R, .int .i64 C, .int .i64 (0 : Nat), .int .i64 C, .int .i64 (1 : Nat)]), x, .bool true]) ∧ w.heap.size ≤ st ∧ w.heap.size ≤ sb ∧ st < B ∧ sb < B ∧ Sto w' (some ⟨st, 0, none⟩) sb zs ∧
      RefV (fun b => B ≤ b ∧ ∀ g o, da = some ⟨g, o, none⟩ → g ≠ b) w' da zs.length dc (newV st R C) x ∧ w'.ownsRow B 23 1 (.slice da zs.length dc) zs.length (zs.map (Value.float .f64)) ∧ Below w.heap.size w w' := by
  have HO := Lib.hid (fun (W : World) (hW : Below w.heap.size w W) => Of_yes R C a zs cap W hR hC hn (hZ.below hW))
  have HF := Lib.hid (fun (W : World) (hW : Below w.heap.size w W) => Of_ref2 W R C a zs cap (hZ.below hW) hn (by rw [hn]; exact Nat.mul_le_mul hR hC))
  have x0 : Box (((w.alloc (.cells #[.int .i64 R, .int .i64 C, .slice a zs.length cap] 40)).alloc (.cells #[.pointer none, .int .i64 0, .int .i64 0, .int .i64 0, .int .i64 0, .int .i64 0] 45)).alloc (.cells #[.slice none 0 0, .int .i64 0, .int .i64 0, .slice none 0 0, .bool false] 48)) w.heap.size [.int .i64 R, .int .i64 C, .slice a zs.length cap] := ((Box.newA w [_, _, _] _ rfl).alloc _).alloc _
  have x1 : Box (((w.alloc (.cells #[.int .i64 R, .int .i64 C, .slice a zs.length cap] 40)).alloc (.cells #[.pointer none, .int .i64 0, .int .i64 0, .int .i64 0, .int .i64 0, .int .i64 0] 45)).alloc (.cells #[.slice none 0 0, .int .i64 0, .int .i64 0, .slice none 0 0, .bool false] 48)) (w.heap.size + 1) [.pointer none, .int .i64 0, .int .i64 0, .int .i64 0, .int .i64 0, .int .i64 0] := (Box.newA _ _ _ (by simp)).alloc _
  have x2 : Box (((w.alloc (.cells #[.int .i64 R, .int .i64 C, .slice a zs.length cap] 40)).alloc (.cells #[.pointer none, .int .i64 0, .int .i64 0, .int .i64 0, .int .i64 0, .int .i64 0] 45)).alloc (.cells #[.slice none 0 0, .int .i64 0, .int .i64 0, .slice none 0 0, .bool false] 48)) (w.heap.size + 1 + 1) [.slice none 0 0, .int .i64 0, .int .i64 0, .slice none 0 0, .bool false] := Box.newA _ [_, _, _, _, _] _ (by simp)
  have hB0 : Below w.heap.size w (((w.alloc (.cells #[.int .i64 R, .int .i64 C, .slice a zs.length cap] 40)).alloc (.cells #[.pointer none, .int .i64 0, .int .i64 0, .int .i64 0, .int .i64 0, .int .i64 0] 45)).alloc (.cells #[.slice none 0 0, .int .i64 0, .int .i64 0, .slice none 0 0, .bool false] 48)) := (((Below.refl _ _).alloc (Nat.le_refl _) _).alloc (by simp) _).alloc (by simp; omega) _
  have hs0 : (((w.alloc (.cells #[.int .i64 R, .int .i64 C, .slice a zs.length cap] 40)).alloc (.cells #[.pointer none, .int .i64 0, .int .i64 0, .int .i64 0, .int .i64 0, .int .i64 0] 45)).alloc (.cells #[.slice none 0 0, .int .i64 0, .int .i64 0, .slice none 0 0, .bool false] 48)).heap.size = w.heap.size + 3 := by simp
  have HN := Lib.hid hn
  clear hn hR hC
  go_enter Try.func22, Try.ntmps22
  go_wp2_with fail
  refine (HO.out _ hB0).mono ?_
  rintro e w1 ⟨st, sb, rfl, hst, hsb, hsto, hb1⟩
  rw [show (newV st R C).val = (.agg #[.pointer (some ⟨st, 0, none⟩), .int .i64 R, .int .i64 C, .int .i64 (0 : Nat), .int .i64 C, .int .i64 (1 : Nat)]) from rfl]
  rw [hs0] at hst hsb
  have y0 := (x0.below hb1).alloc (.cells #[.pointer (some ⟨st, 0, none⟩), .int .i64 R, .int .i64 C, .int .i64 (0 : Nat), .int .i64 C, .int .i64 (1 : Nat)] 45)
  have y1 := (x1.below hb1).alloc (.cells #[.pointer (some ⟨st, 0, none⟩), .int .i64 R, .int .i64 C, .int .i64 (0 : Nat), .int .i64 C, .int .i64 (1 : Nat)] 45)
  have y2 := (x2.below hb1).alloc (.cells #[.pointer (some ⟨st, 0, none⟩), .int .i64 R, .int .i64 C, .int .i64 (0 : Nat), .int .i64 C, .int .i64 (1 : Nat)] 45)
  have y3 : Box (w1.alloc (.cells #[.pointer (some ⟨st, 0, none⟩), .int .i64 R, .int .i64 C, .int .i64 (0 : Nat), .int .i64 C, .int .i64 (1 : Nat)] 45)) w1.heap.size [.pointer (some ⟨st, 0, none⟩), .int .i64 R, .int .i64 C, .int .i64 (0 : Nat), .int .i64 C, .int .i64 (1 : Nat)] := Box.newA _ _ _ rfl
  have hS1 := hsto.alloc (.cells #[.pointer (some ⟨st, 0, none⟩), .int .i64 R, .int .i64 C, .int .i64 (0 : Nat), .int .i64 C, .int .i64 (1 : Nat)] 45)
  have hB1 := (below_step hB0 hB0.size hb1).alloc (below_step hB0 hB0.size hb1).size (.cells #[.pointer (some ⟨st, 0, none⟩), .int .i64 R, .int .i64 C, .int .i64 (0 : Nat), .int .i64 C, .int .i64 (1 : Nat)] 45)
  have hls : st < w1.heap.size ∧ sb < w1.heap.size := by
    obtain ⟨st', est, k1, k2, _⟩ := hsto
    obtain rfl : st = st' := by simpa using est
    exact ⟨k1.lt, k2.lt⟩
  clear x0 x1 x2 hb1 hsto hB0
  go_wp2_with (go_at_call 41; refine (num_any _ _).mono ?_; rintro e w' ⟨rfl, rfl⟩)
  have hs1 : w1.heap.size < (w1.alloc (.cells #[.pointer (some ⟨st, 0, none⟩), .int .i64 R, .int .i64 C, .int .i64 (0 : Nat), .int .i64 C, .int .i64 (1 : Nat)] 45)).heap.size := by simp
  generalize (w1.alloc (.cells #[.pointer (some ⟨st, 0, none⟩), .int .i64 R, .int .i64 C, .int .i64 (0 : Nat), .int .i64 C, .int .i64 (1 : Nat)] 45)) = W2 at *
  generalize w1.heap.size = b5 at *
  obtain ⟨a1, a2, a3⟩ := y0.facts
  obtain ⟨a4, a5, a6⟩ := y3.facts
  have s0 := (SB.refl (w0 := W2) (Nat.le_refl W2.heap.size)).S
  refine wp_region_first 3 [0, 1] [2] (fun W => SB W2.heap.size W2 W ∧ ∀ b o, b < W2.heap.size → W.cell? ⟨b, o, none⟩ = W2.cell? ⟨b, o, none⟩) (by kernel_rfl) (by kernel_rfl) (SBS.drew s0) ?_
  iterate 2 (refine pW_take (v := ?_) rfl rfl ?_ ?_; rotate_left; (next => (intro w' hSw; (try dsimp only at hSw); go_simp; (try with_reducible rfl))); (simp only [Act.put, List.setIfInBounds_toArray, List.set_cons_zero, List.set_cons_succ]))
  refine pW_nil ?_
  clear s0
  have hbD : Below W2.heap.size W2 W2.drew := below_drewN 1 (Below.refl _ _)
  refine mW_take rfl rfl ?_
  go_simp
  go_at_call 70
  refine (HF.out _ (below_drewN 1 hB1)).mono ?_
  rintro e w3 ⟨da, dc, x, rfl, hRv, hrow, hb3⟩
  have hb3' : Below W2.heap.size W2 w3 := ⟨hb3.os, hb3.tape, hb3.output, hb3.size, hb3.block⟩
  refine ⟨(SB.of hb3' hb3'.size).S, ?_⟩
  refine mW_nil ?_
  have z1 := y1.below hb3'
  have z2 := y2.below hb3'
  have hB3 := below_step hB1 hB1.size hb3'
  have hS3 := hS1.below hb3'
  have hRv0 : RefV (fun b => W2.heap.size ≤ b ∧ ∀ g o, da = some ⟨g, o, none⟩ → g ≠ b) w3 da zs.length dc (newV st R C) x := hRv st
  obtain ⟨ea, en, ec, aa, ac, rfl, g1, g2, g3, g4⟩ := hRv0
  have HR := Lib.hid (show RefV (fun b => W2.heap.size ≤ b ∧ ∀ g o, da = some ⟨g, o, none⟩ → g ≠ b) w3 da zs.length dc (newV st R C) _ from ⟨ea, en, ec, aa, ac, rfl, g1, g2, g3, g4⟩)
  have hrow' : w3.ownsRow W2.heap.size 23 1 (.slice da zs.length dc) zs.length (zs.map (Value.float .f64)) := hrow
  have HD := Lib.hid hrow'
  have HS := Lib.hid hS3
  clear g1 g2 g3 g4 hRv hrow hrow' hS1 hS3 y0 y1 y2 y3 a1 a2 a3 a4 a5 a6 hb3 hB1
  have hz : w.heap.size + 1 + 1 < w3.heap.size := z2.lt
  obtain ⟨q1, q2, q3⟩ := z1.facts
  obtain ⟨q4, q5, q6⟩ := z2.facts
  (try simp only [List.drop])
  go_wp2
  refine NoPanic.normal ?_
  go_wp2
  have hg6 : ∀ B, Bel B (w.heap.size + 1) w3 ((((((w3.setCell ⟨w.heap.size + 1, 0, none⟩ (.pointer (some ⟨st, 0, none⟩))).setCell ⟨w.heap.size + 1, 1, none⟩ (.int .i64 R)).setCell ⟨w.heap.size + 1, 2, none⟩ (.int .i64 C)).setCell ⟨w.heap.size + 1, 3, none⟩ (.int .i64 0)).setCell ⟨w.heap.size + 1, 4, none⟩ (.int .i64 C)).setCell ⟨w.heap.size + 1, 5, none⟩ (.int .i64 1)) := fun B => ((((((Bel.refl _ _ _).set _ _).set _ _).set _ _).set _ _).set _ _).set _ _
  have hsz := hb3'.size
  refine bodyPost_ret (results_three rfl (rv_cell (g := w.heap.size + 1) rfl ((z1.put6 _ _ _ _ _ _).other5 (show w.heap.size + 1 ≠ w.heap.size + 1 + 1 by omega) _ _ _ _ _) rfl Try.underlying45 (by kernel_rfl)) (rv_cell (g := w.heap.size + 1 + 1) rfl ((z2.other6 (show w.heap.size + 1 + 1 ≠ w.heap.size + 1 by omega) _ _ _ _ _ _).put5 _ _ _ _ _) rfl Try.underlying48 (by kernel_rfl)) (rv_tmp rfl)) rfl ⟨st, sb, da, dc, _, W2.heap.size, rfl, by omega, by omega, by omega, by omega, ?_, ?_, ?_, ?_⟩
  · exact Sto.belO (Sto.belO HS.out (by omega) (by omega) hg6) (by omega) (by omega) (fun B => Bel.refl5 B _ _ _ _ _)
  · exact (HR.out.bel (s := w.heap.size + 1) (fun h => absurd h.1 (by omega)) (hg6 _)).bel (s := w.heap.size + 1 + 1) (fun h => absurd h.1 (by omega)) (Bel.refl5 _ _ _ _ _ _)
  · exact ownsRow_bel (ownsRow_bel HD.out (hg6 _) (by omega)) (Bel.refl5 _ _ _ _ _ _) (by omega)
  · exact (hB3.trans ((hg6 _).below (by omega))).trans ((Bel.refl5 _ _ _ _ _ _).below (by omega))
theorem open_yes (w : World) (R C : Nat) (a : Option Addr) (zs : List Nat) (cap : Nat) (hZ : Cel w a zs) (hR : R ≤ 512) (hC : C ≤ 512) (hn : zs.length = R * C) :
    Calls Try.prog 22 #[.agg #[.int .i64 R, .int .i64 C, .slice a zs.length cap]] w fun e w' => ∃ st sb da dc x B, e = .returned (.tuple #[(.agg #[.pointer (some ⟨st, 0, none⟩), .int .i64 R, .int .i64 C, .int .i64 (0 : Nat), .int .i64 C, .int .i64 (1 : Nat)]), x, .bool true]) ∧ w.heap.size ≤ st ∧ w.heap.size ≤ sb ∧ st < B ∧ sb < B ∧ Sto w' (some ⟨st, 0, none⟩) sb zs ∧
      RefV (fun b => B ≤ b) w' da zs.length dc (newV st R C) x ∧ w'.ownsRow B 23 1 (.slice da zs.length dc) zs.length (zs.map (Value.float .f64)) ∧ Below w.heap.size w w' :=
  (open_yes2 w R C a zs cap hZ hR hC hn).mono fun _ _ ⟨st, sb, da, dc, x, B, he, h1, h2, h3, h4, h5, h6, h7⟩ => ⟨st, sb, da, dc, x, B, he, h1, h2, h3, h4, h5, h6.imp fun _ h => h.1, h7⟩
end Go.Proofs.Ytpjdibanjmmbkaa
