/- The statement's own function: two views are the same just if their matrices are. -/
import Derived.Test.YtpjdibanjmmbkaaRop
import Derived.Test.YtpjdibanjmmbkaaVsL
import Derived.Test.YtpjdibanjmmbkaaVk
import Derived.Test.YtpjdibanjmmbkaaVap
import Derived.Test.YtpjdibanjmmbkaaNq3
namespace Go.Proofs.Ytpjdibanjmmbkaa
open Go Go.RowKit
set_option maxRecDepth 100000

theorem RefV.lt {P : Nat → Prop} {W : World} {da : Option Addr} {dn dc : Nat} {v : Vw} {x : Value} (h : RefV P W da dn dc v x) : RefV (fun b => P b ∧ b < W.heap.size) W da dn dc v x := by
  obtain ⟨ea, en, ec, aa, ac, h1, h2, h3, h4, h5⟩ := h
  refine ⟨ea, en, ec, aa, ac, h1, h2, h3, h4, fun hz => ?_⟩
  obtain ⟨b, off, e, hp⟩ := h5 hz
  obtain ⟨b', off', e', hlt, _⟩ := h4 hz
  rw [e] at e'
  simp only [Option.some.injEq, Addr.mk.injEq] at e'
  exact ⟨b, off, e, hp, by omega⟩
theorem RefV.upto {P : Nat → Prop} {W W' : World} {da : Option Addr} {dn dc B : Nat} {v : Vw} {x : Value} (h : RefV P W da dn dc v x) (hp : ∀ b, P b → b < B) (hb : Below B W W') (hs : B ≤ W.heap.size) : RefV P W' da dn dc v x := by
  obtain ⟨ea, en, ec, aa, ac, h1, h2, h3, h4, h5⟩ := h
  refine ⟨ea, en, ec, aa, ac, h1, h2, h3, fun hz => ?_, h5⟩
  obtain ⟨b, off, e, hlt, hc⟩ := h4 hz
  obtain ⟨b', off', e', hp'⟩ := h5 hz
  rw [e] at e'
  simp only [Option.some.injEq, Addr.mk.injEq] at e'
  obtain ⟨rfl, _⟩ := e'
  have hbB := hp b hp'
  exact ⟨b, off, e, Nat.lt_of_lt_of_le hlt hb.size, fun i p hi => by rw [(below_cells hb).1 _ _ hbB]; exact hc i p hi⟩

theorem Stc.below {w w' : World} {a : Option Addr} {ks : List Stp} (h : Stc w a ks) (hb : Below w.heap.size w w') : Stc w' a ks := fun hz => by
  obtain ⟨b, off, e, hlt, hc⟩ := h hz
  exact ⟨b, off, e, Nat.lt_of_lt_of_le hlt hb.size, fun i s hi => by
    obtain ⟨h0, h1, h2, h3, h4⟩ := hc i s hi
    exact ⟨by rw [(below_cells hb).1 _ _ hlt]; exact h0, by rw [(below_cells hb).1 _ _ hlt]; exact h1, by rw [(below_cells hb).1 _ _ hlt]; exact h2, by rw [(below_cells hb).1 _ _ hlt]; exact h3, by rw [(below_cells hb).1 _ _ hlt]; exact h4⟩⟩
theorem ownsRow_below {A B : World} {base size n : Nat} {e : TypeId} {v : Value} {xs : List Value} (h : A.ownsRow base e size v n xs) (hb : Below A.heap.size A B) : B.ownsRow base e size v n xs := by
  refine ⟨h.1, ?_⟩
  rcases h.2 with h0 | ⟨g, cap, cur, h1, h2, h3, h4⟩
  · exact .inl h0
  · exact .inr ⟨g, cap, cur, h1, h2, by rw [hb.block g (Array.getElem?_eq_some_iff.1 h3).1]; exact h3, h4⟩

set_option maxHeartbeats 8000000 in
/-- The statement's walk behind the first test. -/
theorem same_in (w : World) (R C R' C' : Nat) (a a' : Option Addr) (zs zs' : List Nat) (cap cap' : Nat) (ka : Option Addr) (ks : List Stp) (kc : Nat) (hZ : Cel w a zs) (hWd : Words zs) (hZ' : Cel w a' zs') (hWd' : Words zs') (hK : Stc w ka ks)
    (hR : R ≤ 512) (hC : C ≤ 512) (hn : zs.length = R * C) (hR' : R' ≤ 512) (hC' : C' ≤ 512) (hn' : zs'.length = R' * C') (hk : ks.length ≤ 12) (hb1 : zs.length ≤ 400) (hb2 : zs'.length ≤ 400) :
    Calls Try.prog 4 #[.agg #[.int .i64 R, .int .i64 C, .slice a zs.length cap], .agg #[.int .i64 R', .int .i64 C', .slice a' zs'.length cap'], .slice ka ks.length kc] w fun e w' => e = .returned (.bool true) ∧ Below w.heap.size w w' := by
  have hl : zs.length ≤ maxLen := by unfold maxLen; omega
  have hl' : zs'.length ≤ maxLen := by unfold maxLen; omega
  have HB1 := Lib.hid (fun W => big_any R C a zs.length cap W hl)
  have HB2 := Lib.hid (fun W => big_any R' C' a' zs'.length cap' W hl')
  have HM1 := Lib.hid (fun W => May07_any R C a zs.length cap W hl)
  have HM2 := Lib.hid (fun W => May07_any R' C' a' zs'.length cap' W hl')
  rw [decide_eq_false (show ¬ 400 < zs.length by omega)] at HB1
  rw [decide_eq_false (show ¬ 400 < zs'.length by omega)] at HB2
  rw [show mayM R C zs.length = true by unfold mayM okSz; simp [hn]; omega] at HM1
  rw [show mayM R' C' zs'.length = true by unfold mayM okSz; simp [hn']; omega] at HM2
  have HO1 := Lib.hid (fun (W : World) (hW : Below w.heap.size w W) => open_yes W R C a zs cap (hZ.below hW) hR hC hn)
  have HO2 := Lib.hid (fun (W : World) (hW : Below w.heap.size w W) => open_yes W R' C' a' zs' cap' (hZ'.below hW) hR' hC' hn')
  have hkd : decide (12 < (ks.length : Int)) = false := by simp; omega
  have hkd' : decide (12 < ks.length) = false := by simp; omega
  have HBN := Lib.hid (newV_bnd (st := 0) hR hC)
  have HN := Lib.hid (show (zs.length = R * C ∧ R ≤ 512 ∧ C ≤ 512) ∧ (zs'.length = R' * C' ∧ R' ≤ 512 ∧ C' ≤ 512) from ⟨⟨hn, hR, hC⟩, hn', hR', hC'⟩)
  have HKL := Lib.hid (show ks.length ≤ 12 ∧ zs.length ≤ 400 ∧ zs'.length ≤ 400 from ⟨hk, hb1, hb2⟩)
  clear hn hR hC hn' hR' hC' hk hb1 hb2 hl hl'
  have x0 : Box ((w.alloc (.cells #[.int .i64 R, .int .i64 C, .slice a zs.length cap] 40)).alloc (.cells #[.int .i64 R', .int .i64 C', .slice a' zs'.length cap'] 40)) w.heap.size [.int .i64 R, .int .i64 C, .slice a zs.length cap] := (Box.newA w [_, _, _] _ rfl).alloc _
  have x1 : Box ((w.alloc (.cells #[.int .i64 R, .int .i64 C, .slice a zs.length cap] 40)).alloc (.cells #[.int .i64 R', .int .i64 C', .slice a' zs'.length cap'] 40)) (w.heap.size + 1) [.int .i64 R', .int .i64 C', .slice a' zs'.length cap'] := Box.newA _ [_, _, _] _ (by simp)
  have hB0 : Below w.heap.size w ((w.alloc (.cells #[.int .i64 R, .int .i64 C, .slice a zs.length cap] 40)).alloc (.cells #[.int .i64 R', .int .i64 C', .slice a' zs'.length cap'] 40)) := ((Below.refl _ _).alloc (Nat.le_refl _) _).alloc (by simp) _
  go_enter Try.func4, Try.ntmps4
  go_wp2_with fail
  refine (HB1.out _).mono ?_
  rintro e w1 ⟨rfl, hb1⟩
  have y0 := x0.below hb1
  have y1 := x1.below hb1
  have hB1 := below_step hB0 hB0.size hb1
  clear x0 x1 hB0 hb1
  obtain ⟨a1, a2, a3⟩ := y1.facts
  go_wp2_with fail
  refine (HB2.out _).mono ?_
  rintro e w2 ⟨rfl, hb2⟩
  have z0 := y0.below hb2
  have z1 := y1.below hb2
  have hB2 := below_step hB1 hB1.size hb2
  clear y0 y1 hB1 hb2 a1 a2 a3
  obtain ⟨a1, a2, a3⟩ := z0.facts
  go_wp2_with fail
  refine (HM1.out _).mono ?_
  rintro e w3 ⟨rfl, hb3⟩
  have y0 := z0.below hb3
  have y1 := z1.below hb3
  have hB3 := below_step hB2 hB2.size hb3
  clear z0 z1 hB2 hb3 a1 a2 a3
  obtain ⟨a1, a2, a3⟩ := y1.facts
  go_wp2_with fail
  refine (HM2.out _).mono ?_
  rintro e w4 ⟨rfl, hb4⟩
  have z0 := y0.below hb4
  have z1 := y1.below hb4
  have hB4 := below_step hB3 hB3.size hb4
  clear y0 y1 hB3 hb4 a1 a2 a3
  obtain ⟨a1, a2, a3⟩ := z0.facts
  go_wp2_with fail
  refine (HO1.out _ hB4).mono ?_
  rintro e w5 ⟨st, sb, da, dc, x, B1, rfl, hst, hsb, hst2, hsb2, hS1, hV1, hD1, hb5⟩
  obtain ⟨ea, en, ec, aa, ac, rfl, g1, g2, g3, g4⟩ := hV1
  have hV1 := RefV.lt (show RefV (fun b => B1 ≤ b) w5 da zs.length dc (newV st R C) _ from ⟨ea, en, ec, aa, ac, rfl, g1, g2, g3, g4⟩)
  clear g1 g2 g3 g4
  rw [show (newV st R C).r = R from rfl, show (newV st R C).c = C from rfl, show (newV st R C).p.isSome = true from rfl]
  rw [show (newV st R C).r = R from rfl, show (newV st R C).c = C from rfl, show (newV st R C).p.isSome = true from rfl] at hV1
  have y0 := z0.below hb5
  have y1 := z1.below hb5
  have hB5 := below_step hB4 hB4.size hb5
  clear z0 z1 hB4 hb5 a1 a2 a3
  have s5 := hB5.size
  have u0 := (y0.alloc (.cells #[.pointer (some ⟨st, 0, none⟩), .int .i64 R, .int .i64 C, .int .i64 (0 : Nat), .int .i64 C, .int .i64 (1 : Nat)] 45)).alloc (.cells #[.slice ea en ec, .int .i64 R, .int .i64 C, .slice aa (R * C) ac, .bool true] 48)
  have u1 := (y1.alloc (.cells #[.pointer (some ⟨st, 0, none⟩), .int .i64 R, .int .i64 C, .int .i64 (0 : Nat), .int .i64 C, .int .i64 (1 : Nat)] 45)).alloc (.cells #[.slice ea en ec, .int .i64 R, .int .i64 C, .slice aa (R * C) ac, .bool true] 48)
  have V7 : Box ((w5.alloc (.cells #[.pointer (some ⟨st, 0, none⟩), .int .i64 R, .int .i64 C, .int .i64 (0 : Nat), .int .i64 C, .int .i64 (1 : Nat)] 45)).alloc (.cells #[.slice ea en ec, .int .i64 R, .int .i64 C, .slice aa (R * C) ac, .bool true] 48)) w5.heap.size [.pointer (some ⟨st, 0, none⟩), .int .i64 R, .int .i64 C, .int .i64 (0 : Nat), .int .i64 C, .int .i64 (1 : Nat)] := (Box.newA _ _ _ rfl).alloc _
  have V8 : Box ((w5.alloc (.cells #[.pointer (some ⟨st, 0, none⟩), .int .i64 R, .int .i64 C, .int .i64 (0 : Nat), .int .i64 C, .int .i64 (1 : Nat)] 45)).alloc (.cells #[.slice ea en ec, .int .i64 R, .int .i64 C, .slice aa (R * C) ac, .bool true] 48)) (w5.heap.size + 1) [.slice ea en ec, .int .i64 R, .int .i64 C, .slice aa (R * C) ac, .bool true] := Box.newA _ [_, _, _, _, _] _ (by simp)
  have hA5 : Below w5.heap.size w5 ((w5.alloc (.cells #[.pointer (some ⟨st, 0, none⟩), .int .i64 R, .int .i64 C, .int .i64 (0 : Nat), .int .i64 C, .int .i64 (1 : Nat)] 45)).alloc (.cells #[.slice ea en ec, .int .i64 R, .int .i64 C, .slice aa (R * C) ac, .bool true] 48)) := ((Below.refl _ _).alloc (Nat.le_refl _) _).alloc (by simp) _
  have hz5 : ((w5.alloc (.cells #[.pointer (some ⟨st, 0, none⟩), .int .i64 R, .int .i64 C, .int .i64 (0 : Nat), .int .i64 C, .int .i64 (1 : Nat)] 45)).alloc (.cells #[.slice ea en ec, .int .i64 R, .int .i64 C, .slice aa (R * C) ac, .bool true] 48)).heap.size = w5.heap.size + 2 := by simp
  have lw : w.heap.size + 1 < w5.heap.size := y1.lt
  obtain ⟨a1, a2, a3⟩ := y1.facts
  have ne1 : w.heap.size ≠ w5.heap.size := by omega
  have ne2 : w.heap.size + 1 ≠ w5.heap.size := by omega
  have ne3 : w.heap.size + 1 ≠ w5.heap.size + 1 := by omega
  have ne4 : w.heap.size + 1 < w5.heap.size + 1 := by omega
  go_wp2_with fail
  generalize ((w5.alloc (.cells #[.pointer (some ⟨st, 0, none⟩), .int .i64 R, .int .i64 C, .int .i64 (0 : Nat), .int .i64 C, .int .i64 (1 : Nat)] 45)).alloc (.cells #[.slice ea en ec, .int .i64 R, .int .i64 C, .slice aa (R * C) ac, .bool true] 48)) = W5 at *
  refine (HO2.out _ (below_step hB5 s5 hA5)).mono ?_
  rintro e w6 ⟨st', sb', da', dc', x', B2, rfl, hst', hsb', hst2', hsb2', hS2, hV2, hD2, hb6⟩
  obtain ⟨ea', en', ec', aa', ac', rfl, g1, g2, g3, g4⟩ := hV2
  have hV2 := (show RefV (fun b => B2 ≤ b) w6 da' zs'.length dc' (newV st' R' C') _ from ⟨ea', en', ec', aa', ac', rfl, g1, g2, g3, g4⟩)
  clear g1 g2 g3 g4
  rw [show (newV st' R' C').r = R' from rfl, show (newV st' R' C').c = C' from rfl, show (newV st' R' C').p.isSome = true from rfl]
  rw [show (newV st' R' C').r = R' from rfl, show (newV st' R' C').c = C' from rfl, show (newV st' R' C').p.isSome = true from rfl] at hV2
  have s6 := hb6.size
  have hB6 := below_step (below_step hB5 s5 hA5) (below_step hB5 s5 hA5).size hb6
  have hA6 : Below w6.heap.size w6 ((w6.alloc (.cells #[.pointer (some ⟨st', 0, none⟩), .int .i64 R', .int .i64 C', .int .i64 (0 : Nat), .int .i64 C', .int .i64 (1 : Nat)] 45)).alloc (.cells #[.slice ea' en' ec', .int .i64 R', .int .i64 C', .slice aa' (R' * C') ac', .bool true] 48)) := ((Below.refl _ _).alloc (Nat.le_refl _) _).alloc (by simp) _
  have hz6 : ((w6.alloc (.cells #[.pointer (some ⟨st', 0, none⟩), .int .i64 R', .int .i64 C', .int .i64 (0 : Nat), .int .i64 C', .int .i64 (1 : Nat)] 45)).alloc (.cells #[.slice ea' en' ec', .int .i64 R', .int .i64 C', .slice aa' (R' * C') ac', .bool true] 48)).heap.size = w6.heap.size + 2 := by simp
  have V7b := V7.below hb6
  have V8b := V8.below hb6
  have V10 : Box ((w6.alloc (.cells #[.pointer (some ⟨st', 0, none⟩), .int .i64 R', .int .i64 C', .int .i64 (0 : Nat), .int .i64 C', .int .i64 (1 : Nat)] 45)).alloc (.cells #[.slice ea' en' ec', .int .i64 R', .int .i64 C', .slice aa' (R' * C') ac', .bool true] 48)) w6.heap.size [.pointer (some ⟨st', 0, none⟩), .int .i64 R', .int .i64 C', .int .i64 (0 : Nat), .int .i64 C', .int .i64 (1 : Nat)] := (Box.newA _ _ _ rfl).alloc _
  have V11 : Box ((w6.alloc (.cells #[.pointer (some ⟨st', 0, none⟩), .int .i64 R', .int .i64 C', .int .i64 (0 : Nat), .int .i64 C', .int .i64 (1 : Nat)] 45)).alloc (.cells #[.slice ea' en' ec', .int .i64 R', .int .i64 C', .slice aa' (R' * C') ac', .bool true] 48)) (w6.heap.size + 1) [.slice ea' en' ec', .int .i64 R', .int .i64 C', .slice aa' (R' * C') ac', .bool true] := Box.newA _ [_, _, _, _, _] _ (by simp)
  have V7c := V7b.below hA6
  have V8c := V8b.below hA6
  have hV1c := ((hV1.below hA5).below hb6).below hA6
  have hV2c := hV2.below hA6
  have hS2c := hS2.below hA6
  have hD2c : ((w6.alloc (.cells #[.pointer (some ⟨st', 0, none⟩), .int .i64 R', .int .i64 C', .int .i64 (0 : Nat), .int .i64 C', .int .i64 (1 : Nat)] 45)).alloc (.cells #[.slice ea' en' ec', .int .i64 R', .int .i64 C', .slice aa' (R' * C') ac', .bool true] 48)).ownsRow B2 23 1 (.slice da' zs'.length dc') zs'.length (zs'.map (Value.float .f64)) := (hD2.alloc _).alloc _
  have hB7 := below_step hB6 hB6.size hA6
  have h57 : Below w5.heap.size w5 ((w6.alloc (.cells #[.pointer (some ⟨st', 0, none⟩), .int .i64 R', .int .i64 C', .int .i64 (0 : Nat), .int .i64 C', .int .i64 (1 : Nat)] 45)).alloc (.cells #[.slice ea' en' ec', .int .i64 R', .int .i64 C', .slice aa' (R' * C') ac', .bool true] 48)) := below_step (below_step hA5 hA5.size hb6) (below_step hA5 hA5.size hb6).size hA6
  clear V7 V8 a1 a2 a3 ne1 ne2 ne3 ne4 u0 u1 y0 y1 hV1 hV2 hS2 hD2 hB6
  obtain ⟨a1, a2, a3⟩ := V7b.facts
  obtain ⟨a4, a5, a6⟩ := V8b.facts
  have ne1 : w5.heap.size ≠ w6.heap.size := by omega
  have ne2 : w5.heap.size + 1 ≠ w6.heap.size := by omega
  have ne3 : w5.heap.size ≠ w6.heap.size + 1 := by omega
  have ne4 : w5.heap.size + 1 < w6.heap.size + 1 := by omega
  have ne5 : w5.heap.size < w6.heap.size + 1 := by omega
  go_wp2_with fail
  generalize ((w6.alloc (.cells #[.pointer (some ⟨st', 0, none⟩), .int .i64 R', .int .i64 C', .int .i64 (0 : Nat), .int .i64 C', .int .i64 (1 : Nat)] 45)).alloc (.cells #[.slice ea' en' ec', .int .i64 R', .int .i64 C', .slice aa' (R' * C') ac', .bool true] 48)) = W7 at *
  clear a1 a2 a3 a4 a5 a6 ne1 ne2 ne3 ne4 ne5 V7b V8b
  have hcu := cut_any W7 (newV st R C) _ da zs.length dc _ ka ks kc (hK.below hB7) HKL.out.1 (newV_bnd HN.out.1.2.1 HN.out.1.2.2) hV1c
  refine hcu.mono ?_
  clear hcu hV1c
  rintro e w8 ⟨x2, rfl, hV1d, hb8⟩
  obtain ⟨fa, fn, fc, ga, gc, rfl, g1, g2, g3, g4⟩ := hV1d
  have hV1d := (show RefV (fun b => (B1 ≤ b ∧ b < w5.heap.size) ∨ W7.heap.size ≤ b) w8 da zs.length dc (cutV (newV st R C) ks) _ from ⟨fa, fn, fc, ga, gc, rfl, g1, g2, g3, g4⟩)
  clear g1 g2 g3 g4
  have hok : ∀ W, Sto W (some ⟨st, 0, none⟩) sb zs → (cutV (newV st R C) ks).Ok W sb zs := fun W hW => cutV_ok ks (newV_ok hW HN.out.1.2.1 HN.out.1.2.2 HN.out.1.1)
  generalize cutV (newV st R C) ks = v at *
  have V7d := V7c.below hb8
  have V8d := V8c.below hb8
  have V10d := V10.below hb8
  have V11d := V11.below hb8
  have hV2d := hV2c.below hb8
  have hS2d := hS2c.below hb8
  have hD2d : w8.ownsRow B2 23 1 (.slice da' zs'.length dc') zs'.length (zs'.map (Value.float .f64)) := ownsRow_below hD2c hb8
  have hB8 := below_step hB7 hB7.size hb8
  have h58 := below_step h57 h57.size hb8
  clear V7c V8c V10 V11 hV2c hS2c hD2c hB7 h57
  obtain ⟨a1, a2, a3⟩ := V7d.facts
  obtain ⟨a4, a5, a6⟩ := V8d.facts
  go_wp2_with fail
  obtain ⟨W6x, hW6x⟩ : ∃ W6x, W6x = ((((((w8.setCell ⟨w5.heap.size, 0, none⟩ (.pointer v.p)).setCell ⟨w5.heap.size, 1, none⟩ (.int .i64 v.r)).setCell ⟨w5.heap.size, 2, none⟩ (.int .i64 v.c)).setCell ⟨w5.heap.size, 3, none⟩ (.int .i64 v.o)).setCell ⟨w5.heap.size, 4, none⟩ (.int .i64 v.d)).setCell ⟨w5.heap.size, 5, none⟩ (.int .i64 v.u)) := ⟨_, rfl⟩
  obtain ⟨W9, hW9⟩ : ∃ W9, W9 = (((((W6x.setCell ⟨w5.heap.size + 1, 0, none⟩ (.slice fa fn fc)).setCell ⟨w5.heap.size + 1, 1, none⟩ (.int .i64 v.r)).setCell ⟨w5.heap.size + 1, 2, none⟩ (.int .i64 v.c)).setCell ⟨w5.heap.size + 1, 3, none⟩ (.slice ga (v.r * v.c) gc)).setCell ⟨w5.heap.size + 1, 4, none⟩ (.bool v.p.isSome)) := ⟨_, rfl⟩
  rw [← hW6x, ← hW9]
  have hg1 : ∀ B, Bel B w5.heap.size w8 W6x := fun B => by rw [hW6x]; exact ((((((Bel.refl _ _ _).set _ _).set _ _).set _ _).set _ _).set _ _).set _ _
  have hg2 : ∀ B, Bel B (w5.heap.size + 1) W6x W9 := fun B => by rw [hW9]; exact Bel.refl5 B _ _ _ _ _
  have k7 : Box W9 w5.heap.size [.pointer v.p, .int .i64 v.r, .int .i64 v.c, .int .i64 v.o, .int .i64 v.d, .int .i64 v.u] := by rw [hW9, hW6x]; exact (V7d.put6 _ _ _ _ _ _).other5 (by omega) _ _ _ _ _
  have k8 : Box W9 (w5.heap.size + 1) [.slice fa fn fc, .int .i64 v.r, .int .i64 v.c, .slice ga (v.r * v.c) gc, .bool v.p.isSome] := by rw [hW9, hW6x]; exact (V8d.other6 (by omega) _ _ _ _ _ _).put5 _ _ _ _ _
  clear hW6x hW9 a1 a2 a3 a4 a5 a6 V7d V8d
  have s8 := hb8.size
  have hst2b : w5.heap.size + 2 ≤ st' := by omega
  have hsb2b : w5.heap.size + 2 ≤ sb' := by omega
  have k10 := (V10d.grown (grown_of_bel hg1) (fun r e => by cases e; omega)).grown (grown_of_bel hg2) (fun r e => by cases e; omega)
  have k11 := (V11d.grown (grown_of_bel hg1) (fun r e => by cases e; omega)).grown (grown_of_bel hg2) (fun r e => by cases e; omega)
  have hS2 := (hS2d.belO (by omega) (by omega) hg1).belO (by omega) (by omega) hg2
  have hV1 := (hV1d.bel (s := w5.heap.size) (by omega) (hg1 _)).bel (s := w5.heap.size + 1) (by omega) (hg2 _)
  have hV2 := (hV2d.bel (s := w5.heap.size) (by omega) (hg1 _)).bel (s := w5.heap.size + 1) (by omega) (hg2 _)
  have hC2 : Cel W9 da' zs' := Cel.owns (ownsRow_bel (ownsRow_bel hD2d (hg1 _) (by omega)) (hg2 _) (by omega))
  have h59 : Below w5.heap.size w5 W9 := (h58.trans ((hg1 _).below (Nat.le_refl _))).trans ((hg2 _).below (by omega))
  have hS1 := hS1.below h59
  have hC1 : Cel W9 da zs := (Cel.owns hD1).below h59
  have hB9 : Below w.heap.size w W9 := (hB8.trans ((hg1 _).below (by omega))).trans ((hg2 _).below (by omega))
  have hok1 := hok W9 hS1
  have hok2 := newV_ok hS2 HN.out.2.2.1 HN.out.2.2.2 HN.out.2.1
  have hsm := hok1.small
  have hin1 := ok_pls hok1
  have hin2 := ok_pls hok2
  obtain ⟨q, hq⟩ : ∃ q, q = (v.p.isSome && sameM v.r v.c (v.list zs) R' C' ((newV st' R' C').list zs')) := ⟨_, rfl⟩
  have HQ1 : sameV v (newV st' R' C') zs zs' = q := by rw [hq]; exact same_law v _ zs zs' rfl
  have HQ2 : sameV (newV st' R' C') v zs' zs = q := by rw [sameV_comm]; exact HQ1
  clear hS2d hV1d hV2d hD2d V10d V11d hS1 hS2 h58 h59 hD1 hg1 hg2 hB8 hok
  obtain ⟨a1, a2, a3⟩ := k8.facts
  obtain ⟨a4, a5, a6⟩ := k11.facts
  have s0 := (SB.refl (w0 := W9) (Nat.le_refl W9.heap.size)).S
  have HQ := Lib.hid hq
  have HX1 := Lib.hid HQ1
  have HX2 := Lib.hid HQ2
  clear hq HQ1 HQ2
  cases hp : v.p.isSome
  case false =>
    rw [hp] at a2 k8
    refine wp_region_first 9 [0, 1, 2, 3, 4, 5, 6, 7, 8] [] (fun W => SB W9.heap.size W9 W ∧ ∀ b o, b < W9.heap.size → W.cell? ⟨b, o, none⟩ = W9.cell? ⟨b, o, none⟩) (by kernel_rfl) (by kernel_rfl) (SBS.drew s0) ?_
    iterate 3 (refine pW_take (v := ?_) rfl rfl ?_ ?_; rotate_left; (next => (intro w' hSw; (try dsimp only at hSw); go_simp; (try with_reducible rfl))); (simp only [Act.put, List.setIfInBounds_toArray, List.set_cons_zero, List.set_cons_succ]))
    iterate 5 (refine pW_skip rfl rfl ?_; (simp only [Act.put, List.setIfInBounds_toArray, List.set_cons_zero, List.set_cons_succ]))
    iterate 1 (refine pW_take (v := ?_) rfl rfl ?_ ?_; rotate_left; (next => (intro w' hSw; (try dsimp only at hSw); go_simp; (try with_reducible rfl))); (simp only [Act.put, List.setIfInBounds_toArray, List.set_cons_zero, List.set_cons_succ]))
    refine pW_nil ?_
    refine mW_nil ?_
    have hqf : q = false := by have := HQ.out; rw [hp] at this; exact this
    rw [hqf] at HX1 HX2
    clear s0 HQ hV1 hV2 hC1 hC2 k8 k11 a1 a2 a3 a4 a5 a6
    have k7 : Box W9.drew w5.heap.size [.pointer v.p, .int .i64 v.r, .int .i64 v.c, .int .i64 v.o, .int .i64 v.d, .int .i64 v.u] := k7
    have k10 : Box W9.drew w6.heap.size [.pointer (some ⟨st', 0, none⟩), .int .i64 R', .int .i64 C', .int .i64 (0 : Nat), .int .i64 C', .int .i64 (1 : Nat)] := k10
    have hok1 := hok1.below (below_drewN 1 (Below.refl _ _))
    have hok2 := hok2.below (below_drewN 1 (Below.refl _ _))
    change v.Ok W9.drew _ _ at hok1
    change (newV st' R' C').Ok W9.drew _ _ at hok2
    have hB9 : Below w.heap.size w W9.drew := below_drewN 1 hB9
    change wpList _ _ _ _ _ W9.drew
    generalize W9.drew = Wd at *
    obtain ⟨a1, a2, a3⟩ := k7.facts
    obtain ⟨a4, a5, a6⟩ := k10.facts
    (try simp only [List.drop])
    go_wp2
    refine NoPanic.normal ?_
    go_wp2_with fail
    refine (Same_any _ v (newV st' R' C') sb sb' zs zs' hok1 hok2).mono ?_
    rintro e u1 ⟨rfl, hs1⟩
    rw [HX1.out]
    have k7a := k7.below hs1
    have k10a := k10.below hs1
    have hok1a := hok1.below hs1
    have hok2a := hok2.below hs1
    have hBa := below_step hB9 hB9.size hs1
    clear k7 k10 hok1 hok2 hB9 hs1 a1 a2 a3 a4 a5 a6
    obtain ⟨a1, a2, a3⟩ := k7a.facts
    obtain ⟨a4, a5, a6⟩ := k10a.facts
    go_wp2_with fail
    refine (Same_any _ (newV st' R' C') v sb' sb zs' zs hok2a hok1a).mono ?_
    rintro e u2 ⟨rfl, hs2⟩
    rw [HX2.out]
    have k7b := k7a.below hs2
    have hok1b := hok1a.below hs2
    have hBb := below_step hBa hBa.size hs2
    clear k7a k10a hok1a hok2a hBa hs2 a1 a2 a3 a4 a5 a6
    obtain ⟨a1, a2, a3⟩ := k7b.facts
    go_wp2_with fail
    refine (Same_any _ v v sb sb zs zs hok1b hok1b).mono ?_
    rintro e u3 ⟨rfl, hs3⟩
    rw [sameV_refl]
    have hBc := below_step hBb hBb.size hs3
    clear k7b hok1b hBb hs3 a1 a2 a3
    go_wp2_with fail
    refine (known07 _).mono ?_
    rintro e u4 ⟨rfl, hs4⟩
    have hBd := below_step hBc hBc.size hs4
    go_wp2
    go_ret
    exact ⟨rfl, hBd⟩
  case true =>
    rw [hp] at a2 k8 hV1
    have hvl : (v.list zs).length ≤ maxLen := by rw [list_length]; exact Nat.le_trans (Nat.mul_le_mul hsm.1 hsm.2) (by decide)
    have hvl2 : ((newV st' R' C').list zs').length ≤ maxLen := by rw [list_length]; exact Nat.le_trans (Nat.mul_le_mul HN.out.2.2.1 HN.out.2.2.2) (by decide)
    refine wp_region_first 9 [0, 1, 2, 3, 5] [4, 6, 7, 8] (fun W => SB W9.heap.size W9 W ∧ ∀ b o, b < W9.heap.size → W.cell? ⟨b, o, none⟩ = W9.cell? ⟨b, o, none⟩) (by kernel_rfl) (by kernel_rfl) (SBS.drew s0) ?_
    iterate 5 (refine pW_take (v := ?_) rfl rfl ?_ ?_; rotate_left; (next => (intro w' hSw; (try dsimp only at hSw); go_simp; (try with_reducible rfl))); (simp only [Act.put, List.setIfInBounds_toArray, List.set_cons_zero, List.set_cons_succ]))
    refine pW_nil ?_
    clear s0
    have hbD : Below W9.heap.size W9 W9.drew := below_drewN 1 (Below.refl _ _)
    have HW := Lib.hid hWd
    have HW' := Lib.hid hWd'
    refine mW_take rfl rfl ?_
    go_simp
    go_at_call 25
    refine (ref_matrix _ v da zs dc _ (hV1.below hbD) (hC1.below hbD) hin1 hsm.1 hsm.2).mono ?_
    rintro e u1 ⟨sv, rfl, hrow, hs1⟩
    obtain ⟨ma, mc, rfl, hM1⟩ := cel_of_row hrow
    have hs1' : Below W9.heap.size W9 u1 := below_step hbD hbD.size hs1
    clear hrow
    refine ⟨(SB.of hs1' hs1'.size).S, ?_⟩
    refine mW_take rfl rfl ?_
    go_simp
    go_at_call 25
    refine (ref_matrix _ (newV st' R' C') da' zs' dc' _ (hV2.below hs1') (hC2.below hs1') hin2 HN.out.2.2.1 HN.out.2.2.2).mono ?_
    rintro e u2 ⟨sv, rfl, hrow, hs2⟩
    obtain ⟨ma', mc', rfl, hM2⟩ := cel_of_row hrow
    have hs2' : Below W9.heap.size W9 u2 := below_step hs1' hs1'.size hs2
    clear hrow
    refine ⟨(SB.of hs2' hs2'.size).S, ?_⟩
    refine mW_take rfl rfl ?_
    go_simp
    go_at_call 24
    have HSM := SameMatrix_any u2 v.r v.c R' C' ma ma' (v.list zs) ((newV st' R' C').list zs') mc mc' (hM1.below hs2) hM2 (list_words HW.out) (list_words HW'.out) hvl hvl2
    rw [show sameM v.r v.c (v.list zs) R' C' ((newV st' R' C').list zs') = q by have := HQ.out; rw [hp] at this; rw [this]; rfl] at HSM
    refine HSM.mono ?_
    rintro e u3 ⟨rfl, hs3⟩
    have hs3' : Below W9.heap.size W9 u3 := below_step hs2' hs2'.size hs3
    refine ⟨(SB.of hs3' hs3'.size).S, ?_⟩
    refine mW_take rfl rfl ?_
    go_simp
    refine ⟨(SB.of hs3' hs3'.size).S, ?_⟩
    refine mW_nil ?_
    have k7 := k7.below hs3'
    have k10 := k10.below hs3'
    have hok1 := hok1.below hs3'
    have hok2 := hok2.below hs3'
    have hB9 := below_step hB9 hB9.size hs3'
    clear HQ hV1 hV2 hC1 hC2 k8 k11 a1 a2 a3 a4 a5 a6 hs1 hs2 hs3 hs1' hs2' hs3' hM1 hM2 HSM hbD
    generalize u3 = Wd at *
    obtain ⟨a1, a2, a3⟩ := k7.facts
    obtain ⟨a4, a5, a6⟩ := k10.facts
    (try simp only [List.drop])
    go_wp2
    refine NoPanic.normal ?_
    go_wp2_with fail
    refine (Same_any _ v (newV st' R' C') sb sb' zs zs' hok1 hok2).mono ?_
    rintro e u1 ⟨rfl, hs1⟩
    rw [HX1.out]
    have k7a := k7.below hs1
    have k10a := k10.below hs1
    have hok1a := hok1.below hs1
    have hok2a := hok2.below hs1
    have hBa := below_step hB9 hB9.size hs1
    clear k7 k10 hok1 hok2 hB9 hs1 a1 a2 a3 a4 a5 a6
    obtain ⟨a1, a2, a3⟩ := k7a.facts
    obtain ⟨a4, a5, a6⟩ := k10a.facts
    go_wp2_with fail
    refine (Same_any _ (newV st' R' C') v sb' sb zs' zs hok2a hok1a).mono ?_
    rintro e u2 ⟨rfl, hs2⟩
    rw [HX2.out]
    have k7b := k7a.below hs2
    have hok1b := hok1a.below hs2
    have hBb := below_step hBa hBa.size hs2
    clear k7a k10a hok1a hok2a hBa hs2 a1 a2 a3 a4 a5 a6
    obtain ⟨a1, a2, a3⟩ := k7b.facts
    go_wp2_with fail
    refine (Same_any _ v v sb sb zs zs hok1b hok1b).mono ?_
    rintro e u3 ⟨rfl, hs3⟩
    rw [sameV_refl]
    have hBc := below_step hBb hBb.size hs3
    clear k7b hok1b hBb hs3 a1 a2 a3
    go_wp2_with fail
    refine (known07 _).mono ?_
    rintro e u4 ⟨rfl, hs4⟩
    have hBd := below_step hBc hBc.size hs4
    go_wp2
    go_ret
    exact ⟨rfl, hBd⟩
end Go.Proofs.Ytpjdibanjmmbkaa
