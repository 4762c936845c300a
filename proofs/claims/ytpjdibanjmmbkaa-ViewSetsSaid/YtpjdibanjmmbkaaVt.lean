/- The statement's own function: what is set in a view is set in what it was cut of. -/
import Derived.Test.YtpjdibanjmmbkaaPv
import Derived.Test.YtpjdibanjmmbkaaVs
import Derived.Test.YtpjdibanjmmbkaaVo
import Derived.Test.YtpjdibanjmmbkaaNq6
namespace Go.Proofs.Ytpjdibanjmmbkaa
open Go Go.RowKit
set_option maxRecDepth 100000

theorem RefV.itc {P : Nat → Prop} {W : World} {da ea aa : Option Addr} {dn dc en ec m ac : Nat} {r c : Int} {b : Bool} {v : Vw} (h : RefV P W da dn dc v (.agg #[.slice ea en ec, .int .i64 r, .int .i64 c, .slice aa m ac, .bool b])) : Itc W aa v.pls ∧ (v.p.isSome = true → ea = da ∧ en = dn ∧ ec = dc) := by
  obtain ⟨ea', en', ec', aa', ac', h1, h2, _, h4, _⟩ := h
  simp only [Value.agg.injEq, Array.mk.injEq, List.cons.injEq, Value.slice.injEq, and_true] at h1
  obtain ⟨⟨rfl, rfl, rfl⟩, _, _, ⟨rfl, _, rfl⟩, _⟩ := h1
  exact ⟨h4, h2⟩

set_option maxHeartbeats 16000000 in
theorem sets_in (w : World) (R C : Nat) (a : Option Addr) (zs : List Nat) (cap : Nat) (ka : Option Addr) (ks : List Stp) (kc : Nat) (i j : Int) (x : Nat) (hZ : Cel w a zs) (hWd : Words zs) (hK : Stc w ka ks) (hx : x < 18446744073709551616)
    (hR : R ≤ 512) (hC : C ≤ 512) (hn : zs.length = R * C) (hk : ks.length ≤ 12) (hb1 : zs.length ≤ 400) :
    Calls Try.prog 7 #[.agg #[.int .i64 R, .int .i64 C, .slice a zs.length cap], .slice ka ks.length kc, .int .i64 i, .int .i64 j, .float .f64 x] w fun e w' => e = .returned (.bool true) ∧ Below w.heap.size w w' := by
  have hl : zs.length ≤ maxLen := by unfold maxLen; omega
  have HB1 := Lib.hid (fun W => big_any R C a zs.length cap W hl)
  rw [decide_eq_false (show ¬ 400 < zs.length by omega)] at HB1
  have HO1 := Lib.hid (fun (W : World) (hW : Below w.heap.size w W) => open_yes2 W R C a zs cap (hZ.below hW) hR hC hn)
  have hkd : decide (12 < (ks.length : Int)) = false := by simp; omega
  have hkd' : decide (12 < ks.length) = false := by simp; omega
  have HN := Lib.hid (show zs.length = R * C ∧ R ≤ 512 ∧ C ≤ 512 from ⟨hn, hR, hC⟩)
  have HKL := Lib.hid (show ks.length ≤ 12 ∧ zs.length ≤ 400 from ⟨hk, hb1⟩)
  have HX := Lib.hid hx
  clear hn hR hC hk hb1 hl hx
  have x0 : Box (w.alloc (.cells #[.int .i64 R, .int .i64 C, .slice a zs.length cap] 40)) w.heap.size [.int .i64 R, .int .i64 C, .slice a zs.length cap] := Box.newA w [_, _, _] _ rfl
  have hB0 : Below w.heap.size w (w.alloc (.cells #[.int .i64 R, .int .i64 C, .slice a zs.length cap] 40)) := (Below.refl _ _).alloc (Nat.le_refl _) _
  go_enter Try.func7, Try.ntmps7
  go_wp2_with fail
  refine (HB1.out _).mono ?_
  rintro e w1 ⟨rfl, hb1⟩
  have y0 := x0.below hb1
  have hB1 := below_step hB0 hB0.size hb1
  have hlt0 := y0.lt
  clear x0 hB0 hb1
  obtain ⟨a1, a2, a3⟩ := y0.facts
  go_wp2_with fail
  refine (HO1.out _ hB1).mono ?_
  rintro e w5 ⟨st, sb, da, dc, x5, B1, rfl, hst, hsb, hst2, hsb2, hS1, hV1, hD1, hb5⟩
  obtain ⟨ea, en, ec, aa, ac, rfl, g1, g2, g3, g4⟩ := hV1
  have hV1 := (show RefV (fun b => B1 ≤ b ∧ ∀ g o, da = some ⟨g, o, none⟩ → g ≠ b) w5 da zs.length dc (newV st R C) _ from ⟨ea, en, ec, aa, ac, rfl, g1, g2, g3, g4⟩)
  clear g1 g2 g3 g4
  rw [show (newV st R C).r = R from rfl, show (newV st R C).c = C from rfl, show (newV st R C).p.isSome = true from rfl]
  rw [show (newV st R C).r = R from rfl, show (newV st R C).c = C from rfl, show (newV st R C).p.isSome = true from rfl] at hV1
  have hB5 := below_step hB1 hB1.size hb5
  have s5 := hB5.size
  -- the document's block
  obtain ⟨db, hdb, hdb2⟩ : ∃ db, (∀ g o, da = some ⟨g, o, none⟩ → g = db) ∧ ((da = none ∧ db = w.heap.size) ∨ (B1 ≤ db ∧ db < w5.heap.size ∧ ∃ o, da = some ⟨db, o, none⟩)) := by
    rcases hD1.2 with ⟨h0, _⟩ | ⟨g, cap', cur, h0, _⟩
    · simp only [Value.slice.injEq] at h0
      exact ⟨w.heap.size, fun g o e => (by rw [h0.1] at e; cases e), .inl ⟨h0.1, rfl⟩⟩
    · have hl5 := hD1.lt g (by rw [h0]; rfl)
      simp only [Value.slice.injEq] at h0
      refine ⟨g, fun g' o e => ?_, .inr ⟨hl5.1, hl5.2, 0, h0.1⟩⟩
      rw [h0.1] at e
      simp only [Option.some.injEq, Addr.mk.injEq] at e
      exact e.1.symm
  have hstne : st ≠ sb ∧ st < w5.heap.size ∧ sb < w5.heap.size := by
    obtain ⟨st', est, k1, k2, _⟩ := hS1
    obtain rfl : st = st' := by simpa using est
    exact ⟨Sto.ne k1 k2, k1.lt, k2.lt⟩
  have hV1 : RefV (fun b => b < w5.heap.size ∧ b ≠ sb ∧ b ≠ db) w5 da zs.length dc (newV st R C) (Value.agg #[.slice ea en ec, .int .i64 R, .int .i64 C, .slice aa (R * C) ac, .bool true]) := by
    refine (RefV.lt hV1).imp fun b hb => ?_
    refine ⟨hb.2, by have := hb.1.1; omega, ?_⟩
    rcases hdb2 with ⟨_, h2⟩ | ⟨_, _, o, h3⟩
    · have := hb.1.1; have := hB1.size; omega
    · exact fun e => hb.1.2 db o h3 e.symm
  have V7 : Box ((w5.alloc (.cells #[.pointer (some ⟨st, 0, none⟩), .int .i64 R, .int .i64 C, .int .i64 (0 : Nat), .int .i64 C, .int .i64 (1 : Nat)] 45)).alloc (.cells #[.slice ea en ec, .int .i64 R, .int .i64 C, .slice aa (R * C) ac, .bool true] 48)) w5.heap.size [.pointer (some ⟨st, 0, none⟩), .int .i64 R, .int .i64 C, .int .i64 (0 : Nat), .int .i64 C, .int .i64 (1 : Nat)] := (Box.newA _ _ _ rfl).alloc _
  have V8 : Box ((w5.alloc (.cells #[.pointer (some ⟨st, 0, none⟩), .int .i64 R, .int .i64 C, .int .i64 (0 : Nat), .int .i64 C, .int .i64 (1 : Nat)] 45)).alloc (.cells #[.slice ea en ec, .int .i64 R, .int .i64 C, .slice aa (R * C) ac, .bool true] 48)) (w5.heap.size + 1) [.slice ea en ec, .int .i64 R, .int .i64 C, .slice aa (R * C) ac, .bool true] := Box.newA _ [_, _, _, _, _] _ (by simp)
  have hA5 : Below w5.heap.size w5 ((w5.alloc (.cells #[.pointer (some ⟨st, 0, none⟩), .int .i64 R, .int .i64 C, .int .i64 (0 : Nat), .int .i64 C, .int .i64 (1 : Nat)] 45)).alloc (.cells #[.slice ea en ec, .int .i64 R, .int .i64 C, .slice aa (R * C) ac, .bool true] 48)) := ((Below.refl _ _).alloc (Nat.le_refl _) _).alloc (by simp) _
  have hz5 : ((w5.alloc (.cells #[.pointer (some ⟨st, 0, none⟩), .int .i64 R, .int .i64 C, .int .i64 (0 : Nat), .int .i64 C, .int .i64 (1 : Nat)] 45)).alloc (.cells #[.slice ea en ec, .int .i64 R, .int .i64 C, .slice aa (R * C) ac, .bool true] 48)).heap.size = w5.heap.size + 2 := by simp
  have hlo : w.heap.size ≤ sb ∧ w.heap.size ≤ db := by
    have := hB1.size
    refine ⟨by omega, ?_⟩
    rcases hdb2 with ⟨_, h2⟩ | ⟨h2, _⟩
    · omega
    · omega
  have hne : sb ≠ db ∧ st ≠ db ∧ db < w5.heap.size := by
    rcases hdb2 with ⟨_, h2⟩ | ⟨h2, h3, _⟩
    · exact ⟨by omega, by omega, by omega⟩
    · exact ⟨by omega, by omega, h3⟩
  clear a1 a2 a3 y0 hb5 hB1 hdb2
  go_wp2_with fail
  generalize ((w5.alloc (.cells #[.pointer (some ⟨st, 0, none⟩), .int .i64 R, .int .i64 C, .int .i64 (0 : Nat), .int .i64 C, .int .i64 (1 : Nat)] 45)).alloc (.cells #[.slice ea en ec, .int .i64 R, .int .i64 C, .slice aa (R * C) ac, .bool true] 48)) = W7 at *
  have hcu := cut_any W7 (newV st R C) _ da zs.length dc _ ka ks kc (hK.below (below_step hB5 s5 hA5)) HKL.out.1 (newV_bnd HN.out.2.1 HN.out.2.2) (hV1.below hA5)
  refine hcu.mono ?_
  clear hcu
  rintro e w8 ⟨x2, rfl, hV2, hb8⟩
  have hV2 := RefV.lt hV2
  have s8 := hb8.size
  obtain ⟨fa, fn, fc, ga, gc, rfl, g1, g2, g3, g4⟩ := hV2
  have hV2 := (show RefV (fun b => (((b < w5.heap.size ∧ b ≠ sb ∧ b ≠ db) ∨ W7.heap.size ≤ b) ∧ b < w8.heap.size)) w8 da zs.length dc (cutV (newV st R C) ks) _ from ⟨fa, fn, fc, ga, gc, rfl, g1, g2, g3, g4⟩)
  clear g1 g2 g3 g4
  have hok : ∀ (W : World) (s : List Nat), s.length = zs.length → Sto W (some ⟨st, 0, none⟩) sb s → (cutV (newV st R C) ks).Ok W sb s := fun W s hs hW => cutV_ok ks (newV_ok hW HN.out.2.1 HN.out.2.2 (by rw [hs]; exact HN.out.1))
  have hok1 : ∀ (W : World) (s : List Nat), s.length = zs.length → Sto W (some ⟨st, 0, none⟩) sb s → (newV st R C).Ok W sb s := fun W s hs hW => newV_ok hW HN.out.2.1 HN.out.2.2 (by rw [hs]; exact HN.out.1)
  generalize cutV (newV st R C) ks = v at *
  have V7d := V7.below hb8
  have V8d := V8.below hb8
  have hB8 := below_step (below_step hB5 s5 hA5) (below_step hB5 s5 hA5).size hb8
  have h58 := below_step hA5 hA5.size hb8
  have hV1 := (hV1.below hA5).below hb8
  clear V7 V8
  have V9 : Box ((w8.alloc (.cells #[.pointer v.p, .int .i64 v.r, .int .i64 v.c, .int .i64 v.o, .int .i64 v.d, .int .i64 v.u] 45)).alloc (.cells #[.slice fa fn fc, .int .i64 v.r, .int .i64 v.c, .slice ga (v.r * v.c) gc, .bool v.p.isSome] 48)) w8.heap.size [.pointer v.p, .int .i64 v.r, .int .i64 v.c, .int .i64 v.o, .int .i64 v.d, .int .i64 v.u] := (Box.newA _ _ _ rfl).alloc _
  have V10 : Box ((w8.alloc (.cells #[.pointer v.p, .int .i64 v.r, .int .i64 v.c, .int .i64 v.o, .int .i64 v.d, .int .i64 v.u] 45)).alloc (.cells #[.slice fa fn fc, .int .i64 v.r, .int .i64 v.c, .slice ga (v.r * v.c) gc, .bool v.p.isSome] 48)) (w8.heap.size + 1) [.slice fa fn fc, .int .i64 v.r, .int .i64 v.c, .slice ga (v.r * v.c) gc, .bool v.p.isSome] := Box.newA _ [_, _, _, _, _] _ (by simp)
  have hA8 : Below w8.heap.size w8 ((w8.alloc (.cells #[.pointer v.p, .int .i64 v.r, .int .i64 v.c, .int .i64 v.o, .int .i64 v.d, .int .i64 v.u] 45)).alloc (.cells #[.slice fa fn fc, .int .i64 v.r, .int .i64 v.c, .slice ga (v.r * v.c) gc, .bool v.p.isSome] 48)) := ((Below.refl _ _).alloc (Nat.le_refl _) _).alloc (by simp) _
  have hz8 : ((w8.alloc (.cells #[.pointer v.p, .int .i64 v.r, .int .i64 v.c, .int .i64 v.o, .int .i64 v.d, .int .i64 v.u] 45)).alloc (.cells #[.slice fa fn fc, .int .i64 v.r, .int .i64 v.c, .slice ga (v.r * v.c) gc, .bool v.p.isSome] 48)).heap.size = w8.heap.size + 2 := by simp
  obtain ⟨a1, a2, a3⟩ := V7d.facts
  obtain ⟨a4, a5, a6⟩ := V8d.facts
  go_wp2_with fail
  obtain ⟨rl, hrl⟩ : ∃ rl, rl = [(newV st R C, (Value.agg #[.slice ea en ec, .int .i64 R, .int .i64 C, .slice aa (R * C) ac, .bool true])), (v, (Value.agg #[.slice fa fn fc, .int .i64 v.r, .int .i64 v.c, .slice ga (v.r * v.c) gc, .bool v.p.isSome]))] := ⟨_, rfl⟩
  obtain ⟨bl, hbl⟩ : ∃ bl, bl = [(w5.heap.size, ([.pointer (some ⟨st, 0, none⟩), .int .i64 R, .int .i64 C, .int .i64 (0 : Nat), .int .i64 C, .int .i64 (1 : Nat)] : List Value)), (w5.heap.size + 1, ([.slice ea en ec, .int .i64 R, .int .i64 C, .slice aa (R * C) ac, .bool true] : List Value)), (w8.heap.size, ([.pointer v.p, .int .i64 v.r, .int .i64 v.c, .int .i64 v.o, .int .i64 v.d, .int .i64 v.u] : List Value)), (w8.heap.size + 1, ([.slice fa fn fc, .int .i64 v.r, .int .i64 v.c, .slice ga (v.r * v.c) gc, .bool v.p.isSome] : List Value))] := ⟨_, rfl⟩
  have hr1 : (newV st R C, (Value.agg #[.slice ea en ec, .int .i64 R, .int .i64 C, .slice aa (R * C) ac, .bool true])) ∈ rl := by rw [hrl]; exact List.Mem.head _
  have hr2 : (v, (Value.agg #[.slice fa fn fc, .int .i64 v.r, .int .i64 v.c, .slice ga (v.r * v.c) gc, .bool v.p.isSome])) ∈ rl := by rw [hrl]; exact List.Mem.tail _ (List.Mem.head _)
  have hm1 : (w5.heap.size, ([.pointer (some ⟨st, 0, none⟩), .int .i64 R, .int .i64 C, .int .i64 (0 : Nat), .int .i64 C, .int .i64 (1 : Nat)] : List Value)) ∈ bl := by rw [hbl]; exact List.Mem.head _
  have hm2 : (w5.heap.size + 1, ([.slice ea en ec, .int .i64 R, .int .i64 C, .slice aa (R * C) ac, .bool true] : List Value)) ∈ bl := by rw [hbl]; exact List.Mem.tail _ (List.Mem.head _)
  have hm3 : (w8.heap.size, ([.pointer v.p, .int .i64 v.r, .int .i64 v.c, .int .i64 v.o, .int .i64 v.d, .int .i64 v.u] : List Value)) ∈ bl := by rw [hbl]; exact List.Mem.tail _ (List.Mem.tail _ (List.Mem.head _))
  have hm4 : (w8.heap.size + 1, ([.slice fa fn fc, .int .i64 v.r, .int .i64 v.c, .slice ga (v.r * v.c) gc, .bool v.p.isSome] : List Value)) ∈ bl := by rw [hbl]; exact List.Mem.tail _ (List.Mem.tail _ (List.Mem.tail _ (List.Mem.head _)))
  have h0 : PV (⟨w, st, sb, db, B1, da, zs.length, dc⟩ : PC) rl bl zs zs ((w8.alloc (.cells #[.pointer v.p, .int .i64 v.r, .int .i64 v.c, .int .i64 v.o, .int .i64 v.d, .int .i64 v.u] 45)).alloc (.cells #[.slice fa fn fc, .int .i64 v.r, .int .i64 v.c, .slice ga (v.r * v.c) gc, .bool v.p.isSome] 48)) := by
    have hb58 : Below w5.heap.size w5 ((w8.alloc (.cells #[.pointer v.p, .int .i64 v.r, .int .i64 v.c, .int .i64 v.o, .int .i64 v.d, .int .i64 v.u] 45)).alloc (.cells #[.slice fa fn fc, .int .i64 v.r, .int .i64 v.c, .slice ga (v.r * v.c) gc, .bool v.p.isSome] 48)) := below_step h58 h58.size hA8
    refine ⟨hS1.below hb58, ownsRow_dn hD1 hb58, hdb, ⟨hne.1, hne.2.1, hstne.1⟩, hlo, rfl, below_step hB8 hB8.size hA8, ?_, ?_⟩
    · rw [hrl]
      rintro q hq
      simp only [List.mem_cons, List.not_mem_nil, or_false] at hq
      rcases hq with rfl | rfl
      · exact (hV1.below hA8).imp fun b hb => ⟨hb.2.1, hb.2.2⟩
      · exact (hV2.below hA8).imp fun b hb => (by dsimp only; omega)
    · rw [hbl]
      rintro q hq
      simp only [List.mem_cons, List.not_mem_nil, or_false] at hq
      rcases hq with rfl | rfl | rfl | rfl
      · exact ⟨V7d.below hA8, (by dsimp only; omega), (by dsimp only; omega)⟩
      · exact ⟨V8d.below hA8, (by dsimp only; omega), (by dsimp only; omega)⟩
      · exact ⟨V9, (by dsimp only; omega), (by dsimp only; omega)⟩
      · exact ⟨V10, (by dsimp only; omega), (by dsimp only; omega)⟩
  have hu1 : PU (⟨w, st, sb, db, B1, da, zs.length, dc⟩ : PC) (newV st R C) := hok1
  have hu2 : PU (⟨w, st, sb, db, B1, da, zs.length, dc⟩ : PC) v := hok
  generalize ((w8.alloc (.cells #[.pointer v.p, .int .i64 v.r, .int .i64 v.c, .int .i64 v.o, .int .i64 v.d, .int .i64 v.u] 45)).alloc (.cells #[.slice fa fn fc, .int .i64 v.r, .int .i64 v.c, .slice ga (v.r * v.c) gc, .bool v.p.isSome] 48)) = W9 at *
  clear hok hok1 hV1 hV2 V7d V8d V9 V10 hA8 hz8 hB8 h58 hA5 hz5 hB5 hS1 hD1 a1 a2 a3 a4 a5 a6 hrl hbl hb8 s8 hZ hK
  have HS0 : ∀ {s t : List Nat} (W : World), PV (⟨w, st, sb, db, B1, da, zs.length, dc⟩ : PC) rl bl s t W → (∀ i, W.cell? ⟨w5.heap.size, i, none⟩ = ([.pointer (some ⟨st, 0, none⟩), .int .i64 R, .int .i64 C, .int .i64 (0 : Nat), .int .i64 C, .int .i64 (1 : Nat)] : List Value)[i]?) ∧ (∀ i, W.cell? ⟨w5.heap.size + 1, i, none⟩ = ([.slice ea en ec, .int .i64 R, .int .i64 C, .slice aa (R * C) ac, .bool true] : List Value)[i]?) ∧ (∀ i, W.cell? ⟨w8.heap.size, i, none⟩ = ([.pointer v.p, .int .i64 v.r, .int .i64 v.c, .int .i64 v.o, .int .i64 v.d, .int .i64 v.u] : List Value)[i]?) ∧ (∀ i, W.cell? ⟨w8.heap.size + 1, i, none⟩ = ([.slice fa fn fc, .int .i64 v.r, .int .i64 v.c, .slice ga (v.r * v.c) gc, .bool v.p.isSome] : List Value)[i]?) := fun W h => ⟨h.cells hm1, h.cells hm2, h.cells hm3, h.cells hm4⟩
  have HS := Lib.hid (fun (s t : List Nat) W (h : PV (⟨w, st, sb, db, B1, da, zs.length, dc⟩ : PC) rl bl s t W) => HS0 W h)
  clear HS0
  clear HB1 HO1
  refine wp_region_items 18 [(true, 0), (true, 1), (true, 2), (true, 3), (true, 6), (true, 7), (true, 8), (true, 9), (false, 4), (false, 5), (false, 10), (true, 11), (true, 12), (true, 13), (true, 15), (false, 14), (false, 16), (false, 17)] (fun W => (∀ i, W.cell? ⟨w5.heap.size, i, none⟩ = ([.pointer (some ⟨st, 0, none⟩), .int .i64 R, .int .i64 C, .int .i64 (0 : Nat), .int .i64 C, .int .i64 (1 : Nat)] : List Value)[i]?) ∧ (∀ i, W.cell? ⟨w5.heap.size + 1, i, none⟩ = ([.slice ea en ec, .int .i64 R, .int .i64 C, .slice aa (R * C) ac, .bool true] : List Value)[i]?) ∧ (∀ i, W.cell? ⟨w8.heap.size, i, none⟩ = ([.pointer v.p, .int .i64 v.r, .int .i64 v.c, .int .i64 v.o, .int .i64 v.d, .int .i64 v.u] : List Value)[i]?) ∧ (∀ i, W.cell? ⟨w8.heap.size + 1, i, none⟩ = ([.slice fa fn fc, .int .i64 v.r, .int .i64 v.c, .slice ga (v.r * v.c) gc, .bool v.p.isSome] : List Value)[i]?)) (by kernel_rfl) (by kernel_rfl) (HS.out _ _ _ h0.drew) ?_
  have h1 := h0.drew
  clear h0
  iterate 8 (refine iW_take (v := ?_) rfl rfl ?_ ?_; rotate_left; (next => (intro w' hSw; (try dsimp only at hSw); obtain ⟨hS1, hS2, hS3, hS4⟩ := hSw; go_simp; (try with_reducible rfl))); (simp only [Act.put, List.setIfInBounds_toArray, List.set_cons_zero, List.set_cons_succ]))
  refine iW_mid rfl rfl ?_
  go_simp
  go_at_call 46
  refine (h1.set hu2 i j x).mono ?_
  rintro e u' ⟨rfl, h2⟩
  refine ⟨(by have := HS.out _ _ _ h2; first | exact this | (rw [hp] at this; exact this)), ?_⟩
  refine iW_mid rfl rfl ?_
  go_simp
  go_at_call 41
  refine (num_any _ _).mono ?_
  rintro e u' ⟨rfl, rfl⟩
  refine ⟨(by have := HS.out _ _ _ h2; first | exact this | (rw [hp] at this; exact this)), ?_⟩
  refine iW_mid rfl rfl ?_
  go_simp
  go_at_call 47
  refine (h2.rset hu2 hr2 i j x).mono ?_
  rintro e u' ⟨rfl, h3⟩
  have hWd1 : Words (v.put zs i j x) := words_put hWd HX.out v i j
  refine ⟨(by have := HS.out _ _ _ h3; first | exact this | (rw [hp] at this; exact this)), ?_⟩
  generalize v.putE i j = pe at *
  generalize v.put zs i j x = ws at *
  iterate 4 (refine iW_take (v := ?_) rfl rfl ?_ ?_; rotate_left; (next => (intro w' hSw; (try dsimp only at hSw); obtain ⟨hS1, hS2, hS3, hS4⟩ := hSw; go_simp; (try with_reducible rfl))); (simp only [Act.put, List.setIfInBounds_toArray, List.set_cons_zero, List.set_cons_succ]))
  refine iW_mid rfl rfl ?_
  go_simp
  go_at_call 38
  refine (h3.mat hu1).mono ?_
  rintro e u' ⟨ma1, mc1, rfl, hM1, hbn, h3a⟩
  refine ⟨(by have := HS.out _ _ _ h3a; first | exact this | (rw [hp] at this; exact this)), ?_⟩
  refine iW_mid rfl rfl ?_
  go_simp
  go_at_call 25
  refine (h3a.rmat hu1 hr1).mono ?_
  rintro e u' ⟨ma1', mc1', rfl, hM1', hbn, h3b⟩
  have hM1 := hM1.below hbn
  refine ⟨(by have := HS.out _ _ _ h3b; first | exact this | (rw [hp] at this; exact this)), ?_⟩
  refine iW_mid rfl rfl ?_
  go_simp
  go_at_call 24
  refine (SameMatrix_any _ (newV st R C).r (newV st R C).c (newV st R C).r (newV st R C).c ma1 ma1' ((newV st R C).list ws) ((newV st R C).list ws) mc1 mc1' hM1 hM1' (list_words hWd1) (list_words hWd1) (h3b.list_small hu1 _) (h3b.list_small hu1 _)).mono ?_
  rintro e u' ⟨rfl, hbn⟩
  rw [sameM_refl]
  have h3c := h3b.below hbn
  refine ⟨(by have := HS.out _ _ _ h3c; first | exact this | (rw [hp] at this; exact this)), ?_⟩
  refine iW_nil ?_
  (try simp only [List.drop])
  obtain ⟨a1, a2, a3⟩ := h3c.facts hm3
  go_wp2
  refine NoPanic.normal ?_
  go_wp2_with fail
  refine (h3c.put hu2 j x).mono ?_
  rintro e w9 ⟨rfl, h4⟩
  clear a1 a2 a3
  obtain ⟨a4, a5, a6⟩ := h4.facts hm4
  cases hp : v.p.isSome
  case false =>
    rw [hp] at a5
    rw [vec_nil hp j]
    go_wp2_with (go_at_call 41; refine (num_any _ _).mono ?_; rintro e w' ⟨rfl, rfl⟩)
    refine (known07 _).mono ?_
    rintro e u9 ⟨rfl, hs9⟩
    have h9 := h4.below hs9
    go_wp2
    go_ret
    exact ⟨rfl, h9.base⟩
  case true =>
    have hp2 := hp
    have hit := (h4.refs _ hr2).itc
    obtain ⟨e1, e2, e3⟩ := hit.2 hp
    replace e1 := e1.symm
    replace e3 := e3.symm
    subst e1 e2 e3
    clear hit
    have HR := Lib.hid (fun (W : World) s t (h : PV (⟨w, st, sb, db, B1, da, zs.length, dc⟩ : PC) rl bl s t W) => ref_vector W v da zs.length dc _ (h.refs _ hr2))
    have hsm := (h4.ok hu2).small
    have HL := Lib.hid (fun (W : World) s t (h : PV (⟨w, st, sb, db, B1, da, zs.length, dc⟩ : PC) rl bl s t W) => ref_len W v da zs.length dc _ (h.refs _ hr2) hsm.1 hsm.2)
    rw [hp] at a5 HR HL
    cases hv : vecV v.p v.r v.c
    case false =>
      rw [hv] at HR
      rw [vec_no hp hv j]
      go_wp2_with (first | (go_at_call 41; refine (num_any _ _).mono ?_; rintro e w' ⟨rfl, rfl⟩) | (go_at_call 30; refine (HR.out _ _ _ h4).mono ?_; rintro e u4 ⟨rfl, hs4⟩; replace h4 := h4.below hs4))
      refine (known07 _).mono ?_
      rintro e u9 ⟨rfl, hs9⟩
      have h9 := h4.below hs9
      go_wp2
      go_ret
      exact ⟨rfl, h9.base⟩
    case true =>
      rw [hv] at HR
      obtain ⟨lb, hlen, hlb⟩ : ∃ lb, lenV v.p v.r v.c = lb ∧ lb = v.r * v.c := ⟨_, rfl, by unfold lenV; rw [hv]; rfl⟩
      rw [hlen] at HL
      clear hlen
      have HLB := Lib.hid hlb
      clear hlb
      cases t1 : decide (j < 0)
      case true =>
        obtain ⟨q1, q2⟩ := vec_out hv (i := j) (by have := of_decide_eq_true t1; omega) ws x
        rw [q1] at h4
        rw [q2]
        clear q1 q2
        go_wp2_with (first | (go_at_call 41; refine (num_any _ _).mono ?_; rintro e w' ⟨rfl, rfl⟩) | (go_at_call 30; refine (HR.out _ _ _ h4).mono ?_; rintro e u4 ⟨rfl, hs4⟩; replace h4 := h4.below hs4; obtain ⟨a7, a8, a9⟩ := h4.facts hm4))
        clear a4 a5 a6 a7 a8 a9 HR HL
        have hWd2 : Words (ws) := hWd1
        have h5 := h4.drew
        refine wp_region_items 11 [(true, 0), (true, 1), (true, 2), (true, 3), (true, 5), (false, 4), (false, 6), (false, 7), (true, 8), (true, 9), (false, 10)] (fun W => (∀ i, W.cell? ⟨w5.heap.size, i, none⟩ = ([.pointer (some ⟨st, 0, none⟩), .int .i64 R, .int .i64 C, .int .i64 (0 : Nat), .int .i64 C, .int .i64 (1 : Nat)] : List Value)[i]?) ∧ (∀ i, W.cell? ⟨w5.heap.size + 1, i, none⟩ = ([.slice ea en ec, .int .i64 R, .int .i64 C, .slice aa (R * C) ac, .bool true] : List Value)[i]?) ∧ (∀ i, W.cell? ⟨w8.heap.size, i, none⟩ = ([.pointer v.p, .int .i64 v.r, .int .i64 v.c, .int .i64 v.o, .int .i64 v.d, .int .i64 v.u] : List Value)[i]?) ∧ (∀ i, W.cell? ⟨w8.heap.size + 1, i, none⟩ = ([.slice da zs.length dc, .int .i64 v.r, .int .i64 v.c, .slice ga (v.r * v.c) gc, .bool v.p.isSome] : List Value)[i]?)) (by kernel_rfl) (by kernel_rfl) (HS.out _ _ _ h5) ?_
        iterate 5 (refine iW_take (v := ?_) rfl rfl ?_ ?_; rotate_left; (next => (intro w' hSw; (try dsimp only at hSw); obtain ⟨hS1, hS2, hS3, hS4⟩ := hSw; go_simp; (try with_reducible rfl))); (simp only [Act.put, List.setIfInBounds_toArray, List.set_cons_zero, List.set_cons_succ]))
        refine iW_mid rfl rfl ?_
        go_simp
        go_at_call 38
        refine (h5.mat hu1).mono ?_
        rintro e u' ⟨ma2, mc2, rfl, hM2, hbn, h5a⟩
        refine ⟨(by have := HS.out _ _ _ h5a; first | exact this | (rw [hp] at this; exact this)), ?_⟩
        refine iW_mid rfl rfl ?_
        go_simp
        go_at_call 25
        refine (h5a.rmat hu1 hr1).mono ?_
        rintro e u' ⟨ma2', mc2', rfl, hM2', hbn, h5b⟩
        have hM2 := hM2.below hbn
        refine ⟨(by have := HS.out _ _ _ h5b; first | exact this | (rw [hp] at this; exact this)), ?_⟩
        refine iW_mid rfl rfl ?_
        go_simp
        go_at_call 24
        refine (SameMatrix_any _ (newV st R C).r (newV st R C).c (newV st R C).r (newV st R C).c ma2 ma2' ((newV st R C).list (ws)) ((newV st R C).list (ws)) mc2 mc2' hM2 hM2' (list_words hWd2) (list_words hWd2) (h5b.list_small hu1 _) (h5b.list_small hu1 _)).mono ?_
        rintro e u' ⟨rfl, hbn⟩
        rw [sameM_refl]
        have h5c := h5b.below hbn
        refine ⟨(by have := HS.out _ _ _ h5c; first | exact this | (rw [hp] at this; exact this)), ?_⟩
        iterate 2 (refine iW_take (v := ?_) rfl rfl ?_ ?_; rotate_left; (next => (intro w' hSw; (try dsimp only at hSw); obtain ⟨hS1, hS2, hS3, hS4⟩ := hSw; go_simp; (try with_reducible rfl))); (simp only [Act.put, List.setIfInBounds_toArray, List.set_cons_zero, List.set_cons_succ]))
        refine iW_mid rfl rfl ?_
        go_simp
        go_at_call 21
        refine (known07 _).mono ?_
        rintro e u' ⟨rfl, hbn⟩
        have h6 := h5c.below hbn
        refine ⟨(by have := HS.out _ _ _ h6; first | exact this | (rw [hp] at this; exact this)), ?_⟩
        refine iW_nil ?_
        (try simp only [List.drop])
        go_wp2
        refine NoPanic.normal ?_
        go_wp2
        go_ret
        exact ⟨rfl, h6.base⟩
      case false =>
        cases t2 : decide ((lb : Int) ≤ j)
        case true =>
          obtain ⟨q1, q2⟩ := vec_out hv (i := j) (by have := of_decide_eq_true t2; rw [← HLB.out]; omega) ws x
          rw [q1] at h4
          rw [q2]
          clear q1 q2
          go_wp2_with (first | (go_at_call 41; refine (num_any _ _).mono ?_; rintro e w' ⟨rfl, rfl⟩) | (go_at_call 30; refine (HR.out _ _ _ h4).mono ?_; rintro e u4 ⟨rfl, hs4⟩; replace h4 := h4.below hs4; obtain ⟨a7, a8, a9⟩ := h4.facts hm4; rw [hp] at a8) | (go_at_call 32; refine (HL.out _ _ _ h4).mono ?_; rintro e u5 ⟨rfl, hs5⟩; replace h4 := h4.below hs5))
          clear a4 a5 a6 a7 a8 a9 HR HL
          have hWd2 : Words (ws) := hWd1
          have h5 := h4.drew
          refine wp_region_items 11 [(true, 0), (true, 1), (true, 2), (true, 3), (true, 5), (false, 4), (false, 6), (false, 7), (true, 8), (true, 9), (false, 10)] (fun W => (∀ i, W.cell? ⟨w5.heap.size, i, none⟩ = ([.pointer (some ⟨st, 0, none⟩), .int .i64 R, .int .i64 C, .int .i64 (0 : Nat), .int .i64 C, .int .i64 (1 : Nat)] : List Value)[i]?) ∧ (∀ i, W.cell? ⟨w5.heap.size + 1, i, none⟩ = ([.slice ea en ec, .int .i64 R, .int .i64 C, .slice aa (R * C) ac, .bool true] : List Value)[i]?) ∧ (∀ i, W.cell? ⟨w8.heap.size, i, none⟩ = ([.pointer v.p, .int .i64 v.r, .int .i64 v.c, .int .i64 v.o, .int .i64 v.d, .int .i64 v.u] : List Value)[i]?) ∧ (∀ i, W.cell? ⟨w8.heap.size + 1, i, none⟩ = ([.slice da zs.length dc, .int .i64 v.r, .int .i64 v.c, .slice ga (v.r * v.c) gc, .bool v.p.isSome] : List Value)[i]?)) (by kernel_rfl) (by kernel_rfl) (HS.out _ _ _ h5) ?_
          iterate 5 (refine iW_take (v := ?_) rfl rfl ?_ ?_; rotate_left; (next => (intro w' hSw; (try dsimp only at hSw); obtain ⟨hS1, hS2, hS3, hS4⟩ := hSw; go_simp; (try with_reducible rfl))); (simp only [Act.put, List.setIfInBounds_toArray, List.set_cons_zero, List.set_cons_succ]))
          refine iW_mid rfl rfl ?_
          go_simp
          go_at_call 38
          refine (h5.mat hu1).mono ?_
          rintro e u' ⟨ma2, mc2, rfl, hM2, hbn, h5a⟩
          refine ⟨(by have := HS.out _ _ _ h5a; first | exact this | (rw [hp] at this; exact this)), ?_⟩
          refine iW_mid rfl rfl ?_
          go_simp
          go_at_call 25
          refine (h5a.rmat hu1 hr1).mono ?_
          rintro e u' ⟨ma2', mc2', rfl, hM2', hbn, h5b⟩
          have hM2 := hM2.below hbn
          refine ⟨(by have := HS.out _ _ _ h5b; first | exact this | (rw [hp] at this; exact this)), ?_⟩
          refine iW_mid rfl rfl ?_
          go_simp
          go_at_call 24
          refine (SameMatrix_any _ (newV st R C).r (newV st R C).c (newV st R C).r (newV st R C).c ma2 ma2' ((newV st R C).list (ws)) ((newV st R C).list (ws)) mc2 mc2' hM2 hM2' (list_words hWd2) (list_words hWd2) (h5b.list_small hu1 _) (h5b.list_small hu1 _)).mono ?_
          rintro e u' ⟨rfl, hbn⟩
          rw [sameM_refl]
          have h5c := h5b.below hbn
          refine ⟨(by have := HS.out _ _ _ h5c; first | exact this | (rw [hp] at this; exact this)), ?_⟩
          iterate 2 (refine iW_take (v := ?_) rfl rfl ?_ ?_; rotate_left; (next => (intro w' hSw; (try dsimp only at hSw); obtain ⟨hS1, hS2, hS3, hS4⟩ := hSw; go_simp; (try with_reducible rfl))); (simp only [Act.put, List.setIfInBounds_toArray, List.set_cons_zero, List.set_cons_succ]))
          refine iW_mid rfl rfl ?_
          go_simp
          go_at_call 21
          refine (known07 _).mono ?_
          rintro e u' ⟨rfl, hbn⟩
          have h6 := h5c.below hbn
          refine ⟨(by have := HS.out _ _ _ h6; first | exact this | (rw [hp] at this; exact this)), ?_⟩
          refine iW_nil ?_
          (try simp only [List.drop])
          go_wp2
          refine NoPanic.normal ?_
          go_wp2
          go_ret
          exact ⟨rfl, h6.base⟩
        case false =>
          have hj0 : 0 ≤ j := by have := of_decide_eq_false t1; omega
          obtain ⟨jn, rfl⟩ := Int.eq_ofNat_of_zero_le hj0
          have hjn : jn < lb := by have := of_decide_eq_false t2; omega
          have t2' : decide (lb ≤ jn) = false := decide_eq_false (by omega)
          obtain ⟨q1, q2⟩ := vec_pl hv (i := jn) (by rw [← HLB.out]; exact hjn) ws x
          rw [q1] at h4
          rw [q2]
          clear q1 q2
          go_wp2_with (first | (go_at_call 41; refine (num_any _ _).mono ?_; rintro e w' ⟨rfl, rfl⟩) | (go_at_call 30; refine (HR.out _ _ _ h4).mono ?_; rintro e u4 ⟨rfl, hs4⟩; replace h4 := h4.below hs4; obtain ⟨a7, a8, a9⟩ := h4.facts hm4; rw [hp] at a8) | (go_at_call 32; refine (HL.out _ _ _ h4).mono ?_; rintro e u5 ⟨rfl, hs5⟩; replace h4 := h4.below hs5))
          clear a4 a5 a6 a7 a8 a9 HR HL
          have hpg := pls_get (v := v) (k := jn) (by rw [← HLB.out]; exact hjn)
          have hql := h4.pls hu2 _ (List.mem_of_getElem? hpg)
          obtain ⟨gb, go, rfl, hgl, hgc⟩ := (h4.refs _ hr2).itc.1 (by intro e; rw [e] at hpg; cases hpg)
          have c0 := hgc jn _ hpg
          generalize v.pl jn = q at *
          have hg : ∃ g, da = some ⟨g, 0, none⟩ := by
            rcases h4.dat.2 with ⟨_, e0⟩ | ⟨g, cap', cur, e1, _⟩
            · have e0' : zs.length = 0 := e0
              have hql' : q < zs.length := hql
              omega
            · simp only [Value.slice.injEq] at e1; exact ⟨g, e1.1⟩
          obtain ⟨g, rfl⟩ := hg
          have hgd := hdb g 0 rfl
          subst hgd
          have hjb : jn < v.r * v.c := by rw [← HLB.out]; exact hjn
          have hjb2 : (jn : Int) < (v.r : Int) * (v.c : Int) := by rw [← Int.natCast_mul]; exact Int.ofNat_lt.2 hjb
          have hql2 : q < zs.length := hql
          clear hgc hpg hql hgl hdb
          have h5 := h4.drew
          have hlw : q < ws.length := by have e := h4.lt; have e' : ws.length = zs.length := e; omega
          have c1 := (h5.dat.cellAt q (by show q < zs.length * 1; omega)).trans (b := (ws.map (Value.float .f64))[q]?) (c := some (Value.float .f64 (ws.getD q 0))) (by simp [hlw])
          have c2 := h5.dat.frozenAt q
          have c3 := (h5.dat.lt g rfl).2
          have hm4' := hm4
          rw [hp] at hm4'
          refine wp_region_items 8 [(true, 0), (true, 1), (true, 2), (true, 3), (true, 4), (true, 5), (true, 6), (true, 7)] (fun W => (∀ i, W.cell? ⟨w8.heap.size + 1, i, none⟩ = ([.slice (some ⟨g, 0, none⟩) zs.length dc, .int .i64 v.r, .int .i64 v.c, .slice (some ⟨gb, go, none⟩) (v.r * v.c) gc, .bool true] : List Value)[i]?) ∧ W.cell? ⟨gb, go + jn, none⟩ = some (.int .i64 (q : Int))) (by kernel_rfl) (by kernel_rfl) ⟨h5.cells hm4', c0⟩ ?_
          iterate 8 (refine iW_take (v := ?_) rfl rfl ?_ ?_; rotate_left; (next => (intro w' hSw; (try dsimp only at hSw); obtain ⟨hS1, hS2⟩ := hSw; go_simp; (try with_reducible rfl))); (simp only [Act.put, List.setIfInBounds_toArray, List.set_cons_zero, List.set_cons_succ]))
          refine iW_nil ?_
          (try simp only [List.drop])
          go_wp2
          refine NoPanic.normal ?_
          have hst := (h5.dat.stored q (.float .f64 x)).1
          rw [← List.map_set] at hst
          have h6 := h5.belD (t' := ws.set q x) ((Bel.refl _ _ _).set _ _) hst
          clear hst c0 c1 c2 c3 h5
          dsimp only at h6
          go_wp2
          have hWd2 : Words (ws.set q x) := words_set hWd1 HX.out q
          have h5 := h6.drew
          refine wp_region_items 11 [(true, 0), (true, 1), (true, 2), (true, 3), (true, 5), (false, 4), (false, 6), (false, 7), (true, 8), (true, 9), (false, 10)] (fun W => (∀ i, W.cell? ⟨w5.heap.size, i, none⟩ = ([.pointer (some ⟨st, 0, none⟩), .int .i64 R, .int .i64 C, .int .i64 (0 : Nat), .int .i64 C, .int .i64 (1 : Nat)] : List Value)[i]?) ∧ (∀ i, W.cell? ⟨w5.heap.size + 1, i, none⟩ = ([.slice ea en ec, .int .i64 R, .int .i64 C, .slice aa (R * C) ac, .bool true] : List Value)[i]?) ∧ (∀ i, W.cell? ⟨w8.heap.size, i, none⟩ = ([.pointer v.p, .int .i64 v.r, .int .i64 v.c, .int .i64 v.o, .int .i64 v.d, .int .i64 v.u] : List Value)[i]?) ∧ (∀ i, W.cell? ⟨w8.heap.size + 1, i, none⟩ = ([.slice (some ⟨g, 0, none⟩) zs.length dc, .int .i64 v.r, .int .i64 v.c, .slice (some ⟨gb, go, none⟩) (v.r * v.c) gc, .bool v.p.isSome] : List Value)[i]?)) (by kernel_rfl) (by kernel_rfl) (HS.out _ _ _ h5) ?_
          iterate 5 (refine iW_take (v := ?_) rfl rfl ?_ ?_; rotate_left; (next => (intro w' hSw; (try dsimp only at hSw); obtain ⟨hS1, hS2, hS3, hS4⟩ := hSw; go_simp; (try with_reducible rfl))); (simp only [Act.put, List.setIfInBounds_toArray, List.set_cons_zero, List.set_cons_succ]))
          refine iW_mid rfl rfl ?_
          go_simp
          go_at_call 38
          refine (h5.mat hu1).mono ?_
          rintro e u' ⟨ma2, mc2, rfl, hM2, hbn, h5a⟩
          refine ⟨(by have := HS.out _ _ _ h5a; first | exact this | (rw [hp] at this; exact this)), ?_⟩
          refine iW_mid rfl rfl ?_
          go_simp
          go_at_call 25
          refine (h5a.rmat hu1 hr1).mono ?_
          rintro e u' ⟨ma2', mc2', rfl, hM2', hbn, h5b⟩
          have hM2 := hM2.below hbn
          refine ⟨(by have := HS.out _ _ _ h5b; first | exact this | (rw [hp] at this; exact this)), ?_⟩
          refine iW_mid rfl rfl ?_
          go_simp
          go_at_call 24
          refine (SameMatrix_any _ (newV st R C).r (newV st R C).c (newV st R C).r (newV st R C).c ma2 ma2' ((newV st R C).list (ws.set q x)) ((newV st R C).list (ws.set q x)) mc2 mc2' hM2 hM2' (list_words hWd2) (list_words hWd2) (h5b.list_small hu1 _) (h5b.list_small hu1 _)).mono ?_
          rintro e u' ⟨rfl, hbn⟩
          rw [sameM_refl]
          have h5c := h5b.below hbn
          refine ⟨(by have := HS.out _ _ _ h5c; first | exact this | (rw [hp] at this; exact this)), ?_⟩
          iterate 2 (refine iW_take (v := ?_) rfl rfl ?_ ?_; rotate_left; (next => (intro w' hSw; (try dsimp only at hSw); obtain ⟨hS1, hS2, hS3, hS4⟩ := hSw; go_simp; (try with_reducible rfl))); (simp only [Act.put, List.setIfInBounds_toArray, List.set_cons_zero, List.set_cons_succ]))
          refine iW_mid rfl rfl ?_
          go_simp
          go_at_call 21
          refine (known07 _).mono ?_
          rintro e u' ⟨rfl, hbn⟩
          have h6 := h5c.below hbn
          refine ⟨(by have := HS.out _ _ _ h6; first | exact this | (rw [hp] at this; exact this)), ?_⟩
          refine iW_nil ?_
          (try simp only [List.drop])
          go_wp2
          refine NoPanic.normal ?_
          go_wp2
          go_ret
          exact ⟨rfl, h6.base⟩
end Go.Proofs.Ytpjdibanjmmbkaa
