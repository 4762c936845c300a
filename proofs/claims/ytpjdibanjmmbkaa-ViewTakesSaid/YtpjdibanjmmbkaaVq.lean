/- The statement's own function: a view takes another's floats. -/
import Derived.Test.YtpjdibanjmmbkaaPt
import Derived.Test.YtpjdibanjmmbkaaVs
import Derived.Test.YtpjdibanjmmbkaaVo
import Derived.Test.YtpjdibanjmmbkaaNq6
namespace Go.Proofs.Ytpjdibanjmmbkaa
open Go Go.RowKit
set_option maxRecDepth 100000

theorem RefV.itc2 {P : Nat → Prop} {W : World} {da ea aa : Option Addr} {dn dc en ec m ac : Nat} {r c : Int} {b : Bool} {v : Vw} (h : RefV P W da dn dc v (.agg #[.slice ea en ec, .int .i64 r, .int .i64 c, .slice aa m ac, .bool b])) : Itc W aa v.pls ∧ (v.p.isSome = true → ea = da ∧ en = dn ∧ ec = dc) := by
  obtain ⟨ea', en', ec', aa', ac', h1, h2, _, h4, _⟩ := h
  simp only [Value.agg.injEq, Array.mk.injEq, List.cons.injEq, Value.slice.injEq, and_true] at h1
  obtain ⟨⟨rfl, rfl, rfl⟩, _, _, ⟨rfl, _, rfl⟩, _⟩ := h1
  exact ⟨h4, h2⟩

theorem PV.abs {k : PC} {rl : List (Vw × Value)} {b2 bl : List (Nat × List Value)} {s t : List Nat} {W : World} (h : PV k rl (b2 ++ bl) s t W) : ∃ bl', (∀ q ∈ b2, q ∈ bl') ∧ (∀ q ∈ bl, q ∈ bl') ∧ PV k rl bl' s t W :=
  ⟨b2 ++ bl, fun _ hq => List.mem_append.2 (.inl hq), fun _ hq => List.mem_append.2 (.inr hq), h⟩
theorem PV.add {k : PC} {rl : List (Vw × Value)} {bl : List (Nat × List Value)} {s t : List Nat} {W : World} {n : Nat} {cs : List Value} (h : PV k rl bl s t W) (hb : Box W n cs) (h1 : n ≠ k.sb) (h2 : n ≠ k.db) : ∃ bl', (∀ q ∈ bl, q ∈ bl') ∧ (n, cs) ∈ bl' ∧ PV k rl bl' s t W :=
  ⟨[(n, cs)] ++ bl, fun _ hq => List.mem_append.2 (.inr hq), List.mem_append.2 (.inl (List.Mem.head _)), h.more fun q hq => by simp only [List.mem_cons, List.not_mem_nil, or_false] at hq; subst hq; exact ⟨hb, h1, h2⟩⟩
theorem words_tkN {wo ws : List Nat} (ho : Words wo) (h : Words ws) (v o : Vw) : ∀ k, Words (tkN v o wo ws k)
  | 0 => h
  | k + 1 => by rw [tkN_succ]; exact words_set (words_tkN ho h v o k) (ho.at _) _
theorem words_take {wo ws : List Nat} (ho : Words wo) (h : Words ws) (v o : Vw) : Words (v.take o wo ws) := by
  by_cases hz : takeE v o = 0
  · rw [take_tkN hz]; exact words_tkN ho h v o _
  · unfold Vw.take; rw [if_neg hz]; exact h
theorem words_foldl {x : Nat} (hx : x < 18446744073709551616) : ∀ (l : List Nat) {ws : List Nat}, Words ws → Words (l.foldl (fun s p => s.set p x) ws)
  | [], _, h => h
  | p :: l, _, h => by rw [List.foldl_cons]; exact words_foldl hx l (words_set h hx p)
theorem words_flN {ws : List Nat} (h : Words ws) {x : Nat} (hx : x < 18446744073709551616) (v : Vw) (n : Nat) : Words (flN v x ws n) := words_foldl hx _ h

set_option maxHeartbeats 32000000 in
theorem takes_in (w : World) (R C : Nat) (a : Option Addr) (zs : List Nat) (cap : Nat) (ka : Option Addr) (ks : List Stp) (kc : Nat) (la : Option Addr) (ls : List Stp) (lc : Nat) (x : Nat) (hZ : Cel w a zs) (hWd : Words zs) (hK : Stc w ka ks) (hL : Stc w la ls) (hx : x < 18446744073709551616)
    (hR : R ≤ 512) (hC : C ≤ 512) (hn : zs.length = R * C) (hk : ks.length ≤ 12) (hkl : ls.length ≤ 12) (hb1 : zs.length ≤ 400) :
    Calls Try.prog 10 #[.agg #[.int .i64 R, .int .i64 C, .slice a zs.length cap], .slice ka ks.length kc, .slice la ls.length lc, .float .f64 x] w fun e w' => e = .returned (.bool true) ∧ Below w.heap.size w w' := by
  have hl : zs.length ≤ maxLen := by unfold maxLen; omega
  have HB1 := Lib.hid (fun W => big_any R C a zs.length cap W hl)
  rw [decide_eq_false (show ¬ 400 < zs.length by omega)] at HB1
  have HO1 := Lib.hid (fun (W : World) (hW : Below w.heap.size w W) => open_yes2 W R C a zs cap (hZ.below hW) hR hC hn)
  have hkd : decide (12 < (ks.length : Int)) = false := by simp; omega
  have hkd' : decide (12 < ks.length) = false := by simp; omega
  have hld : decide (12 < (ls.length : Int)) = false := by simp; omega
  have hld' : decide (12 < ls.length) = false := by simp; omega
  have HN := Lib.hid (show zs.length = R * C ∧ R ≤ 512 ∧ C ≤ 512 from ⟨hn, hR, hC⟩)
  have HKL := Lib.hid (show ks.length ≤ 12 ∧ ls.length ≤ 12 ∧ zs.length ≤ 400 from ⟨hk, hkl, hb1⟩)
  have HX := Lib.hid hx
  clear hn hR hC hk hkl hb1 hl hx
  have x0 : Box (w.alloc (.cells #[.int .i64 R, .int .i64 C, .slice a zs.length cap] 40)) w.heap.size [.int .i64 R, .int .i64 C, .slice a zs.length cap] := Box.newA w [_, _, _] _ rfl
  have hB0 : Below w.heap.size w (w.alloc (.cells #[.int .i64 R, .int .i64 C, .slice a zs.length cap] 40)) := (Below.refl _ _).alloc (Nat.le_refl _) _
  go_enter Try.func10, Try.ntmps10
  go_wp2_with fail
  refine (HB1.out _).mono ?_
  rintro e w1 ⟨rfl, hb1⟩
  have y0 := x0.below hb1
  have hB1 := below_step hB0 hB0.size hb1
  have hlt0 := y0.lt
  clear x0 hB0 hb1
  obtain ⟨a1, a2, a3⟩ := y0.facts
  go_wp2_with fail
  refine (HO1.out _ hB1).mono ?_
  rintro e w5 ⟨st, sb, da, dc, x5, B1, rfl, hst, hsb, hst2, hsb2, hS1, hV1, hD1, hb5⟩
  obtain ⟨ea, en, ec, aa, ac, rfl, g1, g2, g3, g4⟩ := hV1
  have hV1 := (show RefV (fun b => B1 ≤ b ∧ ∀ g o, da = some ⟨g, o, none⟩ → g ≠ b) w5 da zs.length dc (newV st R C) _ from ⟨ea, en, ec, aa, ac, rfl, g1, g2, g3, g4⟩)
  clear g1 g2 g3 g4
  rw [show (newV st R C).r = R from rfl, show (newV st R C).c = C from rfl, show (newV st R C).p.isSome = true from rfl]
  rw [show (newV st R C).r = R from rfl, show (newV st R C).c = C from rfl, show (newV st R C).p.isSome = true from rfl] at hV1
  have hB5 := below_step hB1 hB1.size hb5
  have s5 := hB5.size
  obtain ⟨db, hdb, hdb2⟩ : ∃ db, (∀ g o, da = some ⟨g, o, none⟩ → g = db) ∧ ((da = none ∧ db = w.heap.size) ∨ (B1 ≤ db ∧ db < w5.heap.size ∧ ∃ o, da = some ⟨db, o, none⟩)) := by
    rcases hD1.2 with ⟨h0, _⟩ | ⟨g, cap', cur, h0, _⟩
    · simp only [Value.slice.injEq] at h0
      exact ⟨w.heap.size, fun g o e => (by rw [h0.1] at e; cases e), .inl ⟨h0.1, rfl⟩⟩
    · have hl5 := hD1.lt g (by rw [h0]; rfl)
      simp only [Value.slice.injEq] at h0
      refine ⟨g, fun g' o e => ?_, .inr ⟨hl5.1, hl5.2, 0, h0.1⟩⟩
      rw [h0.1] at e
      simp only [Option.some.injEq, Addr.mk.injEq] at e
      exact e.1.symm
  have hstne : st ≠ sb ∧ st < w5.heap.size ∧ sb < w5.heap.size := by
    obtain ⟨st', est, k1, k2, _⟩ := hS1
    obtain rfl : st = st' := by simpa using est
    exact ⟨Sto.ne k1 k2, k1.lt, k2.lt⟩
  have hV1 : RefV (fun b => b < w5.heap.size ∧ b ≠ sb ∧ b ≠ db) w5 da zs.length dc (newV st R C) (Value.agg #[.slice ea en ec, .int .i64 R, .int .i64 C, .slice aa (R * C) ac, .bool true]) := by
    refine (RefV.lt hV1).imp fun b hb => ?_
    refine ⟨hb.2, by have := hb.1.1; omega, ?_⟩
    rcases hdb2 with ⟨_, h2⟩ | ⟨_, _, o, h3⟩
    · have := hb.1.1; have := hB1.size; omega
    · exact fun e => hb.1.2 db o h3 e.symm
  have V7 : Box ((w5.alloc (.cells #[.pointer (some ⟨st, 0, none⟩), .int .i64 R, .int .i64 C, .int .i64 (0 : Nat), .int .i64 C, .int .i64 (1 : Nat)] 45)).alloc (.cells #[.slice ea en ec, .int .i64 R, .int .i64 C, .slice aa (R * C) ac, .bool true] 48)) w5.heap.size [.pointer (some ⟨st, 0, none⟩), .int .i64 R, .int .i64 C, .int .i64 (0 : Nat), .int .i64 C, .int .i64 (1 : Nat)] := (Box.newA _ _ _ rfl).alloc _
  have V8 : Box ((w5.alloc (.cells #[.pointer (some ⟨st, 0, none⟩), .int .i64 R, .int .i64 C, .int .i64 (0 : Nat), .int .i64 C, .int .i64 (1 : Nat)] 45)).alloc (.cells #[.slice ea en ec, .int .i64 R, .int .i64 C, .slice aa (R * C) ac, .bool true] 48)) (w5.heap.size + 1) [.slice ea en ec, .int .i64 R, .int .i64 C, .slice aa (R * C) ac, .bool true] := Box.newA _ [_, _, _, _, _] _ (by simp)
  have hA5 : Below w5.heap.size w5 ((w5.alloc (.cells #[.pointer (some ⟨st, 0, none⟩), .int .i64 R, .int .i64 C, .int .i64 (0 : Nat), .int .i64 C, .int .i64 (1 : Nat)] 45)).alloc (.cells #[.slice ea en ec, .int .i64 R, .int .i64 C, .slice aa (R * C) ac, .bool true] 48)) := ((Below.refl _ _).alloc (Nat.le_refl _) _).alloc (by simp) _
  have hz5 : ((w5.alloc (.cells #[.pointer (some ⟨st, 0, none⟩), .int .i64 R, .int .i64 C, .int .i64 (0 : Nat), .int .i64 C, .int .i64 (1 : Nat)] 45)).alloc (.cells #[.slice ea en ec, .int .i64 R, .int .i64 C, .slice aa (R * C) ac, .bool true] 48)).heap.size = w5.heap.size + 2 := by simp
  have hlo : w.heap.size ≤ sb ∧ w.heap.size ≤ db := by
    have := hB1.size
    refine ⟨by omega, ?_⟩
    rcases hdb2 with ⟨_, h2⟩ | ⟨h2, _⟩
    · omega
    · omega
  have hne : sb ≠ db ∧ st ≠ db ∧ db < w5.heap.size := by
    rcases hdb2 with ⟨_, h2⟩ | ⟨h2, h3, _⟩
    · exact ⟨by omega, by omega, by omega⟩
    · exact ⟨by omega, by omega, h3⟩
  clear a1 a2 a3 y0 hb5 hB1 hdb2
  go_wp2_with fail
  generalize ((w5.alloc (.cells #[.pointer (some ⟨st, 0, none⟩), .int .i64 R, .int .i64 C, .int .i64 (0 : Nat), .int .i64 C, .int .i64 (1 : Nat)] 45)).alloc (.cells #[.slice ea en ec, .int .i64 R, .int .i64 C, .slice aa (R * C) ac, .bool true] 48)) = W7 at *
  have hcu := cut_any W7 (newV st R C) _ da zs.length dc _ ka ks kc (hK.below (below_step hB5 s5 hA5)) HKL.out.1 (newV_bnd HN.out.2.1 HN.out.2.2) (hV1.below hA5)
  refine hcu.mono ?_
  clear hcu
  rintro e w8 ⟨x2, rfl, hV2, hb8⟩
  have hV2 := RefV.lt hV2
  have s8 := hb8.size
  obtain ⟨fa, fna, fca, ga, gca, rfl, g1, g2, g3, g4⟩ := hV2
  have hV2 := (show RefV (fun b => (((b < w5.heap.size ∧ b ≠ sb ∧ b ≠ db) ∨ W7.heap.size ≤ b) ∧ b < w8.heap.size)) w8 da zs.length dc (cutV (newV st R C) ks) _ from ⟨fa, fna, fca, ga, gca, rfl, g1, g2, g3, g4⟩)
  clear g1 g2 g3 g4
  have hok1 : ∀ (W : World) (s : List Nat), s.length = zs.length → Sto W (some ⟨st, 0, none⟩) sb s → (newV st R C).Ok W sb s := fun W s hs hW => newV_ok hW HN.out.2.1 HN.out.2.2 (by rw [hs]; exact HN.out.1)
  have hok : ∀ (W : World) (s : List Nat), s.length = zs.length → Sto W (some ⟨st, 0, none⟩) sb s → (cutV (newV st R C) ks).Ok W sb s := fun W s hs hW => cutV_ok ks (hok1 W s hs hW)
  have hpp : (cutV (newV st R C) ks).p = none ∨ (cutV (newV st R C) ks).p = some ⟨st, 0, none⟩ := cutV_p ks (newV st R C)
  have hok' : ∀ (W : World) (s : List Nat), s.length = zs.length → Sto W (some ⟨st, 0, none⟩) sb s → (cutV (newV st R C) ls).Ok W sb s := fun W s hs hW => cutV_ok ls (hok1 W s hs hW)
  have hpp' : (cutV (newV st R C) ls).p = none ∨ (cutV (newV st R C) ls).p = some ⟨st, 0, none⟩ := cutV_p ls (newV st R C)
  have HC2 : Hid (∀ W, Below w8.heap.size w8 W → Calls Try.prog 23 #[(.agg #[.pointer (some ⟨st, 0, none⟩), .int .i64 R, .int .i64 C, .int .i64 (0 : Nat), .int .i64 C, .int .i64 (1 : Nat)]), (Value.agg #[.slice ea en ec, .int .i64 R, .int .i64 C, .slice aa (R * C) ac, .bool true]), .slice la ls.length lc] W fun e w' => ∃ x', e = .returned (.tuple #[(.agg #[.pointer (cutV (newV st R C) ls).p, .int .i64 (cutV (newV st R C) ls).r, .int .i64 (cutV (newV st R C) ls).c, .int .i64 (cutV (newV st R C) ls).o, .int .i64 (cutV (newV st R C) ls).d, .int .i64 (cutV (newV st R C) ls).u]), x']) ∧ RefV (fun b => (b < w5.heap.size ∧ b ≠ sb ∧ b ≠ db) ∨ W.heap.size ≤ b) w' da zs.length dc (cutV (newV st R C) ls) x' ∧ Below W.heap.size W w') := fun W hW =>
    cut_any W (newV st R C) _ da zs.length dc _ la ls lc (hL.below (below_step (below_step (below_step hB5 s5 hA5) (below_step hB5 s5 hA5).size hb8) (below_step (below_step hB5 s5 hA5) (below_step hB5 s5 hA5).size hb8).size hW)) HKL.out.2.1 (newV_bnd HN.out.2.1 HN.out.2.2) (((hV1.below hA5).below hb8).below hW)
  generalize cutV (newV st R C) ks = v at *
  generalize cutV (newV st R C) ls = u at *
  have V7d := V7.below hb8
  have V8d := V8.below hb8
  have hB8 := below_step (below_step hB5 s5 hA5) (below_step hB5 s5 hA5).size hb8
  have h58 := below_step hA5 hA5.size hb8
  have hV1 := (hV1.below hA5).below hb8
  clear V7 V8
  have V9 : Box ((w8.alloc (.cells #[.pointer v.p, .int .i64 v.r, .int .i64 v.c, .int .i64 v.o, .int .i64 v.d, .int .i64 v.u] 45)).alloc (.cells #[.slice fa fna fca, .int .i64 v.r, .int .i64 v.c, .slice ga (v.r * v.c) gca, .bool v.p.isSome] 48)) w8.heap.size [.pointer v.p, .int .i64 v.r, .int .i64 v.c, .int .i64 v.o, .int .i64 v.d, .int .i64 v.u] := (Box.newA _ _ _ rfl).alloc _
  have V10 : Box ((w8.alloc (.cells #[.pointer v.p, .int .i64 v.r, .int .i64 v.c, .int .i64 v.o, .int .i64 v.d, .int .i64 v.u] 45)).alloc (.cells #[.slice fa fna fca, .int .i64 v.r, .int .i64 v.c, .slice ga (v.r * v.c) gca, .bool v.p.isSome] 48)) (w8.heap.size + 1) [.slice fa fna fca, .int .i64 v.r, .int .i64 v.c, .slice ga (v.r * v.c) gca, .bool v.p.isSome] := Box.newA _ [_, _, _, _, _] _ (by simp)
  have hA8 : Below w8.heap.size w8 ((w8.alloc (.cells #[.pointer v.p, .int .i64 v.r, .int .i64 v.c, .int .i64 v.o, .int .i64 v.d, .int .i64 v.u] 45)).alloc (.cells #[.slice fa fna fca, .int .i64 v.r, .int .i64 v.c, .slice ga (v.r * v.c) gca, .bool v.p.isSome] 48)) := ((Below.refl _ _).alloc (Nat.le_refl _) _).alloc (by simp) _
  have hz8 : ((w8.alloc (.cells #[.pointer v.p, .int .i64 v.r, .int .i64 v.c, .int .i64 v.o, .int .i64 v.d, .int .i64 v.u] 45)).alloc (.cells #[.slice fa fna fca, .int .i64 v.r, .int .i64 v.c, .slice ga (v.r * v.c) gca, .bool v.p.isSome] 48)).heap.size = w8.heap.size + 2 := by simp
  obtain ⟨a1, a2, a3⟩ := V7d.facts
  obtain ⟨a4, a5, a6⟩ := V8d.facts
  have n1 : w5.heap.size ≠ w8.heap.size := by omega
  have n2 : w5.heap.size ≠ w8.heap.size + 1 := by omega
  have n3 : w5.heap.size < w8.heap.size + 1 := by omega
  have n4 : w5.heap.size + 1 ≠ w8.heap.size := by omega
  have n5 : w5.heap.size + 1 ≠ w8.heap.size + 1 := by omega
  have n6 : w5.heap.size + 1 < w8.heap.size + 1 := by omega
  go_wp2_with fail
  refine (HC2.out _ hA8).mono ?_
  clear HC2 a1 a2 a3 a4 a5 a6 n1 n2 n3 n4 n5 n6
  generalize ((w8.alloc (.cells #[.pointer v.p, .int .i64 v.r, .int .i64 v.c, .int .i64 v.o, .int .i64 v.d, .int .i64 v.u] 45)).alloc (.cells #[.slice fa fna fca, .int .i64 v.r, .int .i64 v.c, .slice ga (v.r * v.c) gca, .bool v.p.isSome] 48)) = W9 at *
  rintro e w10 ⟨x3, rfl, hV3, hb10⟩
  have hV3 := RefV.lt hV3
  have s10 := hb10.size
  obtain ⟨fd, fnd, fcd, gd, gcd, rfl, g1, g2, g3, g4⟩ := hV3
  have hV3 := (show RefV (fun b => (((b < w5.heap.size ∧ b ≠ sb ∧ b ≠ db) ∨ W9.heap.size ≤ b) ∧ b < w10.heap.size)) w10 da zs.length dc u _ from ⟨fd, fnd, fcd, gd, gcd, rfl, g1, g2, g3, g4⟩)
  clear g1 g2 g3 g4
  have hA10' : Below w8.heap.size w8 w10 := below_step hA8 hA8.size hb10
  have V7e := V7d.below hA10'
  have V8e := V8d.below hA10'
  have V9e := V9.below hb10
  have V10e := V10.below hb10
  have hV1 := hV1.below hA10'
  have hV2 := hV2.below hA10'
  have V11 : Box ((w10.alloc (.cells #[.pointer u.p, .int .i64 u.r, .int .i64 u.c, .int .i64 u.o, .int .i64 u.d, .int .i64 u.u] 45)).alloc (.cells #[.slice fd fnd fcd, .int .i64 u.r, .int .i64 u.c, .slice gd (u.r * u.c) gcd, .bool u.p.isSome] 48)) w10.heap.size [.pointer u.p, .int .i64 u.r, .int .i64 u.c, .int .i64 u.o, .int .i64 u.d, .int .i64 u.u] := (Box.newA _ _ _ rfl).alloc _
  have V12 : Box ((w10.alloc (.cells #[.pointer u.p, .int .i64 u.r, .int .i64 u.c, .int .i64 u.o, .int .i64 u.d, .int .i64 u.u] 45)).alloc (.cells #[.slice fd fnd fcd, .int .i64 u.r, .int .i64 u.c, .slice gd (u.r * u.c) gcd, .bool u.p.isSome] 48)) (w10.heap.size + 1) [.slice fd fnd fcd, .int .i64 u.r, .int .i64 u.c, .slice gd (u.r * u.c) gcd, .bool u.p.isSome] := Box.newA _ [_, _, _, _, _] _ (by simp)
  have hA10 : Below w10.heap.size w10 ((w10.alloc (.cells #[.pointer u.p, .int .i64 u.r, .int .i64 u.c, .int .i64 u.o, .int .i64 u.d, .int .i64 u.u] 45)).alloc (.cells #[.slice fd fnd fcd, .int .i64 u.r, .int .i64 u.c, .slice gd (u.r * u.c) gcd, .bool u.p.isSome] 48)) := ((Below.refl _ _).alloc (Nat.le_refl _) _).alloc (by simp) _
  have hz10 : ((w10.alloc (.cells #[.pointer u.p, .int .i64 u.r, .int .i64 u.c, .int .i64 u.o, .int .i64 u.d, .int .i64 u.u] 45)).alloc (.cells #[.slice fd fnd fcd, .int .i64 u.r, .int .i64 u.c, .slice gd (u.r * u.c) gcd, .bool u.p.isSome] 48)).heap.size = w10.heap.size + 2 := by simp
  obtain ⟨a1, a2, a3⟩ := V11.facts
  go_wp2_with fail
  clear a1 a2 a3
  obtain ⟨rl, hrl⟩ : ∃ rl, rl = [(newV st R C, (Value.agg #[.slice ea en ec, .int .i64 R, .int .i64 C, .slice aa (R * C) ac, .bool true])), (v, (Value.agg #[.slice fa fna fca, .int .i64 v.r, .int .i64 v.c, .slice ga (v.r * v.c) gca, .bool v.p.isSome])), (u, (Value.agg #[.slice fd fnd fcd, .int .i64 u.r, .int .i64 u.c, .slice gd (u.r * u.c) gcd, .bool u.p.isSome]))] := ⟨_, rfl⟩
  have hr1 : (newV st R C, (Value.agg #[.slice ea en ec, .int .i64 R, .int .i64 C, .slice aa (R * C) ac, .bool true])) ∈ rl := by rw [hrl]; exact List.Mem.head _
  have hr2 : (v, (Value.agg #[.slice fa fna fca, .int .i64 v.r, .int .i64 v.c, .slice ga (v.r * v.c) gca, .bool v.p.isSome])) ∈ rl := by rw [hrl]; exact List.Mem.tail _ (List.Mem.head _)
  have hr3 : (u, (Value.agg #[.slice fd fnd fcd, .int .i64 u.r, .int .i64 u.c, .slice gd (u.r * u.c) gcd, .bool u.p.isSome])) ∈ rl := by rw [hrl]; exact List.Mem.tail _ (List.Mem.tail _ (List.Mem.head _))
  have h0 : PV (⟨w, st, sb, db, B1, da, zs.length, dc⟩ : PC) rl [(w5.heap.size, ([.pointer (some ⟨st, 0, none⟩), .int .i64 R, .int .i64 C, .int .i64 (0 : Nat), .int .i64 C, .int .i64 (1 : Nat)] : List Value)), (w5.heap.size + 1, ([.slice ea en ec, .int .i64 R, .int .i64 C, .slice aa (R * C) ac, .bool true] : List Value)), (w8.heap.size, ([.pointer v.p, .int .i64 v.r, .int .i64 v.c, .int .i64 v.o, .int .i64 v.d, .int .i64 v.u] : List Value)), (w8.heap.size + 1, ([.slice fa fna fca, .int .i64 v.r, .int .i64 v.c, .slice ga (v.r * v.c) gca, .bool v.p.isSome] : List Value)), (w10.heap.size, ([.pointer u.p, .int .i64 u.r, .int .i64 u.c, .int .i64 u.o, .int .i64 u.d, .int .i64 u.u] : List Value)), (w10.heap.size + 1, ([.slice fd fnd fcd, .int .i64 u.r, .int .i64 u.c, .slice gd (u.r * u.c) gcd, .bool u.p.isSome] : List Value))] zs zs ((w10.alloc (.cells #[.pointer u.p, .int .i64 u.r, .int .i64 u.c, .int .i64 u.o, .int .i64 u.d, .int .i64 u.u] 45)).alloc (.cells #[.slice fd fnd fcd, .int .i64 u.r, .int .i64 u.c, .slice gd (u.r * u.c) gcd, .bool u.p.isSome] 48)) := by
    have hb5T : Below w5.heap.size w5 ((w10.alloc (.cells #[.pointer u.p, .int .i64 u.r, .int .i64 u.c, .int .i64 u.o, .int .i64 u.d, .int .i64 u.u] 45)).alloc (.cells #[.slice fd fnd fcd, .int .i64 u.r, .int .i64 u.c, .slice gd (u.r * u.c) gcd, .bool u.p.isSome] 48)) := below_step (below_step h58 h58.size hA10') (below_step h58 h58.size hA10').size hA10
    refine ⟨hS1.below hb5T, ownsRow_dn hD1 hb5T, hdb, ⟨hne.1, hne.2.1, hstne.1⟩, hlo, rfl, below_step (below_step hB8 hB8.size hA10') (below_step hB8 hB8.size hA10').size hA10, ?_, ?_⟩
    · rw [hrl]
      rintro q hq
      simp only [List.mem_cons, List.not_mem_nil, or_false] at hq
      rcases hq with rfl | rfl | rfl
      · exact (hV1.below hA10).imp fun b hb => ⟨hb.2.1, hb.2.2⟩
      · exact (hV2.below hA10).imp fun b hb => (by dsimp only; omega)
      · exact (hV3.below hA10).imp fun b hb => (by dsimp only; omega)
    · rintro q hq
      simp only [List.mem_cons, List.not_mem_nil, or_false] at hq
      rcases hq with rfl | rfl | rfl | rfl | rfl | rfl
      · exact ⟨V7e.below hA10, (by dsimp only; omega), (by dsimp only; omega)⟩
      · exact ⟨V8e.below hA10, (by dsimp only; omega), (by dsimp only; omega)⟩
      · exact ⟨V9e.below hA10, (by dsimp only; omega), (by dsimp only; omega)⟩
      · exact ⟨V10e.below hA10, (by dsimp only; omega), (by dsimp only; omega)⟩
      · exact ⟨V11, (by dsimp only; omega), (by dsimp only; omega)⟩
      · exact ⟨V12, (by dsimp only; omega), (by dsimp only; omega)⟩
  have hu1 : PU (⟨w, st, sb, db, B1, da, zs.length, dc⟩ : PC) (newV st R C) := hok1
  have hu2 : PU (⟨w, st, sb, db, B1, da, zs.length, dc⟩ : PC) v := hok
  have hu3 : PU (⟨w, st, sb, db, B1, da, zs.length, dc⟩ : PC) u := hok'
  have hp1 : PP (⟨w, st, sb, db, B1, da, zs.length, dc⟩ : PC) (newV st R C) := .inr rfl
  have hp2 : PP (⟨w, st, sb, db, B1, da, zs.length, dc⟩ : PC) v := hpp
  have hp3 : PP (⟨w, st, sb, db, B1, da, zs.length, dc⟩ : PC) u := hpp'
  have hdl0 : db < ((w10.alloc (.cells #[.pointer u.p, .int .i64 u.r, .int .i64 u.c, .int .i64 u.o, .int .i64 u.d, .int .i64 u.u] 45)).alloc (.cells #[.slice fd fnd fcd, .int .i64 u.r, .int .i64 u.c, .slice gd (u.r * u.c) gcd, .bool u.p.isSome] 48)).heap.size := by omega
  have hm1a : ∀ {W s t bl}, PV (⟨w, st, sb, db, B1, da, zs.length, dc⟩ : PC) rl bl s t W → (w5.heap.size, ([.pointer (some ⟨st, 0, none⟩), .int .i64 R, .int .i64 C, .int .i64 (0 : Nat), .int .i64 C, .int .i64 (1 : Nat)] : List Value)) ∈ bl → db < W.heap.size := fun h hm => by have := (h.box _ hm).1.lt; dsimp only at this; omega
  obtain ⟨bl, m1, m2, m3, m4, m5, m6, h0⟩ : ∃ bl : List (Nat × List Value), (w5.heap.size, ([.pointer (some ⟨st, 0, none⟩), .int .i64 R, .int .i64 C, .int .i64 (0 : Nat), .int .i64 C, .int .i64 (1 : Nat)] : List Value)) ∈ bl ∧ (w5.heap.size + 1, ([.slice ea en ec, .int .i64 R, .int .i64 C, .slice aa (R * C) ac, .bool true] : List Value)) ∈ bl ∧ (w8.heap.size, ([.pointer v.p, .int .i64 v.r, .int .i64 v.c, .int .i64 v.o, .int .i64 v.d, .int .i64 v.u] : List Value)) ∈ bl ∧ (w8.heap.size + 1, ([.slice fa fna fca, .int .i64 v.r, .int .i64 v.c, .slice ga (v.r * v.c) gca, .bool v.p.isSome] : List Value)) ∈ bl ∧ (w10.heap.size, ([.pointer u.p, .int .i64 u.r, .int .i64 u.c, .int .i64 u.o, .int .i64 u.d, .int .i64 u.u] : List Value)) ∈ bl ∧ (w10.heap.size + 1, ([.slice fd fnd fcd, .int .i64 u.r, .int .i64 u.c, .slice gd (u.r * u.c) gcd, .bool u.p.isSome] : List Value)) ∈ bl ∧ PV (⟨w, st, sb, db, B1, da, zs.length, dc⟩ : PC) rl bl zs zs ((w10.alloc (.cells #[.pointer u.p, .int .i64 u.r, .int .i64 u.c, .int .i64 u.o, .int .i64 u.d, .int .i64 u.u] 45)).alloc (.cells #[.slice fd fnd fcd, .int .i64 u.r, .int .i64 u.c, .slice gd (u.r * u.c) gcd, .bool u.p.isSome] 48)) := ⟨_, (List.Mem.head _), (List.Mem.tail _ (List.Mem.head _)), (List.Mem.tail _ (List.Mem.tail _ (List.Mem.head _))), (List.Mem.tail _ (List.Mem.tail _ (List.Mem.tail _ (List.Mem.head _)))), (List.Mem.tail _ (List.Mem.tail _ (List.Mem.tail _ (List.Mem.tail _ (List.Mem.head _))))), (List.Mem.tail _ (List.Mem.tail _ (List.Mem.tail _ (List.Mem.tail _ (List.Mem.tail _ (List.Mem.head _)))))), h0⟩
  generalize ((w10.alloc (.cells #[.pointer u.p, .int .i64 u.r, .int .i64 u.c, .int .i64 u.o, .int .i64 u.d, .int .i64 u.u] 45)).alloc (.cells #[.slice fd fnd fcd, .int .i64 u.r, .int .i64 u.c, .slice gd (u.r * u.c) gcd, .bool u.p.isSome] 48)) = W11 at *
  clear hok hok' hok1 hpp hpp' hV1 hV2 hV3 V7d V8d V7e V8e V9 V10 V9e V10e V11 V12 hA8 hz8 hB8 h58 hA5 hz5 hB5 hS1 hD1 hrl hb8 s8 hZ hK hL hb10 s10 hA10 hA10' hz10 hne HB1 HO1
  refine (h0.copy hu3 hdl0).mono ?_
  rintro e w12 ⟨st3, sb3, b2, rfl, hAp, h1⟩
  obtain ⟨hcr, hcc, hcl, hcp⟩ := cpy_facts (h1.ok hu3) st3
  rw [show (cpyV u st3).val = (.agg #[.pointer (cpyV u st3).p, .int .i64 (cpyV u st3).r, .int .i64 (cpyV u st3).c, .int .i64 (cpyV u st3).o, .int .i64 (cpyV u st3).d, .int .i64 (cpyV u st3).u]) from rfl, hcr, hcc]
  clear h0 hdl0
  obtain ⟨bl1, hsA, k1, h1⟩ := h1.abs
  replace m1 := k1 _ m1
  replace m2 := k1 _ m2
  replace m3 := k1 _ m3
  replace m4 := k1 _ m4
  replace m5 := k1 _ m5
  replace m6 := k1 _ m6
  clear k1
  have hd12 := hm1a h1 m1
  have hsl := h1.stlt
  have hl12 : w10.heap.size + 1 < w12.heap.size := (h1.box _ m6).1.lt
  have hA12 : Below w12.heap.size w12 (w12.alloc (.cells #[.pointer (cpyV u st3).p, .int .i64 u.r, .int .i64 u.c, .int .i64 (cpyV u st3).o, .int .i64 (cpyV u st3).d, .int .i64 (cpyV u st3).u] 45)) := (Below.refl _ _).alloc (Nat.le_refl _) _
  have V13 : Box (w12.alloc (.cells #[.pointer (cpyV u st3).p, .int .i64 u.r, .int .i64 u.c, .int .i64 (cpyV u st3).o, .int .i64 (cpyV u st3).d, .int .i64 (cpyV u st3).u] 45)) w12.heap.size [.pointer (cpyV u st3).p, .int .i64 u.r, .int .i64 u.c, .int .i64 (cpyV u st3).o, .int .i64 (cpyV u st3).d, .int .i64 (cpyV u st3).u] := Box.newA w12 [_, _, _, _, _, _] _ rfl
  obtain ⟨bl2, k2, m7, h2⟩ := (h1.below hA12).add V13 (by dsimp only at hsl ⊢; omega) (by dsimp only; omega)
  replace m1 := k2 _ m1
  replace m2 := k2 _ m2
  replace m3 := k2 _ m3
  replace m4 := k2 _ m4
  replace m5 := k2 _ m5
  replace m6 := k2 _ m6
  replace hsA := fun q hq => k2 q (hsA q hq)
  have hd12' := hm1a h2 m1
  have z12 : (w12.alloc (.cells #[.pointer (cpyV u st3).p, .int .i64 u.r, .int .i64 u.c, .int .i64 (cpyV u st3).o, .int .i64 (cpyV u st3).d, .int .i64 (cpyV u st3).u] 45)).heap.size = w12.heap.size + 1 := by simp
  obtain ⟨a1, a2, a3⟩ := h2.facts m6
  have n1 : w10.heap.size + 1 ≠ w12.heap.size := by omega
  go_wp2_with fail
  clear a1 a2 a3
  generalize (w12.alloc (.cells #[.pointer (cpyV u st3).p, .int .i64 u.r, .int .i64 u.c, .int .i64 (cpyV u st3).o, .int .i64 (cpyV u st3).d, .int .i64 (cpyV u st3).u] 45)) = W12 at *
  refine (h2.was hu3 hr3 hd12').mono ?_
  rintro e w13 ⟨wa, wc, b3, rfl, hWas, h3⟩
  obtain ⟨bl3, hsB, k3, h3⟩ := h3.abs
  replace m1 := k3 _ m1
  replace m2 := k3 _ m2
  replace m3 := k3 _ m3
  replace m4 := k3 _ m4
  replace m5 := k3 _ m5
  replace m6 := k3 _ m6
  replace m7 := k3 _ m7
  replace hsA := fun q hq => k3 q (hsA q hq)
  have hd13 := hm1a h3 m1
  have hsl3 := h3.stlt
  have hA13 : Below w13.heap.size w13 (w13.alloc (.cells #[.int .i64 u.r, .int .i64 u.c, .slice wa (u.list zs).length wc] 40)) := (Below.refl _ _).alloc (Nat.le_refl _) _
  have V14 : Box (w13.alloc (.cells #[.int .i64 u.r, .int .i64 u.c, .slice wa (u.list zs).length wc] 40)) w13.heap.size [.int .i64 u.r, .int .i64 u.c, .slice wa (u.list zs).length wc] := Box.newA w13 [_, _, _] _ rfl
  obtain ⟨bl4, k4, m8, h4⟩ := (h3.below hA13).add V14 (by dsimp only at hsl3 ⊢; omega) (by dsimp only; omega)
  replace m1 := k4 _ m1
  replace m2 := k4 _ m2
  replace m3 := k4 _ m3
  replace m4 := k4 _ m4
  replace m5 := k4 _ m5
  replace m6 := k4 _ m6
  replace m7 := k4 _ m7
  replace hsA := fun q hq => k4 q (hsA q hq)
  replace hsB := fun q hq => k4 q (hsB q hq)
  clear k2 k3 k4 h1 h2 h3 hd12 hd12' hsl hl12 hA12 V13 z12
  go_wp2_with fail
  generalize (w13.alloc (.cells #[.int .i64 u.r, .int .i64 u.c, .slice wa (u.list zs).length wc] 40)) = W14 at *
  clear hd13 hsl3 hA13 V14
  have HAP : Hid (∀ s t W, PV (⟨w, st, sb, db, B1, da, zs.length, dc⟩ : PC) rl bl4 s t W → Calls Try.prog 38 #[(.agg #[.pointer (cpyV u st3).p, .int .i64 u.r, .int .i64 u.c, .int .i64 (cpyV u st3).o, .int .i64 (cpyV u st3).d, .int .i64 (cpyV u st3).u])] W fun e w' => ∃ a cap, e = .returned (.agg #[.int .i64 u.r, .int .i64 u.c, .slice a (u.list zs).length cap]) ∧ Cel w' a (u.list zs) ∧ Below W.heap.size W w' ∧ PV (⟨w, st, sb, db, B1, da, zs.length, dc⟩ : PC) rl bl4 s t w') := fun s t W h => by
    have := h.apmat hAp hsA
    rw [hcr, hcc, hcl] at this
    exact this
  have HSH : Hid (∀ s t W, PV (⟨w, st, sb, db, B1, da, zs.length, dc⟩ : PC) rl bl4 s t W → Calls Try.prog 54 #[(.agg #[.pointer (cpyV u st3).p, .int .i64 u.r, .int .i64 u.c, .int .i64 (cpyV u st3).o, .int .i64 (cpyV u st3).d, .int .i64 (cpyV u st3).u]), (.agg #[.pointer (some ⟨st, 0, none⟩), .int .i64 R, .int .i64 C, .int .i64 (0 : Nat), .int .i64 C, .int .i64 (1 : Nat)])] W fun e w' => e = .returned (.bool false) ∧ PV (⟨w, st, sb, db, B1, da, zs.length, dc⟩ : PC) rl bl4 s t w') := fun s t W h => by
    have := h.apsh hAp hsA hcp hp1
    rw [hcr, hcc] at this
    exact this
  have HWas : Hid (∀ s t W, PV (⟨w, st, sb, db, B1, da, zs.length, dc⟩ : PC) rl bl4 s t W → Cel W wa (u.list zs)) := fun s t W h => hWas W fun q hq => (h.box q (hsB q hq)).1
  clear hAp hcr hcc hcl hcp hWas hsA hsB
  generalize (cpyV u st3).p = cp at *
  generalize (cpyV u st3).o = co at *
  generalize (cpyV u st3).d = cd at *
  generalize (cpyV u st3).u = cu at *
  have HDL : Hid (∀ s t W, PV (⟨w, st, sb, db, B1, da, zs.length, dc⟩ : PC) rl bl4 s t W → db < W.heap.size) := fun s t W h => hm1a h m1
  have hwl : Words (u.list zs) := list_words hWd
  have hsl : (u.list zs).length ≤ maxLen := h4.list_small hu3 zs
  clear hm1a
  obtain ⟨S, HS, HSC⟩ : ∃ S : World → Prop, Hid (∀ s t W, PV (⟨w, st, sb, db, B1, da, zs.length, dc⟩ : PC) rl bl4 s t W → S W) ∧ Hid (∀ W, S W → (fun W => (∀ i, W.cell? ⟨w5.heap.size, i, none⟩ = ([.pointer (some ⟨st, 0, none⟩), .int .i64 R, .int .i64 C, .int .i64 (0 : Nat), .int .i64 C, .int .i64 (1 : Nat)] : List Value)[i]?) ∧ (∀ i, W.cell? ⟨w5.heap.size + 1, i, none⟩ = ([.slice ea en ec, .int .i64 R, .int .i64 C, .slice aa (R * C) ac, .bool true] : List Value)[i]?) ∧ (∀ i, W.cell? ⟨w8.heap.size, i, none⟩ = ([.pointer v.p, .int .i64 v.r, .int .i64 v.c, .int .i64 v.o, .int .i64 v.d, .int .i64 v.u] : List Value)[i]?) ∧ (∀ i, W.cell? ⟨w8.heap.size + 1, i, none⟩ = ([.slice fa fna fca, .int .i64 v.r, .int .i64 v.c, .slice ga (v.r * v.c) gca, .bool v.p.isSome] : List Value)[i]?) ∧ (∀ i, W.cell? ⟨w10.heap.size, i, none⟩ = ([.pointer u.p, .int .i64 u.r, .int .i64 u.c, .int .i64 u.o, .int .i64 u.d, .int .i64 u.u] : List Value)[i]?) ∧ (∀ i, W.cell? ⟨w10.heap.size + 1, i, none⟩ = ([.slice fd fnd fcd, .int .i64 u.r, .int .i64 u.c, .slice gd (u.r * u.c) gcd, .bool u.p.isSome] : List Value)[i]?) ∧ (∀ i, W.cell? ⟨w12.heap.size, i, none⟩ = ([.pointer cp, .int .i64 u.r, .int .i64 u.c, .int .i64 co, .int .i64 cd, .int .i64 cu] : List Value)[i]?) ∧ (∀ i, W.cell? ⟨w13.heap.size, i, none⟩ = ([.int .i64 u.r, .int .i64 u.c, .slice wa (u.list zs).length wc] : List Value)[i]?)) W) := ⟨fun W => ∃ s t, PV (⟨w, st, sb, db, B1, da, zs.length, dc⟩ : PC) rl bl4 s t W, fun s t W h => ⟨s, t, h⟩, fun W hh => by obtain ⟨s, t, h⟩ := hh; exact ⟨h.cells m1, h.cells m2, h.cells m3, h.cells m4, h.cells m5, h.cells m6, h.cells m7, h.cells m8⟩⟩
  dsimp only at HSC
  have HU2 := Lib.hid hu2
  have HR2 := Lib.hid hr2
  have HDB := Lib.hid hdb
  have HM3 := Lib.hid m3
  have HM4 := Lib.hid m4
  have HWD := Lib.hid hWd
  have HWL := Lib.hid hwl
  have HSL := Lib.hid hsl
  have HCsh := Lib.hid (fun (s t : List Nat) (W : World) (h : PV (⟨w, st, sb, db, B1, da, zs.length, dc⟩ : PC) rl bl4 s t W) => h.shares hu2 hu3 hp2 hp3)
  have HCrs := Lib.hid (fun (s t : List Nat) (W : World) (h : PV (⟨w, st, sb, db, B1, da, zs.length, dc⟩ : PC) rl bl4 s t W) => h.rshares hu2 hu3 hr2 hr3)
  have HCtk := Lib.hid (fun (s t : List Nat) (W : World) (h : PV (⟨w, st, sb, db, B1, da, zs.length, dc⟩ : PC) rl bl4 s t W) => h.take hu2 hu3)
  have HCrt := Lib.hid (fun (s t : List Nat) (W : World) (h : PV (⟨w, st, sb, db, B1, da, zs.length, dc⟩ : PC) rl bl4 s t W) => h.rtake hu2 hu3 hr2 hr3 (HDL.out _ _ _ h))
  have HCmt := Lib.hid (fun (s t : List Nat) (W : World) (h : PV (⟨w, st, sb, db, B1, da, zs.length, dc⟩ : PC) rl bl4 s t W) => h.mat hu1)
  have HCrm := Lib.hid (fun (s t : List Nat) (W : World) (h : PV (⟨w, st, sb, db, B1, da, zs.length, dc⟩ : PC) rl bl4 s t W) => h.rmat hu1 hr1)
  have HCfl := Lib.hid (fun (s t : List Nat) (W : World) (h : PV (⟨w, st, sb, db, B1, da, zs.length, dc⟩ : PC) rl bl4 s t W) => h.fill hu2 x)
  have HCls := Lib.hid (fun (s t : List Nat) (W : World) (h : PV (⟨w, st, sb, db, B1, da, zs.length, dc⟩ : PC) rl bl4 s t W) (ys : List Nat) => h.list_small hu1 ys)
  have H4 := Lib.hid h4
  clear h4 hu1 hu2 hu3 hr1 hr2 hr3 hp1 hp2 hp3 m1 m2 m3 m4 m5 m6 m7 m8 hdb hWd hwl hsl hst hsb hst2 hsb2 hlo hstne s5 hlt0 hkd hkd' hld hld'
  have h5 := H4.out.drew
  refine wp_region_items 31 [(true, 0), (true, 1), (true, 3), (true, 4), (false, 2), (false, 5), (true, 6), (true, 7), (true, 8), (true, 9), (true, 12), (true, 13), (false, 10), (false, 11), (false, 14), (true, 15), (true, 16), (true, 17), (true, 18), (true, 20), (false, 19), (false, 21), (false, 22), (true, 23), (true, 24), (true, 25), (true, 26), (true, 28), (false, 27), (false, 29), (true, 30)] S (by kernel_rfl) (by kernel_rfl) (HS.out _ _ _ h5) ?_
  iterate 4 (refine iW_take (v := ?_) rfl rfl ?_ ?_; rotate_left; (next => (intro w' hSw; (try dsimp only at hSw); obtain ⟨hS1, hS2, hS3, hS4, hS5, hS6, hS7, hS8⟩ := HSC.out _ hSw; go_simp; (try with_reducible rfl))); (simp only [Act.put, List.setIfInBounds_toArray, List.set_cons_zero, List.set_cons_succ]))
  refine iW_mid rfl rfl ?_
  go_simp
  go_at_call 54
  refine (HCsh.out _ _ _ h5).mono ?_
  rintro e u' ⟨rfl, h6⟩
  clear h5
  refine ⟨HS.out _ _ _ h6, ?_⟩
  refine iW_mid rfl rfl ?_
  go_simp
  go_at_call 55
  refine (HCrs.out _ _ _ h6).mono ?_
  rintro e u' ⟨rfl, h7⟩
  clear h6
  refine ⟨HS.out _ _ _ h7, ?_⟩
  generalize shL v.pls u.pls = sh at *
  have hsh : (sh != sh) = false := bne_self_eq_false sh
  iterate 6 (refine iW_take (v := ?_) rfl rfl ?_ ?_; rotate_left; (next => (intro w' hSw; (try dsimp only at hSw); obtain ⟨hS1, hS2, hS3, hS4, hS5, hS6, hS7, hS8⟩ := HSC.out _ hSw; go_simp; (try with_reducible rfl))); (simp only [Act.put, List.setIfInBounds_toArray, List.set_cons_zero, List.set_cons_succ]))
  refine iW_mid rfl rfl ?_
  go_simp
  go_at_call 56
  refine (HCtk.out _ _ _ h7).mono ?_
  rintro e u' ⟨rfl, h8⟩
  clear h7
  refine ⟨HS.out _ _ _ h8, ?_⟩
  refine iW_mid rfl rfl ?_
  go_simp
  go_at_call 41
  refine (num_any _ _).mono ?_
  rintro e u' ⟨rfl, rfl⟩
  refine ⟨HS.out _ _ _ h8, ?_⟩
  refine iW_mid rfl rfl ?_
  go_simp
  go_at_call 57
  refine (HCrt.out _ _ _ h8).mono ?_
  rintro e u' ⟨rfl, h9⟩
  have hWd1 : Words (v.take u zs zs) := words_take HWD.out HWD.out v u
  refine ⟨HS.out _ _ _ h9, ?_⟩
  generalize takeE v u = te at *
  generalize v.take u zs zs = ws at *
  clear h8
  iterate 5 (refine iW_take (v := ?_) rfl rfl ?_ ?_; rotate_left; (next => (intro w' hSw; (try dsimp only at hSw); obtain ⟨hS1, hS2, hS3, hS4, hS5, hS6, hS7, hS8⟩ := HSC.out _ hSw; go_simp; (try with_reducible rfl))); (simp only [Act.put, List.setIfInBounds_toArray, List.set_cons_zero, List.set_cons_succ]))
  refine iW_mid rfl rfl ?_
  go_simp
  go_at_call 38
  refine (HCmt.out _ _ _ h9).mono ?_
  rintro e u' ⟨ma1, mc1, rfl, hM1, hbn, h9a⟩
  refine ⟨HS.out _ _ _ h9a, ?_⟩
  refine iW_mid rfl rfl ?_
  go_simp
  go_at_call 25
  refine (HCrm.out _ _ _ h9a).mono ?_
  rintro e u' ⟨ma1', mc1', rfl, hM1', hbn, h9b⟩
  have hM1 := hM1.below hbn
  refine ⟨HS.out _ _ _ h9b, ?_⟩
  refine iW_mid rfl rfl ?_
  go_simp
  go_at_call 24
  refine (SameMatrix_any _ (newV st R C).r (newV st R C).c (newV st R C).r (newV st R C).c ma1 ma1' ((newV st R C).list ws) ((newV st R C).list ws) mc1 mc1' hM1 hM1' (list_words hWd1) (list_words hWd1) (HCls.out _ _ _ h9b _) (HCls.out _ _ _ h9b _)).mono ?_
  rintro e u' ⟨rfl, hbn⟩
  rw [sameM_refl]
  have h9c := h9b.below hbn
  refine ⟨HS.out _ _ _ h9c, ?_⟩
  iterate 5 (refine iW_take (v := ?_) rfl rfl ?_ ?_; rotate_left; (next => (intro w' hSw; (try dsimp only at hSw); obtain ⟨hS1, hS2, hS3, hS4, hS5, hS6, hS7, hS8⟩ := HSC.out _ hSw; go_simp; (try with_reducible rfl))); (simp only [Act.put, List.setIfInBounds_toArray, List.set_cons_zero, List.set_cons_succ]))
  refine iW_mid rfl rfl ?_
  go_simp
  go_at_call 38
  refine (HAP.out _ _ _ h9c).mono ?_
  rintro e u' ⟨ma2, mc2, rfl, hM2, hbn, h9ca⟩
  refine ⟨HS.out _ _ _ h9ca, ?_⟩
  refine iW_mid rfl rfl ?_
  go_simp
  go_at_call 24
  refine (SameMatrix_any _ u.r u.c u.r u.c ma2 wa (u.list zs) (u.list zs) mc2 wc hM2 (HWas.out _ _ _ h9ca) HWL.out HWL.out HSL.out HSL.out).mono ?_
  rintro e u' ⟨rfl, hbn⟩
  rw [sameM_refl]
  have h9cc := h9ca.below hbn
  refine ⟨HS.out _ _ _ h9cc, ?_⟩
  iterate 1 (refine iW_take (v := ?_) rfl rfl ?_ ?_; rotate_left; (next => (intro w' hSw; (try dsimp only at hSw); obtain ⟨hS1, hS2, hS3, hS4, hS5, hS6, hS7, hS8⟩ := HSC.out _ hSw; go_simp; (try with_reducible rfl))); (simp only [Act.put, List.setIfInBounds_toArray, List.set_cons_zero, List.set_cons_succ]))
  refine iW_nil ?_
  (try simp only [List.drop])
  obtain ⟨a1, a2, a3⟩ := h9cc.facts HM3.out
  go_wp2
  refine NoPanic.normal ?_
  have hco : ∃ er : Int, (if v.p.isNone then (1 : Int) else 0) = er ∧ ((v.p.isSome = true ∧ er = 0) ∨ (v.p.isSome = false ∧ er = 1)) := by
    cases v.p <;> exact ⟨_, rfl, by simp⟩
  obtain ⟨er, her, hco⟩ := hco
  go_wp2_with fail
  refine (HCfl.out _ _ _ h9cc).mono ?_
  rintro e w15 ⟨rfl, h10⟩
  rw [her]
  clear her a1 a2 a3 h9 h9a h9b h9c h9ca h9cc hM1 hM1' hM2
  go_wp2_with (go_at_call 41; refine (num_any _ _).mono ?_; rintro e w' ⟨rfl, rfl⟩)
  have hw2 : Words (flN v x ws (v.r * v.c)) := words_flN hWd1 HX.out v _
  obtain ⟨ws2, hws2⟩ : ∃ ws2, ws2 = flN v x ws (v.r * v.c) := ⟨_, rfl⟩
  rw [← hws2] at hw2 h10
  have HW2 := Lib.hid hws2
  clear hws2
  have hrc : v.r * v.c ≤ 262144 := by have := (h10.ok HU2.out).small; exact Nat.mul_le_mul this.1 this.2
  go_loopw [19] (fun i wr => ∃ n : Nat, n ≤ v.r * v.c ∧ i = .int .i64 n ∧ PV (⟨w, st, sb, db, B1, da, zs.length, dc⟩ : PC) rl bl4 ws2 (flN v x ws n) wr) (fun i _ => v.r * v.c - (intOf i).toNat)
  case atStart => exact ⟨0, Nat.zero_le _, rfl, h10⟩
  case round =>
    obtain ⟨n, hn, rfl, hP⟩ := hrel
    obtain ⟨a4, a5, a6⟩ := hP.facts HM4.out
    by_cases hlt : n < v.r * v.c
    · have hlt2 : (n : Int) < (v.r : Int) * (v.c : Int) := by rw [← Int.natCast_mul]; exact Int.ofNat_lt.2 hlt
      have hvs : v.p.isSome = true := by
        cases hvp : v.p with
        | some q => rfl
        | none => rw [hP.isnone HU2.out hvp] at hlt; exact absurd hlt (Nat.not_lt_zero _)
      have hpg := pls_get (v := v) (k := n) hlt
      have hql := hP.pls HU2.out _ (List.mem_of_getElem? hpg)
      have hit := (hP.refs _ HR2.out).itc2
      obtain ⟨e1, e2, e3⟩ := hit.2 hvs
      subst e1 e2 e3
      obtain ⟨gb, go, rfl, hgl, hgc⟩ := hit.1 (by intro e; rw [e] at hpg; cases hpg)
      have c0 := hgc n _ hpg
      have HF := Lib.hid (flN_succ hlt x ws)
      generalize v.pl n = q at *
      have hg : ∃ g, fa = some ⟨g, 0, none⟩ := by
        rcases hP.dat.2 with ⟨_, e0⟩ | ⟨g, cap', cur, e1, _⟩
        · have e0' : zs.length = 0 := e0
          have hql' : q < zs.length := hql
          omega
        · simp only [Value.slice.injEq] at e1; exact ⟨g, e1.1⟩
      obtain ⟨g, rfl⟩ := hg
      have hgd := HDB.out g 0 rfl
      subst hgd
      have hql2 : q < zs.length := hql
      have hnb : n + 1 ≤ 262144 := by omega
      clear hgc hpg hql hgl hit
      go_wp2
      have h5 := hP.drew
      have hlw : q < (flN v x ws n).length := by have e := hP.lt; have e' : (flN v x ws n).length = zs.length := e; omega
      have c1 := (h5.dat.cellAt q (by show q < zs.length * 1; omega)).trans (b := ((flN v x ws n).map (Value.float .f64))[q]?) (c := some (Value.float .f64 ((flN v x ws n).getD q 0))) (by simp [hlw])
      have c2 := h5.dat.frozenAt q
      have c3 := (h5.dat.lt g rfl).2
      refine wp_region_items 8 [(true, 0), (true, 1), (true, 2), (true, 3), (true, 4), (true, 5), (true, 6), (true, 7)] (fun W => (∀ i, W.cell? ⟨w8.heap.size + 1, i, none⟩ = ([.slice (some ⟨g, 0, none⟩) zs.length fca, .int .i64 v.r, .int .i64 v.c, .slice (some ⟨gb, go, none⟩) (v.r * v.c) gca, .bool true] : List Value)[i]?) ∧ W.cell? ⟨gb, go + n, none⟩ = some (.int .i64 (q : Int))) (by kernel_rfl) (by kernel_rfl) ⟨(by have := h5.cells HM4.out; rw [hvs] at this; exact this), c0⟩ ?_
      iterate 8 (refine iW_take (v := ?_) rfl rfl ?_ ?_; rotate_left; (next => (intro w' hSw; (try dsimp only at hSw); obtain ⟨hS1, hS2⟩ := hSw; go_simp; (try with_reducible rfl))); (simp only [Act.put, List.setIfInBounds_toArray, List.set_cons_zero, List.set_cons_succ]))
      refine iW_nil ?_
      (try simp only [List.drop])
      go_wp2
      refine NoPanic.normal ?_
      have hst := (h5.dat.stored q (.float .f64 x)).1
      rw [← List.map_set, ← HF.out] at hst
      have h6 := h5.belD ((Bel.refl _ _ _).set _ _) hst
      go_wp2
      go_roundw
      case rel => exact ⟨n + 1, by omega, by go_num, h6⟩
      case measure => simp [intOf]; omega
    · obtain rfl : n = v.r * v.c := by omega
      rw [← HW2.out] at hP
      have hWd3 := hw2
      go_wp2
      rcases hco with ⟨hco, rfl⟩ | ⟨hco, rfl⟩
      · rw [hco] at HSC
        have h11 := hP.drew
        refine wp_region_items 34 [(true, 0), (true, 1), (true, 2), (true, 3), (true, 4), (true, 5), (true, 6), (true, 7), (true, 8), (true, 9), (true, 10), (true, 11), (true, 12), (true, 13), (true, 14), (true, 16), (false, 15), (false, 17), (false, 18), (true, 19), (true, 20), (true, 21), (true, 23), (false, 22), (false, 24), (true, 25), (true, 26), (true, 27), (true, 28), (false, 29), (true, 30), (true, 31), (true, 32), (false, 33)] S (by kernel_rfl) (by kernel_rfl) (HS.out _ _ _ h11) ?_
        iterate 9 (refine iW_take (v := ?_) rfl rfl ?_ ?_; rotate_left; (next => (intro w' hSw; (try dsimp only at hSw); obtain ⟨hS1, hS2, hS3, hS4, hS5, hS6, hS7, hS8⟩ := HSC.out _ hSw; go_simp; (try with_reducible rfl))); (simp only [Act.put, List.setIfInBounds_toArray, List.set_cons_zero, List.set_cons_succ]))
        iterate 2 (refine iW_skip rfl rfl ?_; (simp only [Act.put, List.setIfInBounds_toArray, List.set_cons_zero, List.set_cons_succ]))
        iterate 5 (refine iW_take (v := ?_) rfl rfl ?_ ?_; rotate_left; (next => (intro w' hSw; (try dsimp only at hSw); obtain ⟨hS1, hS2, hS3, hS4, hS5, hS6, hS7, hS8⟩ := HSC.out _ hSw; go_simp; (try with_reducible rfl))); (simp only [Act.put, List.setIfInBounds_toArray, List.set_cons_zero, List.set_cons_succ]))
        refine iW_mid rfl rfl ?_
        go_simp
        go_at_call 38
        refine (HCmt.out _ _ _ h11).mono ?_
        rintro e u' ⟨ma3, mc3, rfl, hM3, hbn, h11a⟩
        refine ⟨HS.out _ _ _ h11a, ?_⟩
        refine iW_mid rfl rfl ?_
        go_simp
        go_at_call 25
        refine (HCrm.out _ _ _ h11a).mono ?_
        rintro e u' ⟨ma3', mc3', rfl, hM3', hbn, h11b⟩
        have hM3 := hM3.below hbn
        refine ⟨HS.out _ _ _ h11b, ?_⟩
        refine iW_mid rfl rfl ?_
        go_simp
        go_at_call 24
        refine (SameMatrix_any _ (newV st R C).r (newV st R C).c (newV st R C).r (newV st R C).c ma3 ma3' ((newV st R C).list ws2) ((newV st R C).list ws2) mc3 mc3' hM3 hM3' (list_words hWd3) (list_words hWd3) (HCls.out _ _ _ h11b _) (HCls.out _ _ _ h11b _)).mono ?_
        rintro e u' ⟨rfl, hbn⟩
        rw [sameM_refl]
        have h11c := h11b.below hbn
        refine ⟨HS.out _ _ _ h11c, ?_⟩
        iterate 4 (refine iW_take (v := ?_) rfl rfl ?_ ?_; rotate_left; (next => (intro w' hSw; (try dsimp only at hSw); obtain ⟨hS1, hS2, hS3, hS4, hS5, hS6, hS7, hS8⟩ := HSC.out _ hSw; go_simp; (try with_reducible rfl))); (simp only [Act.put, List.setIfInBounds_toArray, List.set_cons_zero, List.set_cons_succ]))
        refine iW_mid rfl rfl ?_
        go_simp
        go_at_call 38
        refine (HAP.out _ _ _ h11c).mono ?_
        rintro e u' ⟨ma4, mc4, rfl, hM4, hbn, h11ca⟩
        refine ⟨HS.out _ _ _ h11ca, ?_⟩
        refine iW_mid rfl rfl ?_
        go_simp
        go_at_call 24
        refine (SameMatrix_any _ u.r u.c u.r u.c ma4 wa (u.list zs) (u.list zs) mc4 wc hM4 (HWas.out _ _ _ h11ca) HWL.out HWL.out HSL.out HSL.out).mono ?_
        rintro e u' ⟨rfl, hbn⟩
        rw [sameM_refl]
        have h11cc := h11ca.below hbn
        refine ⟨HS.out _ _ _ h11cc, ?_⟩
        iterate 4 (refine iW_take (v := ?_) rfl rfl ?_ ?_; rotate_left; (next => (intro w' hSw; (try dsimp only at hSw); obtain ⟨hS1, hS2, hS3, hS4, hS5, hS6, hS7, hS8⟩ := HSC.out _ hSw; go_simp; (try with_reducible rfl))); (simp only [Act.put, List.setIfInBounds_toArray, List.set_cons_zero, List.set_cons_succ]))
        refine iW_mid rfl rfl ?_
        go_simp
        go_at_call 54
        refine (HSH.out _ _ _ h11cc).mono ?_
        rintro e u' ⟨rfl, h12⟩
        refine ⟨HS.out _ _ _ h12, ?_⟩
        iterate 3 (refine iW_take (v := ?_) rfl rfl ?_ ?_; rotate_left; (next => (intro w' hSw; (try dsimp only at hSw); obtain ⟨hS1, hS2, hS3, hS4, hS5, hS6, hS7, hS8⟩ := HSC.out _ hSw; go_simp; (try with_reducible rfl))); (simp only [Act.put, List.setIfInBounds_toArray, List.set_cons_zero, List.set_cons_succ]))
        refine iW_mid rfl rfl ?_
        go_simp
        go_at_call 21
        refine (known07 _).mono ?_
        rintro e u' ⟨rfl, hbn⟩
        have h13 := h12.below hbn
        refine ⟨HS.out _ _ _ h13, ?_⟩
        refine iW_nil ?_
        (try simp only [List.drop])
        go_wp2
        refine NoPanic.normal ?_
        go_wp2
        go_ret
        exact ⟨rfl, h13.base⟩
      · rw [hco] at HSC
        have h11 := hP.drew
        refine wp_region_items 34 [(true, 0), (true, 1), (true, 2), (true, 3), (true, 4), (true, 5), (true, 6), (true, 7), (true, 8), (true, 9), (true, 10), (true, 11), (true, 12), (true, 13), (true, 14), (true, 16), (false, 15), (false, 17), (false, 18), (true, 19), (true, 20), (true, 21), (true, 23), (false, 22), (false, 24), (true, 25), (true, 26), (true, 27), (true, 28), (false, 29), (true, 30), (true, 31), (true, 32), (false, 33)] S (by kernel_rfl) (by kernel_rfl) (HS.out _ _ _ h11) ?_
        iterate 16 (refine iW_take (v := ?_) rfl rfl ?_ ?_; rotate_left; (next => (intro w' hSw; (try dsimp only at hSw); obtain ⟨hS1, hS2, hS3, hS4, hS5, hS6, hS7, hS8⟩ := HSC.out _ hSw; go_simp; (try with_reducible rfl))); (simp only [Act.put, List.setIfInBounds_toArray, List.set_cons_zero, List.set_cons_succ]))
        refine iW_mid rfl rfl ?_
        go_simp
        go_at_call 38
        refine (HCmt.out _ _ _ h11).mono ?_
        rintro e u' ⟨ma3, mc3, rfl, hM3, hbn, h11a⟩
        refine ⟨HS.out _ _ _ h11a, ?_⟩
        refine iW_mid rfl rfl ?_
        go_simp
        go_at_call 25
        refine (HCrm.out _ _ _ h11a).mono ?_
        rintro e u' ⟨ma3', mc3', rfl, hM3', hbn, h11b⟩
        have hM3 := hM3.below hbn
        refine ⟨HS.out _ _ _ h11b, ?_⟩
        refine iW_mid rfl rfl ?_
        go_simp
        go_at_call 24
        refine (SameMatrix_any _ (newV st R C).r (newV st R C).c (newV st R C).r (newV st R C).c ma3 ma3' ((newV st R C).list ws2) ((newV st R C).list ws2) mc3 mc3' hM3 hM3' (list_words hWd3) (list_words hWd3) (HCls.out _ _ _ h11b _) (HCls.out _ _ _ h11b _)).mono ?_
        rintro e u' ⟨rfl, hbn⟩
        rw [sameM_refl]
        have h11c := h11b.below hbn
        refine ⟨HS.out _ _ _ h11c, ?_⟩
        iterate 4 (refine iW_take (v := ?_) rfl rfl ?_ ?_; rotate_left; (next => (intro w' hSw; (try dsimp only at hSw); obtain ⟨hS1, hS2, hS3, hS4, hS5, hS6, hS7, hS8⟩ := HSC.out _ hSw; go_simp; (try with_reducible rfl))); (simp only [Act.put, List.setIfInBounds_toArray, List.set_cons_zero, List.set_cons_succ]))
        refine iW_mid rfl rfl ?_
        go_simp
        go_at_call 38
        refine (HAP.out _ _ _ h11c).mono ?_
        rintro e u' ⟨ma4, mc4, rfl, hM4, hbn, h11ca⟩
        refine ⟨HS.out _ _ _ h11ca, ?_⟩
        refine iW_mid rfl rfl ?_
        go_simp
        go_at_call 24
        refine (SameMatrix_any _ u.r u.c u.r u.c ma4 wa (u.list zs) (u.list zs) mc4 wc hM4 (HWas.out _ _ _ h11ca) HWL.out HWL.out HSL.out HSL.out).mono ?_
        rintro e u' ⟨rfl, hbn⟩
        rw [sameM_refl]
        have h11cc := h11ca.below hbn
        refine ⟨HS.out _ _ _ h11cc, ?_⟩
        iterate 4 (refine iW_take (v := ?_) rfl rfl ?_ ?_; rotate_left; (next => (intro w' hSw; (try dsimp only at hSw); obtain ⟨hS1, hS2, hS3, hS4, hS5, hS6, hS7, hS8⟩ := HSC.out _ hSw; go_simp; (try with_reducible rfl))); (simp only [Act.put, List.setIfInBounds_toArray, List.set_cons_zero, List.set_cons_succ]))
        refine iW_mid rfl rfl ?_
        go_simp
        go_at_call 54
        refine (HSH.out _ _ _ h11cc).mono ?_
        rintro e u' ⟨rfl, h12⟩
        refine ⟨HS.out _ _ _ h12, ?_⟩
        iterate 3 (refine iW_take (v := ?_) rfl rfl ?_ ?_; rotate_left; (next => (intro w' hSw; (try dsimp only at hSw); obtain ⟨hS1, hS2, hS3, hS4, hS5, hS6, hS7, hS8⟩ := HSC.out _ hSw; go_simp; (try with_reducible rfl))); (simp only [Act.put, List.setIfInBounds_toArray, List.set_cons_zero, List.set_cons_succ]))
        refine iW_mid rfl rfl ?_
        go_simp
        go_at_call 21
        refine (known07 _).mono ?_
        rintro e u' ⟨rfl, hbn⟩
        have h13 := h12.below hbn
        refine ⟨HS.out _ _ _ h13, ?_⟩
        refine iW_nil ?_
        (try simp only [List.drop])
        go_wp2
        refine NoPanic.normal ?_
        go_wp2
        go_ret
        exact ⟨rfl, h13.base⟩
end Go.Proofs.Ytpjdibanjmmbkaa
