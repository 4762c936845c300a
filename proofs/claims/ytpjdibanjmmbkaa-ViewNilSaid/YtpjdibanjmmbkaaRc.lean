/- A view, and the document's, cut by steps. -/
import Derived.Test.YtpjdibanjmmbkaaRv7
import Derived.Test.YtpjdibanjmmbkaaNq4
namespace Go.Proofs.Ytpjdibanjmmbkaa
open Go Go.RowKit
set_option maxRecDepth 100000

structure Stp where
  K : Int
  A : Int
  B : Int
  C : Int
  D : Int
def stepV (v : Vw) (s : Stp) : Vw := if s.K = 1 then v.T else if s.K = 2 then v.row s.A else if s.K = 3 then v.col s.A else if s.K = 4 then v.part s.A s.B s.C s.D else if s.K = 5 then v.diag else v
def cutV (v : Vw) (l : List Stp) : Vw := l.foldl stepV v
/-- Steps that lie in cells. -/
def Stc (w : World) (a : Option Addr) (ks : List Stp) : Prop := ks ≠ [] → ∃ b off, a = some ⟨b, off, none⟩ ∧ b < w.heap.size ∧ ∀ (i : Nat) (s : Stp), ks[i]? = some s →
  w.cell? ⟨b, off + i * 5, none⟩ = some (.int .i64 s.K) ∧ w.cell? ⟨b, off + i * 5 + 1, none⟩ = some (.int .i64 s.A) ∧ w.cell? ⟨b, off + i * 5 + 2, none⟩ = some (.int .i64 s.B) ∧ w.cell? ⟨b, off + i * 5 + 3, none⟩ = some (.int .i64 s.C) ∧ w.cell? ⟨b, off + i * 5 + 4, none⟩ = some (.int .i64 s.D)
/-- What the rounds hold on to. -/
structure CI (w : World) (P : Nat → Prop) (da : Option Addr) (dn dc : Nat) (v : Vw) (W : World) : Prop where
  b3 : Box W w.heap.size [.pointer v.p, .int .i64 v.r, .int .i64 v.c, .int .i64 v.o, .int .i64 v.d, .int .i64 v.u]
  b4 : ∃ ea en ec aa ac, Box W (w.heap.size + 1) [.slice ea en ec, .int .i64 v.r, .int .i64 v.c, .slice aa (v.r * v.c) ac, .bool v.p.isSome] ∧ RefV (fun b => (P b ∧ b < w.heap.size) ∨ w.heap.size + 4 ≤ b) W da dn dc v (.agg #[.slice ea en ec, .int .i64 v.r, .int .i64 v.c, .slice aa (v.r * v.c) ac, .bool v.p.isSome])
  b6 : Box W (w.heap.size + 2) [.pointer none, .int .i64 0, .int .i64 0, .int .i64 0, .int .i64 0, .int .i64 0]
  b7 : Box W (w.heap.size + 3) [.slice none 0 0, .int .i64 0, .int .i64 0, .slice none 0 0, .bool false]
  below : Below w.heap.size w W
  size : w.heap.size + 4 ≤ W.heap.size
theorem CI.step {w W W' : World} {P : Nat → Prop} {da : Option Addr} {dn dc : Nat} {v : Vw} (h : CI w P da dn dc v W) (hb : Below W.heap.size W W') : CI w P da dn dc v W' := by
  obtain ⟨ea, en, ec, aa, ac, h1, h2⟩ := h.b4
  exact ⟨h.b3.below hb, ⟨ea, en, ec, aa, ac, h1.below hb, h2.below hb⟩, h.b6.below hb, h.b7.below hb, below_step h.below h.below.size hb, Nat.le_trans h.size hb.size⟩
theorem grown_of_belR {W W' : World} {s : Nat} (h : ∀ B, Bel B s W W') : W.grownBy W' (some s) :=
  ⟨(h 0).os, (h 0).tape, (h 0).output, (h 0).size, fun k _ hk => (h (k + 1)).block k (Nat.lt_succ_self _) (fun e => hk (by rw [e]))⟩
theorem Box.other5 {w : World} {n m : Nat} {cs : List Value} (h : Box w n cs) (hne : n ≠ m) (v0 v1 v2 v3 v4 : Value) :
    Box (((((w.setCell ⟨m, 0, none⟩ v0).setCell ⟨m, 1, none⟩ v1).setCell ⟨m, 2, none⟩ v2).setCell ⟨m, 3, none⟩ v3).setCell ⟨m, 4, none⟩ v4) n cs :=
  h.grown (grown_of_belR fun B => Bel.refl5 B v0 v1 v2 v3 v4) (fun r e => by cases e; exact hne)
/-- Behind the two stores. -/
theorem CI.store {w W : World} {P : Nat → Prop} {da : Option Addr} {dn dc B : Nat} {v v' : Vw} {ea aa : Option Addr} {en ec ac : Nat} (h : CI w P da dn dc v W) (hB : w.heap.size + 4 ≤ B)
    (hR : RefV (fun b => B ≤ b) W da dn dc v' (.agg #[.slice ea en ec, .int .i64 v'.r, .int .i64 v'.c, .slice aa (v'.r * v'.c) ac, .bool v'.p.isSome])) :
    CI w P da dn dc v' ((((((((((((W.setCell ⟨w.heap.size, 0, none⟩ (.pointer v'.p)).setCell ⟨w.heap.size, 1, none⟩ (.int .i64 v'.r)).setCell ⟨w.heap.size, 2, none⟩ (.int .i64 v'.c)).setCell ⟨w.heap.size, 3, none⟩ (.int .i64 v'.o)).setCell ⟨w.heap.size, 4, none⟩ (.int .i64 v'.d)).setCell ⟨w.heap.size, 5, none⟩ (.int .i64 v'.u)).setCell ⟨w.heap.size + 1, 0, none⟩ (.slice ea en ec)).setCell ⟨w.heap.size + 1, 1, none⟩ (.int .i64 v'.r)).setCell ⟨w.heap.size + 1, 2, none⟩ (.int .i64 v'.c)).setCell ⟨w.heap.size + 1, 3, none⟩ (.slice aa (v'.r * v'.c) ac)).setCell ⟨w.heap.size + 1, 4, none⟩ (.bool v'.p.isSome))) := by
  obtain ⟨_, _, _, _, _, h1, _⟩ := h.b4
  have hg6 : ∀ B, Bel B w.heap.size W ((((((W.setCell ⟨w.heap.size, 0, none⟩ (.pointer v'.p)).setCell ⟨w.heap.size, 1, none⟩ (.int .i64 v'.r)).setCell ⟨w.heap.size, 2, none⟩ (.int .i64 v'.c)).setCell ⟨w.heap.size, 3, none⟩ (.int .i64 v'.o)).setCell ⟨w.heap.size, 4, none⟩ (.int .i64 v'.d)).setCell ⟨w.heap.size, 5, none⟩ (.int .i64 v'.u)) := fun B => ((((((Bel.refl _ _ _).set _ _).set _ _).set _ _).set _ _).set _ _).set _ _
  have k3 := h.b3.put6 (.pointer v'.p) (.int .i64 v'.r) (.int .i64 v'.c) (.int .i64 v'.o) (.int .i64 v'.d) (.int .i64 v'.u)
  have k4 := h1.other6 (show w.heap.size + 1 ≠ w.heap.size by omega) (.pointer v'.p) (.int .i64 v'.r) (.int .i64 v'.c) (.int .i64 v'.o) (.int .i64 v'.d) (.int .i64 v'.u)
  have k6 := h.b6.other6 (show w.heap.size + 2 ≠ w.heap.size by omega) (.pointer v'.p) (.int .i64 v'.r) (.int .i64 v'.c) (.int .i64 v'.o) (.int .i64 v'.d) (.int .i64 v'.u)
  have k7 := h.b7.other6 (show w.heap.size + 3 ≠ w.heap.size by omega) (.pointer v'.p) (.int .i64 v'.r) (.int .i64 v'.c) (.int .i64 v'.o) (.int .i64 v'.d) (.int .i64 v'.u)
  have hR6 := hR.bel (s := w.heap.size) (by omega) (hg6 _)
  have hs6 := (hg6 0).size
  have hb6 := h.below.trans ((hg6 w.heap.size).below (Nat.le_refl _))
  have hsz := h.size
  clear hg6 h hR h1
  generalize ((((((W.setCell ⟨w.heap.size, 0, none⟩ (.pointer v'.p)).setCell ⟨w.heap.size, 1, none⟩ (.int .i64 v'.r)).setCell ⟨w.heap.size, 2, none⟩ (.int .i64 v'.c)).setCell ⟨w.heap.size, 3, none⟩ (.int .i64 v'.o)).setCell ⟨w.heap.size, 4, none⟩ (.int .i64 v'.d)).setCell ⟨w.heap.size, 5, none⟩ (.int .i64 v'.u)) = W6 at *
  have hg5 := fun B => Bel.refl5 (w := W6) (n := w.heap.size + 1) B (.slice ea en ec) (.int .i64 v'.r) (.int .i64 v'.c) (.slice aa (v'.r * v'.c) ac) (.bool v'.p.isSome)
  refine ⟨k3.other5 (by omega) _ _ _ _ _, ⟨ea, en, ec, aa, ac, k4.put5 _ _ _ _ _, ?_⟩, k6.other5 (by omega) _ _ _ _ _, k7.other5 (by omega) _ _ _ _ _, hb6.trans ((hg5 _).below (by omega)), Nat.le_trans (Nat.le_trans hsz hs6) (hg5 0).size⟩
  exact (hR6.bel (s := w.heap.size + 1) (by omega) (hg5 _)).imp fun b hb => .inr (by omega)

theorem stepV_bnd {v : Vw} {n : Nat} (h : v.Bnd n) (s : Stp) : (stepV v s).Bnd (n + 1) := by
  unfold stepV
  split
  · exact bnd_mono (T_bnd h) (by omega)
  · split
    · exact part_bnd h _ _ _ _
    · split
      · exact part_bnd h _ _ _ _
      · split
        · exact part_bnd h _ _ _ _
        · split
          · exact diag_bnd h
          · exact bnd_mono h (by omega)
theorem cutV_bnd {n : Nat} : ∀ (l : List Stp) {v : Vw}, v.Bnd n → (cutV v l).Bnd (n + l.length)
  | [], _, h => h
  | s :: l, v, h => by
    have := cutV_bnd l (stepV_bnd h s)
    rw [List.length_cons, show n + (l.length + 1) = n + 1 + l.length by omega]
    exact this

theorem row_b (u : Vw) (i : Int) (w : World) (n : Nat) (h : u.Bnd n) (hn : n ≤ 40) : Calls Try.prog 43 #[(.agg #[.pointer u.p, .int .i64 u.r, .int .i64 u.c, .int .i64 u.o, .int .i64 u.d, .int .i64 u.u]), .int .i64 i] w fun e w' => e = .returned (.agg #[.pointer (u.row i).p, .int .i64 (u.row i).r, .int .i64 (u.row i).c, .int .i64 (u.row i).o, .int .i64 (u.row i).d, .int .i64 (u.row i).u]) ∧ Below w.heap.size w w' := Row_any u i w n h hn
theorem col_b (u : Vw) (i : Int) (w : World) (n : Nat) (h : u.Bnd n) (hn : n ≤ 40) : Calls Try.prog 44 #[(.agg #[.pointer u.p, .int .i64 u.r, .int .i64 u.c, .int .i64 u.o, .int .i64 u.d, .int .i64 u.u]), .int .i64 i] w fun e w' => e = .returned (.agg #[.pointer (u.col i).p, .int .i64 (u.col i).r, .int .i64 (u.col i).c, .int .i64 (u.col i).o, .int .i64 (u.col i).d, .int .i64 (u.col i).u]) ∧ Below w.heap.size w w' := Col_any u i w n h hn
theorem part_b (u : Vw) (i j a b : Int) (w : World) (n : Nat) (h : u.Bnd n) (hn : n ≤ 40) : Calls Try.prog 45 #[(.agg #[.pointer u.p, .int .i64 u.r, .int .i64 u.c, .int .i64 u.o, .int .i64 u.d, .int .i64 u.u]), .int .i64 i, .int .i64 j, .int .i64 a, .int .i64 b] w fun e w' => e = .returned (.agg #[.pointer (u.part i j a b).p, .int .i64 (u.part i j a b).r, .int .i64 (u.part i j a b).c, .int .i64 (u.part i j a b).o, .int .i64 (u.part i j a b).d, .int .i64 (u.part i j a b).u]) ∧ Below w.heap.size w w' := Part_any u i j a b w n h hn
theorem diag_b (u : Vw) (w : World) (n : Nat) (h : u.Bnd n) (hn : n ≤ 40) : Calls Try.prog 59 #[(.agg #[.pointer u.p, .int .i64 u.r, .int .i64 u.c, .int .i64 u.o, .int .i64 u.d, .int .i64 u.u])] w fun e w' => e = .returned (.agg #[.pointer u.diag.p, .int .i64 u.diag.r, .int .i64 u.diag.c, .int .i64 u.diag.o, .int .i64 u.diag.d, .int .i64 u.diag.u]) ∧ Below w.heap.size w w' := Diag_any u w n h hn

set_option maxHeartbeats 8000000 in
theorem cut_any (w : World) (v : Vw) (x : Value) (da : Option Addr) (dn dc : Nat) (P : Nat → Prop) (ka : Option Addr) (ks : List Stp) (kc : Nat) (hS : Stc w ka ks) (hl : ks.length ≤ 12) (hv : v.Bnd 0) (hR : RefV P w da dn dc v x) :
    Calls Try.prog 23 #[(.agg #[.pointer v.p, .int .i64 v.r, .int .i64 v.c, .int .i64 v.o, .int .i64 v.d, .int .i64 v.u]), x, .slice ka ks.length kc] w fun e w' => ∃ x', e = .returned (.tuple #[(.agg #[.pointer (cutV v ks).p, .int .i64 (cutV v ks).r, .int .i64 (cutV v ks).c, .int .i64 (cutV v ks).o, .int .i64 (cutV v ks).d, .int .i64 (cutV v ks).u]), x']) ∧ RefV (fun b => P b ∨ w.heap.size ≤ b) w' da dn dc (cutV v ks) x' ∧ Below w.heap.size w w' := by
  obtain ⟨ea, en, ec, aa, ac, rfl, h2, h3, h4, h5⟩ := hR
  have hR : RefV (fun b => P b ∧ b < w.heap.size) w da dn dc v (.agg #[.slice ea en ec, .int .i64 v.r, .int .i64 v.c, .slice aa (v.r * v.c) ac, .bool v.p.isSome]) := ⟨ea, en, ec, aa, ac, rfl, h2, h3, h4, fun hz => by
    obtain ⟨b, off, e, hp⟩ := h5 hz
    obtain ⟨b', off', e', hlt, _⟩ := h4 hz
    rw [e] at e'
    simp only [Option.some.injEq, Addr.mk.injEq] at e'
    exact ⟨b, off, e, hp, by omega⟩⟩
  clear h2 h3 h4 h5
  have c0 : CI w P da dn dc v ((((w.alloc (.cells #[.pointer v.p, .int .i64 v.r, .int .i64 v.c, .int .i64 v.o, .int .i64 v.d, .int .i64 v.u] 45)).alloc (.cells #[.slice ea en ec, .int .i64 v.r, .int .i64 v.c, .slice aa (v.r * v.c) ac, .bool v.p.isSome] 48)).alloc (.cells #[.pointer none, .int .i64 0, .int .i64 0, .int .i64 0, .int .i64 0, .int .i64 0] 45)).alloc (.cells #[.slice none 0 0, .int .i64 0, .int .i64 0, .slice none 0 0, .bool false] 48)) := by
    have hb : Below w.heap.size w ((((w.alloc (.cells #[.pointer v.p, .int .i64 v.r, .int .i64 v.c, .int .i64 v.o, .int .i64 v.d, .int .i64 v.u] 45)).alloc (.cells #[.slice ea en ec, .int .i64 v.r, .int .i64 v.c, .slice aa (v.r * v.c) ac, .bool v.p.isSome] 48)).alloc (.cells #[.pointer none, .int .i64 0, .int .i64 0, .int .i64 0, .int .i64 0, .int .i64 0] 45)).alloc (.cells #[.slice none 0 0, .int .i64 0, .int .i64 0, .slice none 0 0, .bool false] 48)) := ((((Below.refl _ _).alloc (Nat.le_refl _) _).alloc (by simp) _).alloc (by simp; omega) _).alloc (by simp; omega) _
    refine ⟨(((Box.newA w _ _ rfl).alloc _).alloc _).alloc _, ⟨ea, en, ec, aa, ac, ((Box.newA _ [_, _, _, _, _] _ (by simp)).alloc _).alloc _, (hR.below hb).imp fun b hb => .inl hb⟩, (Box.newA _ _ _ (by simp)).alloc _, Box.newA _ [_, _, _, _, _] _ (by simp), hb, by simp⟩
  go_enter Try.func23, Try.ntmps23
  go_wp2
  generalize ((((w.alloc (.cells #[.pointer v.p, .int .i64 v.r, .int .i64 v.c, .int .i64 v.o, .int .i64 v.d, .int .i64 v.u] 45)).alloc (.cells #[.slice ea en ec, .int .i64 v.r, .int .i64 v.c, .slice aa (v.r * v.c) ac, .bool v.p.isSome] 48)).alloc (.cells #[.pointer none, .int .i64 0, .int .i64 0, .int .i64 0, .int .i64 0, .int .i64 0] 45)).alloc (.cells #[.slice none 0 0, .int .i64 0, .int .i64 0, .slice none 0 0, .bool false] 48)) = W0 at *
  go_loopw [8] (fun i wr => ∃ k : Nat, k ≤ ks.length ∧ i = .int .i64 k ∧ CI w P da dn dc (cutV v (ks.take k)) wr) (fun i _ => ks.length - (intOf i).toNat)
  case atStart => exact ⟨0, Nat.zero_le _, rfl, c0⟩
  case round =>
    obtain ⟨k, hk, rfl, hC⟩ := hrel
    by_cases hlt : k < ks.length
    · have hbn : (cutV v (ks.take k)).Bnd k := by
        have := cutV_bnd (n := 0) (ks.take k) hv
        rw [List.length_take, Nat.min_eq_left (by omega), Nat.zero_add] at this
        exact this
      have hke : ks[k]? = some ks[k] := by simp [hlt]
      have hcu : cutV v (ks.take (k + 1)) = stepV (cutV v (ks.take k)) ks[k] := by
        unfold cutV
        rw [take_get hke, List.foldl_append]
        rfl
      have nk : ks ≠ [] := by intro e; rw [e] at hlt; exact absurd hlt (Nat.not_lt_zero _)
      obtain ⟨bk, ok, rfl, hbk, hck⟩ := hS nk
      obtain ⟨d0, d1, d2, d3, d4⟩ := hck k _ hke
      rw [← (below_cells hC.below).1 _ _ hbk] at d0 d1 d2 d3 d4
      have HCU := Lib.hid hcu
      generalize ks[k] = s at *
      generalize cutV v (ks.take k) = u at *
      obtain ⟨a1, a2, a3⟩ := hC.b3.facts
      have hsz := hC.size
      have hne : ∀ j, j < 4 → w.heap.size + j ≠ wr.heap.size := fun j hj => by omega
      clear hck hke nk hcu
      have hC2 := hC.step ((Below.refl wr.heap.size wr).alloc (Nat.le_refl _) (.cells #[.int .i64 s.K, .int .i64 s.A, .int .i64 s.B, .int .i64 s.C, .int .i64 s.D] 64))
      have x9 : Box (wr.alloc (.cells #[.int .i64 s.K, .int .i64 s.A, .int .i64 s.B, .int .i64 s.C, .int .i64 s.D] 64)) wr.heap.size [.int .i64 s.K, .int .i64 s.A, .int .i64 s.B, .int .i64 s.C, .int .i64 s.D] := Box.newA _ [_, _, _, _, _] _ rfl
      have hur : u.r ≤ 512 := hbn.1
      have huc : u.c ≤ 512 := hbn.2.1
      have hk40 : k ≤ 40 := by omega
      have hkl : k + 1 ≤ ks.length := hlt
      go_wp2
      -- ARMS
      · have e : stepV u s = u.T := by unfold stepV; rw [if_pos (by simpa using ‹(s.K == 1) = true›)]
        have HE := Lib.hid (HCU.out.trans e)
        clear e HCU
        generalize (wr.alloc (.cells #[.int .i64 s.K, .int .i64 s.A, .int .i64 s.B, .int .i64 s.C, .int .i64 s.D] 64)) = W1 at *
        generalize wr.heap.size = b9 at *
        obtain ⟨fa, fn, fc, ga, gc, hb4, hR⟩ := hC2.b4
        obtain ⟨q1, q2, q3⟩ := hC2.b3.facts
        obtain ⟨q4, q5, q6⟩ := hb4.facts
        obtain ⟨q7, q8, q9⟩ := x9.facts
        have s0 := (SB.refl (w0 := W1) (Nat.le_refl W1.heap.size)).S
        refine wp_region_first 4 [0, 2] [1, 3] (fun W => SB W1.heap.size W1 W ∧ ∀ b o, b < W1.heap.size → W.cell? ⟨b, o, none⟩ = W1.cell? ⟨b, o, none⟩) (by kernel_rfl) (by kernel_rfl) (SBS.drew s0) ?_
        iterate 2 (refine pW_take (v := ?_) rfl rfl ?_ ?_; rotate_left; (next => (intro w' hSw; (try dsimp only at hSw); go_simp; (try with_reducible rfl))); (simp only [Act.put, List.setIfInBounds_toArray, List.set_cons_zero, List.set_cons_succ]))
        refine pW_nil ?_
        clear s0
        have hbD : Below W1.heap.size W1 W1.drew := below_drewN 1 (Below.refl _ _)
        refine mW_take rfl rfl ?_
        go_simp
        go_at_call 42
        refine (T_b u _).mono ?_
        rintro e w2 ⟨rfl, hb2⟩
        have hb2' : Below W1.heap.size W1 w2 := below_step hbD hbD.size hb2
        refine ⟨(SB.of hb2' hb2'.size).S, ?_⟩
        refine mW_take rfl rfl ?_
        go_simp
        go_at_call 71
        refine (RT_ref _ u da dn dc _ (hR.below hb2') hur huc).mono ?_
        rintro e w3 ⟨x', rfl, hR', hb3⟩
        have hb3' := below_step hb2' hb2'.size hb3
        refine ⟨(SB.of hb3' hb3'.size).S, ?_⟩
        refine mW_nil ?_
        have hC3 := hC2.step hb3'
        have hsz3 := hC2.size
        have hsz4 := hb2'.size
        clear hR hb4 hC2 q1 q2 q3 q4 q5 q6 q7 q8 q9 x9
        obtain ⟨la, ln, lc, ma, mc, rfl, g1, g2, g3, g4⟩ := hR'
        have HR := Lib.hid (show RefV (fun b => w2.heap.size ≤ b) w3 da dn dc u.T _ from ⟨la, ln, lc, ma, mc, rfl, g1, g2, g3, g4⟩)
        clear g1 g2 g3 g4
        obtain ⟨_, _, _, _, _, hb4, _⟩ := hC3.b4
        obtain ⟨q1, q2, q3⟩ := hC3.b3.facts
        obtain ⟨q4, q5, q6⟩ := hb4.facts
        have HC := Lib.hid hC3
        clear hC3 hb4
        (try simp only [List.drop])
        go_wp2
        refine NoPanic.normal ?_
        go_wp2
        go_roundw
        case rel => exact ⟨k + 1, by omega, by go_num, by rw [HE.out]; exact CI.store HC.out (by omega) HR.out⟩
        case measure => simp [intOf]; omega
      · have e : stepV u s = (u.row s.A) := by unfold stepV; rw [if_neg (by simpa using ‹(s.K == 1) = false›), if_pos (by simpa using ‹(s.K == 2) = true›)]
        have HE := Lib.hid (HCU.out.trans e)
        clear e HCU
        generalize (wr.alloc (.cells #[.int .i64 s.K, .int .i64 s.A, .int .i64 s.B, .int .i64 s.C, .int .i64 s.D] 64)) = W1 at *
        generalize wr.heap.size = b9 at *
        obtain ⟨fa, fn, fc, ga, gc, hb4, hR⟩ := hC2.b4
        obtain ⟨q1, q2, q3⟩ := hC2.b3.facts
        obtain ⟨q4, q5, q6⟩ := hb4.facts
        obtain ⟨q7, q8, q9⟩ := x9.facts
        have s0 := (SB.refl (w0 := W1) (Nat.le_refl W1.heap.size)).S
        refine wp_region_first 8 [0, 1, 2, 4, 5, 6] [3, 7] (fun W => SB W1.heap.size W1 W ∧ ∀ b o, b < W1.heap.size → W.cell? ⟨b, o, none⟩ = W1.cell? ⟨b, o, none⟩) (by kernel_rfl) (by kernel_rfl) (SBS.drew s0) ?_
        iterate 6 (refine pW_take (v := ?_) rfl rfl ?_ ?_; rotate_left; (next => (intro w' hSw; (try dsimp only at hSw); go_simp; (try with_reducible rfl))); (simp only [Act.put, List.setIfInBounds_toArray, List.set_cons_zero, List.set_cons_succ]))
        refine pW_nil ?_
        clear s0
        have hbD : Below W1.heap.size W1 W1.drew := below_drewN 1 (Below.refl _ _)
        refine mW_take rfl rfl ?_
        go_simp
        go_at_call 43
        refine (row_b u s.A _ k hbn (by omega)).mono ?_
        rintro e w2 ⟨rfl, hb2⟩
        have hb2' : Below W1.heap.size W1 w2 := below_step hbD hbD.size hb2
        refine ⟨(SB.of hb2' hb2'.size).S, ?_⟩
        refine mW_take rfl rfl ?_
        go_simp
        go_at_call 72
        refine (RRow_ref _ u da dn dc _ s.A (hR.below hb2') hur huc).mono ?_
        rintro e w3 ⟨x', rfl, hR', hb3⟩
        have hb3' := below_step hb2' hb2'.size hb3
        refine ⟨(SB.of hb3' hb3'.size).S, ?_⟩
        refine mW_nil ?_
        have hC3 := hC2.step hb3'
        have hsz3 := hC2.size
        have hsz4 := hb2'.size
        clear hR hb4 hC2 q1 q2 q3 q4 q5 q6 q7 q8 q9 x9
        obtain ⟨la, ln, lc, ma, mc, rfl, g1, g2, g3, g4⟩ := hR'
        have HR := Lib.hid (show RefV (fun b => w2.heap.size ≤ b) w3 da dn dc (u.row s.A) _ from ⟨la, ln, lc, ma, mc, rfl, g1, g2, g3, g4⟩)
        clear g1 g2 g3 g4
        obtain ⟨_, _, _, _, _, hb4, _⟩ := hC3.b4
        obtain ⟨q1, q2, q3⟩ := hC3.b3.facts
        obtain ⟨q4, q5, q6⟩ := hb4.facts
        have HC := Lib.hid hC3
        clear hC3 hb4
        (try simp only [List.drop])
        go_wp2
        refine NoPanic.normal ?_
        go_wp2
        go_roundw
        case rel => exact ⟨k + 1, by omega, by go_num, by rw [HE.out]; exact CI.store HC.out (by omega) HR.out⟩
        case measure => simp [intOf]; omega
      · have e : stepV u s = (u.col s.A) := by unfold stepV; rw [if_neg (by simpa using ‹(s.K == 1) = false›), if_neg (by simpa using ‹(s.K == 2) = false›), if_pos (by simpa using ‹(s.K == 3) = true›)]
        have HE := Lib.hid (HCU.out.trans e)
        clear e HCU
        generalize (wr.alloc (.cells #[.int .i64 s.K, .int .i64 s.A, .int .i64 s.B, .int .i64 s.C, .int .i64 s.D] 64)) = W1 at *
        generalize wr.heap.size = b9 at *
        obtain ⟨fa, fn, fc, ga, gc, hb4, hR⟩ := hC2.b4
        obtain ⟨q1, q2, q3⟩ := hC2.b3.facts
        obtain ⟨q4, q5, q6⟩ := hb4.facts
        obtain ⟨q7, q8, q9⟩ := x9.facts
        have s0 := (SB.refl (w0 := W1) (Nat.le_refl W1.heap.size)).S
        refine wp_region_first 8 [0, 1, 2, 4, 5, 6] [3, 7] (fun W => SB W1.heap.size W1 W ∧ ∀ b o, b < W1.heap.size → W.cell? ⟨b, o, none⟩ = W1.cell? ⟨b, o, none⟩) (by kernel_rfl) (by kernel_rfl) (SBS.drew s0) ?_
        iterate 6 (refine pW_take (v := ?_) rfl rfl ?_ ?_; rotate_left; (next => (intro w' hSw; (try dsimp only at hSw); go_simp; (try with_reducible rfl))); (simp only [Act.put, List.setIfInBounds_toArray, List.set_cons_zero, List.set_cons_succ]))
        refine pW_nil ?_
        clear s0
        have hbD : Below W1.heap.size W1 W1.drew := below_drewN 1 (Below.refl _ _)
        refine mW_take rfl rfl ?_
        go_simp
        go_at_call 44
        refine (col_b u s.A _ k hbn (by omega)).mono ?_
        rintro e w2 ⟨rfl, hb2⟩
        have hb2' : Below W1.heap.size W1 w2 := below_step hbD hbD.size hb2
        refine ⟨(SB.of hb2' hb2'.size).S, ?_⟩
        refine mW_take rfl rfl ?_
        go_simp
        go_at_call 73
        refine (RCol_ref _ u da dn dc _ s.A (hR.below hb2') hur huc).mono ?_
        rintro e w3 ⟨x', rfl, hR', hb3⟩
        have hb3' := below_step hb2' hb2'.size hb3
        refine ⟨(SB.of hb3' hb3'.size).S, ?_⟩
        refine mW_nil ?_
        have hC3 := hC2.step hb3'
        have hsz3 := hC2.size
        have hsz4 := hb2'.size
        clear hR hb4 hC2 q1 q2 q3 q4 q5 q6 q7 q8 q9 x9
        obtain ⟨la, ln, lc, ma, mc, rfl, g1, g2, g3, g4⟩ := hR'
        have HR := Lib.hid (show RefV (fun b => w2.heap.size ≤ b) w3 da dn dc (u.col s.A) _ from ⟨la, ln, lc, ma, mc, rfl, g1, g2, g3, g4⟩)
        clear g1 g2 g3 g4
        obtain ⟨_, _, _, _, _, hb4, _⟩ := hC3.b4
        obtain ⟨q1, q2, q3⟩ := hC3.b3.facts
        obtain ⟨q4, q5, q6⟩ := hb4.facts
        have HC := Lib.hid hC3
        clear hC3 hb4
        (try simp only [List.drop])
        go_wp2
        refine NoPanic.normal ?_
        go_wp2
        go_roundw
        case rel => exact ⟨k + 1, by omega, by go_num, by rw [HE.out]; exact CI.store HC.out (by omega) HR.out⟩
        case measure => simp [intOf]; omega
      · have e : stepV u s = (u.part s.A s.B s.C s.D) := by unfold stepV; rw [if_neg (by simpa using ‹(s.K == 1) = false›), if_neg (by simpa using ‹(s.K == 2) = false›), if_neg (by simpa using ‹(s.K == 3) = false›), if_pos (by simpa using ‹(s.K == 4) = true›)]
        have HE := Lib.hid (HCU.out.trans e)
        clear e HCU
        generalize (wr.alloc (.cells #[.int .i64 s.K, .int .i64 s.A, .int .i64 s.B, .int .i64 s.C, .int .i64 s.D] 64)) = W1 at *
        generalize wr.heap.size = b9 at *
        obtain ⟨fa, fn, fc, ga, gc, hb4, hR⟩ := hC2.b4
        obtain ⟨q1, q2, q3⟩ := hC2.b3.facts
        obtain ⟨q4, q5, q6⟩ := hb4.facts
        obtain ⟨q7, q8, q9⟩ := x9.facts
        have s0 := (SB.refl (w0 := W1) (Nat.le_refl W1.heap.size)).S
        refine wp_region_first 20 [0, 1, 2, 3, 4, 5, 6, 7, 8, 10, 11, 12, 13, 14, 15, 16, 17, 18] [9, 19] (fun W => SB W1.heap.size W1 W ∧ ∀ b o, b < W1.heap.size → W.cell? ⟨b, o, none⟩ = W1.cell? ⟨b, o, none⟩) (by kernel_rfl) (by kernel_rfl) (SBS.drew s0) ?_
        iterate 18 (refine pW_take (v := ?_) rfl rfl ?_ ?_; rotate_left; (next => (intro w' hSw; (try dsimp only at hSw); go_simp; (try with_reducible rfl))); (simp only [Act.put, List.setIfInBounds_toArray, List.set_cons_zero, List.set_cons_succ]))
        refine pW_nil ?_
        clear s0
        have hbD : Below W1.heap.size W1 W1.drew := below_drewN 1 (Below.refl _ _)
        refine mW_take rfl rfl ?_
        go_simp
        go_at_call 45
        refine (part_b u s.A s.B s.C s.D _ k hbn (by omega)).mono ?_
        rintro e w2 ⟨rfl, hb2⟩
        have hb2' : Below W1.heap.size W1 w2 := below_step hbD hbD.size hb2
        refine ⟨(SB.of hb2' hb2'.size).S, ?_⟩
        refine mW_take rfl rfl ?_
        go_simp
        go_at_call 74
        refine (RPart_ref _ u da dn dc _ s.A s.B s.C s.D (hR.below hb2') hur huc).mono ?_
        rintro e w3 ⟨x', rfl, hR', hb3⟩
        have hb3' := below_step hb2' hb2'.size hb3
        refine ⟨(SB.of hb3' hb3'.size).S, ?_⟩
        refine mW_nil ?_
        have hC3 := hC2.step hb3'
        have hsz3 := hC2.size
        have hsz4 := hb2'.size
        clear hR hb4 hC2 q1 q2 q3 q4 q5 q6 q7 q8 q9 x9
        obtain ⟨la, ln, lc, ma, mc, rfl, g1, g2, g3, g4⟩ := hR'
        have HR := Lib.hid (show RefV (fun b => w2.heap.size ≤ b) w3 da dn dc (u.part s.A s.B s.C s.D) _ from ⟨la, ln, lc, ma, mc, rfl, g1, g2, g3, g4⟩)
        clear g1 g2 g3 g4
        obtain ⟨_, _, _, _, _, hb4, _⟩ := hC3.b4
        obtain ⟨q1, q2, q3⟩ := hC3.b3.facts
        obtain ⟨q4, q5, q6⟩ := hb4.facts
        have HC := Lib.hid hC3
        clear hC3 hb4
        (try simp only [List.drop])
        go_wp2
        refine NoPanic.normal ?_
        go_wp2
        go_roundw
        case rel => exact ⟨k + 1, by omega, by go_num, by rw [HE.out]; exact CI.store HC.out (by omega) HR.out⟩
        case measure => simp [intOf]; omega
      · have e : stepV u s = u.diag := by unfold stepV; rw [if_neg (by simpa using ‹(s.K == 1) = false›), if_neg (by simpa using ‹(s.K == 2) = false›), if_neg (by simpa using ‹(s.K == 3) = false›), if_neg (by simpa using ‹(s.K == 4) = false›), if_pos (by simpa using ‹(s.K == 5) = true›)]
        have HE := Lib.hid (HCU.out.trans e)
        clear e HCU
        generalize (wr.alloc (.cells #[.int .i64 s.K, .int .i64 s.A, .int .i64 s.B, .int .i64 s.C, .int .i64 s.D] 64)) = W1 at *
        generalize wr.heap.size = b9 at *
        obtain ⟨fa, fn, fc, ga, gc, hb4, hR⟩ := hC2.b4
        obtain ⟨q1, q2, q3⟩ := hC2.b3.facts
        obtain ⟨q4, q5, q6⟩ := hb4.facts
        obtain ⟨q7, q8, q9⟩ := x9.facts
        have s0 := (SB.refl (w0 := W1) (Nat.le_refl W1.heap.size)).S
        refine wp_region_first 4 [0, 2] [1, 3] (fun W => SB W1.heap.size W1 W ∧ ∀ b o, b < W1.heap.size → W.cell? ⟨b, o, none⟩ = W1.cell? ⟨b, o, none⟩) (by kernel_rfl) (by kernel_rfl) (SBS.drew s0) ?_
        iterate 2 (refine pW_take (v := ?_) rfl rfl ?_ ?_; rotate_left; (next => (intro w' hSw; (try dsimp only at hSw); go_simp; (try with_reducible rfl))); (simp only [Act.put, List.setIfInBounds_toArray, List.set_cons_zero, List.set_cons_succ]))
        refine pW_nil ?_
        clear s0
        have hbD : Below W1.heap.size W1 W1.drew := below_drewN 1 (Below.refl _ _)
        refine mW_take rfl rfl ?_
        go_simp
        go_at_call 59
        refine (diag_b u _ k hbn (by omega)).mono ?_
        rintro e w2 ⟨rfl, hb2⟩
        have hb2' : Below W1.heap.size W1 w2 := below_step hbD hbD.size hb2
        refine ⟨(SB.of hb2' hb2'.size).S, ?_⟩
        refine mW_take rfl rfl ?_
        go_simp
        go_at_call 75
        refine (RDiag_ref _ u da dn dc _ (hR.below hb2') hur huc).mono ?_
        rintro e w3 ⟨x', rfl, hR', hb3⟩
        have hb3' := below_step hb2' hb2'.size hb3
        refine ⟨(SB.of hb3' hb3'.size).S, ?_⟩
        refine mW_nil ?_
        have hC3 := hC2.step hb3'
        have hsz3 := hC2.size
        have hsz4 := hb2'.size
        clear hR hb4 hC2 q1 q2 q3 q4 q5 q6 q7 q8 q9 x9
        obtain ⟨la, ln, lc, ma, mc, rfl, g1, g2, g3, g4⟩ := hR'
        have HR := Lib.hid (show RefV (fun b => w2.heap.size ≤ b) w3 da dn dc u.diag _ from ⟨la, ln, lc, ma, mc, rfl, g1, g2, g3, g4⟩)
        clear g1 g2 g3 g4
        obtain ⟨_, _, _, _, _, hb4, _⟩ := hC3.b4
        obtain ⟨q1, q2, q3⟩ := hC3.b3.facts
        obtain ⟨q4, q5, q6⟩ := hb4.facts
        have HC := Lib.hid hC3
        clear hC3 hb4
        (try simp only [List.drop])
        go_wp2
        refine NoPanic.normal ?_
        go_wp2
        go_roundw
        case rel => exact ⟨k + 1, by omega, by go_num, by rw [HE.out]; exact CI.store HC.out (by omega) HR.out⟩
        case measure => simp [intOf]; omega
      · have e : stepV u s = u := by unfold stepV; rw [if_neg (by simpa using ‹(s.K == 1) = false›), if_neg (by simpa using ‹(s.K == 2) = false›), if_neg (by simpa using ‹(s.K == 3) = false›), if_neg (by simpa using ‹(s.K == 4) = false›), if_neg (by simpa using ‹(s.K == 5) = false›)]
        have HE := Lib.hid (HCU.out.trans e)
        clear e HCU
        generalize (wr.alloc (.cells #[.int .i64 s.K, .int .i64 s.A, .int .i64 s.B, .int .i64 s.C, .int .i64 s.D] 64)) = W1 at *
        go_roundw
        case rel => exact ⟨k + 1, by omega, by go_num, by rw [HE.out]; exact hC2⟩
        case measure => simp [intOf]; omega
      -- END
    · obtain rfl : ks.length = k := by omega
      rw [List.take_length] at hC
      obtain ⟨u, hu⟩ : ∃ u, u = cutV v ks := ⟨_, rfl⟩
      rw [← hu] at hC
      have HU := Lib.hid hu
      clear hu
      obtain ⟨fa, fn, fc, ga, gc, hb4, hR⟩ := hC.b4
      obtain ⟨q1, q2, q3⟩ := hC.b3.facts
      obtain ⟨q4, q5, q6⟩ := hb4.facts
      have hsz := hC.size
      have s0 := (SB.refl (B := w.heap.size + 2) (w0 := wr) (by omega)).S
      have hlt1 : w.heap.size < w.heap.size + 2 := by omega
      have hlt2 : w.heap.size + 1 < w.heap.size + 2 := by omega
      go_wp2
      refine wp_region_first 3 [0, 1] [2] (fun W => SB (w.heap.size + 2) wr W ∧ ∀ b o, b < w.heap.size + 2 → W.cell? ⟨b, o, none⟩ = wr.cell? ⟨b, o, none⟩) (by kernel_rfl) (by kernel_rfl) (SBS.drew s0) ?_
      iterate 2 (refine pW_take (v := ?_) rfl rfl ?_ ?_; rotate_left; (next => (intro w' hSw; (try dsimp only at hSw); go_simp; (try with_reducible rfl))); (simp only [Act.put, List.setIfInBounds_toArray, List.set_cons_zero, List.set_cons_succ]))
      refine pW_nil ?_
      refine mW_take rfl rfl ?_
      clear s0
      obtain ⟨p1, p2, p3⟩ := hC.b6.facts
      go_simp
      obtain ⟨X, hX⟩ : ∃ X, X = ((((((wr.setCell ⟨w.heap.size + 1 + 1, 0, none⟩ (.pointer u.p)).setCell ⟨w.heap.size + 1 + 1, 1, none⟩ (.int .i64 u.r)).setCell ⟨w.heap.size + 1 + 1, 2, none⟩ (.int .i64 u.c)).setCell ⟨w.heap.size + 1 + 1, 3, none⟩ (.int .i64 u.o)).setCell ⟨w.heap.size + 1 + 1, 4, none⟩ (.int .i64 u.d)).setCell ⟨w.heap.size + 1 + 1, 5, none⟩ (.int .i64 u.u)) := ⟨_, rfl⟩
      rw [← hX]
      have bX : ∀ B, Bel B (w.heap.size + 1 + 1) wr X := fun B => by rw [hX]; exact ((((((Bel.refl _ _ _).set _ _).set _ _).set _ _).set _ _).set _ _).set _ _
      have k6 : Box X (w.heap.size + 1 + 1) [.pointer u.p, .int .i64 u.r, .int .i64 u.c, .int .i64 u.o, .int .i64 u.d, .int .i64 u.u] := by rw [hX]; exact Box.put6 hC.b6 _ _ _ _ _ _
      have k7 : Box X (w.heap.size + 1 + 1 + 1) [.slice none 0 0, .int .i64 0, .int .i64 0, .slice none 0 0, .bool false] := by rw [hX]; exact Box.other6 hC.b7 (by omega) _ _ _ _ _ _
      clear hX p1 p2 p3
      have hsX := (bX 0).size
      refine ⟨(SB.of (below_drewN 1 ((bX _).below (Nat.le_refl _))) (by show w.heap.size + 2 ≤ X.heap.size; omega)).S, ?_⟩
      refine mW_nil ?_
      have hRX := hR.bel (s := w.heap.size + 1 + 1) (by omega) (bX _)
      have hBX : Below w.heap.size w X.drew := below_drewN 1 (hC.below.trans ((bX _).below (by omega)))
      have k7' : Box X.drew (w.heap.size + 1 + 1 + 1) [.slice none 0 0, .int .i64 0, .int .i64 0, .slice none 0 0, .bool false] := k7
      have k6' : Box X.drew (w.heap.size + 1 + 1) [.pointer u.p, .int .i64 u.r, .int .i64 u.c, .int .i64 u.o, .int .i64 u.d, .int .i64 u.u] := k6
      have hRX' := hRX.below (below_drewN 1 (Below.refl _ _))
      change RefV _ X.drew _ _ _ _ _ at hRX'
      clear hb4 hR q1 q2 q3 q4 q5 q6 hC c0 hlt1 hlt2 hRX k6 k7 bX
      change wpList _ _ _ _ _ X.drew
      have hsX' : w.heap.size + 4 ≤ X.drew.heap.size := by show w.heap.size + 4 ≤ X.heap.size; omega
      generalize X.drew = Y at *
      obtain ⟨p4, p5, p6⟩ := k7'.facts
      have HR := Lib.hid hRX'
      have HB := Lib.hid hBX
      have H6 := Lib.hid k6'
      clear hRX' hBX k6'
      (try simp only [List.drop])
      go_wp2
      refine NoPanic.normal ?_
      go_wp2
      have hu := HU.out
      refine bodyPost_ret (results_two rfl (rv_cell (g := w.heap.size + 1 + 1) rfl (Box.other5 H6.out (show w.heap.size + 1 + 1 ≠ w.heap.size + 1 + 1 + 1 by omega) _ _ _ _ _) rfl Try.underlying45 (by kernel_rfl)) (rv_cell (g := w.heap.size + 1 + 1 + 1) rfl (k7'.put5 _ _ _ _ _) rfl Try.underlying48 (by kernel_rfl))) rfl ⟨_, by rw [hu], ?_, ?_⟩
      · rw [← hu]
        refine (HR.out.bel (s := w.heap.size + 1 + 1 + 1) (by omega) (Bel.refl5 _ _ _ _ _ _)).imp fun b hb => ?_
        rcases hb with hb | hb
        · exact .inl hb.1
        · exact .inr (by omega)
      · exact HB.out.trans ((Bel.refl5 _ _ _ _ _ _).below (by omega))
end Go.Proofs.Ytpjdibanjmmbkaa
