/- Two stores that hold the same, a view's and the document's; what is set in both. -/
import Derived.Test.YtpjdibanjmmbkaaRs
import Derived.Test.YtpjdibanjmmbkaaRop
import Derived.Test.YtpjdibanjmmbkaaVsL
namespace Go.Proofs.Ytpjdibanjmmbkaa
open Go Go.RowKit
set_option maxRecDepth 100000

/-- What stays: the world it began in, the store's blocks, the row of the document. -/
structure PC where
  w0 : World
  st : Nat
  sb : Nat
  db : Nat
  B : Nat
  da : Option Addr
  n : Nat
  dc : Nat
/-- The stores hold s and t; rl: the document's views; bl: blocks of variables. -/
structure PV (k : PC) (rl : List (Vw × Value)) (bl : List (Nat × List Value)) (s t : List Nat) (W : World) : Prop where
  sto : Sto W (some ⟨k.st, 0, none⟩) k.sb s
  dat : W.ownsRow k.B 23 1 (.slice k.da k.n k.dc) k.n (t.map (Value.float .f64))
  blk : ∀ g o, k.da = some ⟨g, o, none⟩ → g = k.db
  ne : k.sb ≠ k.db ∧ k.st ≠ k.db ∧ k.st ≠ k.sb
  lo : k.w0.heap.size ≤ k.sb ∧ k.w0.heap.size ≤ k.db
  ls : s.length = k.n
  base : Below k.w0.heap.size k.w0 W
  refs : ∀ q ∈ rl, RefV (fun b => b ≠ k.sb ∧ b ≠ k.db) W k.da k.n k.dc q.1 q.2
  box : ∀ q ∈ bl, Box W q.1 q.2 ∧ q.1 ≠ k.sb ∧ q.1 ≠ k.db
section
variable {k : PC} {rl : List (Vw × Value)} {bl : List (Nat × List Value)} {s t : List Nat} {W W' : World}
theorem PV.lt (h : PV k rl bl s t W) : t.length = k.n := by have := h.dat.1; simpa using this
theorem PV.below (h : PV k rl bl s t W) (hb : Below W.heap.size W W') : PV k rl bl s t W' :=
  ⟨h.sto.below hb, ownsRow_dn h.dat hb, h.blk, h.ne, h.lo, h.ls, below_step h.base h.base.size hb, fun q hq => (h.refs q hq).below hb, fun q hq => ⟨(h.box q hq).1.below hb, (h.box q hq).2⟩⟩
theorem PV.drew (h : PV k rl bl s t W) : PV k rl bl s t W.drew := h.below (below_drewN 1 (Below.refl _ _))
theorem PV.belS (h : PV k rl bl s t W) {s' : List Nat} (hb : Bel W.heap.size k.sb W W') (hx : Box W' k.sb (s'.map (Value.float .f64))) (hl : s'.length = s.length) : PV k rl bl s' t W' := by
  obtain ⟨st', e, b1, b2, b3⟩ := h.sto
  simp only [Option.some.injEq, Addr.mk.injEq, and_true] at e
  subst e
  refine ⟨⟨k.st, rfl, ?_, hx, by rw [hl]; exact b3⟩, ownsRow_belB h.dat hb (fun o e => h.ne.1 (h.blk _ o e)), h.blk, h.ne, h.lo, by rw [hl]; exact h.ls, (bel_step (Bel.of h.base) h.base.size hb).below h.lo.1, fun q hq => (h.refs q hq).bel (fun hh => hh.1 rfl) hb, fun q hq => ⟨(h.box q hq).1.bel (h.box q hq).2.1 hb, (h.box q hq).2⟩⟩
  rw [hl]
  exact b1.bel h.ne.2.2 hb
theorem PV.belD (h : PV k rl bl s t W) {t' : List Nat} (hb : Bel W.heap.size k.db W W') (hx : W'.ownsRow k.B 23 1 (.slice k.da k.n k.dc) k.n (t'.map (Value.float .f64))) : PV k rl bl s t' W' := by
  obtain ⟨st', e, b1, b2, b3⟩ := h.sto
  simp only [Option.some.injEq, Addr.mk.injEq, and_true] at e
  subst e
  exact ⟨⟨k.st, rfl, b1.bel h.ne.2.1 hb, b2.bel h.ne.1 hb, b3⟩, hx, h.blk, h.ne, h.lo, h.ls, (bel_step (Bel.of h.base) h.base.size hb).below h.lo.2, fun q hq => (h.refs q hq).bel (fun hh => hh.2 rfl) hb, fun q hq => ⟨(h.box q hq).1.bel (h.box q hq).2.2 hb, (h.box q hq).2⟩⟩
theorem PV.cells (h : PV k rl bl s t W) {n : Nat} {cs : List Value} (hq : (n, cs) ∈ bl) (i : Nat) : W.cell? ⟨n, i, none⟩ = cs[i]? := (h.box _ hq).1.cell i
theorem PV.facts (h : PV k rl bl s t W) {n : Nat} {cs : List Value} (hq : (n, cs) ∈ bl) : n < W.heap.size ∧ (∀ i, W.cell? ⟨n, i, none⟩ = cs[i]?) ∧ ∀ i, W.frozen? ⟨n, i, none⟩ = false := (h.box _ hq).1.facts
theorem PV.cel (h : PV k rl bl s t W) : Cel W k.da t := by
  have h1 := h.dat
  have e := h.lt
  exact Cel.owns (base := k.B) (n := k.n) (cap := k.dc) (by rw [e]; exact h1)

/-- A view of the store, whatever that holds. -/
def PU (k : PC) (u : Vw) : Prop := ∀ (W : World) (s : List Nat), s.length = k.n → Sto W (some ⟨k.st, 0, none⟩) k.sb s → u.Ok W k.sb s
theorem PV.ok (h : PV k rl bl s t W) {u : Vw} (hu : PU k u) : u.Ok W k.sb s := hu W s h.ls h.sto
theorem PV.pls (h : PV k rl bl s t W) {u : Vw} (hu : PU k u) : ∀ p ∈ u.pls, p < k.n := by rw [← h.ls]; exact ok_pls (h.ok hu)

/-- What a call sets through a view. -/
theorem PV.upd (h : PV k rl bl s t W) {u : Vw} (hu : PU k u) {f : FuncId} {args : Array Value} {r : Value} {G : List Nat → List Nat}
    (hc : ∀ sb ws, u.Ok W sb ws → Calls Try.prog f args W fun e w' => e = .returned r ∧ u.Ok w' sb (G ws) ∧ Bel W.heap.size sb W w') (hn : u = Vw.none → G s = s) (hl : (G s).length = s.length) :
    Calls Try.prog f args W fun e w' => e = .returned r ∧ PV k rl bl (G s) t w' := by
  have hok := h.ok hu
  rcases hok with hno | ⟨_, _⟩
  · refine (hc W.heap.size s (.inl hno)).mono ?_
    rintro e w' ⟨rfl, _, hb⟩
    rw [hn hno]
    exact ⟨rfl, h.below (hb.below (Nat.le_refl _))⟩
  · refine (hc k.sb s (h.ok hu)).mono ?_
    rintro e w' ⟨rfl, hk, hb⟩
    rcases hk with hno | ⟨⟨st', _, _, b2, _⟩, _⟩
    · refine ⟨rfl, ?_⟩
      rw [hn hno]
      rename_i hx _
      obtain ⟨st', e1, b1, b2, b3⟩ := hx
      rw [hno] at e1
      cases e1
    · exact ⟨rfl, h.belS hb b2 hl⟩

theorem none_put (ws : List Nat) (i j : Int) (x : Nat) : Vw.none.put ws i j x = ws := by
  unfold Vw.put
  rw [if_neg]
  unfold inV
  simp only [decide_eq_true_eq]
  show ¬(0 ≤ i ∧ i < ((0 : Nat) : Int) ∧ _)
  omega
theorem putVec_length (v : Vw) (ws : List Nat) (i : Int) (x : Nat) : (v.putVec ws i x).length = ws.length := by
  unfold Vw.putVec
  split
  · rfl
  · exact Vw.put_length _ _ _ _ _
theorem PV.set (h : PV k rl bl s t W) {u : Vw} (hu : PU k u) (i j : Int) (x : Nat) :
    Calls Try.prog 46 #[(.agg #[.pointer u.p, .int .i64 u.r, .int .i64 u.c, .int .i64 u.o, .int .i64 u.d, .int .i64 u.u]), .int .i64 i, .int .i64 j, .float .f64 x] W fun e w' => e = .returned (.int .i64 (u.putE i j)) ∧ PV k rl bl (u.put s i j x) t w' :=
  h.upd hu (G := fun ws => u.put ws i j x) (fun sb ws hk => Set_any W u sb ws i j x hk) (fun e => by rw [e]; exact none_put _ _ _ _) (Vw.put_length _ _ _ _ _)
theorem PV.put (h : PV k rl bl s t W) {u : Vw} (hu : PU k u) (i : Int) (x : Nat) :
    Calls Try.prog 48 #[(.agg #[.pointer u.p, .int .i64 u.r, .int .i64 u.c, .int .i64 u.o, .int .i64 u.d, .int .i64 u.u]), .int .i64 i, .float .f64 x] W fun e w' => e = .returned (.int .i64 (u.putVecE i)) ∧ PV k rl bl (u.putVec s i x) t w' :=
  h.upd hu (G := fun ws => u.putVec ws i x) (fun sb ws hk => Put_any W u sb ws i x hk) (fun e => by rw [e]; unfold Vw.putVec; split; rfl; exact none_put _ _ _ _) (putVec_length _ _ _ _)
theorem PV.rset (h : PV k rl bl s t W) {u : Vw} (hu : PU k u) {x : Value} (hq : (u, x) ∈ rl) (i j : Int) (y : Nat) :
    Calls Try.prog 47 #[x, .int .i64 i, .int .i64 j, .float .f64 y] W fun e w' => e = .returned (.int .i64 (u.putE i j)) ∧ PV k rl bl s (u.put t i j y) w' := by
  have hsm := (h.ok hu).small
  refine (ref_set W u k.da k.n k.dc t x i j y k.B k.db (h.refs _ hq) h.dat h.blk (by rw [h.lt]; exact h.pls hu) hsm.1 hsm.2).mono ?_
  rintro e w' ⟨rfl, h1, h2⟩
  exact ⟨rfl, h.belD h2 h1⟩
theorem PV.mat (h : PV k rl bl s t W) {u : Vw} (hu : PU k u) :
    Calls Try.prog 38 #[(.agg #[.pointer u.p, .int .i64 u.r, .int .i64 u.c, .int .i64 u.o, .int .i64 u.d, .int .i64 u.u])] W fun e w' => ∃ a cap, e = .returned (.agg #[.int .i64 u.r, .int .i64 u.c, .slice a (u.list s).length cap]) ∧ Cel w' a (u.list s) ∧ Below W.heap.size W w' ∧ PV k rl bl s t w' := by
  refine (Matrix_any W u k.sb s (h.ok hu)).mono ?_
  rintro e w' ⟨sv, rfl, hrow, hb⟩
  obtain ⟨a, cap, rfl, hM⟩ := cel_of_row hrow
  exact ⟨a, cap, rfl, hM, hb, h.below hb⟩
theorem PV.rmat (h : PV k rl bl s t W) {u : Vw} (hu : PU k u) {x : Value} (hq : (u, x) ∈ rl) :
    Calls Try.prog 25 #[x] W fun e w' => ∃ a cap, e = .returned (.agg #[.int .i64 u.r, .int .i64 u.c, .slice a (u.list t).length cap]) ∧ Cel w' a (u.list t) ∧ Below W.heap.size W w' ∧ PV k rl bl s t w' := by
  have hsm := (h.ok hu).small
  have hR := h.refs _ hq
  rw [← h.lt] at hR
  refine (ref_matrix W u k.da t k.dc x hR h.cel (by rw [h.lt]; exact h.pls hu) hsm.1 hsm.2).mono ?_
  rintro e w' ⟨sv, rfl, hrow, hb⟩
  obtain ⟨a, cap, rfl, hM⟩ := cel_of_row hrow
  exact ⟨a, cap, rfl, hM, hb, h.below hb⟩
theorem PV.list_small (h : PV k rl bl s t W) {u : Vw} (hu : PU k u) (zs : List Nat) : (u.list zs).length ≤ maxLen := by
  have hsm := (h.ok hu).small
  rw [list_length]
  exact Nat.le_trans (Nat.mul_le_mul hsm.1 hsm.2) (by decide)
end

/-! ### Words stay words -/
theorem words_set {ws : List Nat} (h : Words ws) {x : Nat} (hx : x < 18446744073709551616) (p : Nat) : Words (ws.set p x) := by
  intro y hy
  rcases List.mem_or_eq_of_mem_set hy with h1 | h1
  · exact h y h1
  · rw [h1]; exact hx
theorem words_put {ws : List Nat} (h : Words ws) {x : Nat} (hx : x < 18446744073709551616) (v : Vw) (i j : Int) : Words (v.put ws i j x) := by
  unfold Vw.put
  split
  · exact words_set h hx _
  · exact h

/-! ### A vector's places -/
theorem vec_in {v : Vw} (hv : vecV v.p v.r v.c = true) (i : Int) : inV v.r v.c (v.al i).1 (v.al i).2 = decide (0 ≤ i ∧ i < ((v.r * v.c : Nat) : Int)) := by
  unfold vecV at hv
  simp only [Bool.and_eq_true, Bool.or_eq_true, decide_eq_true_eq] at hv
  unfold Vw.al inV
  by_cases hr : v.r = 1
  · rw [if_pos hr, if_pos hr, hr, Nat.one_mul]
    congr 1
    apply propext
    constructor
    · rintro ⟨_, _, h3, h4⟩; exact ⟨h3, h4⟩
    · rintro ⟨h3, h4⟩; exact ⟨Int.le_refl 0, (by show (0 : Int) < ((1 : Nat) : Int); decide), h3, h4⟩
  · rw [if_neg hr, if_neg hr]
    rcases hv.2 with (h5 | h5) | h5
    · exact absurd h5 hr
    · rw [h5, Nat.mul_one]
      congr 1
      apply propext
      constructor
      · rintro ⟨h1, h2, _, _⟩; exact ⟨h1, h2⟩
      · rintro ⟨h1, h2⟩; exact ⟨h1, h2, Int.le_refl 0, (by show (0 : Int) < ((1 : Nat) : Int); decide)⟩
    · rw [h5.1, h5.2]
      congr 1
      apply propext
      constructor
      · rintro ⟨h1, h2, _, _⟩; omega
      · rintro ⟨h1, h2⟩; omega
theorem vec_pl {v : Vw} (hv : vecV v.p v.r v.c = true) {i : Nat} (hi : i < v.r * v.c) (ws : List Nat) (x : Nat) : v.putVec ws i x = ws.set (v.pl i) x ∧ v.putVecE i = 0 := by
  have hin := vec_in hv i
  rw [decide_eq_true (show 0 ≤ (i : Int) ∧ (i : Int) < ((v.r * v.c : Nat) : Int) by omega)] at hin
  have hp : v.p.isSome = true := by unfold vecV at hv; simp only [Bool.and_eq_true] at hv; exact hv.1
  constructor
  · unfold Vw.putVec Vw.put
    rw [hv, hp, if_neg (by decide), if_pos hin]
    congr 1
    unfold Vw.al Vw.pl
    by_cases hr : v.r = 1
    · rw [if_pos hr, if_pos hr]
      have hkc : i < v.c := by rw [hr, Nat.one_mul] at hi; exact hi
      rw [Nat.div_eq_of_lt hkc, Nat.mod_eq_of_lt hkc]
      rfl
    · rw [if_neg hr, if_neg hr]
      have hc1 : v.c = 1 := by
        unfold vecV at hv
        simp only [Bool.and_eq_true, Bool.or_eq_true, decide_eq_true_eq] at hv
        rcases hv.2 with (h1 | h1) | h1
        · exact absurd h1 hr
        · exact h1
        · rw [h1.1] at hi; simp at hi
      rw [hc1, Nat.div_one, Nat.mod_one]
      rfl
  · unfold Vw.putVecE Vw.putE
    rw [hv, hp, if_neg (by decide), if_pos rfl, if_pos hin]
theorem vec_out {v : Vw} (hv : vecV v.p v.r v.c = true) {i : Int} (hi : ¬(0 ≤ i ∧ i < ((v.r * v.c : Nat) : Int))) (ws : List Nat) (x : Nat) : v.putVec ws i x = ws ∧ v.putVecE i = 2 := by
  have hin := vec_in hv i
  rw [decide_eq_false hi] at hin
  have hp : v.p.isSome = true := by unfold vecV at hv; simp only [Bool.and_eq_true] at hv; exact hv.1
  constructor
  · unfold Vw.putVec Vw.put
    rw [hv, hp, if_neg (by decide), if_neg (by rw [hin]; decide)]
  · unfold Vw.putVecE Vw.putE
    rw [hv, hp, if_neg (by decide), if_pos rfl, if_neg (by rw [hin]; decide)]
theorem vec_no {v : Vw} (hp : v.p.isSome = true) (hv : vecV v.p v.r v.c = false) (i : Int) : v.putVecE i = 8 := by
  unfold Vw.putVecE
  rw [hp, hv]
  rfl
theorem vec_nil {v : Vw} (hp : v.p.isSome = false) (i : Int) : v.putVecE i = 1 := by
  unfold Vw.putVecE Vw.putE
  rw [hp]
  rfl
end Go.Proofs.Ytpjdibanjmmbkaa
