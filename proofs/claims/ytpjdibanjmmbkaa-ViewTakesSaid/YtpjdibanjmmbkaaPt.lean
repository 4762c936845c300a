/- Two stores that hold the same: places in common, floats taken, all places set, copies kept beside. -/
import Derived.Test.YtpjdibanjmmbkaaPv
import Derived.Test.YtpjdibanjmmbkaaRt2
import Derived.Test.YtpjdibanjmmbkaaVo
namespace Go.Proofs.Ytpjdibanjmmbkaa
open Go Go.RowKit
set_option maxRecDepth 100000

theorem part_p (v : Vw) (i j a b : Int) : (v.part i j a b).p = none ∨ (v.part i j a b).p = v.p := by
  unfold Vw.part
  split
  · exact .inr rfl
  · exact .inl rfl
theorem stepV_p (v : Vw) (s : Stp) : (stepV v s).p = none ∨ (stepV v s).p = v.p := by
  unfold stepV
  split
  · exact .inr rfl
  split
  · exact part_p _ _ _ _ _
  split
  · exact part_p _ _ _ _ _
  split
  · exact part_p _ _ _ _ _
  split
  · unfold Vw.diag
    split
    · exact .inr rfl
    · exact .inl rfl
  · exact .inr rfl
theorem cutV_p : ∀ (l : List Stp) (v : Vw), (cutV v l).p = none ∨ (cutV v l).p = v.p
  | [], v => .inr rfl
  | s :: l, v => by
    show (cutV (stepV v s) l).p = none ∨ (cutV (stepV v s) l).p = v.p
    rcases cutV_p l (stepV v s) with h | h
    · exact .inl h
    · rw [h]; exact stepV_p v s

/-- It is none, or a view of the store. -/
def PP (k : PC) (u : Vw) : Prop := u.p = none ∨ u.p = some ⟨k.st, 0, none⟩
section
variable {k : PC} {rl : List (Vw × Value)} {bl : List (Nat × List Value)} {s t : List Nat} {W W' : World}
theorem PV.isnone (h : PV k rl bl s t W) {u : Vw} (hu : PU k u) (hp : u.p = none) : u = Vw.none := by
  rcases h.ok hu with h1 | ⟨⟨st', h1, _⟩, _⟩
  · exact h1
  · rw [hp] at h1; cases h1
theorem PV.stlt (h : PV k rl bl s t W) : k.st < W.heap.size ∧ k.sb < W.heap.size := by
  obtain ⟨st', e, b1, b2, _⟩ := h.sto
  simp only [Option.some.injEq, Addr.mk.injEq, and_true] at e
  subst e
  exact ⟨b1.lt, b2.lt⟩
theorem PV.more (h : PV k rl bl s t W) {b2 : List (Nat × List Value)} (hb : ∀ q ∈ b2, Box W q.1 q.2 ∧ q.1 ≠ k.sb ∧ q.1 ≠ k.db) : PV k rl (b2 ++ bl) s t W :=
  ⟨h.sto, h.dat, h.blk, h.ne, h.lo, h.ls, h.base, h.refs, fun q hq => by
    rcases List.mem_append.1 hq with h1 | h1
    · exact hb q h1
    · exact h.box q h1⟩
theorem PV.shares (h : PV k rl bl s t W) {a c : Vw} (ha : PU k a) (hc : PU k c) (pa : PP k a) (pc : PP k c) :
    Calls Try.prog 54 #[(.agg #[.pointer a.p, .int .i64 a.r, .int .i64 a.c, .int .i64 a.o, .int .i64 a.d, .int .i64 a.u]), (.agg #[.pointer c.p, .int .i64 c.r, .int .i64 c.c, .int .i64 c.o, .int .i64 c.d, .int .i64 c.u])] W fun e w' => e = .returned (.bool (shL a.pls c.pls)) ∧ PV k rl bl s t w' := by
  rcases pa with pa | pa
  · have e1 : shL a.pls c.pls = false := by rw [h.isnone ha pa]; rfl
    rw [e1]
    refine (Shares_nil W a c pa).mono ?_
    rintro e w' ⟨rfl, hb⟩
    exact ⟨rfl, h.below hb⟩
  · rcases pc with pc | pc
    · have e1 : shL a.pls c.pls = false := by rw [shL_comm, h.isnone hc pc]; rfl
      rw [e1]
      refine (Shares_nil2 W a c k.st pa pc).mono ?_
      rintro e w' ⟨rfl, hb⟩
      exact ⟨rfl, h.below hb⟩
    · refine (Shares_yes W a c k.st k.sb s pa pc (h.ok ha) (h.ok hc)).mono ?_
      rintro e w' ⟨rfl, hb⟩
      rw [places_pls, places_pls, shL_comm]
      exact ⟨rfl, h.below hb⟩
theorem PV.rshares (h : PV k rl bl s t W) {a c : Vw} (ha : PU k a) (hc : PU k c) {x y : Value} (qa : (a, x) ∈ rl) (qc : (c, y) ∈ rl) :
    Calls Try.prog 55 #[x, y] W fun e w' => e = .returned (.bool (shL a.pls c.pls)) ∧ PV k rl bl s t w' := by
  have h1 := (h.ok ha).small
  have h2 := (h.ok hc).small
  refine (ref_shares W a c k.da k.da k.n k.dc k.n k.dc x y (h.refs _ qa) (h.refs _ qc) h1.1 h1.2 h2.1 h2.2).mono ?_
  rintro e w' ⟨rfl, hb⟩
  exact ⟨rfl, h.below hb⟩
theorem take_length (v o : Vw) (wo ws : List Nat) : (v.take o wo ws).length = ws.length := by
  unfold Vw.take
  split
  · exact Vw.takeL_length _ _ _ _ _
  · rfl
theorem take_nil (o : Vw) (wo ws : List Nat) : Vw.none.take o wo ws = ws := by
  unfold Vw.take
  rw [if_neg]
  unfold takeE
  rw [if_pos (by rfl)]
  decide
theorem PV.take (h : PV k rl bl s t W) {a c : Vw} (ha : PU k a) (hc : PU k c) :
    Calls Try.prog 56 #[(.agg #[.pointer a.p, .int .i64 a.r, .int .i64 a.c, .int .i64 a.o, .int .i64 a.d, .int .i64 a.u]), (.agg #[.pointer c.p, .int .i64 c.r, .int .i64 c.c, .int .i64 c.o, .int .i64 c.d, .int .i64 c.u])] W fun e w' => e = .returned (.int .i64 (takeE a c)) ∧ PV k rl bl (a.take c s s) t w' :=
  h.upd ha (G := fun ws => a.take c s ws) (fun sb ws hk => Take_any W a c sb k.sb ws s hk (h.ok hc)) (fun e => by rw [e]; exact take_nil _ _ _) (take_length _ _ _ _)
theorem PV.rtake (h : PV k rl bl s t W) {a c : Vw} (ha : PU k a) (hc : PU k c) {x y : Value} (qa : (a, x) ∈ rl) (qc : (c, y) ∈ rl) (hdl : k.db < W.heap.size) :
    Calls Try.prog 57 #[x, y] W fun e w' => e = .returned (.int .i64 (takeE a c)) ∧ PV k rl bl s (a.take c t t) w' := by
  have h1 := (h.ok ha).small
  have h2 := (h.ok hc).small
  refine (ref_take W a c k.da k.n k.dc t x y k.B k.db (h.refs _ qa) (h.refs _ qc) (fun hh => hh.2 rfl) hdl h.dat h.blk (by rw [h.lt]; exact h.pls ha) (by rw [h.lt]; exact h.pls hc) h1.1 h1.2 h2.1 h2.2).mono ?_
  rintro e w' ⟨rfl, k1, k2⟩
  exact ⟨rfl, h.belD k2 k1⟩
/-- The store when n of its places are set. -/
def flN (v : Vw) (x : Nat) (ws : List Nat) (n : Nat) : List Nat := (v.pls.take n).foldl (fun s p => s.set p x) ws
theorem flN_zero (v : Vw) (x : Nat) (ws : List Nat) : flN v x ws 0 = ws := rfl
theorem flN_succ {v : Vw} {n : Nat} (hn : n < v.r * v.c) (x : Nat) (ws : List Nat) : flN v x ws (n + 1) = (flN v x ws n).set (v.pl n) x := by
  unfold flN
  rw [take_get (pls_get hn), List.foldl_append]
  rfl
theorem flN_all {v : Vw} (x : Nat) (ws : List Nat) : flN v x ws (v.r * v.c) = v.fill x ws (plcs v.c (v.r * v.c)) := by
  unfold flN
  rw [fill_pls, List.take_of_length_le (by rw [pls_length]; exact Nat.le_refl _)]
theorem flN_length (v : Vw) (x : Nat) (ws : List Nat) (n : Nat) : (flN v x ws n).length = ws.length := foldl_set_length _ _ _
theorem PV.fill (h : PV k rl bl s t W) {u : Vw} (hu : PU k u) (x : Nat) :
    Calls Try.prog 49 #[(.agg #[.pointer u.p, .int .i64 u.r, .int .i64 u.c, .int .i64 u.o, .int .i64 u.d, .int .i64 u.u]), .float .f64 x] W fun e w' => e = .returned (.int .i64 (if u.p.isNone then 1 else 0)) ∧ PV k rl bl (flN u x s (u.r * u.c)) t w' :=
  h.upd hu (G := fun ws => flN u x ws (u.r * u.c)) (fun sb ws hk => by rw [flN_all]; exact Fill_any W u sb ws x hk) (fun e => by rw [e]; rfl) (flN_length _ _ _ _)

/-! ### A copy kept beside -/
/-- What the copy of u is: a view of a store of its own, told by boxes. -/
structure Apt (k : PC) (b2 : List (Nat × List Value)) (u : Vw) (st3 sb3 : Nat) (cs : List Nat) : Prop where
  ok : ∀ W, (∀ q ∈ b2, Box W q.1 q.2) → (cpyV u st3).Ok W sb3 cs
  ne : st3 ≠ k.st
theorem cpy_facts {u : Vw} {sb : Nat} {ws : List Nat} (h : u.Ok W sb ws) (st : Nat) : (cpyV u st).r = u.r ∧ (cpyV u st).c = u.c ∧ (cpyV u st).list (u.list ws) = u.list ws ∧ ((cpyV u st).p = none ∨ (cpyV u st).p = some ⟨st, 0, none⟩) := by
  unfold cpyV
  rcases h with rfl | ⟨⟨st', e, _⟩, _⟩
  · rw [if_pos (by rfl)]
    exact ⟨rfl, rfl, rfl, .inl rfl⟩
  · rw [e, if_neg (by intro hh; cases hh)]
    exact ⟨rfl, rfl, newV_list (list_length _ _), .inr rfl⟩
theorem PV.copy (h : PV k rl bl s t W) {u : Vw} (hu : PU k u) (hdl : k.db < W.heap.size) :
    Calls Try.prog 53 #[(.agg #[.pointer u.p, .int .i64 u.r, .int .i64 u.c, .int .i64 u.o, .int .i64 u.d, .int .i64 u.u])] W fun e w' => ∃ st3 sb3 b2, e = .returned (cpyV u st3).val ∧ Apt k b2 u st3 sb3 (u.list s) ∧ PV k rl (b2 ++ bl) s t w' := by
  have hsl := h.stlt
  have hsm := (h.ok hu).small
  refine (Copy_any W u k.sb s (h.ok hu)).mono ?_
  rintro e w' ⟨st3, sb3, rfl, hS, l1, l2, hb⟩
  cases hp : u.p.isNone
  case true =>
    refine ⟨st3, sb3, [], rfl, ⟨fun W _ => .inl ?_, by omega⟩, (h.below hb).more (fun q hq => by cases hq)⟩
    unfold cpyV
    rw [if_pos hp]
  case false =>
    obtain ⟨st', e, c1, c2, c3⟩ := hS hp
    simp only [Option.some.injEq, Addr.mk.injEq, and_true] at e
    subst e
    refine ⟨st3, sb3, [(st3, [Value.slice (some { block := sb3, off := 0 }) (u.list s).length (u.list s).length]), (sb3, (u.list s).map (Value.float .f64))], rfl, ⟨fun W hW => ?_, by omega⟩, (h.below hb).more (fun q hq => ?_)⟩
    · unfold cpyV
      rw [if_neg (by rw [hp]; decide)]
      refine newV_ok ⟨st3, rfl, hW (st3, _) (List.Mem.head _), hW (sb3, _) (List.Mem.tail _ (List.Mem.head _)), c3⟩ hsm.1 hsm.2 (list_length _ _)
    · simp only [List.mem_cons, List.not_mem_nil, or_false] at hq
      rcases hq with rfl | rfl
      · exact ⟨c1, by dsimp only; omega, by dsimp only; omega⟩
      · exact ⟨c2, by dsimp only; omega, by dsimp only; omega⟩
theorem PV.was (h : PV k rl bl s t W) {u : Vw} (hu : PU k u) {x : Value} (hq : (u, x) ∈ rl) (hdl : k.db < W.heap.size) :
    Calls Try.prog 25 #[x] W fun e w' => ∃ a cap b2, e = .returned (.agg #[.int .i64 u.r, .int .i64 u.c, .slice a (u.list t).length cap]) ∧ (∀ W, (∀ q ∈ b2, Box W q.1 q.2) → Cel W a (u.list t)) ∧ PV k rl (b2 ++ bl) s t w' := by
  have hsl := h.stlt
  have hsm := (h.ok hu).small
  have hR := h.refs _ hq
  rw [← h.lt] at hR
  refine (ref_matrix W u k.da t k.dc x hR h.cel (by rw [h.lt]; exact h.pls hu) hsm.1 hsm.2).mono ?_
  rintro e w' ⟨sv, rfl, hrow, hb⟩
  rcases hrow.2 with ⟨rfl, h0⟩ | ⟨g, cap, cur, rfl, hg, hgc, _, _, hcs, htk⟩
  · refine ⟨none, 0, [], by rw [h0], fun W _ hz => absurd (List.eq_nil_of_length_eq_zero h0) hz, (h.below hb).more (fun q hq => by cases hq)⟩
  · refine ⟨some ⟨g, 0, none⟩, cap, [(g, cur.toList)], rfl, fun W hW hz => ?_, (h.below hb).more (fun q hq => ?_)⟩
    · have hB : Box W g cur.toList := hW (g, cur.toList) (List.Mem.head _)
      refine ⟨g, 0, rfl, hB.lt, fun i p hi => ?_⟩
      rw [hB.cell, Nat.zero_add]
      have e1 : (cur.toList.take ((u.list t).length * 1))[i]? = ((u.list t).map (Value.float .f64))[i]? := by rw [htk]
      have hl : i < (u.list t).length := (List.getElem?_eq_some_iff.1 hi).1
      rw [List.getElem?_take, if_pos (by omega), List.getElem?_map, hi] at e1
      exact e1
    · simp only [List.mem_cons, List.not_mem_nil, or_false] at hq
      subst hq
      exact ⟨⟨_, by simpa using hgc⟩, by dsimp only; omega, by dsimp only; omega⟩
theorem PV.apok (h : PV k rl bl s t W) {b2 : List (Nat × List Value)} {u : Vw} {st3 sb3 : Nat} {cs : List Nat} (hA : Apt k b2 u st3 sb3 cs) (hs : ∀ q ∈ b2, q ∈ bl) : (cpyV u st3).Ok W sb3 cs := hA.ok W fun q hq => (h.box q (hs q hq)).1
theorem PV.apmat (h : PV k rl bl s t W) {b2 : List (Nat × List Value)} {u : Vw} {st3 sb3 : Nat} {cs : List Nat} (hA : Apt k b2 u st3 sb3 cs) (hs : ∀ q ∈ b2, q ∈ bl) :
    Calls Try.prog 38 #[(.agg #[.pointer (cpyV u st3).p, .int .i64 (cpyV u st3).r, .int .i64 (cpyV u st3).c, .int .i64 (cpyV u st3).o, .int .i64 (cpyV u st3).d, .int .i64 (cpyV u st3).u])] W fun e w' => ∃ a cap, e = .returned (.agg #[.int .i64 (cpyV u st3).r, .int .i64 (cpyV u st3).c, .slice a ((cpyV u st3).list cs).length cap]) ∧ Cel w' a ((cpyV u st3).list cs) ∧ Below W.heap.size W w' ∧ PV k rl bl s t w' := by
  refine (Matrix_any W (cpyV u st3) sb3 cs (h.apok hA hs)).mono ?_
  rintro e w' ⟨sv, rfl, hrow, hb⟩
  obtain ⟨a, cap, rfl, hM⟩ := cel_of_row hrow
  exact ⟨a, cap, rfl, hM, hb, h.below hb⟩
theorem PV.apsh (h : PV k rl bl s t W) {b2 : List (Nat × List Value)} {u o : Vw} {st3 sb3 : Nat} {cs : List Nat} (hA : Apt k b2 u st3 sb3 cs) (hs : ∀ q ∈ b2, q ∈ bl) (hp : (cpyV u st3).p = none ∨ (cpyV u st3).p = some ⟨st3, 0, none⟩) (po : PP k o) :
    Calls Try.prog 54 #[(.agg #[.pointer (cpyV u st3).p, .int .i64 (cpyV u st3).r, .int .i64 (cpyV u st3).c, .int .i64 (cpyV u st3).o, .int .i64 (cpyV u st3).d, .int .i64 (cpyV u st3).u]), (.agg #[.pointer o.p, .int .i64 o.r, .int .i64 o.c, .int .i64 o.o, .int .i64 o.d, .int .i64 o.u])] W fun e w' => e = .returned (.bool false) ∧ PV k rl bl s t w' := by
  have fin : ∀ {e : Ending} {w' : World}, (e = .returned (.bool false) ∧ Below W.heap.size W w') → e = .returned (.bool false) ∧ PV k rl bl s t w' := fun hh => ⟨hh.1, h.below hh.2⟩
  rcases hp with hp | hp
  · exact (Shares_nil W (cpyV u st3) o hp).mono fun _ _ => fin
  · rcases po with po | po
    · exact (Shares_nil2 W (cpyV u st3) o st3 hp po).mono fun _ _ => fin
    · obtain ⟨st', e, b1, _, _⟩ := h.sto
      simp only [Option.some.injEq, Addr.mk.injEq, and_true] at e
      subst e
      rcases h.apok hA hs with h1 | ⟨⟨st', e', b1', _, _⟩, _⟩
      · rw [h1] at hp; cases hp
      · rw [hp] at e'
        simp only [Option.some.injEq, Addr.mk.injEq, and_true] at e'
        subst e'
        exact (Shares_other W (cpyV u st3) o st3 k.st _ _ hp po hA.ne b1' b1).mono fun _ _ => fin
end
end Go.Proofs.Ytpjdibanjmmbkaa
