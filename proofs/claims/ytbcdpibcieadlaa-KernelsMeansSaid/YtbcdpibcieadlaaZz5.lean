/- Views: the range over all places of a view. -/
import Derived.RangeFuncNested
import Derived.RangeFuncBound
import Derived.RangeFuncCalls
import Derived.RangeFuncLeaves
import Derived.RangeFuncBox
import Derived.Shelf.Abstract
import Derived.Shelf.RegionOpen
import Derived.OwnWalkIn
import Derived.TacticsInMore
import Derived.LoopNIn
import Derived.LoopIn
import Derived.Test.YtbcdpibcieadlaaVw3Z
namespace Go.Proofs.Ytbcdpibcieadlaa
open Go Go.RowKit Go.Shelf
attribute [local go_sem] Oper.semAt_some
set_option maxRecDepth 100000

/-- A place, and a float there. -/
abbrev VEl (r c : Nat) (V : Nat → Nat → Nat → Prop) := { x : Nat × Nat × Nat // x.1 < r ∧ x.2.1 < c ∧ V x.1 x.2.1 x.2.2 }
def velV {r c : Nat} {V : Nat → Nat → Nat → Prop} (x : VEl r c V) : Array Value := #[.agg #[.int .i64 (x.1.1 : Int), .int .i64 (x.1.2.1 : Int)], .float .f64 x.1.2.2]
def velP {r c : Nat} {V : Nat → Nat → Nat → Prop} (x : VEl r c V) : Nat × Nat := (x.1.1, x.1.2.1)
/-- The first n places, row by row. -/
def plcs (c n : Nat) : List (Nat × Nat) := (List.range n).map fun k => (k / c, k % c)
theorem plcs_succ (c n : Nat) : plcs c (n + 1) = plcs c n ++ [(n / c, n % c)] := by unfold plcs; simp [List.range_succ]
theorem plcs_at {c i j : Nat} (hj : j < c) : plcs c (i * c + j + 1) = plcs c (i * c + j) ++ [(i, j)] := by
  rw [plcs_succ]
  have h1 : (i * c + j) / c = i := by
    rw [Nat.mul_comm, Nat.mul_add_div (by omega), Nat.div_eq_of_lt hj, Nat.add_zero]
  have h2 : (i * c + j) % c = j := by
    rw [Nat.mul_comm, Nat.mul_add_mod, Nat.mod_eq_of_lt hj]
  rw [h1, h2]
theorem plcs_prefix (c : Nat) {n m : Nat} (h : n ≤ m) : plcs c n <+: plcs c m := by
  obtain ⟨k, rfl⟩ := Nat.exists_eq_add_of_le h
  refine ⟨(List.range k).map fun x => ((n + x) / c, (n + x) % c), ?_⟩
  unfold plcs
  rw [List.range_add, List.map_append, List.map_map]
  rfl

set_option maxHeartbeats 1000000 in
theorem All_any (p : Option Addr) (r c o d u : Nat) (w : World) :
    Calls Try.prog 79 #[(.agg #[.pointer p, .int .i64 r, .int .i64 c, .int .i64 o, .int .i64 d, .int .i64 u])] w fun e w' => e = .returned (.func (.func 111) #[] #[.pointer (some ⟨w.heap.size, 0, none⟩)]) ∧ w' = w.alloc (.cells #[.pointer p, .int .i64 r, .int .i64 c, .int .i64 o, .int .i64 d, .int .i64 u] 29) := by
  go_enter Try.func79, Try.ntmps79
  go_wp2
  go_ret
  exact ⟨rfl, rfl⟩

theorem grown_of_below {w w' : World} (h : Below w.heap.size w w') : w.grownBy w' none := ⟨h.os, h.tape, h.output, h.size, fun k hk _ => h.block k hk⟩

/-- What the range keeps hold of, and what it may read: an invariant R that its rounds keep. -/
structure AllR (v : Vw) (sb Bv : Nat) (R : World → Prop) (Kp : World → World → Prop) (V : Nat → Nat → Nat → Prop) : Prop where
  cells : ∀ W, R W → Box W Bv [.pointer v.p, .int .i64 v.r, .int .i64 v.c, .int .i64 v.o, .int .i64 v.d, .int .i64 v.u]
  get : ∀ W, R W → ∃ ws, v.Ok W sb ws ∧ ∀ i j : Nat, i < v.r → j < v.c → V i j (v.get ws i j)
  keep : ∀ A B, R A → Kp A B → R B
  below : ∀ A B, R A → Below A.heap.size A B → R B

set_option maxHeartbeats 4000000 in
theorem All_stops (n : Nat) (hn : 1 ≤ n) (v : Vw) (sb Bv : Nat) (R : World → Prop) (Kp : World → World → Prop) (V : Nat → Nat → Nat → Prop) (hA : AllR v sb Bv R Kp V) (hr : v.r ≤ 512) (hc : v.c ≤ 512) (w : World) (hw : R w) :
    SeqStopsK Fence.wide n Try.prog 111 #[.pointer (some ⟨Bv, 0, none⟩)] (velV (r := v.r) (c := v.c) (V := V)) Kp (fun xs => xs.map velP = plcs v.c (v.r * v.c)) (fun pre => pre.map velP <+: plcs v.c (v.r * v.c)) (v.r * v.c) w := by
  intro l J Jx W hW hJ hJx hY h0
  have hRW : R W := hA.below _ _ hw hW
  obtain ⟨p, r, c, o, d, u⟩ := v
  dsimp only at hr hc hY ⊢
  have hb := (hA.cells _ hRW).facts
  obtain ⟨b1, b2, b3⟩ := hb
  refine callsIn_of_wp Try.func111 rfl trivial ?_ rfl
  simp only [Try.ntmps111, List.size_toArray, List.length_cons, List.length_nil, Nat.reduceAdd, Nat.reduceSub, Array.replicate_succ, Array.replicate_zero, List.push_toArray, List.append_toArray, List.nil_append, List.cons_append]
  dsimp only at b2
  gi_wp2
  gi_loopw [7] (fun s7 wr => ∃ (i : Nat) (pre : List (VEl r c V)), i ≤ r ∧ s7 = .int .i64 i ∧ pre.map velP = plcs c (i * c) ∧ J pre wr ∧ R wr) (fun s7 _ => r - (intOf s7).toNat)
  case atStart => exact ⟨0, [], Nat.zero_le _, rfl, by simp [plcs], h0, hRW⟩
  case round =>
    obtain ⟨i, pre, hi, rfl, hpre, hJs, hRs⟩ := hrel
    obtain ⟨e1, e2, e3⟩ := (hA.cells _ hRs).facts
    dsimp only at e2
    clear b1 b2 b3
    by_cases hlt : i < r
    · gi_wp2
      gi_loopw [12] (fun s12 wr => ∃ (j : Nat) (pre : List (VEl r c V)), j ≤ c ∧ s12 = .int .i64 j ∧ pre.map velP = plcs c (i * c + j) ∧ J pre wr ∧ R wr) (fun s12 _ => c - (intOf s12).toNat)
      case atStart => exact ⟨0, pre, Nat.zero_le _, rfl, hpre, hJs, hRs⟩
      case round =>
        clear hpre hJs hRs e1 e2 e3
        obtain ⟨j, pre, hj, rfl, hpre, hJs, hRs⟩ := hrel
        obtain ⟨e1, e2, e3⟩ := (hA.cells _ hRs).facts
        dsimp only at e2
        by_cases hlt2 : j < c
        · obtain ⟨ws, hok, hV⟩ := hA.get _ hRs
          have hVx := hV i j hlt hlt2
          gi_wp2_with fail
          refine ⟨trivial, (callsIn_wide.2 (At_any wr ⟨p, r, c, o, d, u⟩ sb ws i j hok)).mono ?_⟩
          rintro e w2 ⟨rfl, hb2⟩
          have hR2 := hA.below _ _ hRs hb2
          have hJ2 := hJ _ _ _ none hJs (grown_of_below hb2) (fun r e => by cases e)
          generalize (Vw.mk p r c o d u).get ws i j = x at hVx ⊢
          have hlen : pre.length = i * c + j := by
            have := congrArg List.length hpre
            simpa [plcs] using this
          have hle : i * c + j + 1 ≤ r * c := by
            have h1 : (i + 1) * c ≤ r * c := Nat.mul_le_mul_right _ hlt
            rw [Nat.succ_mul] at h1
            omega
          obtain ⟨fn, tmps, assign, body, hy, hR⟩ := hY pre ⟨(i, j, x), hlt, hlt2, hVx⟩ w2 hJ2 (by omega)
          dsimp only [velV] at hy
          have hpre2 : (pre ++ [(⟨(i, j, x), hlt, hlt2, hVx⟩ : VEl r c V)]).map velP = plcs c (i * c + j + 1) := by
            rw [List.map_append, hpre, plcs_at hlt2]
            rfl
          have HP2 := Lib.hid hpre2
          clear hpre2
          clear e1 e2 e3 hpre hlen
          obtain ⟨e1, e2, e3⟩ := (hA.cells _ hR2).facts
          dsimp only at e2
          gi_wp2
          refine hR.mono ?_
          rintro e W3 (⟨rfl, hJ3, hk3⟩ | ⟨rfl, hJx3⟩)
          · gi_wp2
            go_roundw
            case rel => exact ⟨j + 1, _, by omega, by go_num, by rw [← Nat.add_assoc]; exact HP2.out, hJ3, hA.keep _ _ hR2 hk3⟩
            case measure => simp [intOf]; omega
          · gi_wp2
            refine bodyPost_ret (results_none rfl _ _ _) rfl ?_
            refine ⟨⟨_, rfl⟩, .inr ⟨_, ?_, hJx3⟩⟩
            rw [HP2.out]
            exact plcs_prefix c hle
        · obtain rfl : j = c := by omega
          gi_wp2
          go_roundw
          case rel => exact ⟨i + 1, pre, by omega, by go_num, by rw [hpre, Nat.succ_mul], hJs, hRs⟩
          case measure => simp [intOf]; omega
    · obtain rfl : i = r := by omega
      gi_wp2
      go_end0
      exact ⟨⟨_, rfl⟩, .inl ⟨pre, hpre, hJs⟩⟩

/-! ### What a loop over a view asks of its body -/
/-- From b on only what is no cells has turned. -/
def StillC (b : Nat) (A B : World) : Prop := Below b A B ∧ ∀ (k : Nat) (o : Obj), A.heap[k]? = some o → o.isCells = true → B.heap[k]? = some o
theorem StillC.of_grown {b : Nat} {A B : World} {row : Option Nat} (hb : b ≤ A.heap.size) (hg : A.grownBy B row) (hr : ∀ r, row = some r → b ≤ r ∧ ∃ o : Obj, A.heap[r]? = some o ∧ o.isCells = false) : StillC b A B := by
  refine ⟨⟨hg.os, hg.tape, hg.output, hg.size, fun k hk => hg.block k (by omega) ?_⟩, fun k (o : Obj) ho hc => ?_⟩
  · intro e
    have := (hr k e.symm).1
    omega
  · rw [hg.block k (Array.getElem?_eq_some_iff.1 ho).1, ho]
    intro e
    obtain ⟨_, o', ho', hc'⟩ := hr k e.symm
    rw [ho] at ho'
    cases ho'
    rw [hc] at hc'
    cases hc'
theorem StillC.put {b l : Nat} {W : World} {o o' : Obj} (hl : b ≤ l) (h : W.heap[l]? = some o) (hc : o.isCells = false) : StillC b W (W.putObj l o') :=
  StillC.of_grown (by have := (Array.getElem?_eq_some_iff.1 h).1; omega) (grownBy_putObj' W l o') (fun r e => by cases e; exact ⟨hl, o, h, hc⟩)
theorem Box.grown {n : Nat} {A B : World} {cs : List Value} {row : Option Nat} (h : Box A n cs) (hg : A.grownBy B row) (hne : ∀ r, row = some r → n ≠ r) : Box B n cs := by
  have hl := h.lt
  obtain ⟨T, hT⟩ := h
  exact ⟨T, by rw [hg.block n hl (fun e => hne n e.symm rfl)]; exact hT⟩
theorem Box.belB {w w' : World} {n s B : Nat} {cs : List Value} (h : Box w n cs) (hB : n < B) (hs : n ≠ s) (hb : Bel B s w w') : Box w' n cs := by
  obtain ⟨T, h⟩ := h
  exact ⟨T, by rw [hb.block n hB hs]; exact h⟩
theorem Box.still {b n : Nat} {A B : World} {cs : List Value} (h : Box A n cs) (hs : StillC b A B) : Box B n cs := by
  obtain ⟨T, hT⟩ := h
  exact ⟨T, hs.2 _ _ hT rfl⟩
theorem Sto.still {b sb : Nat} {A B : World} {p : Option Addr} {ws : List Nat} (h : Sto A p sb ws) (hs : StillC b A B) : Sto B p sb ws := by
  obtain ⟨st, rfl, h1, h2, h3⟩ := h
  exact ⟨st, rfl, h1.still hs, h2.still hs, h3⟩
theorem Vw.Ok.still {b sb : Nat} {A B : World} {v : Vw} {ws : List Nat} (h : v.Ok A sb ws) (hs : StillC b A B) : v.Ok B sb ws := by
  rcases h with h | ⟨h, k⟩
  · exact .inl h
  · exact .inr ⟨h.still hs, k⟩
theorem ownsRow_still {b base size : Nat} {e : TypeId} {A B : World} {v : Value} {n : Nat} {xs : List Value} (h : A.ownsRow base e size v n xs) (hs : StillC b A B) : B.ownsRow base e size v n xs := by
  refine ⟨h.1, ?_⟩
  rcases h.2 with h0 | ⟨g, cap, cur, h1, h2, h3, h4⟩
  · exact .inl h0
  · exact .inr ⟨g, cap, cur, h1, h2, hs.2 _ _ h3 rfl, h4⟩
theorem below_still {b : Nat} {W A B : World} (h : Below W.heap.size W A) (hs : StillC b A B) (hb : W.heap.size ≤ b) : Below W.heap.size W B := h.trans (hs.1.mono hb)
theorem ownFrom_still {β : Type} {b : Nat} {I : β → World → Prop} (hb : ∀ s A, I s A → b ≤ A.heap.size) (h : ∀ s A B, I s A → StillC b A B → I s B) : OwnFrom b I :=
  fun s A B _ hs hg hr => h s A B hs (StillC.of_grown (hb s A hs) hg hr)
theorem keeps_below {W W' : World} (h : Below W.heap.size W W') (b : Nat) : KeepsFrom b W W' :=
  ⟨h.size, fun k o _ hk _ => by rw [h.block k (Array.getElem?_eq_some_iff.1 hk).1]; exact hk⟩
theorem keeps_bel {W W' : World} {s : Nat} {cs : List Value} (h : Bel W.heap.size s W W') (hx : Box W s cs) (b : Nat) : KeepsFrom b W W' :=
  ⟨h.size, fun k o _ hk ho => by
    rw [h.block k (Array.getElem?_eq_some_iff.1 hk).1]
    · exact hk
    · rintro rfl
      obtain ⟨T, hT⟩ := hx
      rw [hk] at hT
      cases hT
      cases ho⟩
theorem ownsRow_slice {W : World} {base size n : Nat} {e : TypeId} {v : Value} {xs : List Value} (h : W.ownsRow base e size v n xs) : ∃ a cap, v = .slice a n cap := by
  rcases h.2 with ⟨rfl, rfl⟩ | ⟨g, cap, cur, rfl, _⟩
  · exact ⟨_, _, rfl⟩
  · exact ⟨_, _, rfl⟩
theorem ownsRow_bel {A B : World} {base size n s : Nat} {e : TypeId} {v : Value} {xs : List Value} (h : A.ownsRow base e size v n xs) (hb : Bel A.heap.size s A B) (hs : s < base) : B.ownsRow base e size v n xs := by
  refine ⟨h.1, ?_⟩
  rcases h.2 with h0 | ⟨g, cap, cur, h1, h2, h3, h4⟩
  · exact .inl h0
  · exact .inr ⟨g, cap, cur, h1, h2, by rw [hb.block g (Array.getElem?_eq_some_iff.1 h3).1 (by omega)]; exact h3, h4⟩
/-- Behind an append, and a store of the slice into a variable's own block: what has stayed. -/
theorem app_step {W w1 : World} {base bm size k m j : Nat} {e T : TypeId} {sv v' u : Value} {xs ys cs' : List Value} {cs : Array Value} (hrow : W.ownsRow base e size sv k xs) (hgrow : (W.alloc (.cells cs T)).grownBy w1 sv.ownBlock)
    (hown' : w1.ownsRow base e size v' m ys) (hbm : bm < base) (hW : base ≤ W.heap.size) (hbx : Box w1 bm cs') :
    (w1.setCell ⟨bm, j, none⟩ u).ownsRow base e size v' m ys ∧ Bel base bm W (w1.setCell ⟨bm, j, none⟩ u) ∧ ∀ b, KeepsFrom b W (w1.setCell ⟨bm, j, none⟩ u) := by
  have hset : w1.grownBy (w1.setCell ⟨bm, j, none⟩ u) (some bm) := ⟨rfl, rfl, rfl, by simp [World.setCell], fun k _ hk => Below.heap_setCell _ _ _ k (fun e => hk (by rw [e]))⟩
  refine ⟨hown'.kept hset (.inr fun e => ?_), ?_, fun b => ?_⟩
  · have := (hown'.lt _ e).1
    omega
  · exact (Bel.of ((((Below.refl base W).alloc hW _)).grown hgrow (by simp; omega) fun q eq => (hrow.lt q eq).1)).set _ _
  · refine (((KeepsOthers.alloc W _).trans (KeepsOthers.of_grownBy hgrow fun q o ej hj => ?_)).trans (KeepsOthers.setCell _ _ _)).from b
    rcases (hrow.alloc (.cells cs T)).2 with ⟨rfl, _⟩ | ⟨g, cap, cur, rfl, _, hgb, _⟩
    · simp [Value.ownBlock] at ej
    · obtain rfl : g = q := by simpa [Value.ownBlock] using ej
      rw [hgb] at hj; cases hj; rfl
/-- What is read in the rounds: the view's box, and the store's floats. -/
def AllRd (v : Vw) (sb Bv : Nat) (ws : List Nat) (W : World) : Prop := Box W Bv [.pointer v.p, .int .i64 v.r, .int .i64 v.c, .int .i64 v.o, .int .i64 v.d, .int .i64 v.u] ∧ v.Ok W sb ws
theorem AllRd.still {v : Vw} {sb Bv b : Nat} {ws : List Nat} {A B : World} (h : AllRd v sb Bv ws A) (hs : StillC b A B) : AllRd v sb Bv ws B := ⟨h.1.still hs, h.2.still hs⟩
def ImpK (R : World → Prop) (A B : World) : Prop := R A → R B
theorem ImpK.t {R : World → Prop} {A B C : World} (h : ImpK R A B) (k : ImpK R B C) : ImpK R A C := fun x => k (h x)
/-- The floats are told just as they are: no round writes the store. -/
theorem AllRd.R (v : Vw) (sb Bv : Nat) (ws : List Nat) : AllR v sb Bv (AllRd v sb Bv ws) (ImpK (AllRd v sb Bv ws)) (fun i j x => x = v.get ws i j) :=
  ⟨fun _ h => h.1, fun _ h => ⟨ws, h.2, fun _ _ _ _ => rfl⟩, fun _ _ h k => k h, fun _ _ h k => ⟨h.1.below k, h.2.below k⟩⟩

/-- All floats of a view, row by row. -/
def Vw.list (v : Vw) (ws : List Nat) : List Nat := (plcs v.c (v.r * v.c)).map fun x => v.get ws x.1 x.2
theorem velP_list {v : Vw} {ws : List Nat} {n : Nat} : ∀ {xs : List (VEl v.r v.c (fun i j x => x = v.get ws i j))}, xs.map velP = plcs v.c n → xs.map (fun x => x.1.2.2) = (plcs v.c n).map fun x => v.get ws x.1 x.2 := by
  intro xs h
  rw [← h, List.map_map]
  refine List.map_congr_left fun x _ => ?_
  exact x.2.2.2
theorem info_f64 : (Try.prog.info? 31).map (fun i => (i.zero, i.size, i.bytes)) = some (some (.float .f64 0), 1, 8) := by kernel_rfl

set_option maxHeartbeats 4000000 in
theorem Matrix_any (w : World) (v : Vw) (sb : Nat) (ws : List Nat) (h : v.Ok w sb ws) :
    Calls Try.prog 48 #[v.val] w fun e w' => ∃ sv, e = .returned (.agg #[.int .i64 v.r, .int .i64 v.c, sv]) ∧ w'.ownsRow w.heap.size 31 1 sv (v.list ws).length ((v.list ws).map (Value.float .f64)) ∧ Below w.heap.size w w' := by
  obtain ⟨i0, hi, hz0, hz1, hz2⟩ := info_parts info_f64
  have hsm := h.small
  refine (callsIn_wide (n := 9)).1 ?_
  refine callsIn_of_wp_marks Try.func48 rfl trivial ?_ rfl
  simp only [Try.ntmps48, List.size_toArray, List.length_cons, List.length_nil, Nat.reduceAdd, Nat.reduceSub, Array.replicate_succ, Array.replicate_zero, List.push_toArray, List.append_toArray, List.nil_append, List.cons_append]
  have ev : v.val = (.agg #[.pointer v.p, .int .i64 v.r, .int .i64 v.c, .int .i64 v.o, .int .i64 v.d, .int .i64 v.u]) := rfl
  rw [ev]
  gi_wp2_with (refine ⟨trivial, ?_⟩; gi_at_call 79; refine (callsIn_wide.2 (All_any _ _ _ _ _ _ _)).mono ?_; rintro e w1 ⟨rfl, rfl⟩)
  have hB0 : Below w.heap.size w ((((w.alloc (.cells #[.pointer v.p, .int .i64 v.r, .int .i64 v.c, .int .i64 v.o, .int .i64 v.d, .int .i64 v.u] 29)).alloc (.cells #[.int .i64 0, .int .i64 0, .slice none 0 0] 24)).alloc (.cells #[.int .i64 v.r, .int .i64 v.c, .slice none 0 0] 24)).alloc (.cells #[.pointer v.p, .int .i64 v.r, .int .i64 v.c, .int .i64 v.o, .int .i64 v.d, .int .i64 v.u] 29)) := ((((Below.refl _ _).alloc (Nat.le_refl _) _).alloc (by simp) _).alloc (by simp; omega) _).alloc (by simp; omega) _
  have x1 : Box ((((w.alloc (.cells #[.pointer v.p, .int .i64 v.r, .int .i64 v.c, .int .i64 v.o, .int .i64 v.d, .int .i64 v.u] 29)).alloc (.cells #[.int .i64 0, .int .i64 0, .slice none 0 0] 24)).alloc (.cells #[.int .i64 v.r, .int .i64 v.c, .slice none 0 0] 24)).alloc (.cells #[.pointer v.p, .int .i64 v.r, .int .i64 v.c, .int .i64 v.o, .int .i64 v.d, .int .i64 v.u] 29)) (w.heap.size + 1 + 1) [.int .i64 v.r, .int .i64 v.c, .slice none 0 0] := (Box.newA _ [_, _, _] _ (by simp)).alloc _
  have x2 : Box ((((w.alloc (.cells #[.pointer v.p, .int .i64 v.r, .int .i64 v.c, .int .i64 v.o, .int .i64 v.d, .int .i64 v.u] 29)).alloc (.cells #[.int .i64 0, .int .i64 0, .slice none 0 0] 24)).alloc (.cells #[.int .i64 v.r, .int .i64 v.c, .slice none 0 0] 24)).alloc (.cells #[.pointer v.p, .int .i64 v.r, .int .i64 v.c, .int .i64 v.o, .int .i64 v.d, .int .i64 v.u] 29)) (w.heap.size + 1 + 1 + 1) [.pointer v.p, .int .i64 v.r, .int .i64 v.c, .int .i64 v.o, .int .i64 v.d, .int .i64 v.u] := Box.newA _ _ _ (by simp)
  have x0 : Box ((((w.alloc (.cells #[.pointer v.p, .int .i64 v.r, .int .i64 v.c, .int .i64 v.o, .int .i64 v.d, .int .i64 v.u] 29)).alloc (.cells #[.int .i64 0, .int .i64 0, .slice none 0 0] 24)).alloc (.cells #[.int .i64 v.r, .int .i64 v.c, .slice none 0 0] 24)).alloc (.cells #[.pointer v.p, .int .i64 v.r, .int .i64 v.c, .int .i64 v.o, .int .i64 v.d, .int .i64 v.u] 29)) (w.heap.size + 1) [.int .i64 0, .int .i64 0, .slice none 0 0] := ((Box.newA _ [_, _, _] _ (by simp)).alloc _).alloc _
  have hsz : ((((w.alloc (.cells #[.pointer v.p, .int .i64 v.r, .int .i64 v.c, .int .i64 v.o, .int .i64 v.d, .int .i64 v.u] 29)).alloc (.cells #[.int .i64 0, .int .i64 0, .slice none 0 0] 24)).alloc (.cells #[.int .i64 v.r, .int .i64 v.c, .slice none 0 0] 24)).alloc (.cells #[.pointer v.p, .int .i64 v.r, .int .i64 v.c, .int .i64 v.o, .int .i64 v.d, .int .i64 v.u] 29)).heap.size = w.heap.size + 4 := by simp
  generalize (((w.alloc (.cells #[.pointer v.p, .int .i64 v.r, .int .i64 v.c, .int .i64 v.o, .int .i64 v.d, .int .i64 v.u] 29)).alloc (.cells #[.int .i64 0, .int .i64 0, .slice none 0 0] 24)).alloc (.cells #[.int .i64 v.r, .int .i64 v.c, .slice none 0 0] 24)).alloc (.cells #[.pointer v.p, .int .i64 v.r, .int .i64 v.c, .int .i64 v.o, .int .i64 v.d, .int .i64 v.u] 29) = W1 at *
  have hrc : v.r * v.c ≤ 512 * 512 := Nat.mul_le_mul hsm.1 hsm.2
  refine wpIn_rangeFunc_ownG rfl (by omega) (gf := 111) (lb := #[.pointer (some ⟨w.heap.size + 1 + 1 + 1, 0, none⟩)]) rfl trivial (enters_of Try.func111 (by kernel_rfl) rfl)
    (All_stops 8 (by decide) v sb (w.heap.size + 1 + 1 + 1) _ _ _ (AllRd.R v sb (w.heap.size + 1 + 1 + 1) ws) hsm.1 hsm.2 W1 ⟨x2, h.below hB0⟩) (fun h k => h.t k) (fun W l o o' hl ho hc _ => fun hR => hR.still (StillC.put hl ho hc)) (Below.refl _ _) (fun _ => rfl)
    (fun pre W => (∃ sv, Box W (w.heap.size + 1 + 1) [.int .i64 v.r, .int .i64 v.c, sv] ∧ W.ownsRow (w.heap.size + 4) 31 1 sv pre.length ((pre.map fun x => x.1.2.2).map (Value.float .f64))) ∧ Box W (w.heap.size + 1) [.int .i64 0, .int .i64 0, .slice none 0 0] ∧ Below w.heap.size w W ∧ w.heap.size + 4 ≤ W.heap.size)
    (fun _ _ _ => False)
    (ownFrom_still (fun _ A hs => by rw [hsz]; exact hs.2.2.2) (fun _ A B hs hst => ⟨by obtain ⟨sv, k1, k2⟩ := hs.1; exact ⟨sv, k1.still hst, ownsRow_still k2 hst⟩, hs.2.1.still hst, below_still hs.2.2.1 hst (by omega), Nat.le_trans hs.2.2.2 hst.1.size⟩))
    (fun _ _ _ _ _ hs _ _ => hs)
    ⟨⟨_, x1, World.ownsRow_nil _ _ _ _⟩, x0, hB0, by omega⟩
    (fun x => { tmps := #[(.agg #[.pointer v.p, .int .i64 v.r, .int .i64 v.c, .int .i64 v.o, .int .i64 v.d, .int .i64 v.u]), .pointer (some ⟨w.heap.size, 0, none⟩), .pointer (some ⟨w.heap.size + 1, 0, none⟩), .pointer (some ⟨w.heap.size + 1 + 1, 0, none⟩), undef, .float .f64 x.1.2.2, .pointer (some ⟨w.heap.size, 1, none⟩), .int .i64 v.r, .pointer (some ⟨w.heap.size, 2, none⟩), .int .i64 v.c, .agg #[.int .i64 v.r, .int .i64 v.c, .slice none 0 0], (.agg #[.pointer v.p, .int .i64 v.r, .int .i64 v.c, .int .i64 v.o, .int .i64 v.d, .int .i64 v.u]), .func (.func 111) #[] #[.pointer (some ⟨w.heap.size + 1 + 1 + 1, 0, none⟩)], .agg #[.int .i64 (x.1.1 : Int), .int .i64 (x.1.2.1 : Int)], .float .f64 x.1.2.2, undef, undef, undef, undef, undef, undef, undef], defers := [] }) ?assign ?body ?done ?stop
  case assign =>
    intro l x W K hK
    unfold velV
    gi_wp2
    exact hK
  case body =>
    rintro l pre x W ⟨⟨sv, hbx, hrow⟩, hb0, hB, hs4⟩ hlt
    have hc := hbx.facts
    obtain ⟨q1, q2, q3⟩ := hc
    have hown := hrow.lt
    gi_wp2_with (gi_at_builtin; refine wpListIn_append_own _ rfl _ _ 22 rfl (w.heap.size + 4) 31 i0 (.float .f64 0) 1 8 Try.underlying22 hi hz0 hz1 hz2 rfl (by decide) _ _ _ rfl (hrow.alloc _) ⟨W.heap.size, 0, none⟩ 1 1 [.float .f64 x.1.2.2] rfl rfl (cell_one_new _ _ _) (by simp [Value.oneCell']) (by unfold maxLen; omega) (by omega) (by simp; omega) ?_; intro v' w1 hown' hgrow _; obtain ⟨g', cap', rfl⟩ := ownsRow_succ hown'; have hbx1 := (hbx.alloc _).grown hgrow (fun r e => by have := hown r e; omega); obtain ⟨q4, q5, q6⟩ := hbx1.facts)
    obtain ⟨z1, z2, z3⟩ := app_step (j := 2) (u := .slice (some ⟨g', 0, none⟩) (pre.length + 1) cap') hrow hgrow hown' (show w.heap.size + 1 + 1 < w.heap.size + 4 by omega) hs4 hbx1
    have hB' : Below w.heap.size w (w1.setCell ⟨w.heap.size + 1 + 1, 2, none⟩ (.slice (some ⟨g', 0, none⟩) (pre.length + 1) cap')) := hB.trans ((z2.mono (by omega)).below (by omega))
    refine ⟨z3 _, fun hR => ⟨hR.1.belB (by omega) (by omega) z2, h.below hB'⟩, ⟨⟨_, hbx1.set 2 _, ?_⟩, hb0.belB (by omega) (by omega) z2, hB', Nat.le_trans hs4 z2.size⟩⟩
    simpa using z1
  case done =>
    rintro D ys W hD hys ⟨⟨sv, hbx, hrow⟩, hb0, hB, hs4⟩ hK
    have hc := hbx.facts
    obtain ⟨q1, q2, q3⟩ := hc
    have hc := hb0.facts
    obtain ⟨q4, q5, q6⟩ := hc
    have hlen : ys.length = v.r * v.c := by
      have := congrArg List.length hys
      simpa [plcs] using this
    have hlist : ys.map (fun x => x.1.2.2) = v.list ws := velP_list hys
    obtain ⟨a, cap, rfl⟩ := ownsRow_slice hrow
    have HR := Lib.hid hrow
    clear hrow
    gi_wp2
    have hbel : ∀ B, Bel B (w.heap.size + 1) W (((W.setCell ⟨w.heap.size + 1, 0, none⟩ (.int .i64 v.r)).setCell ⟨w.heap.size + 1, 1, none⟩ (.int .i64 v.c)).setCell ⟨w.heap.size + 1, 2, none⟩ (.slice a (v.r * v.c) cap)) := fun B => (((Bel.refl _ _ _).set _ _).set _ _).set _ _
    have hK2 : (((W.setCell ⟨w.heap.size + 1, 0, none⟩ (.int .i64 v.r)).setCell ⟨w.heap.size + 1, 1, none⟩ (.int .i64 v.c)).setCell ⟨w.heap.size + 1, 2, none⟩ (.slice a (v.r * v.c) cap)).heap[D]? = some (.deferred (some [])) := by
      rw [(hbel (D + 1)).block D (Nat.lt_succ_self _) (by omega)]; exact hK
    have hst : StillC W1.heap.size _ _ := StillC.put (o' := .deferred none) hD hK2 rfl
    refine ⟨by simp, .inl ⟨_, _, rfl, run_takeDeferred hK2, ?_⟩⟩
    have HR2 := HR.out
    rw [hlen, hlist] at HR2
    refine ⟨_, results_one rfl (rv_cell (g := w.heap.size + 1) rfl ((((hb0.set 0 _).set 1 _).set 2 _).still hst) rfl Try.underlying24 (by kernel_rfl)), _, rfl, ?_, ?_⟩
    · have hl : (v.list ws).length = v.r * v.c := by rw [← hlist, List.length_map, hlen]
      rw [hl]
      have h1 := ownsRow_still (ownsRow_bel HR2 (hbel _) (by omega)) hst
      refine ⟨h1.1, ?_⟩
      rcases h1.2 with h0 | ⟨g, cap', cur, h1, h2, h3⟩
      · exact .inl h0
      · exact .inr ⟨g, cap', cur, h1, by omega, h3⟩
    · exact below_still (hB.trans ((hbel _).below (by omega))) hst (by omega)
  case stop =>
    rintro D c pre W _ _ h _
    exact h.elim
end Go.Proofs.Ytbcdpibcieadlaa

/- Views: loops over a view's places whose place lies in a box: Same, Fill, Copy, Take. -/
namespace Go.Proofs.Ytbcdpibcieadlaa
open Go Go.RowKit Go.Shelf
attribute [local go_sem] Oper.semAt_some
set_option maxRecDepth 100000

theorem StillC.alloc {b : Nat} {W : World} (hb : b ≤ W.heap.size) (o : Obj) : StillC b W (W.alloc o) :=
  StillC.of_grown hb (World.grownBy_alloc W o none) (fun r e => by cases e)

/-- A loop over a view, its place in a box. -/
theorem view_loop {g : Operand} {ps : Array Tmp} {assign body : Code} {Q : Exit → Act → World → Prop} {T : Array Value} {ds : List Deferred} {w : World} (n : Nat) (hn : 3 ≤ n) {v : Vw} {sb Bv : Nat} {R : World → Prop} {V : Nat → Nat → Nat → Prop}
    (hA : AllR v sb Bv R (ImpK R) V) (hr : v.r ≤ 512) (hc : v.c ≤ 512) (hRw : R w) (hRs : ∀ A B, R A → StillC w.heap.size A B → R B)
    (hg : (Act.mk T ds).eval g = .func (.func 111) #[] #[.pointer (some ⟨Bv, 0, none⟩)]) (hps : ps.size = 2)
    (I : List (VEl v.r v.c V) → World → Prop) (Ix : Code → List (VEl v.r v.c V) → World → Prop)
    (hI : ∀ pre A, I pre A → w.heap.size ≤ A.heap.size) (hIs : ∀ pre A B, I pre A → StillC w.heap.size A B → I pre B)
    (hIx : ∀ c pre A, Ix c pre A → w.heap.size ≤ A.heap.size) (hIxs : ∀ c pre A B, Ix c pre A → StillC w.heap.size A B → Ix c pre B) (h0 : I [] w)
    (upd : Array Value → VEl v.r v.c V → Nat → Array Value)
    (hassign : ∀ (l : Nat) (x : VEl v.r v.c V) (W : World) (K : Act → World → Prop), K ⟨upd T x W.heap.size, []⟩ (W.alloc (.cells #[.int .i64 (x.1.1 : Int), .int .i64 (x.1.2.1 : Int)] 92)) →
      assign.wpIn (Fence.wide.inRound l) (n - 1 - 1) Try.prog (Exit.then K (fun _ _ _ => False)) { tmps := (ps.zip (velV x)).foldl (fun t (p, v) => t.setIfInBounds p v) T, defers := [] } W)
    (hbody : ∀ (l : Nat) (pre : List (VEl v.r v.c V)) (x : VEl v.r v.c V) (Bx : Nat) (W : World), I pre W → Box W Bx [.int .i64 (x.1.1 : Int), .int .i64 (x.1.2.1 : Int)] → w.heap.size ≤ Bx → pre.length < v.r * v.c →
      body.wpIn (Fence.wide.inRound l) (n - 1 - 1) Try.prog (ownPostG w.heap.size (ImpK R) I Ix (pre ++ [x]) W) ⟨upd T x Bx, []⟩ W)
    (hdone : ∀ (D : Nat) (xs : List (VEl v.r v.c V)) (W : World), w.heap.size ≤ D → xs.map velP = plcs v.c (v.r * v.c) → I xs W → W.heap[D]? = some (.deferred (some [])) → Q .normal ⟨T, { target := .collected D, args := #[] } :: ds⟩ W)
    (hstop : ∀ (D : Nat) (c : Code) (pre : List (VEl v.r v.c V)) (W : World), w.heap.size ≤ D → pre.map velP <+: plcs v.c (v.r * v.c) → Ix c pre W → W.heap[D]? = some (.deferred (some [])) → c.wpIn Fence.wide n Try.prog Q ⟨T, { target := .collected D, args := #[] } :: ds⟩ W) :
    (Code.rangeFunc g ps assign body).wpIn Fence.wide n Try.prog Q ⟨T, ds⟩ w := by
  refine wpIn_rangeFunc_ownH rfl (by omega) hg trivial (enters_of Try.func111 (by kernel_rfl) rfl)
    (All_stops (n - 1) (by omega) v sb Bv R (ImpK R) V hA hr hc w hRw) (fun h k => h.t k) (fun W l o o' hl ho hc _ => fun hR => hRs _ _ hR (StillC.put hl ho hc)) (Below.refl _ _) (fun _ => by rw [hps]; rfl)
    I Ix (ownFrom_still hI hIs) (fun c => ownFrom_still (hIx c) (hIxs c)) h0
    (fun x a' W => ∃ Bx, w.heap.size ≤ Bx ∧ Box W Bx [.int .i64 (x.1.1 : Int), .int .i64 (x.1.2.1 : Int)] ∧ w.heap.size ≤ W.heap.size ∧ a' = ⟨upd T x Bx, []⟩)
    (fun x a' => ownFrom_still (fun _ A h => h.elim fun _ h => h.2.2.1) (fun _ A B h hs => by obtain ⟨Bx, h1, h2, h3, h4⟩ := h; exact ⟨Bx, h1, h2.still hs, Nat.le_trans h3 hs.1.size, h4⟩))
    ?_ ?_ hdone hstop
  · intro l pre x W K hi hK
    have hs := StillC.alloc (hI _ _ hi) (.cells #[.int .i64 (x.1.1 : Int), .int .i64 (x.1.2.1 : Int)] 92)
    exact hassign l x W K (hK _ _ ((KeepsOthers.alloc _ _).from _) (fun hR => hRs _ _ hR hs) (hIs _ _ _ hi hs) ⟨W.heap.size, hI _ _ hi, Box.newA _ [_, _] _ rfl, by have := hI _ _ hi; simp; omega, rfl⟩)
  · rintro l pre x a' W hl hl2 hi ⟨Bx, h1, h2, h3, rfl⟩ hlen
    exact hbody l pre x Bx W hi h2 h1 hlen

theorem rv_bool {P : Program} {w : World} {tmps : Array Value} {p : Tmp} {ty : TypeId} {g : Nat} {v : Value} (hp : tmps.getD p undef = .pointer (some ⟨g, 0, none⟩)) (hb : Box w g [v]) (hu : P.underlying ty = some .bool) :
    (rvSem tmps (.cell p ty)).run P w = .ok v w := by
  have hc : w.cell? ⟨g, 0, none⟩ = some v := by rw [hb.cell]; rfl
  show (do loadVar ty (← asAddr (tmps.getD p undef)) : Sem Value).run P w = _
  rw [hp]
  simp [asAddr, loadVar, isAgg, run_underlying hu, hc, go_sem]
/-! ### Same -/
def sameL (a b : Vw) (wa wb : List Nat) (l : List (Nat × Nat)) : Bool := l.all fun x => sameF (a.get wa x.1 x.2) (b.get wb x.1 x.2)
/-- Do two views show the same? -/
def sameV (a b : Vw) (wa wb : List Nat) : Bool := (a.p.isNone == b.p.isNone) && decide (a.r = b.r) && decide (a.c = b.c) && sameL a b wa wb (plcs a.c (a.r * a.c))

set_option maxHeartbeats 4000000 in
theorem Same_any (w : World) (a b : Vw) (sa sb : Nat) (wa wb : List Nat) (ha : a.Ok w sa wa) (hb : b.Ok w sb wb) :
    Calls Try.prog 37 #[a.val, b.val] w fun e w' => e = .returned (.bool (sameV a b wa wb)) ∧ Below w.heap.size w w' := by
  have hsm := ha.small
  by_cases hs : a.p.isNone = b.p.isNone ∧ a.r = b.r ∧ a.c = b.c
  case neg =>
    have e0 : sameV a b wa wb = false := by
      unfold sameV
      cases h1 : (a.p.isNone == b.p.isNone)
      · rfl
      · have h1' : a.p.isNone = b.p.isNone := by simpa using h1
        by_cases h2 : a.r = b.r
        · by_cases h3 : a.c = b.c
          · exact absurd ⟨h1', h2, h3⟩ hs
          · rw [decide_eq_false h3]; simp
        · rw [decide_eq_false h2]; simp
    rw [e0]
    have t2 : a.r ≠ b.r → ((a.r : Int) != (b.r : Int)) = true := fun h => by simp; omega
    have t2' : a.r = b.r → ((a.r : Int) != (b.r : Int)) = false := fun h => by simp; omega
    have t3 : a.c ≠ b.c → ((a.c : Int) != (b.c : Int)) = true := fun h => by simp; omega
    clear e0 ha hb hsm
    obtain ⟨p, r, c, o, d, u⟩ := a
    obtain ⟨p', r', c', o', d', u'⟩ := b
    unfold Vw.val
    dsimp only at hs t2 t2' t3 ⊢
    cases p
    case none =>
      cases p'
      case none =>
        by_cases h2 : r = r'
        · have h3 : c ≠ c' := fun h3 => hs ⟨rfl, h2, h3⟩
          replace t2' := t2' h2
          replace t3 := t3 h3
          clear t2 h2 h3 hs
          go_enter Try.func37, Try.ntmps37
          go_wp2
          refine bodyPost_ret (results_one rfl (rv_bool (g := w.heap.size + 1 + 1) rfl (Box.newA _ [.bool false] _ (by simp)) Try.underlying4)) rfl ⟨rfl, ?_⟩
          exact (((Below.refl _ _).alloc (Nat.le_refl _) _).alloc (by simp) _).alloc (by simp; omega) _
        · replace t2 := t2 h2
          clear t2' t3 h2 hs
          go_enter Try.func37, Try.ntmps37
          go_wp2
          refine bodyPost_ret (results_one rfl (rv_bool (g := w.heap.size + 1 + 1) rfl (Box.newA _ [.bool false] _ (by simp)) Try.underlying4)) rfl ⟨rfl, ?_⟩
          exact (((Below.refl _ _).alloc (Nat.le_refl _) _).alloc (by simp) _).alloc (by simp; omega) _
      case some q =>
        clear t2 t2' t3 hs
        go_enter Try.func37, Try.ntmps37
        go_wp2
        refine bodyPost_ret (results_one rfl (rv_bool (g := w.heap.size + 1 + 1) rfl (Box.newA _ [.bool false] _ (by simp)) Try.underlying4)) rfl ⟨rfl, ?_⟩
        exact (((Below.refl _ _).alloc (Nat.le_refl _) _).alloc (by simp) _).alloc (by simp; omega) _
    case some q =>
      cases p'
      case none =>
        clear t2 t2' t3 hs
        go_enter Try.func37, Try.ntmps37
        go_wp2
        refine bodyPost_ret (results_one rfl (rv_bool (g := w.heap.size + 1 + 1) rfl (Box.newA _ [.bool false] _ (by simp)) Try.underlying4)) rfl ⟨rfl, ?_⟩
        exact (((Below.refl _ _).alloc (Nat.le_refl _) _).alloc (by simp) _).alloc (by simp; omega) _
      case some q' =>
        by_cases h2 : r = r'
        · have h3 : c ≠ c' := fun h3 => hs ⟨rfl, h2, h3⟩
          replace t2' := t2' h2
          replace t3 := t3 h3
          clear t2 h2 h3 hs
          go_enter Try.func37, Try.ntmps37
          go_wp2
          refine bodyPost_ret (results_one rfl (rv_bool (g := w.heap.size + 1 + 1) rfl (Box.newA _ [.bool false] _ (by simp)) Try.underlying4)) rfl ⟨rfl, ?_⟩
          exact (((Below.refl _ _).alloc (Nat.le_refl _) _).alloc (by simp) _).alloc (by simp; omega) _
        · replace t2 := t2 h2
          clear t2' t3 h2 hs
          go_enter Try.func37, Try.ntmps37
          go_wp2
          refine bodyPost_ret (results_one rfl (rv_bool (g := w.heap.size + 1 + 1) rfl (Box.newA _ [.bool false] _ (by simp)) Try.underlying4)) rfl ⟨rfl, ?_⟩
          exact (((Below.refl _ _).alloc (Nat.le_refl _) _).alloc (by simp) _).alloc (by simp; omega) _
  case pos =>
    obtain ⟨h1, h2, h3⟩ := hs
    have e0 : sameV a b wa wb = sameL a b wa wb (plcs a.c (a.r * a.c)) := by
      unfold sameV
      rw [h1, decide_eq_true h2, decide_eq_true h3]
      simp
    rw [e0]
    clear e0
    have t2 : ((a.r : Int) != (b.r : Int)) = false := by rw [h2]; simp
    have t3 : ((a.c : Int) != (b.c : Int)) = false := by rw [h3]; simp
    clear h2 h3
    have ev1 : a.val = (.agg #[.pointer a.p, .int .i64 a.r, .int .i64 a.c, .int .i64 a.o, .int .i64 a.d, .int .i64 a.u]) := rfl
    have ev2 : b.val = (.agg #[.pointer b.p, .int .i64 b.r, .int .i64 b.c, .int .i64 b.o, .int .i64 b.d, .int .i64 b.u]) := rfl
    refine (callsIn_wide (n := 9)).1 ?_
    refine callsIn_of_wp_marks Try.func37 rfl trivial ?_ rfl
    simp only [Try.ntmps37, List.size_toArray, List.length_cons, List.length_nil, Nat.reduceAdd, Nat.reduceSub, Array.replicate_succ, Array.replicate_zero, List.push_toArray, List.append_toArray, List.nil_append, List.cons_append]
    rw [ev1, ev2]
    gi_wp2_with (refine ⟨trivial, ?_⟩; gi_at_call 79; refine (callsIn_wide.2 (All_any _ _ _ _ _ _ _)).mono ?_; rintro e w1 ⟨rfl, rfl⟩)
    have hB0 : Below w.heap.size w ((((w.alloc (.cells #[.pointer a.p, .int .i64 a.r, .int .i64 a.c, .int .i64 a.o, .int .i64 a.d, .int .i64 a.u] 29)).alloc (.cells #[.pointer b.p, .int .i64 b.r, .int .i64 b.c, .int .i64 b.o, .int .i64 b.d, .int .i64 b.u] 29)).alloc (.cells #[.bool false] 4)).alloc (.cells #[.pointer a.p, .int .i64 a.r, .int .i64 a.c, .int .i64 a.o, .int .i64 a.d, .int .i64 a.u] 29)) := ((((Below.refl _ _).alloc (Nat.le_refl _) _).alloc (by simp) _).alloc (by simp; omega) _).alloc (by simp; omega) _
    have x1 : Box ((((w.alloc (.cells #[.pointer a.p, .int .i64 a.r, .int .i64 a.c, .int .i64 a.o, .int .i64 a.d, .int .i64 a.u] 29)).alloc (.cells #[.pointer b.p, .int .i64 b.r, .int .i64 b.c, .int .i64 b.o, .int .i64 b.d, .int .i64 b.u] 29)).alloc (.cells #[.bool false] 4)).alloc (.cells #[.pointer a.p, .int .i64 a.r, .int .i64 a.c, .int .i64 a.o, .int .i64 a.d, .int .i64 a.u] 29)) (w.heap.size + 1) [.pointer b.p, .int .i64 b.r, .int .i64 b.c, .int .i64 b.o, .int .i64 b.d, .int .i64 b.u] := ((Box.newA _ _ _ (by simp)).alloc _).alloc _
    have x2 : Box ((((w.alloc (.cells #[.pointer a.p, .int .i64 a.r, .int .i64 a.c, .int .i64 a.o, .int .i64 a.d, .int .i64 a.u] 29)).alloc (.cells #[.pointer b.p, .int .i64 b.r, .int .i64 b.c, .int .i64 b.o, .int .i64 b.d, .int .i64 b.u] 29)).alloc (.cells #[.bool false] 4)).alloc (.cells #[.pointer a.p, .int .i64 a.r, .int .i64 a.c, .int .i64 a.o, .int .i64 a.d, .int .i64 a.u] 29)) (w.heap.size + 1 + 1) [.bool false] := (Box.newA _ [_] _ (by simp)).alloc _
    have x3 : Box ((((w.alloc (.cells #[.pointer a.p, .int .i64 a.r, .int .i64 a.c, .int .i64 a.o, .int .i64 a.d, .int .i64 a.u] 29)).alloc (.cells #[.pointer b.p, .int .i64 b.r, .int .i64 b.c, .int .i64 b.o, .int .i64 b.d, .int .i64 b.u] 29)).alloc (.cells #[.bool false] 4)).alloc (.cells #[.pointer a.p, .int .i64 a.r, .int .i64 a.c, .int .i64 a.o, .int .i64 a.d, .int .i64 a.u] 29)) (w.heap.size + 1 + 1 + 1) [.pointer a.p, .int .i64 a.r, .int .i64 a.c, .int .i64 a.o, .int .i64 a.d, .int .i64 a.u] := Box.newA _ _ _ (by simp)
    have hsz : ((((w.alloc (.cells #[.pointer a.p, .int .i64 a.r, .int .i64 a.c, .int .i64 a.o, .int .i64 a.d, .int .i64 a.u] 29)).alloc (.cells #[.pointer b.p, .int .i64 b.r, .int .i64 b.c, .int .i64 b.o, .int .i64 b.d, .int .i64 b.u] 29)).alloc (.cells #[.bool false] 4)).alloc (.cells #[.pointer a.p, .int .i64 a.r, .int .i64 a.c, .int .i64 a.o, .int .i64 a.d, .int .i64 a.u] 29)).heap.size = w.heap.size + 4 := by simp
    generalize ((((w.alloc (.cells #[.pointer a.p, .int .i64 a.r, .int .i64 a.c, .int .i64 a.o, .int .i64 a.d, .int .i64 a.u] 29)).alloc (.cells #[.pointer b.p, .int .i64 b.r, .int .i64 b.c, .int .i64 b.o, .int .i64 b.d, .int .i64 b.u] 29)).alloc (.cells #[.bool false] 4)).alloc (.cells #[.pointer a.p, .int .i64 a.r, .int .i64 a.c, .int .i64 a.o, .int .i64 a.d, .int .i64 a.u] 29)) = W1 at *
    refine view_loop 9 (by decide) (AllRd.R a sa (w.heap.size + 1 + 1 + 1) wa) hsm.1 hsm.2 ⟨x3, ha.below hB0⟩ (fun _ _ h hs => h.still hs) rfl rfl
      (fun pre W => sameL a b wa wb (pre.map velP) = true ∧ Box W (w.heap.size + 1) [.pointer b.p, .int .i64 b.r, .int .i64 b.c, .int .i64 b.o, .int .i64 b.d, .int .i64 b.u] ∧ Box W (w.heap.size + 1 + 1) [.bool false] ∧ Below w.heap.size w W ∧ W1.heap.size ≤ W.heap.size)
      (fun c pre W => c = .ret ∧ sameL a b wa wb (pre.map velP) = false ∧ Box W (w.heap.size + 1 + 1) [.bool false] ∧ Below w.heap.size w W ∧ W1.heap.size ≤ W.heap.size)
      (fun _ _ h => h.2.2.2.2) (fun _ _ _ h hs => ⟨h.1, h.2.1.still hs, h.2.2.1.still hs, below_still h.2.2.2.1 hs (by omega), Nat.le_trans h.2.2.2.2 hs.1.size⟩)
      (fun _ _ _ h => h.2.2.2.2) (fun _ _ _ _ h hs => ⟨h.1, h.2.1, h.2.2.1.still hs, below_still h.2.2.2.1 hs (by omega), Nat.le_trans h.2.2.2.2 hs.1.size⟩)
      ⟨rfl, x1, x2, hB0, Nat.le_refl _⟩
      (fun T x Bx => (((T.setIfInBounds 30 (.agg #[.int .i64 (x.1.1 : Int), .int .i64 (x.1.2.1 : Int)])).setIfInBounds 31 (.float .f64 x.1.2.2)).setIfInBounds 5 (.pointer (some ⟨Bx, 0, none⟩))).setIfInBounds 6 (.float .f64 x.1.2.2)) ?assign ?body ?done ?stop
    case assign =>
      intro l x W K hK
      unfold velV
      gi_wp2
      exact hK
    case body =>
      rintro l pre x Bx W ⟨hL, hb1, hb2, hB, hs4⟩ hbx hBx hlt
      obtain ⟨q1, q2, q3⟩ := hb1.facts
      obtain ⟨q4, q5, q6⟩ := hb2.facts
      obtain ⟨q7, q8, q9⟩ := hbx.facts
      have hxv : x.1.2.2 = a.get wa x.1.1 x.1.2.1 := x.2.2.2
      have HL : Hid (sameL a b wa wb ((pre ++ [x]).map velP) = sameF x.1.2.2 (b.get wb x.1.1 x.1.2.1)) := by
        unfold Hid sameL
        unfold sameL at hL
        rw [List.map_append, List.all_append, hL, hxv]
        simp [velP]
      clear hL hxv
      gi_wp2_with fail
      refine ⟨trivial, (CallsIn.inRound l (callsIn_wide.2 (At_any W b sb wb x.1.1 x.1.2.1 (hb.below hB)))).mono ?_⟩
      rintro e w2 ⟨rfl, hbb⟩
      have c2 := hb2.below hbb
      have hB2 := below_step hB hB.size hbb
      have s2 : W1.heap.size ≤ w2.heap.size := Nat.le_trans hs4 hbb.size
      clear q1 q2 q3 q4 q5 q6 q7 q8 q9
      obtain ⟨q4, q5, q6⟩ := c2.facts
      cases hf : sameF x.1.2.2 (b.get wb x.1.1 x.1.2.1)
      all_goals
        gi_wp2_with (refine ⟨trivial, ?_⟩; gi_at_call 88; refine (CallsIn.inRound l (callsIn_wide.2 (same_any _ _ _))).mono ?_; rintro e w3 ⟨rfl, rfl⟩; rw [hf])
      · have c3 := c2.set 0 (.bool false)
        have hB3 := below_set hB2 (show w.heap.size ≤ w.heap.size + 1 + 1 by omega) 0 (.bool false)
        refine ⟨(keeps_below hbb _).trans ((KeepsOthers.setCell _ _ _).from _), rfl, by rw [HL.out, hf], c3, hB3, ?_⟩
        simpa using s2
      · exact ⟨keeps_below hbb _, fun hR => ⟨hR.1.below hbb, hR.2.below hbb⟩, by rw [HL.out, hf], hb1.below hbb, c2, hB2, s2⟩
    case done =>
      rintro D ys W hD hys ⟨hL, hb1, hb2, hB, hs4⟩ hK
      rw [hys] at hL
      have HL := Lib.hid hL
      clear hL
      obtain ⟨q4, q5, q6⟩ := hb2.facts
      gi_wp2
      have hK2 : (W.setCell ⟨w.heap.size + 1 + 1, 0, none⟩ (.bool true)).heap[D]? = some (.deferred (some [])) := by
        rw [Below.heap_setCell _ _ _ _ (by show D ≠ w.heap.size + 1 + 1; omega)]; exact hK
      have hst : StillC W1.heap.size _ _ := StillC.put (o' := .deferred none) hD hK2 rfl
      refine ⟨by simp, .inl ⟨_, _, rfl, run_takeDeferred hK2, ?_⟩⟩
      refine ⟨_, results_one rfl (rv_bool (g := w.heap.size + 1 + 1) rfl ((hb2.set 0 _).still hst) Try.underlying4), by rw [HL.out], ?_⟩
      exact below_still (below_set hB (by omega) _ _) hst (by omega)
    case stop =>
      rintro D c pre W hD hpre ⟨rfl, hL, hb2, hB, hs4⟩ hK
      obtain ⟨rest, hrest⟩ := hpre
      have hL2 : sameL a b wa wb (plcs a.c (a.r * a.c)) = false := by
        rw [← hrest]
        unfold sameL at hL ⊢
        rw [List.all_append, hL]
        rfl
      have HL := Lib.hid hL2
      clear hL hL2
      obtain ⟨q4, q5, q6⟩ := hb2.facts
      gi_wp2
      have hst : StillC W1.heap.size _ _ := StillC.put (o' := .deferred none) hD hK rfl
      refine ⟨by simp, .inl ⟨_, _, rfl, run_takeDeferred hK, ?_⟩⟩
      refine ⟨_, results_one rfl (rv_bool (g := w.heap.size + 1 + 1) rfl (hb2.still hst) Try.underlying4), by rw [HL.out], ?_⟩
      exact below_still hB hst (by omega)

/-! ### Fill -/
/-- The store behind it, places set one after another. -/
def Vw.fill (v : Vw) (x : Nat) (ws : List Nat) (l : List (Nat × Nat)) : List Nat := l.foldl (fun s y => v.put s y.1 y.2 x) ws
theorem Vw.fill_length (v : Vw) (x : Nat) : ∀ (l : List (Nat × Nat)) (ws : List Nat), (v.fill x ws l).length = ws.length
  | [], _ => rfl
  | y :: l, ws => by
    show (v.fill x (v.put ws y.1 y.2 x) l).length = _
    rw [Vw.fill_length v x l, Vw.put_length]
/-- What the rounds of a filling keep. -/
def FillRd (v : Vw) (sb Bv n : Nat) (W : World) : Prop := Box W Bv [.pointer v.p, .int .i64 v.r, .int .i64 v.c, .int .i64 v.o, .int .i64 v.d, .int .i64 v.u] ∧ ∃ ws, v.Ok W sb ws ∧ ws.length = n
theorem FillRd.still {v : Vw} {sb Bv n b : Nat} {A B : World} (h : FillRd v sb Bv n A) (hs : StillC b A B) : FillRd v sb Bv n B := by
  obtain ⟨h1, ws, h2, h3⟩ := h
  exact ⟨h1.still hs, ws, h2.still hs, h3⟩
theorem FillRd.R (v : Vw) (sb Bv n : Nat) : AllR v sb Bv (FillRd v sb Bv n) (ImpK (FillRd v sb Bv n)) (fun _ _ _ => True) :=
  ⟨fun _ h => h.1, fun _ h => by obtain ⟨_, ws, h2, _⟩ := h; exact ⟨ws, h2, fun _ _ _ _ => trivial⟩, fun _ _ h k => k h, fun _ _ h k => by obtain ⟨h1, ws, h2, h3⟩ := h; exact ⟨h1.below k, ws, h2.below k, h3⟩⟩
theorem ok_box {v : Vw} {w : World} {sb : Nat} {ws : List Nat} (h : v.Ok w sb ws) (hp : v.p ≠ none) : Box w sb (ws.map (Value.float .f64)) := by
  rcases h with rfl | ⟨⟨st, _, _, h, _⟩, _⟩
  · exact absurd rfl hp
  · exact h
theorem ok_sto {v : Vw} {w : World} {sb : Nat} {ws : List Nat} (h : v.Ok w sb ws) (hp : v.p ≠ none) : ∃ st, v.p = some ⟨st, 0, none⟩ ∧ Box w st [.slice (some ⟨sb, 0, none⟩) ws.length ws.length] ∧ Box w sb (ws.map (Value.float .f64)) ∧ st ≠ sb := by
  rcases h with rfl | ⟨⟨st, h1, h2, h3, _⟩, _⟩
  · exact absurd rfl hp
  · exact ⟨st, h1, h2, h3, Sto.ne h2 h3⟩

end Go.Proofs.Ytbcdpibcieadlaa
