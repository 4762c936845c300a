/- Views: the range over all places of a view. -/
import Derived.RangeFuncNested
import Derived.RangeFuncBound
import Derived.RangeFuncCalls
import Derived.RangeFuncLeaves
import Derived.RangeFuncBox
import Derived.Shelf.Abstract
import Derived.Shelf.RegionOpen
import Derived.OwnWalkIn
import Derived.TacticsInMore
import Derived.LoopNIn
import Derived.LoopIn
import Derived.Test.YtbcdpibcieadlaaVw3
namespace Go.Proofs.Ytbcdpibcieadlaa
open Go Go.RowKit Go.Shelf
attribute [local go_sem] Oper.semAt_some
set_option maxRecDepth 100000

/-- A place, and a float there. -/
abbrev VEl (r c : Nat) (V : Nat → Nat → Nat → Prop) := { x : Nat × Nat × Nat // x.1 < r ∧ x.2.1 < c ∧ V x.1 x.2.1 x.2.2 }
def velV {r c : Nat} {V : Nat → Nat → Nat → Prop} (x : VEl r c V) : Array Value := #[.agg #[.int .i64 (x.1.1 : Int), .int .i64 (x.1.2.1 : Int)], .float .f64 x.1.2.2]
def velP {r c : Nat} {V : Nat → Nat → Nat → Prop} (x : VEl r c V) : Nat × Nat := (x.1.1, x.1.2.1)
/-- The first n places, row by row. -/
def plcs (c n : Nat) : List (Nat × Nat) := (List.range n).map fun k => (k / c, k % c)
theorem plcs_succ (c n : Nat) : plcs c (n + 1) = plcs c n ++ [(n / c, n % c)] := by unfold plcs; simp [List.range_succ]
theorem plcs_at {c i j : Nat} (hj : j < c) : plcs c (i * c + j + 1) = plcs c (i * c + j) ++ [(i, j)] := by
  rw [plcs_succ]
  have h1 : (i * c + j) / c = i := by
    rw [Nat.mul_comm, Nat.mul_add_div (by omega), Nat.div_eq_of_lt hj, Nat.add_zero]
  have h2 : (i * c + j) % c = j := by
    rw [Nat.mul_comm, Nat.mul_add_mod, Nat.mod_eq_of_lt hj]
  rw [h1, h2]
theorem plcs_prefix (c : Nat) {n m : Nat} (h : n ≤ m) : plcs c n <+: plcs c m := by
  obtain ⟨k, rfl⟩ := Nat.exists_eq_add_of_le h
  refine ⟨(List.range k).map fun x => ((n + x) / c, (n + x) % c), ?_⟩
  unfold plcs
  rw [List.range_add, List.map_append, List.map_map]
  rfl

set_option maxHeartbeats 1000000 in
theorem All_any (p : Option Addr) (r c o d u : Nat) (w : World) :
    Calls Try.prog 79 #[(.agg #[.pointer p, .int .i64 r, .int .i64 c, .int .i64 o, .int .i64 d, .int .i64 u])] w fun e w' => e = .returned (.func (.func 111) #[] #[.pointer (some ⟨w.heap.size, 0, none⟩)]) ∧ w' = w.alloc (.cells #[.pointer p, .int .i64 r, .int .i64 c, .int .i64 o, .int .i64 d, .int .i64 u] 29) := by
  go_enter Try.func79, Try.ntmps79
  go_wp2
  go_ret
  exact ⟨rfl, rfl⟩

theorem grown_of_below {w w' : World} (h : Below w.heap.size w w') : w.grownBy w' none := ⟨h.os, h.tape, h.output, h.size, fun k hk _ => h.block k hk⟩

/-- What the range keeps hold of, and what it may read: an invariant R that its rounds keep. -/
structure AllR (v : Vw) (sb Bv : Nat) (R : World → Prop) (Kp : World → World → Prop) (V : Nat → Nat → Nat → Prop) : Prop where
  cells : ∀ W, R W → Box W Bv [.pointer v.p, .int .i64 v.r, .int .i64 v.c, .int .i64 v.o, .int .i64 v.d, .int .i64 v.u]
  get : ∀ W, R W → ∃ ws, v.Ok W sb ws ∧ ∀ i j : Nat, i < v.r → j < v.c → V i j (v.get ws i j)
  keep : ∀ A B, R A → Kp A B → R B
  below : ∀ A B, R A → Below A.heap.size A B → R B

set_option maxHeartbeats 4000000 in
theorem All_stops (n : Nat) (hn : 1 ≤ n) (v : Vw) (sb Bv : Nat) (R : World → Prop) (Kp : World → World → Prop) (V : Nat → Nat → Nat → Prop) (hA : AllR v sb Bv R Kp V) (hr : v.r ≤ 512) (hc : v.c ≤ 512) (w : World) (hw : R w) :
    SeqStopsK Fence.wide n Try.prog 111 #[.pointer (some ⟨Bv, 0, none⟩)] (velV (r := v.r) (c := v.c) (V := V)) Kp (fun xs => xs.map velP = plcs v.c (v.r * v.c)) (fun pre => pre.map velP <+: plcs v.c (v.r * v.c)) (v.r * v.c) w := by
  intro l J Jx W hW hJ hJx hY h0
  have hRW : R W := hA.below _ _ hw hW
  obtain ⟨p, r, c, o, d, u⟩ := v
  dsimp only at hr hc hY ⊢
  have hb := (hA.cells _ hRW).facts
  obtain ⟨b1, b2, b3⟩ := hb
  refine callsIn_of_wp Try.func111 rfl trivial ?_ rfl
  simp only [Try.ntmps111, List.size_toArray, List.length_cons, List.length_nil, Nat.reduceAdd, Nat.reduceSub, Array.replicate_succ, Array.replicate_zero, List.push_toArray, List.append_toArray, List.nil_append, List.cons_append]
  dsimp only at b2
  gi_wp2
  gi_loopw [7] (fun s7 wr => ∃ (i : Nat) (pre : List (VEl r c V)), i ≤ r ∧ s7 = .int .i64 i ∧ pre.map velP = plcs c (i * c) ∧ J pre wr ∧ R wr) (fun s7 _ => r - (intOf s7).toNat)
  case atStart => exact ⟨0, [], Nat.zero_le _, rfl, by simp [plcs], h0, hRW⟩
  case round =>
    obtain ⟨i, pre, hi, rfl, hpre, hJs, hRs⟩ := hrel
    obtain ⟨e1, e2, e3⟩ := (hA.cells _ hRs).facts
    dsimp only at e2
    clear b1 b2 b3
    by_cases hlt : i < r
    · gi_wp2
      gi_loopw [12] (fun s12 wr => ∃ (j : Nat) (pre : List (VEl r c V)), j ≤ c ∧ s12 = .int .i64 j ∧ pre.map velP = plcs c (i * c + j) ∧ J pre wr ∧ R wr) (fun s12 _ => c - (intOf s12).toNat)
      case atStart => exact ⟨0, pre, Nat.zero_le _, rfl, hpre, hJs, hRs⟩
      case round =>
        clear hpre hJs hRs e1 e2 e3
        obtain ⟨j, pre, hj, rfl, hpre, hJs, hRs⟩ := hrel
        obtain ⟨e1, e2, e3⟩ := (hA.cells _ hRs).facts
        dsimp only at e2
        by_cases hlt2 : j < c
        · obtain ⟨ws, hok, hV⟩ := hA.get _ hRs
          have hVx := hV i j hlt hlt2
          gi_wp2_with fail
          refine ⟨trivial, (callsIn_wide.2 (At_any wr ⟨p, r, c, o, d, u⟩ sb ws i j hok)).mono ?_⟩
          rintro e w2 ⟨rfl, hb2⟩
          have hR2 := hA.below _ _ hRs hb2
          have hJ2 := hJ _ _ _ none hJs (grown_of_below hb2) (fun r e => by cases e)
          generalize (Vw.mk p r c o d u).get ws i j = x at hVx ⊢
          have hlen : pre.length = i * c + j := by
            have := congrArg List.length hpre
            simpa [plcs] using this
          have hle : i * c + j + 1 ≤ r * c := by
            have h1 : (i + 1) * c ≤ r * c := Nat.mul_le_mul_right _ hlt
            rw [Nat.succ_mul] at h1
            omega
          obtain ⟨fn, tmps, assign, body, hy, hR⟩ := hY pre ⟨(i, j, x), hlt, hlt2, hVx⟩ w2 hJ2 (by omega)
          dsimp only [velV] at hy
          have hpre2 : (pre ++ [(⟨(i, j, x), hlt, hlt2, hVx⟩ : VEl r c V)]).map velP = plcs c (i * c + j + 1) := by
            rw [List.map_append, hpre, plcs_at hlt2]
            rfl
          have HP2 := Lib.hid hpre2
          clear hpre2
          clear e1 e2 e3 hpre hlen
          obtain ⟨e1, e2, e3⟩ := (hA.cells _ hR2).facts
          dsimp only at e2
          gi_wp2
          refine hR.mono ?_
          rintro e W3 (⟨rfl, hJ3, hk3⟩ | ⟨rfl, hJx3⟩)
          · gi_wp2
            go_roundw
            case rel => exact ⟨j + 1, _, by omega, by go_num, by rw [← Nat.add_assoc]; exact HP2.out, hJ3, hA.keep _ _ hR2 hk3⟩
            case measure => simp [intOf]; omega
          · gi_wp2
            refine bodyPost_ret (results_none rfl _ _ _) rfl ?_
            refine ⟨⟨_, rfl⟩, .inr ⟨_, ?_, hJx3⟩⟩
            rw [HP2.out]
            exact plcs_prefix c hle
        · obtain rfl : j = c := by omega
          gi_wp2
          go_roundw
          case rel => exact ⟨i + 1, pre, by omega, by go_num, by rw [hpre, Nat.succ_mul], hJs, hRs⟩
          case measure => simp [intOf]; omega
    · obtain rfl : i = r := by omega
      gi_wp2
      go_end0
      exact ⟨⟨_, rfl⟩, .inl ⟨pre, hpre, hJs⟩⟩

/-! ### What a loop over a view asks of its body -/
/-- From b on only what is no cells has turned. -/
def StillC (b : Nat) (A B : World) : Prop := Below b A B ∧ ∀ (k : Nat) (o : Obj), A.heap[k]? = some o → o.isCells = true → B.heap[k]? = some o
theorem StillC.of_grown {b : Nat} {A B : World} {row : Option Nat} (hb : b ≤ A.heap.size) (hg : A.grownBy B row) (hr : ∀ r, row = some r → b ≤ r ∧ ∃ o : Obj, A.heap[r]? = some o ∧ o.isCells = false) : StillC b A B := by
  refine ⟨⟨hg.os, hg.tape, hg.output, hg.size, fun k hk => hg.block k (by omega) ?_⟩, fun k (o : Obj) ho hc => ?_⟩
  · intro e
    have := (hr k e.symm).1
    omega
  · rw [hg.block k (Array.getElem?_eq_some_iff.1 ho).1, ho]
    intro e
    obtain ⟨_, o', ho', hc'⟩ := hr k e.symm
    rw [ho] at ho'
    cases ho'
    rw [hc] at hc'
    cases hc'
theorem StillC.put {b l : Nat} {W : World} {o o' : Obj} (hl : b ≤ l) (h : W.heap[l]? = some o) (hc : o.isCells = false) : StillC b W (W.putObj l o') :=
  StillC.of_grown (by have := (Array.getElem?_eq_some_iff.1 h).1; omega) (grownBy_putObj' W l o') (fun r e => by cases e; exact ⟨hl, o, h, hc⟩)
theorem Box.grown {n : Nat} {A B : World} {cs : List Value} {row : Option Nat} (h : Box A n cs) (hg : A.grownBy B row) (hne : ∀ r, row = some r → n ≠ r) : Box B n cs := by
  have hl := h.lt
  obtain ⟨T, hT⟩ := h
  exact ⟨T, by rw [hg.block n hl (fun e => hne n e.symm rfl)]; exact hT⟩
theorem Box.belB {w w' : World} {n s B : Nat} {cs : List Value} (h : Box w n cs) (hB : n < B) (hs : n ≠ s) (hb : Bel B s w w') : Box w' n cs := by
  obtain ⟨T, h⟩ := h
  exact ⟨T, by rw [hb.block n hB hs]; exact h⟩
theorem Box.still {b n : Nat} {A B : World} {cs : List Value} (h : Box A n cs) (hs : StillC b A B) : Box B n cs := by
  obtain ⟨T, hT⟩ := h
  exact ⟨T, hs.2 _ _ hT rfl⟩
theorem Sto.still {b sb : Nat} {A B : World} {p : Option Addr} {ws : List Nat} (h : Sto A p sb ws) (hs : StillC b A B) : Sto B p sb ws := by
  obtain ⟨st, rfl, h1, h2, h3⟩ := h
  exact ⟨st, rfl, h1.still hs, h2.still hs, h3⟩
theorem Vw.Ok.still {b sb : Nat} {A B : World} {v : Vw} {ws : List Nat} (h : v.Ok A sb ws) (hs : StillC b A B) : v.Ok B sb ws := by
  rcases h with h | ⟨h, k⟩
  · exact .inl h
  · exact .inr ⟨h.still hs, k⟩
theorem ownsRow_still {b base size : Nat} {e : TypeId} {A B : World} {v : Value} {n : Nat} {xs : List Value} (h : A.ownsRow base e size v n xs) (hs : StillC b A B) : B.ownsRow base e size v n xs := by
  refine ⟨h.1, ?_⟩
  rcases h.2 with h0 | ⟨g, cap, cur, h1, h2, h3, h4⟩
  · exact .inl h0
  · exact .inr ⟨g, cap, cur, h1, h2, hs.2 _ _ h3 rfl, h4⟩
theorem below_still {b : Nat} {W A B : World} (h : Below W.heap.size W A) (hs : StillC b A B) (hb : W.heap.size ≤ b) : Below W.heap.size W B := h.trans (hs.1.mono hb)
theorem ownFrom_still {β : Type} {b : Nat} {I : β → World → Prop} (hb : ∀ s A, I s A → b ≤ A.heap.size) (h : ∀ s A B, I s A → StillC b A B → I s B) : OwnFrom b I :=
  fun s A B _ hs hg hr => h s A B hs (StillC.of_grown (hb s A hs) hg hr)
theorem keeps_below {W W' : World} (h : Below W.heap.size W W') (b : Nat) : KeepsFrom b W W' :=
  ⟨h.size, fun k o _ hk _ => by rw [h.block k (Array.getElem?_eq_some_iff.1 hk).1]; exact hk⟩
theorem keeps_bel {W W' : World} {s : Nat} {cs : List Value} (h : Bel W.heap.size s W W') (hx : Box W s cs) (b : Nat) : KeepsFrom b W W' :=
  ⟨h.size, fun k o _ hk ho => by
    rw [h.block k (Array.getElem?_eq_some_iff.1 hk).1]
    · exact hk
    · rintro rfl
      obtain ⟨T, hT⟩ := hx
      rw [hk] at hT
      cases hT
      cases ho⟩
theorem ownsRow_slice {W : World} {base size n : Nat} {e : TypeId} {v : Value} {xs : List Value} (h : W.ownsRow base e size v n xs) : ∃ a cap, v = .slice a n cap := by
  rcases h.2 with ⟨rfl, rfl⟩ | ⟨g, cap, cur, rfl, _⟩
  · exact ⟨_, _, rfl⟩
  · exact ⟨_, _, rfl⟩
theorem ownsRow_bel {A B : World} {base size n s : Nat} {e : TypeId} {v : Value} {xs : List Value} (h : A.ownsRow base e size v n xs) (hb : Bel A.heap.size s A B) (hs : s < base) : B.ownsRow base e size v n xs := by
  refine ⟨h.1, ?_⟩
  rcases h.2 with h0 | ⟨g, cap, cur, h1, h2, h3, h4⟩
  · exact .inl h0
  · exact .inr ⟨g, cap, cur, h1, h2, by rw [hb.block g (Array.getElem?_eq_some_iff.1 h3).1 (by omega)]; exact h3, h4⟩
/-- Behind an append, and a store of the slice into a variable's own block: what has stayed. -/
theorem app_step {W w1 : World} {base bm size k m j : Nat} {e T : TypeId} {sv v' u : Value} {xs ys cs' : List Value} {cs : Array Value} (hrow : W.ownsRow base e size sv k xs) (hgrow : (W.alloc (.cells cs T)).grownBy w1 sv.ownBlock)
    (hown' : w1.ownsRow base e size v' m ys) (hbm : bm < base) (hW : base ≤ W.heap.size) (hbx : Box w1 bm cs') :
    (w1.setCell ⟨bm, j, none⟩ u).ownsRow base e size v' m ys ∧ Bel base bm W (w1.setCell ⟨bm, j, none⟩ u) ∧ ∀ b, KeepsFrom b W (w1.setCell ⟨bm, j, none⟩ u) := by
  have hset : w1.grownBy (w1.setCell ⟨bm, j, none⟩ u) (some bm) := ⟨rfl, rfl, rfl, by simp [World.setCell], fun k _ hk => Below.heap_setCell _ _ _ k (fun e => hk (by rw [e]))⟩
  refine ⟨hown'.kept hset (.inr fun e => ?_), ?_, fun b => ?_⟩
  · have := (hown'.lt _ e).1
    omega
  · exact (Bel.of ((((Below.refl base W).alloc hW _)).grown hgrow (by simp; omega) fun q eq => (hrow.lt q eq).1)).set _ _
  · refine (((KeepsOthers.alloc W _).trans (KeepsOthers.of_grownBy hgrow fun q o ej hj => ?_)).trans (KeepsOthers.setCell _ _ _)).from b
    rcases (hrow.alloc (.cells cs T)).2 with ⟨rfl, _⟩ | ⟨g, cap, cur, rfl, _, hgb, _⟩
    · simp [Value.ownBlock] at ej
    · obtain rfl : g = q := by simpa [Value.ownBlock] using ej
      rw [hgb] at hj; cases hj; rfl
/-- What is read in the rounds: the view's box, and the store's floats. -/
def AllRd (v : Vw) (sb Bv : Nat) (ws : List Nat) (W : World) : Prop := Box W Bv [.pointer v.p, .int .i64 v.r, .int .i64 v.c, .int .i64 v.o, .int .i64 v.d, .int .i64 v.u] ∧ v.Ok W sb ws
theorem AllRd.still {v : Vw} {sb Bv b : Nat} {ws : List Nat} {A B : World} (h : AllRd v sb Bv ws A) (hs : StillC b A B) : AllRd v sb Bv ws B := ⟨h.1.still hs, h.2.still hs⟩
def ImpK (R : World → Prop) (A B : World) : Prop := R A → R B
theorem ImpK.t {R : World → Prop} {A B C : World} (h : ImpK R A B) (k : ImpK R B C) : ImpK R A C := fun x => k (h x)
/-- The floats are told just as they are: no round writes the store. -/
theorem AllRd.R (v : Vw) (sb Bv : Nat) (ws : List Nat) : AllR v sb Bv (AllRd v sb Bv ws) (ImpK (AllRd v sb Bv ws)) (fun i j x => x = v.get ws i j) :=
  ⟨fun _ h => h.1, fun _ h => ⟨ws, h.2, fun _ _ _ _ => rfl⟩, fun _ _ h k => k h, fun _ _ h k => ⟨h.1.below k, h.2.below k⟩⟩

/-- All floats of a view, row by row. -/
def Vw.list (v : Vw) (ws : List Nat) : List Nat := (plcs v.c (v.r * v.c)).map fun x => v.get ws x.1 x.2
theorem velP_list {v : Vw} {ws : List Nat} {n : Nat} : ∀ {xs : List (VEl v.r v.c (fun i j x => x = v.get ws i j))}, xs.map velP = plcs v.c n → xs.map (fun x => x.1.2.2) = (plcs v.c n).map fun x => v.get ws x.1 x.2 := by
  intro xs h
  rw [← h, List.map_map]
  refine List.map_congr_left fun x _ => ?_
  exact x.2.2.2
theorem info_f64 : (Try.prog.info? 31).map (fun i => (i.zero, i.size, i.bytes)) = some (some (.float .f64 0), 1, 8) := by kernel_rfl

set_option maxHeartbeats 4000000 in
theorem Matrix_any (w : World) (v : Vw) (sb : Nat) (ws : List Nat) (h : v.Ok w sb ws) :
    Calls Try.prog 48 #[v.val] w fun e w' => ∃ sv, e = .returned (.agg #[.int .i64 v.r, .int .i64 v.c, sv]) ∧ w'.ownsRow w.heap.size 31 1 sv (v.list ws).length ((v.list ws).map (Value.float .f64)) ∧ Below w.heap.size w w' := by
  obtain ⟨i0, hi, hz0, hz1, hz2⟩ := info_parts info_f64
  have hsm := h.small
  refine (callsIn_wide (n := 9)).1 ?_
  refine callsIn_of_wp_marks Try.func48 rfl trivial ?_ rfl
  simp only [Try.ntmps48, List.size_toArray, List.length_cons, List.length_nil, Nat.reduceAdd, Nat.reduceSub, Array.replicate_succ, Array.replicate_zero, List.push_toArray, List.append_toArray, List.nil_append, List.cons_append]
  have ev : v.val = (.agg #[.pointer v.p, .int .i64 v.r, .int .i64 v.c, .int .i64 v.o, .int .i64 v.d, .int .i64 v.u]) := rfl
  rw [ev]
  gi_wp2_with (refine ⟨trivial, ?_⟩; gi_at_call 79; refine (callsIn_wide.2 (All_any _ _ _ _ _ _ _)).mono ?_; rintro e w1 ⟨rfl, rfl⟩)
  have hB0 : Below w.heap.size w ((((w.alloc (.cells #[.pointer v.p, .int .i64 v.r, .int .i64 v.c, .int .i64 v.o, .int .i64 v.d, .int .i64 v.u] 29)).alloc (.cells #[.int .i64 0, .int .i64 0, .slice none 0 0] 24)).alloc (.cells #[.int .i64 v.r, .int .i64 v.c, .slice none 0 0] 24)).alloc (.cells #[.pointer v.p, .int .i64 v.r, .int .i64 v.c, .int .i64 v.o, .int .i64 v.d, .int .i64 v.u] 29)) := ((((Below.refl _ _).alloc (Nat.le_refl _) _).alloc (by simp) _).alloc (by simp; omega) _).alloc (by simp; omega) _
  have x1 : Box ((((w.alloc (.cells #[.pointer v.p, .int .i64 v.r, .int .i64 v.c, .int .i64 v.o, .int .i64 v.d, .int .i64 v.u] 29)).alloc (.cells #[.int .i64 0, .int .i64 0, .slice none 0 0] 24)).alloc (.cells #[.int .i64 v.r, .int .i64 v.c, .slice none 0 0] 24)).alloc (.cells #[.pointer v.p, .int .i64 v.r, .int .i64 v.c, .int .i64 v.o, .int .i64 v.d, .int .i64 v.u] 29)) (w.heap.size + 1 + 1) [.int .i64 v.r, .int .i64 v.c, .slice none 0 0] := (Box.newA _ [_, _, _] _ (by simp)).alloc _
  have x2 : Box ((((w.alloc (.cells #[.pointer v.p, .int .i64 v.r, .int .i64 v.c, .int .i64 v.o, .int .i64 v.d, .int .i64 v.u] 29)).alloc (.cells #[.int .i64 0, .int .i64 0, .slice none 0 0] 24)).alloc (.cells #[.int .i64 v.r, .int .i64 v.c, .slice none 0 0] 24)).alloc (.cells #[.pointer v.p, .int .i64 v.r, .int .i64 v.c, .int .i64 v.o, .int .i64 v.d, .int .i64 v.u] 29)) (w.heap.size + 1 + 1 + 1) [.pointer v.p, .int .i64 v.r, .int .i64 v.c, .int .i64 v.o, .int .i64 v.d, .int .i64 v.u] := Box.newA _ _ _ (by simp)
  have x0 : Box ((((w.alloc (.cells #[.pointer v.p, .int .i64 v.r, .int .i64 v.c, .int .i64 v.o, .int .i64 v.d, .int .i64 v.u] 29)).alloc (.cells #[.int .i64 0, .int .i64 0, .slice none 0 0] 24)).alloc (.cells #[.int .i64 v.r, .int .i64 v.c, .slice none 0 0] 24)).alloc (.cells #[.pointer v.p, .int .i64 v.r, .int .i64 v.c, .int .i64 v.o, .int .i64 v.d, .int .i64 v.u] 29)) (w.heap.size + 1) [.int .i64 0, .int .i64 0, .slice none 0 0] := ((Box.newA _ [_, _, _] _ (by simp)).alloc _).alloc _
  have hsz : ((((w.alloc (.cells #[.pointer v.p, .int .i64 v.r, .int .i64 v.c, .int .i64 v.o, .int .i64 v.d, .int .i64 v.u] 29)).alloc (.cells #[.int .i64 0, .int .i64 0, .slice none 0 0] 24)).alloc (.cells #[.int .i64 v.r, .int .i64 v.c, .slice none 0 0] 24)).alloc (.cells #[.pointer v.p, .int .i64 v.r, .int .i64 v.c, .int .i64 v.o, .int .i64 v.d, .int .i64 v.u] 29)).heap.size = w.heap.size + 4 := by simp
  generalize (((w.alloc (.cells #[.pointer v.p, .int .i64 v.r, .int .i64 v.c, .int .i64 v.o, .int .i64 v.d, .int .i64 v.u] 29)).alloc (.cells #[.int .i64 0, .int .i64 0, .slice none 0 0] 24)).alloc (.cells #[.int .i64 v.r, .int .i64 v.c, .slice none 0 0] 24)).alloc (.cells #[.pointer v.p, .int .i64 v.r, .int .i64 v.c, .int .i64 v.o, .int .i64 v.d, .int .i64 v.u] 29) = W1 at *
  have hrc : v.r * v.c ≤ 512 * 512 := Nat.mul_le_mul hsm.1 hsm.2
  refine wpIn_rangeFunc_ownG rfl (by omega) (gf := 111) (lb := #[.pointer (some ⟨w.heap.size + 1 + 1 + 1, 0, none⟩)]) rfl trivial (enters_of Try.func111 (by kernel_rfl) rfl)
    (All_stops 8 (by decide) v sb (w.heap.size + 1 + 1 + 1) _ _ _ (AllRd.R v sb (w.heap.size + 1 + 1 + 1) ws) hsm.1 hsm.2 W1 ⟨x2, h.below hB0⟩) (fun h k => h.t k) (fun W l o o' hl ho hc _ => fun hR => hR.still (StillC.put hl ho hc)) (Below.refl _ _) (fun _ => rfl)
    (fun pre W => (∃ sv, Box W (w.heap.size + 1 + 1) [.int .i64 v.r, .int .i64 v.c, sv] ∧ W.ownsRow (w.heap.size + 4) 31 1 sv pre.length ((pre.map fun x => x.1.2.2).map (Value.float .f64))) ∧ Box W (w.heap.size + 1) [.int .i64 0, .int .i64 0, .slice none 0 0] ∧ Below w.heap.size w W ∧ w.heap.size + 4 ≤ W.heap.size)
    (fun _ _ _ => False)
    (ownFrom_still (fun _ A hs => by rw [hsz]; exact hs.2.2.2) (fun _ A B hs hst => ⟨by obtain ⟨sv, k1, k2⟩ := hs.1; exact ⟨sv, k1.still hst, ownsRow_still k2 hst⟩, hs.2.1.still hst, below_still hs.2.2.1 hst (by omega), Nat.le_trans hs.2.2.2 hst.1.size⟩))
    (fun _ _ _ _ _ hs _ _ => hs)
    ⟨⟨_, x1, World.ownsRow_nil _ _ _ _⟩, x0, hB0, by omega⟩
    (fun x => { tmps := #[(.agg #[.pointer v.p, .int .i64 v.r, .int .i64 v.c, .int .i64 v.o, .int .i64 v.d, .int .i64 v.u]), .pointer (some ⟨w.heap.size, 0, none⟩), .pointer (some ⟨w.heap.size + 1, 0, none⟩), .pointer (some ⟨w.heap.size + 1 + 1, 0, none⟩), undef, .float .f64 x.1.2.2, .pointer (some ⟨w.heap.size, 1, none⟩), .int .i64 v.r, .pointer (some ⟨w.heap.size, 2, none⟩), .int .i64 v.c, .agg #[.int .i64 v.r, .int .i64 v.c, .slice none 0 0], (.agg #[.pointer v.p, .int .i64 v.r, .int .i64 v.c, .int .i64 v.o, .int .i64 v.d, .int .i64 v.u]), .func (.func 111) #[] #[.pointer (some ⟨w.heap.size + 1 + 1 + 1, 0, none⟩)], .agg #[.int .i64 (x.1.1 : Int), .int .i64 (x.1.2.1 : Int)], .float .f64 x.1.2.2, undef, undef, undef, undef, undef, undef, undef], defers := [] }) ?assign ?body ?done ?stop
  case assign =>
    intro l x W K hK
    unfold velV
    gi_wp2
    exact hK
  case body =>
    rintro l pre x W ⟨⟨sv, hbx, hrow⟩, hb0, hB, hs4⟩ hlt
    have hc := hbx.facts
    obtain ⟨q1, q2, q3⟩ := hc
    have hown := hrow.lt
    gi_wp2_with (gi_at_builtin; refine wpListIn_append_own _ rfl _ _ 22 rfl (w.heap.size + 4) 31 i0 (.float .f64 0) 1 8 Try.underlying22 hi hz0 hz1 hz2 rfl (by decide) _ _ _ rfl (hrow.alloc _) ⟨W.heap.size, 0, none⟩ 1 1 [.float .f64 x.1.2.2] rfl rfl (cell_one_new _ _ _) (by simp [Value.oneCell']) (by unfold maxLen; omega) (by omega) (by simp; omega) ?_; intro v' w1 hown' hgrow _; obtain ⟨g', cap', rfl⟩ := ownsRow_succ hown'; have hbx1 := (hbx.alloc _).grown hgrow (fun r e => by have := hown r e; omega); obtain ⟨q4, q5, q6⟩ := hbx1.facts)
    obtain ⟨z1, z2, z3⟩ := app_step (j := 2) (u := .slice (some ⟨g', 0, none⟩) (pre.length + 1) cap') hrow hgrow hown' (show w.heap.size + 1 + 1 < w.heap.size + 4 by omega) hs4 hbx1
    have hB' : Below w.heap.size w (w1.setCell ⟨w.heap.size + 1 + 1, 2, none⟩ (.slice (some ⟨g', 0, none⟩) (pre.length + 1) cap')) := hB.trans ((z2.mono (by omega)).below (by omega))
    refine ⟨z3 _, fun hR => ⟨hR.1.belB (by omega) (by omega) z2, h.below hB'⟩, ⟨⟨_, hbx1.set 2 _, ?_⟩, hb0.belB (by omega) (by omega) z2, hB', Nat.le_trans hs4 z2.size⟩⟩
    simpa using z1
  case done =>
    rintro D ys W hD hys ⟨⟨sv, hbx, hrow⟩, hb0, hB, hs4⟩ hK
    have hc := hbx.facts
    obtain ⟨q1, q2, q3⟩ := hc
    have hc := hb0.facts
    obtain ⟨q4, q5, q6⟩ := hc
    have hlen : ys.length = v.r * v.c := by
      have := congrArg List.length hys
      simpa [plcs] using this
    have hlist : ys.map (fun x => x.1.2.2) = v.list ws := velP_list hys
    obtain ⟨a, cap, rfl⟩ := ownsRow_slice hrow
    have HR := Lib.hid hrow
    clear hrow
    gi_wp2
    have hbel : ∀ B, Bel B (w.heap.size + 1) W (((W.setCell ⟨w.heap.size + 1, 0, none⟩ (.int .i64 v.r)).setCell ⟨w.heap.size + 1, 1, none⟩ (.int .i64 v.c)).setCell ⟨w.heap.size + 1, 2, none⟩ (.slice a (v.r * v.c) cap)) := fun B => (((Bel.refl _ _ _).set _ _).set _ _).set _ _
    have hK2 : (((W.setCell ⟨w.heap.size + 1, 0, none⟩ (.int .i64 v.r)).setCell ⟨w.heap.size + 1, 1, none⟩ (.int .i64 v.c)).setCell ⟨w.heap.size + 1, 2, none⟩ (.slice a (v.r * v.c) cap)).heap[D]? = some (.deferred (some [])) := by
      rw [(hbel (D + 1)).block D (Nat.lt_succ_self _) (by omega)]; exact hK
    have hst : StillC W1.heap.size _ _ := StillC.put (o' := .deferred none) hD hK2 rfl
    refine ⟨by simp, .inl ⟨_, _, rfl, run_takeDeferred hK2, ?_⟩⟩
    have HR2 := HR.out
    rw [hlen, hlist] at HR2
    refine ⟨_, results_one rfl (rv_cell (g := w.heap.size + 1) rfl ((((hb0.set 0 _).set 1 _).set 2 _).still hst) rfl Try.underlying24 (by kernel_rfl)), _, rfl, ?_, ?_⟩
    · have hl : (v.list ws).length = v.r * v.c := by rw [← hlist, List.length_map, hlen]
      rw [hl]
      have h1 := ownsRow_still (ownsRow_bel HR2 (hbel _) (by omega)) hst
      refine ⟨h1.1, ?_⟩
      rcases h1.2 with h0 | ⟨g, cap', cur, h1, h2, h3⟩
      · exact .inl h0
      · exact .inr ⟨g, cap', cur, h1, by omega, h3⟩
    · exact below_still (hB.trans ((hbel _).below (by omega))) hst (by omega)
  case stop =>
    rintro D c pre W _ _ h _
    exact h.elim
end Go.Proofs.Ytbcdpibcieadlaa
