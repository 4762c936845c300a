/- Views: loops over a view's places whose place lies in a box: Same, Fill, Copy, Take. -/
import Derived.Test.YtbcdpibcieadlaaVw4
namespace Go.Proofs.Ytbcdpibcieadlaa
open Go Go.RowKit Go.Shelf
attribute [local go_sem] Oper.semAt_some
set_option maxRecDepth 100000

theorem StillC.alloc {b : Nat} {W : World} (hb : b ≤ W.heap.size) (o : Obj) : StillC b W (W.alloc o) :=
  StillC.of_grown hb (World.grownBy_alloc W o none) (fun r e => by cases e)

/-- A loop over a view, its place in a box. -/
theorem view_loop {g : Operand} {ps : Array Tmp} {assign body : Code} {Q : Exit → Act → World → Prop} {T : Array Value} {ds : List Deferred} {w : World} (n : Nat) (hn : 3 ≤ n) {v : Vw} {sb Bv : Nat} {R : World → Prop} {V : Nat → Nat → Nat → Prop}
    (hA : AllR v sb Bv R (ImpK R) V) (hr : v.r ≤ 512) (hc : v.c ≤ 512) (hRw : R w) (hRs : ∀ A B, R A → StillC w.heap.size A B → R B)
    (hg : (Act.mk T ds).eval g = .func (.func 111) #[] #[.pointer (some ⟨Bv, 0, none⟩)]) (hps : ps.size = 2)
    (I : List (VEl v.r v.c V) → World → Prop) (Ix : Code → List (VEl v.r v.c V) → World → Prop)
    (hI : ∀ pre A, I pre A → w.heap.size ≤ A.heap.size) (hIs : ∀ pre A B, I pre A → StillC w.heap.size A B → I pre B)
    (hIx : ∀ c pre A, Ix c pre A → w.heap.size ≤ A.heap.size) (hIxs : ∀ c pre A B, Ix c pre A → StillC w.heap.size A B → Ix c pre B) (h0 : I [] w)
    (upd : Array Value → VEl v.r v.c V → Nat → Array Value)
    (hassign : ∀ (l : Nat) (x : VEl v.r v.c V) (W : World) (K : Act → World → Prop), K ⟨upd T x W.heap.size, []⟩ (W.alloc (.cells #[.int .i64 (x.1.1 : Int), .int .i64 (x.1.2.1 : Int)] 92)) →
      assign.wpIn (Fence.wide.inRound l) (n - 1 - 1) Try.prog (Exit.then K (fun _ _ _ => False)) { tmps := (ps.zip (velV x)).foldl (fun t (p, v) => t.setIfInBounds p v) T, defers := [] } W)
    (hbody : ∀ (l : Nat) (pre : List (VEl v.r v.c V)) (x : VEl v.r v.c V) (Bx : Nat) (W : World), I pre W → Box W Bx [.int .i64 (x.1.1 : Int), .int .i64 (x.1.2.1 : Int)] → w.heap.size ≤ Bx → pre.length < v.r * v.c →
      body.wpIn (Fence.wide.inRound l) (n - 1 - 1) Try.prog (ownPostG w.heap.size (ImpK R) I Ix (pre ++ [x]) W) ⟨upd T x Bx, []⟩ W)
    (hdone : ∀ (D : Nat) (xs : List (VEl v.r v.c V)) (W : World), w.heap.size ≤ D → xs.map velP = plcs v.c (v.r * v.c) → I xs W → W.heap[D]? = some (.deferred (some [])) → Q .normal ⟨T, { target := .collected D, args := #[] } :: ds⟩ W)
    (hstop : ∀ (D : Nat) (c : Code) (pre : List (VEl v.r v.c V)) (W : World), w.heap.size ≤ D → pre.map velP <+: plcs v.c (v.r * v.c) → Ix c pre W → W.heap[D]? = some (.deferred (some [])) → c.wpIn Fence.wide n Try.prog Q ⟨T, { target := .collected D, args := #[] } :: ds⟩ W) :
    (Code.rangeFunc g ps assign body).wpIn Fence.wide n Try.prog Q ⟨T, ds⟩ w := by
  refine wpIn_rangeFunc_ownH rfl (by omega) hg trivial (enters_of Try.func111 (by kernel_rfl) rfl)
    (All_stops (n - 1) (by omega) v sb Bv R (ImpK R) V hA hr hc w hRw) (fun h k => h.t k) (fun W l o o' hl ho hc _ => fun hR => hRs _ _ hR (StillC.put hl ho hc)) (Below.refl _ _) (fun _ => by rw [hps]; rfl)
    I Ix (ownFrom_still hI hIs) (fun c => ownFrom_still (hIx c) (hIxs c)) h0
    (fun x a' W => ∃ Bx, w.heap.size ≤ Bx ∧ Box W Bx [.int .i64 (x.1.1 : Int), .int .i64 (x.1.2.1 : Int)] ∧ w.heap.size ≤ W.heap.size ∧ a' = ⟨upd T x Bx, []⟩)
    (fun x a' => ownFrom_still (fun _ A h => h.elim fun _ h => h.2.2.1) (fun _ A B h hs => by obtain ⟨Bx, h1, h2, h3, h4⟩ := h; exact ⟨Bx, h1, h2.still hs, Nat.le_trans h3 hs.1.size, h4⟩))
    ?_ ?_ hdone hstop
  · intro l pre x W K hi hK
    have hs := StillC.alloc (hI _ _ hi) (.cells #[.int .i64 (x.1.1 : Int), .int .i64 (x.1.2.1 : Int)] 92)
    exact hassign l x W K (hK _ _ ((KeepsOthers.alloc _ _).from _) (fun hR => hRs _ _ hR hs) (hIs _ _ _ hi hs) ⟨W.heap.size, hI _ _ hi, Box.newA _ [_, _] _ rfl, by have := hI _ _ hi; simp; omega, rfl⟩)
  · rintro l pre x a' W hl hl2 hi ⟨Bx, h1, h2, h3, rfl⟩ hlen
    exact hbody l pre x Bx W hi h2 h1 hlen

theorem rv_bool {P : Program} {w : World} {tmps : Array Value} {p : Tmp} {ty : TypeId} {g : Nat} {v : Value} (hp : tmps.getD p undef = .pointer (some ⟨g, 0, none⟩)) (hb : Box w g [v]) (hu : P.underlying ty = some .bool) :
    (rvSem tmps (.cell p ty)).run P w = .ok v w := by
  have hc : w.cell? ⟨g, 0, none⟩ = some v := by rw [hb.cell]; rfl
  show (do loadVar ty (← asAddr (tmps.getD p undef)) : Sem Value).run P w = _
  rw [hp]
  simp [asAddr, loadVar, isAgg, run_underlying hu, hc, go_sem]
/-! ### Same -/
def sameL (a b : Vw) (wa wb : List Nat) (l : List (Nat × Nat)) : Bool := l.all fun x => sameF (a.get wa x.1 x.2) (b.get wb x.1 x.2)
/-- Do two views show the same? -/
def sameV (a b : Vw) (wa wb : List Nat) : Bool := (a.p.isNone == b.p.isNone) && decide (a.r = b.r) && decide (a.c = b.c) && sameL a b wa wb (plcs a.c (a.r * a.c))

set_option maxHeartbeats 4000000 in
theorem Same_any (w : World) (a b : Vw) (sa sb : Nat) (wa wb : List Nat) (ha : a.Ok w sa wa) (hb : b.Ok w sb wb) :
    Calls Try.prog 37 #[a.val, b.val] w fun e w' => e = .returned (.bool (sameV a b wa wb)) ∧ Below w.heap.size w w' := by
  have hsm := ha.small
  by_cases hs : a.p.isNone = b.p.isNone ∧ a.r = b.r ∧ a.c = b.c
  case neg =>
    have e0 : sameV a b wa wb = false := by
      unfold sameV
      cases h1 : (a.p.isNone == b.p.isNone)
      · rfl
      · have h1' : a.p.isNone = b.p.isNone := by simpa using h1
        by_cases h2 : a.r = b.r
        · by_cases h3 : a.c = b.c
          · exact absurd ⟨h1', h2, h3⟩ hs
          · rw [decide_eq_false h3]; simp
        · rw [decide_eq_false h2]; simp
    rw [e0]
    have t2 : a.r ≠ b.r → ((a.r : Int) != (b.r : Int)) = true := fun h => by simp; omega
    have t2' : a.r = b.r → ((a.r : Int) != (b.r : Int)) = false := fun h => by simp; omega
    have t3 : a.c ≠ b.c → ((a.c : Int) != (b.c : Int)) = true := fun h => by simp; omega
    clear e0 ha hb hsm
    obtain ⟨p, r, c, o, d, u⟩ := a
    obtain ⟨p', r', c', o', d', u'⟩ := b
    unfold Vw.val
    dsimp only at hs t2 t2' t3 ⊢
    cases p
    case none =>
      cases p'
      case none =>
        by_cases h2 : r = r'
        · have h3 : c ≠ c' := fun h3 => hs ⟨rfl, h2, h3⟩
          replace t2' := t2' h2
          replace t3 := t3 h3
          clear t2 h2 h3 hs
          go_enter Try.func37, Try.ntmps37
          go_wp2
          refine bodyPost_ret (results_one rfl (rv_bool (g := w.heap.size + 1 + 1) rfl (Box.newA _ [.bool false] _ (by simp)) Try.underlying4)) rfl ⟨rfl, ?_⟩
          exact (((Below.refl _ _).alloc (Nat.le_refl _) _).alloc (by simp) _).alloc (by simp; omega) _
        · replace t2 := t2 h2
          clear t2' t3 h2 hs
          go_enter Try.func37, Try.ntmps37
          go_wp2
          refine bodyPost_ret (results_one rfl (rv_bool (g := w.heap.size + 1 + 1) rfl (Box.newA _ [.bool false] _ (by simp)) Try.underlying4)) rfl ⟨rfl, ?_⟩
          exact (((Below.refl _ _).alloc (Nat.le_refl _) _).alloc (by simp) _).alloc (by simp; omega) _
      case some q =>
        clear t2 t2' t3 hs
        go_enter Try.func37, Try.ntmps37
        go_wp2
        refine bodyPost_ret (results_one rfl (rv_bool (g := w.heap.size + 1 + 1) rfl (Box.newA _ [.bool false] _ (by simp)) Try.underlying4)) rfl ⟨rfl, ?_⟩
        exact (((Below.refl _ _).alloc (Nat.le_refl _) _).alloc (by simp) _).alloc (by simp; omega) _
    case some q =>
      cases p'
      case none =>
        clear t2 t2' t3 hs
        go_enter Try.func37, Try.ntmps37
        go_wp2
        refine bodyPost_ret (results_one rfl (rv_bool (g := w.heap.size + 1 + 1) rfl (Box.newA _ [.bool false] _ (by simp)) Try.underlying4)) rfl ⟨rfl, ?_⟩
        exact (((Below.refl _ _).alloc (Nat.le_refl _) _).alloc (by simp) _).alloc (by simp; omega) _
      case some q' =>
        by_cases h2 : r = r'
        · have h3 : c ≠ c' := fun h3 => hs ⟨rfl, h2, h3⟩
          replace t2' := t2' h2
          replace t3 := t3 h3
          clear t2 h2 h3 hs
          go_enter Try.func37, Try.ntmps37
          go_wp2
          refine bodyPost_ret (results_one rfl (rv_bool (g := w.heap.size + 1 + 1) rfl (Box.newA _ [.bool false] _ (by simp)) Try.underlying4)) rfl ⟨rfl, ?_⟩
          exact (((Below.refl _ _).alloc (Nat.le_refl _) _).alloc (by simp) _).alloc (by simp; omega) _
        · replace t2 := t2 h2
          clear t2' t3 h2 hs
          go_enter Try.func37, Try.ntmps37
          go_wp2
          refine bodyPost_ret (results_one rfl (rv_bool (g := w.heap.size + 1 + 1) rfl (Box.newA _ [.bool false] _ (by simp)) Try.underlying4)) rfl ⟨rfl, ?_⟩
          exact (((Below.refl _ _).alloc (Nat.le_refl _) _).alloc (by simp) _).alloc (by simp; omega) _
  case pos =>
    obtain ⟨h1, h2, h3⟩ := hs
    have e0 : sameV a b wa wb = sameL a b wa wb (plcs a.c (a.r * a.c)) := by
      unfold sameV
      rw [h1, decide_eq_true h2, decide_eq_true h3]
      simp
    rw [e0]
    clear e0
    have t2 : ((a.r : Int) != (b.r : Int)) = false := by rw [h2]; simp
    have t3 : ((a.c : Int) != (b.c : Int)) = false := by rw [h3]; simp
    clear h2 h3
    have ev1 : a.val = (.agg #[.pointer a.p, .int .i64 a.r, .int .i64 a.c, .int .i64 a.o, .int .i64 a.d, .int .i64 a.u]) := rfl
    have ev2 : b.val = (.agg #[.pointer b.p, .int .i64 b.r, .int .i64 b.c, .int .i64 b.o, .int .i64 b.d, .int .i64 b.u]) := rfl
    refine (callsIn_wide (n := 9)).1 ?_
    refine callsIn_of_wp_marks Try.func37 rfl trivial ?_ rfl
    simp only [Try.ntmps37, List.size_toArray, List.length_cons, List.length_nil, Nat.reduceAdd, Nat.reduceSub, Array.replicate_succ, Array.replicate_zero, List.push_toArray, List.append_toArray, List.nil_append, List.cons_append]
    rw [ev1, ev2]
    gi_wp2_with (refine ⟨trivial, ?_⟩; gi_at_call 79; refine (callsIn_wide.2 (All_any _ _ _ _ _ _ _)).mono ?_; rintro e w1 ⟨rfl, rfl⟩)
    have hB0 : Below w.heap.size w ((((w.alloc (.cells #[.pointer a.p, .int .i64 a.r, .int .i64 a.c, .int .i64 a.o, .int .i64 a.d, .int .i64 a.u] 29)).alloc (.cells #[.pointer b.p, .int .i64 b.r, .int .i64 b.c, .int .i64 b.o, .int .i64 b.d, .int .i64 b.u] 29)).alloc (.cells #[.bool false] 4)).alloc (.cells #[.pointer a.p, .int .i64 a.r, .int .i64 a.c, .int .i64 a.o, .int .i64 a.d, .int .i64 a.u] 29)) := ((((Below.refl _ _).alloc (Nat.le_refl _) _).alloc (by simp) _).alloc (by simp; omega) _).alloc (by simp; omega) _
    have x1 : Box ((((w.alloc (.cells #[.pointer a.p, .int .i64 a.r, .int .i64 a.c, .int .i64 a.o, .int .i64 a.d, .int .i64 a.u] 29)).alloc (.cells #[.pointer b.p, .int .i64 b.r, .int .i64 b.c, .int .i64 b.o, .int .i64 b.d, .int .i64 b.u] 29)).alloc (.cells #[.bool false] 4)).alloc (.cells #[.pointer a.p, .int .i64 a.r, .int .i64 a.c, .int .i64 a.o, .int .i64 a.d, .int .i64 a.u] 29)) (w.heap.size + 1) [.pointer b.p, .int .i64 b.r, .int .i64 b.c, .int .i64 b.o, .int .i64 b.d, .int .i64 b.u] := ((Box.newA _ _ _ (by simp)).alloc _).alloc _
    have x2 : Box ((((w.alloc (.cells #[.pointer a.p, .int .i64 a.r, .int .i64 a.c, .int .i64 a.o, .int .i64 a.d, .int .i64 a.u] 29)).alloc (.cells #[.pointer b.p, .int .i64 b.r, .int .i64 b.c, .int .i64 b.o, .int .i64 b.d, .int .i64 b.u] 29)).alloc (.cells #[.bool false] 4)).alloc (.cells #[.pointer a.p, .int .i64 a.r, .int .i64 a.c, .int .i64 a.o, .int .i64 a.d, .int .i64 a.u] 29)) (w.heap.size + 1 + 1) [.bool false] := (Box.newA _ [_] _ (by simp)).alloc _
    have x3 : Box ((((w.alloc (.cells #[.pointer a.p, .int .i64 a.r, .int .i64 a.c, .int .i64 a.o, .int .i64 a.d, .int .i64 a.u] 29)).alloc (.cells #[.pointer b.p, .int .i64 b.r, .int .i64 b.c, .int .i64 b.o, .int .i64 b.d, .int .i64 b.u] 29)).alloc (.cells #[.bool false] 4)).alloc (.cells #[.pointer a.p, .int .i64 a.r, .int .i64 a.c, .int .i64 a.o, .int .i64 a.d, .int .i64 a.u] 29)) (w.heap.size + 1 + 1 + 1) [.pointer a.p, .int .i64 a.r, .int .i64 a.c, .int .i64 a.o, .int .i64 a.d, .int .i64 a.u] := Box.newA _ _ _ (by simp)
    have hsz : ((((w.alloc (.cells #[.pointer a.p, .int .i64 a.r, .int .i64 a.c, .int .i64 a.o, .int .i64 a.d, .int .i64 a.u] 29)).alloc (.cells #[.pointer b.p, .int .i64 b.r, .int .i64 b.c, .int .i64 b.o, .int .i64 b.d, .int .i64 b.u] 29)).alloc (.cells #[.bool false] 4)).alloc (.cells #[.pointer a.p, .int .i64 a.r, .int .i64 a.c, .int .i64 a.o, .int .i64 a.d, .int .i64 a.u] 29)).heap.size = w.heap.size + 4 := by simp
    generalize ((((w.alloc (.cells #[.pointer a.p, .int .i64 a.r, .int .i64 a.c, .int .i64 a.o, .int .i64 a.d, .int .i64 a.u] 29)).alloc (.cells #[.pointer b.p, .int .i64 b.r, .int .i64 b.c, .int .i64 b.o, .int .i64 b.d, .int .i64 b.u] 29)).alloc (.cells #[.bool false] 4)).alloc (.cells #[.pointer a.p, .int .i64 a.r, .int .i64 a.c, .int .i64 a.o, .int .i64 a.d, .int .i64 a.u] 29)) = W1 at *
    refine view_loop 9 (by decide) (AllRd.R a sa (w.heap.size + 1 + 1 + 1) wa) hsm.1 hsm.2 ⟨x3, ha.below hB0⟩ (fun _ _ h hs => h.still hs) rfl rfl
      (fun pre W => sameL a b wa wb (pre.map velP) = true ∧ Box W (w.heap.size + 1) [.pointer b.p, .int .i64 b.r, .int .i64 b.c, .int .i64 b.o, .int .i64 b.d, .int .i64 b.u] ∧ Box W (w.heap.size + 1 + 1) [.bool false] ∧ Below w.heap.size w W ∧ W1.heap.size ≤ W.heap.size)
      (fun c pre W => c = .ret ∧ sameL a b wa wb (pre.map velP) = false ∧ Box W (w.heap.size + 1 + 1) [.bool false] ∧ Below w.heap.size w W ∧ W1.heap.size ≤ W.heap.size)
      (fun _ _ h => h.2.2.2.2) (fun _ _ _ h hs => ⟨h.1, h.2.1.still hs, h.2.2.1.still hs, below_still h.2.2.2.1 hs (by omega), Nat.le_trans h.2.2.2.2 hs.1.size⟩)
      (fun _ _ _ h => h.2.2.2.2) (fun _ _ _ _ h hs => ⟨h.1, h.2.1, h.2.2.1.still hs, below_still h.2.2.2.1 hs (by omega), Nat.le_trans h.2.2.2.2 hs.1.size⟩)
      ⟨rfl, x1, x2, hB0, Nat.le_refl _⟩
      (fun T x Bx => (((T.setIfInBounds 30 (.agg #[.int .i64 (x.1.1 : Int), .int .i64 (x.1.2.1 : Int)])).setIfInBounds 31 (.float .f64 x.1.2.2)).setIfInBounds 5 (.pointer (some ⟨Bx, 0, none⟩))).setIfInBounds 6 (.float .f64 x.1.2.2)) ?assign ?body ?done ?stop
    case assign =>
      intro l x W K hK
      unfold velV
      gi_wp2
      exact hK
    case body =>
      rintro l pre x Bx W ⟨hL, hb1, hb2, hB, hs4⟩ hbx hBx hlt
      obtain ⟨q1, q2, q3⟩ := hb1.facts
      obtain ⟨q4, q5, q6⟩ := hb2.facts
      obtain ⟨q7, q8, q9⟩ := hbx.facts
      have hxv : x.1.2.2 = a.get wa x.1.1 x.1.2.1 := x.2.2.2
      have HL : Hid (sameL a b wa wb ((pre ++ [x]).map velP) = sameF x.1.2.2 (b.get wb x.1.1 x.1.2.1)) := by
        unfold Hid sameL
        unfold sameL at hL
        rw [List.map_append, List.all_append, hL, hxv]
        simp [velP]
      clear hL hxv
      gi_wp2_with fail
      refine ⟨trivial, (CallsIn.inRound l (callsIn_wide.2 (At_any W b sb wb x.1.1 x.1.2.1 (hb.below hB)))).mono ?_⟩
      rintro e w2 ⟨rfl, hbb⟩
      have c2 := hb2.below hbb
      have hB2 := below_step hB hB.size hbb
      have s2 : W1.heap.size ≤ w2.heap.size := Nat.le_trans hs4 hbb.size
      clear q1 q2 q3 q4 q5 q6 q7 q8 q9
      obtain ⟨q4, q5, q6⟩ := c2.facts
      cases hf : sameF x.1.2.2 (b.get wb x.1.1 x.1.2.1)
      all_goals
        gi_wp2_with (refine ⟨trivial, ?_⟩; gi_at_call 88; refine (CallsIn.inRound l (callsIn_wide.2 (same_any _ _ _))).mono ?_; rintro e w3 ⟨rfl, rfl⟩; rw [hf])
      · have c3 := c2.set 0 (.bool false)
        have hB3 := below_set hB2 (show w.heap.size ≤ w.heap.size + 1 + 1 by omega) 0 (.bool false)
        refine ⟨(keeps_below hbb _).trans ((KeepsOthers.setCell _ _ _).from _), rfl, by rw [HL.out, hf], c3, hB3, ?_⟩
        simpa using s2
      · exact ⟨keeps_below hbb _, fun hR => ⟨hR.1.below hbb, hR.2.below hbb⟩, by rw [HL.out, hf], hb1.below hbb, c2, hB2, s2⟩
    case done =>
      rintro D ys W hD hys ⟨hL, hb1, hb2, hB, hs4⟩ hK
      rw [hys] at hL
      have HL := Lib.hid hL
      clear hL
      obtain ⟨q4, q5, q6⟩ := hb2.facts
      gi_wp2
      have hK2 : (W.setCell ⟨w.heap.size + 1 + 1, 0, none⟩ (.bool true)).heap[D]? = some (.deferred (some [])) := by
        rw [Below.heap_setCell _ _ _ _ (by show D ≠ w.heap.size + 1 + 1; omega)]; exact hK
      have hst : StillC W1.heap.size _ _ := StillC.put (o' := .deferred none) hD hK2 rfl
      refine ⟨by simp, .inl ⟨_, _, rfl, run_takeDeferred hK2, ?_⟩⟩
      refine ⟨_, results_one rfl (rv_bool (g := w.heap.size + 1 + 1) rfl ((hb2.set 0 _).still hst) Try.underlying4), by rw [HL.out], ?_⟩
      exact below_still (below_set hB (by omega) _ _) hst (by omega)
    case stop =>
      rintro D c pre W hD hpre ⟨rfl, hL, hb2, hB, hs4⟩ hK
      obtain ⟨rest, hrest⟩ := hpre
      have hL2 : sameL a b wa wb (plcs a.c (a.r * a.c)) = false := by
        rw [← hrest]
        unfold sameL at hL ⊢
        rw [List.all_append, hL]
        rfl
      have HL := Lib.hid hL2
      clear hL hL2
      obtain ⟨q4, q5, q6⟩ := hb2.facts
      gi_wp2
      have hst : StillC W1.heap.size _ _ := StillC.put (o' := .deferred none) hD hK rfl
      refine ⟨by simp, .inl ⟨_, _, rfl, run_takeDeferred hK, ?_⟩⟩
      refine ⟨_, results_one rfl (rv_bool (g := w.heap.size + 1 + 1) rfl (hb2.still hst) Try.underlying4), by rw [HL.out], ?_⟩
      exact below_still hB hst (by omega)

/-! ### Fill -/
/-- The store behind it, places set one after another. -/
def Vw.fill (v : Vw) (x : Nat) (ws : List Nat) (l : List (Nat × Nat)) : List Nat := l.foldl (fun s y => v.put s y.1 y.2 x) ws
theorem Vw.fill_length (v : Vw) (x : Nat) : ∀ (l : List (Nat × Nat)) (ws : List Nat), (v.fill x ws l).length = ws.length
  | [], _ => rfl
  | y :: l, ws => by
    show (v.fill x (v.put ws y.1 y.2 x) l).length = _
    rw [Vw.fill_length v x l, Vw.put_length]
/-- What the rounds of a filling keep. -/
def FillRd (v : Vw) (sb Bv n : Nat) (W : World) : Prop := Box W Bv [.pointer v.p, .int .i64 v.r, .int .i64 v.c, .int .i64 v.o, .int .i64 v.d, .int .i64 v.u] ∧ ∃ ws, v.Ok W sb ws ∧ ws.length = n
theorem FillRd.still {v : Vw} {sb Bv n b : Nat} {A B : World} (h : FillRd v sb Bv n A) (hs : StillC b A B) : FillRd v sb Bv n B := by
  obtain ⟨h1, ws, h2, h3⟩ := h
  exact ⟨h1.still hs, ws, h2.still hs, h3⟩
theorem FillRd.R (v : Vw) (sb Bv n : Nat) : AllR v sb Bv (FillRd v sb Bv n) (ImpK (FillRd v sb Bv n)) (fun _ _ _ => True) :=
  ⟨fun _ h => h.1, fun _ h => by obtain ⟨_, ws, h2, _⟩ := h; exact ⟨ws, h2, fun _ _ _ _ => trivial⟩, fun _ _ h k => k h, fun _ _ h k => by obtain ⟨h1, ws, h2, h3⟩ := h; exact ⟨h1.below k, ws, h2.below k, h3⟩⟩
theorem ok_box {v : Vw} {w : World} {sb : Nat} {ws : List Nat} (h : v.Ok w sb ws) (hp : v.p ≠ none) : Box w sb (ws.map (Value.float .f64)) := by
  rcases h with rfl | ⟨⟨st, _, _, h, _⟩, _⟩
  · exact absurd rfl hp
  · exact h
theorem ok_sto {v : Vw} {w : World} {sb : Nat} {ws : List Nat} (h : v.Ok w sb ws) (hp : v.p ≠ none) : ∃ st, v.p = some ⟨st, 0, none⟩ ∧ Box w st [.slice (some ⟨sb, 0, none⟩) ws.length ws.length] ∧ Box w sb (ws.map (Value.float .f64)) ∧ st ≠ sb := by
  rcases h with rfl | ⟨⟨st, h1, h2, h3, _⟩, _⟩
  · exact absurd rfl hp
  · exact ⟨st, h1, h2, h3, Sto.ne h2 h3⟩

end Go.Proofs.Ytbcdpibcieadlaa
