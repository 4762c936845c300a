/- Views: the range over all places of a view whose store its rounds write. No condition. -/
import Derived.Test.YtbcdpibcieadlaaZz5
import Derived.Test.YtbcdpibcieadlaaZz13
import Derived.Test.YtbcdpibcieadlaaZz6
import Derived.Test.YtbcdpibcieadlaaKkZ
namespace Go.Proofs.Ytbcdpibcieadlaa
open Go Go.RowKit Go.Shelf
attribute [local go_sem] Oper.semAt_some
set_option maxRecDepth 100000

theorem still_of_below {b : Nat} {A B : World} (hb : b ≤ A.heap.size) (h : Below A.heap.size A B) : StillC b A B :=
  ⟨h.mono hb, fun k o ho _ => by rw [h.block k (Array.getElem?_eq_some_iff.1 ho).1]; exact ho⟩
set_option maxHeartbeats 4000000 in
theorem All_givesJ (n : Nat) (hn : 1 ≤ n) (v : Vw) (sb Bv l : Nat) (hr : v.r ≤ 512) (hc : v.c ≤ 512) (J : Nat → World → Prop) (W : World) (hJ : ∀ k A B, J k A → Below A.heap.size A B → J k B)
    (hJv : ∀ k A, J k A → Box A Bv [.pointer v.p, .int .i64 v.r, .int .i64 v.c, .int .i64 v.o, .int .i64 v.d, .int .i64 v.u] ∧ ∃ ws, v.Ok A sb ws)
    (hY : ∀ (i j x : Nat) (A : World) (ws : List Nat), i < v.r → j < v.c → J (i * v.c + j) A → v.Ok A sb ws → x = v.get ws i j → YieldAt Fence.wide (n - 1) Try.prog l #[.agg #[.int .i64 (i : Int), .int .i64 (j : Int)], .float .f64 x] A fun e A' => e = .returned (.bool true) ∧ J (i * v.c + j + 1) A')
    (h0 : J 0 W) : CallsIn Fence.wide n Try.prog 111 (#[.func (.yield l) #[] #[]] ++ #[.pointer (some ⟨Bv, 0, none⟩)]) W fun e W' => (∃ u, e = .returned u) ∧ J (v.r * v.c) W' := by
  have hb := (hJv _ _ h0).1.facts
  obtain ⟨p, r, c, o, d, u⟩ := v
  dsimp only at hr hc hY hb hJv ⊢
  obtain ⟨b1, b2, b3⟩ := hb
  refine callsIn_of_wp Try.func111 rfl trivial ?_ rfl
  simp only [Try.ntmps111, List.size_toArray, List.length_cons, List.length_nil, Nat.reduceAdd, Nat.reduceSub, Array.replicate_succ, Array.replicate_zero, List.push_toArray, List.append_toArray, List.nil_append, List.cons_append]
  gi_wp2
  gi_loopw [7] (fun s7 wr => ∃ i : Nat, i ≤ r ∧ s7 = .int .i64 i ∧ J (i * c) wr) (fun s7 _ => r - (intOf s7).toNat)
  case atStart => exact ⟨0, Nat.zero_le _, rfl, by rw [Nat.zero_mul]; exact h0⟩
  case round =>
    obtain ⟨i, hi, rfl, hJs⟩ := hrel
    obtain ⟨e1, e2, e3⟩ := (hJv _ _ hJs).1.facts
    clear b1 b2 b3
    by_cases hlt : i < r
    · gi_wp2
      gi_loopw [12] (fun s12 wr => ∃ j : Nat, j ≤ c ∧ s12 = .int .i64 j ∧ J (i * c + j) wr) (fun s12 _ => c - (intOf s12).toNat)
      case atStart => exact ⟨0, Nat.zero_le _, rfl, hJs⟩
      case round =>
        clear hJs e1 e2 e3
        obtain ⟨j, hj, rfl, hJs⟩ := hrel
        obtain ⟨hbx, ws, hok⟩ := hJv _ _ hJs
        obtain ⟨e1, e2, e3⟩ := hbx.facts
        by_cases hlt2 : j < c
        · gi_wp2_with fail
          refine ⟨trivial, (callsIn_wide.2 (At_any wr ⟨p, r, c, o, d, u⟩ sb ws i j hok)).mono ?_⟩
          rintro e w2 ⟨rfl, hb2⟩
          have hJ2 := hJ _ _ _ hJs hb2
          obtain ⟨fn, tmps, assign, body, hy, hR⟩ := hY i j _ w2 ws hlt hlt2 hJ2 (hok.below hb2) rfl
          generalize (Vw.mk p r c o d u).get ws i j = x at hy ⊢
          have hb3 := hbx.below hb2
          clear e1 e2 e3 hbx
          obtain ⟨e1, e2, e3⟩ := hb3.facts
          clear hb3
          gi_wp2
          refine hR.mono ?_
          rintro e W3 ⟨rfl, hJ3⟩
          gi_wp2
          go_roundw
          case rel => exact ⟨j + 1, by omega, by go_num, by rw [← Nat.add_assoc]; exact hJ3⟩
          case measure => simp [intOf]; omega
        · obtain rfl : j = c := by omega
          gi_wp2
          go_roundw
          case rel => exact ⟨i + 1, by omega, by go_num, by rw [Nat.succ_mul]; exact hJs⟩
          case measure => simp [intOf]; omega
    · obtain rfl : i = r := by omega
      gi_wp2
      go_end0
      exact ⟨⟨_, rfl⟩, hJs⟩
/-- How a round ends. -/
def roundJ (b : Nat) (I : Nat → World → Prop) (k : Nat) (W : World) : Exit → Act → World → Prop
  | .normal, _, W' => KeepsFrom b W W' ∧ I k W'
  | _, _, _ => False
theorem view_loopJ {g : Operand} {ps : Array Tmp} {assign body : Code} {Q : Exit → Act → World → Prop} {T : Array Value} {ds : List Deferred} {w : World} (n : Nat) (hn : 3 ≤ n) {v : Vw} {sb Bv : Nat} (hr : v.r ≤ 512) (hc : v.c ≤ 512)
    (hg : (Act.mk T ds).eval g = .func (.func 111) #[] #[.pointer (some ⟨Bv, 0, none⟩)]) (hps : ps.size = 2)
    (I : Nat → World → Prop) (hI : ∀ k A, I k A → w.heap.size ≤ A.heap.size) (hIs : ∀ k A B, I k A → StillC w.heap.size A B → I k B)
    (hIv : ∀ k A, I k A → Box A Bv [.pointer v.p, .int .i64 v.r, .int .i64 v.c, .int .i64 v.o, .int .i64 v.d, .int .i64 v.u] ∧ ∃ ws, v.Ok A sb ws) (h0 : I 0 w) (upd : Array Value → Nat → Nat → Nat → Nat → Array Value)
    (hassign : ∀ (l i j x : Nat) (W : World) (K : Act → World → Prop), K ⟨upd T i j x W.heap.size, []⟩ (W.alloc (.cells #[.int .i64 (i : Int), .int .i64 (j : Int)] 92)) →
      assign.wpIn (Fence.wide.inRound l) (n - 1 - 1) Try.prog (Exit.then K (fun _ _ _ => False)) { tmps := (ps.zip #[.agg #[.int .i64 (i : Int), .int .i64 (j : Int)], .float .f64 x]).foldl (fun t (p, v) => t.setIfInBounds p v) T, defers := [] } W)
    (hbody : ∀ (l i j x Bx : Nat) (W : World) (ws : List Nat), i < v.r → j < v.c → I (i * v.c + j) W → v.Ok W sb ws → x = v.get ws i j → Box W Bx [.int .i64 (i : Int), .int .i64 (j : Int)] → w.heap.size ≤ Bx →
      body.wpIn (Fence.wide.inRound l) (n - 1 - 1) Try.prog (roundJ w.heap.size I (i * v.c + j + 1) W) ⟨upd T i j x Bx, []⟩ W)
    (hdone : ∀ (D : Nat) (W : World), w.heap.size ≤ D → I (v.r * v.c) W → W.heap[D]? = some (.deferred (some [])) → Q .normal ⟨T, { target := .collected D, args := #[] } :: ds⟩ W) :
    (Code.rangeFunc g ps assign body).wpIn Fence.wide n Try.prog Q ⟨T, ds⟩ w := by
  refine wpIn_rangeFunc fun fn hfn => ?_
  rw [show Fence.wide.round = none from rfl]
  obtain ⟨mk, hmk⟩ : ∃ mk : LoopState → Option Code → Loop, mk = fun s c => { state := s, pending := c, fn, tmps := T, params := ps, assign, body, defers := w.heap.size } := ⟨_, rfl⟩
  obtain ⟨V, hV⟩ : ∃ V, V = (w.alloc (.deferred (some []))).alloc (.loop (mk .ready none)) := ⟨_, rfl⟩
  have eg := enters_of (P := Try.prog) Try.func111 (by kernel_rfl) rfl
  -- the two blocks of the loop itself
  have hloop : V.heap[w.heap.size + 1]? = some (.loop (mk .ready none)) := by
    have h := World.alloc_heap_new (w.alloc (.deferred (some []))) (.loop (mk .ready none))
    rw [World.size_alloc] at h
    rw [hV]; exact h
  have hdef : V.heap[w.heap.size]? = some (.deferred (some [])) := by
    rw [hV]
    exact (Below.heap_alloc _ _ _ (by simp)).trans (World.alloc_heap_new w _)
  have hBV : Below w.heap.size w V := hV ▸ ((Below.refl _ _).alloc (Nat.le_refl _) _).alloc (by simp) _
  have hIV : I 0 V := hIs _ _ _ h0 (still_of_below (Nat.le_refl _) hBV)
  have J : ∀ k A B, (I k A ∧ A.heap[w.heap.size + 1]? = some (.loop (mk .ready none)) ∧ A.heap[w.heap.size]? = some (.deferred (some []))) → Below A.heap.size A B → (I k B ∧ B.heap[w.heap.size + 1]? = some (.loop (mk .ready none)) ∧ B.heap[w.heap.size]? = some (.deferred (some []))) :=
    fun k A B h hb => ⟨hIs _ _ _ h.1 (still_of_below (hI _ _ h.1) hb), (hb.block _ (Array.getElem?_eq_some_iff.1 h.2.1).1).trans h.2.1, (hb.block _ (Array.getElem?_eq_some_iff.1 h.2.2).1).trans h.2.2⟩
  have turn : ∀ k A (o o' : Obj), I k A → A.heap[w.heap.size + 1]? = some o → o.isCells = false → I k (A.putObj (w.heap.size + 1) o') :=
    fun k A o o' h ho hc => hIs _ _ _ h (StillC.put (by omega) ho hc)
  refine ⟨w.heap.size + 1, [{ target := .collected w.heap.size, args := #[] }], V, { target := .fn (.func 111) #[.pointer (some ⟨Bv, 0, none⟩)], args := #[.func (.yield (w.heap.size + 1)) #[] #[]] }, V, 111,
    #[.func (.yield (w.heap.size + 1)) #[] #[]] ++ #[.pointer (some ⟨Bv, 0, none⟩)], V, ?_, ?_, ?_, ?_, fun _ => by omega, ?_⟩
  · rw [hV, hmk]; exact run_enterLoop_outer _ _ _ _ _
  · simp only [resolve, hg]
    simp [go_sem]
  · intro f hf
    simp [Target.leads] at hf
    subst hf
    trivial
  · simp [invoke, go_sem, eg _ _]
  · refine (All_givesJ (n - 1) (by omega) v sb Bv (w.heap.size + 1) hr hc (fun k A => I k A ∧ A.heap[w.heap.size + 1]? = some (.loop (mk .ready none)) ∧ A.heap[w.heap.size]? = some (.deferred (some []))) V J (fun k A h => hIv k A h.1) ?_ ⟨hIV, hloop, hdef⟩).mono ?_
    · rintro i j x A ws hi hj ⟨hIA, hlA, hdA⟩ hok hx
      have hlt := (Array.getElem?_eq_some_iff.1 hlA).1
      have hy := run_yield (P := Try.prog) (args := #[.agg #[.int .i64 (i : Int), .int .i64 (j : Int)], .float .f64 x]) hlA (by rw [hmk]; exact hps.symm)
      rw [hmk] at hy
      refine ⟨fn, _, assign, body, hy, roundIn_of_wpIn hfn (hassign _ i j x A _ ?_)⟩
      clear hy
      have hbA : Below A.heap.size A (A.alloc (.cells #[.int .i64 (i : Int), .int .i64 (j : Int)] 92)) := (Below.refl _ _).alloc (Nat.le_refl _) _
      have hxb : Box (A.alloc (.cells #[.int .i64 (i : Int), .int .i64 (j : Int)] 92)) A.heap.size [.int .i64 (i : Int), .int .i64 (j : Int)] := Box.newA A [_, _] _ rfl
      obtain ⟨hIB, hlB, hdB⟩ := J _ _ _ ⟨hIA, hlA, hdA⟩ hbA
      have hokB := hok.below hbA
      have hwA := hI _ _ hIA
      generalize A.alloc (.cells #[.int .i64 (i : Int), .int .i64 (j : Int)] 92) = B at *
      have hltB := (Array.getElem?_eq_some_iff.1 hlB).1
      refine ⟨_, run_beginRound hlB (by rw [hmk]), ?_⟩
      obtain ⟨busy, hbusy⟩ : ∃ b : Loop, b = { mk .ready none with state := .busy } := ⟨_, rfl⟩
      have hs1 : StillC w.heap.size B (B.putObj (w.heap.size + 1) (.loop busy)) := StillC.put (by omega) hlB rfl
      have hlC : (B.putObj (w.heap.size + 1) (.loop busy)).heap[w.heap.size + 1]? = some (.loop busy) := World.putObj_heap_same hltB
      have hdC : (B.putObj (w.heap.size + 1) (.loop busy)).heap[w.heap.size]? = some (.deferred (some [])) := (World.putObj_heap_other (by omega)).trans hdB
      rw [← hbusy]
      refine wpIn_mono (hbody _ i j x A.heap.size _ ws hi hj (hIs _ _ _ hIB hs1) (hokB.still hs1) hx (hxb.still hs1) hwA) ?_
      intro e a3 W3 hp
      cases e with
      | normal =>
        obtain ⟨hk3, hi3⟩ := hp
        have hl3 := hk3.same _ _ (by omega) hlC rfl
        have hd3 := hk3.same _ _ (Nat.le_refl _) hdC rfl
        have hlt3 := (Array.getElem?_eq_some_iff.1 hl3).1
        have he := run_endRound (P := Try.prog) none hl3
        rw [hbusy, hmk] at he
        refine ⟨_, _, he, rfl, ?_⟩
        have hfin : (W3.putObj (w.heap.size + 1) (.loop (mk .ready none))).heap[w.heap.size + 1]? = some (.loop (mk .ready none)) := World.putObj_heap_same hlt3
        have hfd : (W3.putObj (w.heap.size + 1) (.loop (mk .ready none))).heap[w.heap.size]? = some (.deferred (some [])) := (World.putObj_heap_other (by omega)).trans hd3
        have hit := turn _ _ _ (.loop (mk .ready none)) hi3 hl3 rfl
        rw [hmk] at hfin hfd hit ⊢
        exact ⟨hit, hfin, hfd⟩
      | ret => exact hp.elim
      | exit id => exact hp.elim
      | goto t => exact hp.elim
      | panic ch => exact hp.elim
      | outgrown => exact hp.elim
    · rintro e W2 ⟨⟨u, rfl⟩, hi, hl, hk⟩
      have he := run_endLoop (P := Try.prog) hl (by rw [hmk]; simp)
      rw [hmk] at he
      exact ⟨none, _, he, hdone _ _ (Nat.le_refl _) (turn _ _ _ _ hi hl rfl) ((World.putObj_heap_other (by omega)).trans hk)⟩
end Go.Proofs.Ytbcdpibcieadlaa

/- Drawn regions: what a call gives need not be told ahead: two contracts on one call speak of one end. No condition. -/
namespace Go.Proofs.Ytbcdpibcieadlaa
open Go Go.RowKit
section
variable {P : Program} {C : World → Prop}
theorem calls_one {f : FuncId} {args : Array Value} {w : World} {R R' : World → Prop} {V V' : Value}
    (h : Calls P f args w fun e w' => e = .returned V ∧ R w') (h' : Calls P f args w fun e w' => e = .returned V' ∧ R' w') (hi : P.inits.idxOf? f = none) : V = V' := by
  obtain ⟨n, v, w1, e1, r1⟩ := (h.mono (R' := fun | .returned v, w' => v = V ∧ R w' | _, _ => False) (fun e w' ⟨he, q⟩ => by subst he; exact ⟨rfl, q⟩)).done hi
  obtain ⟨m, v', w2, e2, r2⟩ := (h'.mono (R' := fun | .returned v, w' => v = V' ∧ R' w' | _, _ => False) (fun e w' ⟨he, q⟩ => by subst he; exact ⟨rfl, q⟩)).done hi
  have a := runN_ended e1 m
  have b := runN_ended e2 n
  rw [Nat.add_comm, a] at b
  injection b with ho hw
  injection ho with hv
  rw [← r1.1, ← r2.1, hv]
/-- A value that every contract on the call tells. -/
def FD (P : Program) (C : World → Prop) (f : FuncId) (args : Array Value) (v : Value) : Prop :=
  ∀ V, (∀ w1, C w1 → Calls P f args w1 fun e w2 => e = .returned V ∧ C w2) → v = V
theorem fd_both {f : FuncId} {args : Array Value} {K : Value → Prop} {V : Value} (hi : P.inits.idxOf? f = none)
    (c : ∀ w1, C w1 → Calls P f args w1 fun e w2 => e = .returned V ∧ C w2) (hK : K V) :
    (∀ w1, C w1 → Calls P f args w1 (fun e w2 => ∃ v, e = .returned v ∧ FD P C f args v ∧ C w2)) ∧ ∀ v, FD P C f args v → K v :=
  ⟨fun w1 h1 => (c w1 h1).mono fun _ _ ⟨he, hc⟩ => ⟨V, he, fun _ c' => calls_one (c w1 h1) (c' w1 h1) hi, hc⟩, fun v hv => by rw [hv V c]; exact hK⟩
theorem wp_region_nqd {id : Nat} {Q : Exit → Act → World → Prop} {a : Act} {w : World} {l : List Oper} (n : Nat)
    (hm : P.follows .mixedOrders = true) (hB : nqB l n = true)
    (h : ∀ (C : World → Prop) (R : Act → Prop), (∀ w', Cls C w' → ∀ b o, b < w.heap.size → w'.cell? ⟨b, o, none⟩ = w.cell? ⟨b, o, none⟩) → (∀ w', Cls C w' → Below w.heap.size w w') →
      (∀ w' w'', Cls C w' → Below w'.heap.size w' w'' → Cls C w'') → (∀ w' n, Cls C w' → Cls C (w'.drewN n)) →
      (∀ a', (∀ w', Below w.heap.size w w' → wpList P l.toArray Q (l.drop n) a' w') → R a') → nqW P l.toArray (Cls C) (FD P (Cls C)) R (l.take n) a) : (Code.region id l.toArray true).wp P Q a w :=
  wp_region_nq n (FD P (Cls (Below w.heap.size w))) (Below w.heap.size w) hm hB (below_drewN 1 (Below.refl _ _))
    (h (Below w.heap.size w) (fun a' => ∀ w', Below w.heap.size w w' → wpList P l.toArray Q (l.drop n) a' w') (fun _ hw' => (below_cells hw').1) (fun _ h => h)
      (fun _ _ h1 h2 => h1.trans (h2.mono h1.size)) (fun _ n h => below_drewN n h) (fun _ h => h))
end
section
variable {P : Program} {l0 : Nat} {nf : Nat}
theorem wpIn_region_nqd {id : Nat} {Q : Exit → Act → World → Prop} {a : Act} {w : World} {l : List Oper} (n : Nat)
    (hm : P.follows .mixedOrders = true) (hB : (nqB l n && noDefer l) = true)
    (h : ∀ (C : World → Prop) (R : Act → Prop), (∀ w', Cls C w' → ∀ b o, b < w.heap.size → w'.cell? ⟨b, o, none⟩ = w.cell? ⟨b, o, none⟩) → (∀ w', Cls C w' → Below w.heap.size w w') →
      (∀ w' w'', Cls C w' → Below w'.heap.size w' w'' → Cls C w'') → (∀ w' n, Cls C w' → Cls C (w'.drewN n)) →
      (∀ a', (∀ w', Below w.heap.size w w' → wpListIn (Fence.wide.inRound l0) nf P l.toArray Q (l.drop n) a' w') → R a') → nqW P l.toArray (Cls C) (FD P (Cls C)) R (l.take n) a) : (Code.region id l.toArray true).wpIn (Fence.wide.inRound l0) nf P Q a w :=
  wpIn_region_nq n (FD P (Cls (Below w.heap.size w))) (Below w.heap.size w) hm hB (below_drewN 1 (Below.refl _ _))
    (h (Below w.heap.size w) (fun a' => ∀ w', Below w.heap.size w w' → wpListIn (Fence.wide.inRound l0) nf P l.toArray Q (l.drop n) a' w') (fun _ hw' => (below_cells hw').1) (fun _ h => h)
      (fun _ _ h1 h2 => h1.trans (h2.mono h1.size)) (fun _ n h => below_drewN n h) (fun _ h => h))
end
end Go.Proofs.Ytbcdpibcieadlaa

/- Layer 8: the law's helpers; the document's sums. No condition but on lengths. -/
namespace Go.Proofs.Ytbcdpibcieadlaa
open Go Go.RowKit
set_option maxRecDepth 1000000

theorem num8_any (n : Int) (w : World) : Calls Try.prog 22 #[.int .i64 n] w fun e w' => e = .returned (.int .i64 n) ∧ w = w' := by
  go_enter Try.func22, Try.ntmps22
  go_wp2
  go_ret
  exact ⟨rfl, rfl⟩
set_option maxHeartbeats 1000000 in
theorem float8_raw (x s t : Nat) (hx : x < 18446744073709551616) (w : World) : Calls Try.prog 23 #[.float .f64 (raw x s), .float .f64 (raw x t)] w fun e w' => e = .returned (.bool true) ∧ w = w' := by
  have H1 := Lib.hid (fun W => nm_raw x s ▸ Bits_any (raw x s) (raw_lt hx s) W)
  have H2 := Lib.hid (fun W => nm_raw x t ▸ Bits_any (raw x t) (raw_lt hx t) W)
  have t0 : ((nm x : Int) == (nm x : Int)) = true := beq_self_eq_true _
  generalize nm x = z at *
  go_enter Try.func23, Try.ntmps23
  go_wp2_with fail
  refine (H1.out _).mono ?_
  rintro e w1 ⟨rfl, rfl⟩
  go_wp2_with fail
  refine (H2.out _).mono ?_
  rintro e w2 ⟨rfl, rfl⟩
  go_wp2
  go_ret
  exact ⟨rfl, rfl⟩
theorem float8_zero (w : World) : Calls Try.prog 23 #[.float .f64 0, .float .f64 0] w fun e w' => e = .returned (.bool true) ∧ w = w' := by
  have := float8_raw 0 0 0 (by decide) w
  rw [raw_of_not (by kernel_rfl)] at this
  exact this
set_option maxHeartbeats 2000000 in
theorem vec_any (w : World) (a : Option Addr) (l : List Nat) (cap : Nat) (hZ : Cel w a l) (hl : l.length ≤ 512) :
    Calls Try.prog 36 #[.slice a l.length cap] w fun e w' => ∃ st sb, e = .returned (newV st l.length 1).val ∧ w.heap.size ≤ st ∧ w.heap.size ≤ sb ∧ Sto w' (some ⟨st, 0, none⟩) sb l ∧ Below w.heap.size w w' := by
  have hbA : Below w.heap.size w (w.alloc (.cells #[.pointer none, .int .i64 0, .int .i64 0, .int .i64 0, .int .i64 0, .int .i64 0] 29)) := (Below.refl _ _).alloc (Nat.le_refl _) _
  have x2 := Box.newA w [.pointer none, .int .i64 0, .int .i64 0, .int .i64 0, .int .i64 0, .int .i64 0] 29 rfl
  have HO := Lib.hid (Of_yes l.length 1 a l cap _ hl (by decide) (by simp) (hZ.below hbA))
  have HX := Lib.hid (And.intro hbA x2)
  clear hZ hbA x2
  go_enter Try.func36, Try.ntmps36
  go_wp2_with fail
  refine HO.out.mono ?_
  rintro e w1 ⟨st, sb, rfl, k1, k2, hS, hb1⟩
  have hB1 := below_step HX.out.1 HX.out.1.size hb1
  have x2 := HX.out.2.below hb1
  have hbB : Below w1.heap.size w1 (w1.alloc (.cells #[.pointer (some ⟨st, 0, none⟩), .int .i64 l.length, .int .i64 1, .int .i64 0, .int .i64 1, .int .i64 1] 29)) := (Below.refl _ _).alloc (Nat.le_refl _) _
  have x3 : Box (w1.alloc (.cells #[.pointer (some ⟨st, 0, none⟩), .int .i64 l.length, .int .i64 1, .int .i64 0, .int .i64 1, .int .i64 1] 29)) w1.heap.size [.pointer (some ⟨st, 0, none⟩), .int .i64 l.length, .int .i64 (1 : Nat), .int .i64 (0 : Nat), .int .i64 (1 : Nat), .int .i64 (1 : Nat)] := Box.newA _ _ _ rfl
  replace x2 := x2.below hbB
  have hB2 := below_step hB1 hB1.size hbB
  have hlt := sto_lts hS
  have hS2 := hS.below hbB
  have hx := HX.out.1.size
  simp only [World.size_alloc] at k1 k2 hx
  unfold newV Vw.val
  dsimp only
  obtain ⟨p1, p2, p3⟩ := x2.facts
  have x2' := six_box (u := ⟨none, 0, 0, 0, 0, 0⟩) x2 (newV st l.length 1)
  have hB3 := six_below hB2 (Nat.le_refl _) (newV st l.length 1)
  have hS3 := Sto.bel hS2 (by omega) (by omega) (six_bel _ _ w.heap.size (newV st l.length 1))
  have HE := Lib.hid (show _ ∧ _ ∧ _ ∧ _ ∧ _ from ⟨x2', hB3, hS3, k1, k2⟩)
  clear hB1 x2 hbB x3 hB2 hS hlt hS2 hx x2' hB3 hS3 hb1 HX HO k1 k2
  go_wp2
  exact bodyPost_ret (results_one rfl (rv_cell (g := w.heap.size) rfl HE.out.1 rfl Try.underlying29 (by kernel_rfl))) rfl ⟨st, sb, rfl, by have := HE.out.2.2.2.1; omega, by have := HE.out.2.2.2.2; omega, HE.out.2.2.1, HE.out.2.1⟩
set_option maxHeartbeats 2000000 in
theorem two_any (w : World) (a : Option Addr) (l : List Nat) (cap : Nat) (hZ : Cel w a l) (hl : l.length = 4) :
    Calls Try.prog 58 #[.slice a l.length cap] w fun e w' => ∃ st sb, e = .returned (newV st 2 2).val ∧ w.heap.size ≤ st ∧ w.heap.size ≤ sb ∧ Sto w' (some ⟨st, 0, none⟩) sb l ∧ Below w.heap.size w w' := by
  have hbA : Below w.heap.size w (w.alloc (.cells #[.pointer none, .int .i64 0, .int .i64 0, .int .i64 0, .int .i64 0, .int .i64 0] 29)) := (Below.refl _ _).alloc (Nat.le_refl _) _
  have x2 := Box.newA w [.pointer none, .int .i64 0, .int .i64 0, .int .i64 0, .int .i64 0, .int .i64 0] 29 rfl
  have HO := Lib.hid (Of_yes 2 2 a l cap _ (by decide) (by decide) (by simpa using hl) (hZ.below hbA))
  have HX := Lib.hid (And.intro hbA x2)
  clear hZ hbA x2 hl
  go_enter Try.func58, Try.ntmps58
  go_wp2_with fail
  refine HO.out.mono ?_
  rintro e w1 ⟨st, sb, rfl, k1, k2, hS, hb1⟩
  have hB1 := below_step HX.out.1 HX.out.1.size hb1
  have x2 := HX.out.2.below hb1
  have hbB : Below w1.heap.size w1 (w1.alloc (.cells #[.pointer (some ⟨st, 0, none⟩), .int .i64 2, .int .i64 2, .int .i64 0, .int .i64 2, .int .i64 1] 29)) := (Below.refl _ _).alloc (Nat.le_refl _) _
  have x3 : Box (w1.alloc (.cells #[.pointer (some ⟨st, 0, none⟩), .int .i64 2, .int .i64 2, .int .i64 0, .int .i64 2, .int .i64 1] 29)) w1.heap.size [.pointer (some ⟨st, 0, none⟩), .int .i64 (2 : Nat), .int .i64 (2 : Nat), .int .i64 (0 : Nat), .int .i64 (2 : Nat), .int .i64 (1 : Nat)] := Box.newA _ _ _ rfl
  replace x2 := x2.below hbB
  have hB2 := below_step hB1 hB1.size hbB
  have hlt := sto_lts hS
  have hS2 := hS.below hbB
  have hx := HX.out.1.size
  simp only [World.size_alloc] at k1 k2 hx
  unfold newV Vw.val
  dsimp only
  obtain ⟨p1, p2, p3⟩ := x2.facts
  have x2' := six_box (u := ⟨none, 0, 0, 0, 0, 0⟩) x2 (newV st 2 2)
  have hB3 := six_below hB2 (Nat.le_refl _) (newV st 2 2)
  have hS3 := Sto.bel hS2 (by omega) (by omega) (six_bel _ _ w.heap.size (newV st 2 2))
  have HE := Lib.hid (show _ ∧ _ ∧ _ ∧ _ ∧ _ from ⟨x2', hB3, hS3, k1, k2⟩)
  clear hB1 x2 hbB x3 hB2 hS hlt hS2 hx x2' hB3 hS3 hb1 HX HO k1 k2
  go_wp2
  exact bodyPost_ret (results_one rfl (rv_cell (g := w.heap.size) rfl HE.out.1 rfl Try.underlying29 (by kernel_rfl))) rfl ⟨st, sb, rfl, by have := HE.out.2.2.2.1; omega, by have := HE.out.2.2.2.2; omega, HE.out.2.2.1, HE.out.2.1⟩
set_option maxHeartbeats 2000000 in
theorem big8_any (r c : Int) (a : Option Addr) (n cap : Nat) (w : World) (hn : n ≤ maxLen) : Calls Try.prog 15 #[.agg #[.int .i64 r, .int .i64 c, .slice a n cap]] w fun e w' => e = .returned (.bool (!mayM r c n || decide (150 < n))) ∧ Below w.heap.size w w' := by
  have hB0 : Below w.heap.size w (w.alloc (.cells #[.int .i64 r, .int .i64 c, .slice a n cap] 24)) := (Below.refl _ _).alloc (Nat.le_refl _) _
  have x0 := Box.newA w [.int .i64 r, .int .i64 c, .slice a n cap] 24 rfl
  have HM := Lib.hid (May07_any r c a n cap (w.alloc (.cells #[.int .i64 r, .int .i64 c, .slice a n cap] 24)) hn)
  have t1 : decide ((150 : Int) < (n : Int)) = decide (150 < n) := by rw [Bool.eq_iff_iff]; simp; omega
  generalize mayM r c n = q at *
  generalize decide (150 < n) = q2 at *
  have HX := Lib.hid (And.intro hB0 x0)
  clear hB0 x0 hn
  go_enter Try.func15, Try.ntmps15
  go_wp2_with fail
  refine HM.out.mono ?_
  rintro e w1 ⟨rfl, hb1⟩
  have x1 := HX.out.2.below hb1
  obtain ⟨p1, p2, p3⟩ := x1.facts
  have HB := Lib.hid (below_step HX.out.1 HX.out.1.size hb1)
  clear x1 hb1 HX HM
  dsimp only
  cases q
  · go_wp2_with fail
    go_ret
    exact ⟨rfl, HB.out⟩
  · go_wp2_with fail
    go_ret
    exact ⟨rfl, HB.out⟩
def vecM (r c : Int) : Bool := decide (r = 1) || decide (c = 1) || (decide (r = 0) && decide (c = 0))
set_option maxHeartbeats 2000000 in
theorem RVector_any (r c : Int) (a : Option Addr) (n cap : Nat) (w : World) : Calls Try.prog 21 #[.agg #[.int .i64 r, .int .i64 c, .slice a n cap]] w fun e w' => e = .returned (.bool (vecM r c)) ∧ Below w.heap.size w w' := by
  have hB0 : Below w.heap.size w (w.alloc (.cells #[.int .i64 r, .int .i64 c, .slice a n cap] 24)) := (Below.refl _ _).alloc (Nat.le_refl _) _
  have HX := Lib.hid hB0
  have t1 : (r == 1) = decide (r = 1) := by rw [Bool.eq_iff_iff]; simp
  have t2 : (c == 1) = decide (c = 1) := by rw [Bool.eq_iff_iff]; simp
  have t3 : (r == 0) = decide (r = 0) := by rw [Bool.eq_iff_iff]; simp
  have t4 : (c == 0) = decide (c = 0) := by rw [Bool.eq_iff_iff]; simp
  unfold vecM
  generalize decide (r = 1) = q1 at *
  generalize decide (c = 1) = q2 at *
  generalize decide (r = 0) = q3 at *
  generalize decide (c = 0) = q4 at *
  clear hB0
  cases q1 <;> cases q2 <;> cases q3
  all_goals
    go_enter Try.func21, Try.ntmps21
    go_wp2
    go_ret
    exact ⟨rfl, HX.out⟩
end Go.Proofs.Ytbcdpibcieadlaa

/- Layer 8: a matrix's view, or the turned one of its turned one. No condition but on lengths. -/
namespace Go.Proofs.Ytbcdpibcieadlaa
open Go Go.RowKit
set_option maxRecDepth 1000000

def ofV (t : Bool) (st r c : Nat) : Vw := if t then (newV st c r).T else newV st r c
def ofL (t : Bool) (r c : Nat) (zs : List Nat) : List Nat := if t then (newV 0 r c).T.list zs else zs
theorem ofV_p (t : Bool) (st r c : Nat) : (ofV t st r c).p = some ⟨st, 0, none⟩ := by unfold ofV; cases t <;> rfl
theorem ofV_r (t : Bool) (st r c : Nat) : (ofV t st r c).r = r := by unfold ofV; cases t <;> rfl
theorem ofV_c (t : Bool) (st r c : Nat) : (ofV t st r c).c = c := by unfold ofV; cases t <;> rfl
theorem ofL_length (t : Bool) (r c : Nat) (zs : List Nat) (hn : zs.length = r * c) : (ofL t r c zs).length = r * c := by
  unfold ofL
  cases t
  · exact hn
  · rw [if_pos rfl, list_len8]
    exact Nat.mul_comm c r
theorem ofL_words (t : Bool) (r c : Nat) {zs : List Nat} (h : Words zs) : Words (ofL t r c zs) := by
  unfold ofL
  cases t
  · exact h
  · exact list_words8 h
theorem ofV_ok {w : World} {t : Bool} {st sb r c : Nat} {zs : List Nat} (h : Sto w (some ⟨st, 0, none⟩) sb (ofL t r c zs)) (hr : r ≤ 512) (hc : c ≤ 512) (hn : zs.length = r * c) : (ofV t st r c).Ok w sb (ofL t r c zs) := by
  have hl := ofL_length t r c zs hn
  unfold ofV
  cases t
  · exact newV_ok h hr hc hl
  · exact T_ok (newV_ok h hc hr (by rw [hl]; exact Nat.mul_comm r c))
theorem ofV_bnd {t : Bool} {st r c : Nat} (hr : r ≤ 512) (hc : c ≤ 512) : (ofV t st r c).Bnd 0 := by
  unfold ofV
  cases t
  · exact newV_bnd hr hc
  · exact T_bnd (newV_bnd hc hr)
theorem newV_at (st r c : Nat) (zs : List Nat) {i j : Nat} (hi : i < r) (hj : j < c) : (newV st r c).get zs i j = zs.getD (i * c + j) 0 := by
  unfold Vw.get
  have h1 : inV (newV st r c).r (newV st r c).c i j = true := by unfold inV newV; simp; omega
  rw [h1, if_pos rfl]
  show zs.getD (0 + (i : Int).toNat * c + (j : Int).toNat * 1) 0 = _
  congr 1
  simp
theorem T_at (v : Vw) (zs : List Nat) (i j : Nat) : v.T.get zs i j = v.get zs j i := by
  unfold Vw.get Vw.T
  have h1 : inV v.c v.r i j = inV v.r v.c j i := by rw [Bool.eq_iff_iff]; unfold inV; simp; omega
  dsimp only
  rw [h1, show v.o + (i : Int).toNat * v.u + (j : Int).toNat * v.d = v.o + (j : Int).toNat * v.d + (i : Int).toNat * v.u by omega]
theorem ofV_at (t : Bool) (st r c : Nat) (zs : List Nat) {i j : Nat} (hi : i < r) (hj : j < c) : (ofV t st r c).get (ofL t r c zs) i j = zs.getD (i * c + j) 0 := by
  unfold ofV ofL
  cases t
  · exact newV_at st r c zs hi hj
  · simp only [if_true]
    rw [T_at]
    have h := newV_get st (newV 0 r c).T zs (i := j) (j := i) hj hi
    have h2 := T_at (newV 0 r c) zs j i
    rw [newV_at 0 r c zs hi hj] at h2
    exact h.trans h2
theorem Matrix_cel (w : World) (v : Vw) (sb : Nat) (ws : List Nat) (h : v.Ok w sb ws) :
    Calls Try.prog 48 #[v.val] w fun e w' => ∃ a cap, e = .returned (.agg #[.int .i64 v.r, .int .i64 v.c, .slice a (v.list ws).length cap]) ∧ Cel w' a (v.list ws) ∧ Below w.heap.size w w' :=
  (Matrix_any w v sb ws h).mono (by
    rintro e w' ⟨sv, rfl, hrow, hb⟩
    obtain ⟨a, cap, rfl, hcel⟩ := cel_of_row hrow
    exact ⟨a, cap, rfl, hcel, hb⟩)
set_option maxHeartbeats 4000000 in
theorem of_any (t : Bool) (r c : Nat) (a : Option Addr) (zs : List Nat) (cap : Nat) (w : World) (hr : r ≤ 512) (hc : c ≤ 512) (hn : zs.length = r * c) (hZ : Cel w a zs) :
    Calls Try.prog 17 #[.agg #[.int .i64 r, .int .i64 c, .slice a zs.length cap], .bool t] w fun e w' => ∃ st sb, e = .returned (ofV t st r c).val ∧ w.heap.size ≤ st ∧ w.heap.size ≤ sb ∧ Sto w' (some ⟨st, 0, none⟩) sb (ofL t r c zs) ∧ Below w.heap.size w w' := by
  have hbA : Below w.heap.size w ((w.alloc (.cells #[.int .i64 r, .int .i64 c, .slice a zs.length cap] 24)).alloc (.cells #[.pointer none, .int .i64 0, .int .i64 0, .int .i64 0, .int .i64 0, .int .i64 0] 29)) := ((Below.refl _ _).alloc (Nat.le_refl _) _).alloc (by simp) _
  have x0 : Box ((w.alloc (.cells #[.int .i64 r, .int .i64 c, .slice a zs.length cap] 24)).alloc (.cells #[.pointer none, .int .i64 0, .int .i64 0, .int .i64 0, .int .i64 0, .int .i64 0] 29)) w.heap.size [.int .i64 r, .int .i64 c, .slice a zs.length cap] := (Box.newA w [_, _, _] _ rfl).alloc _
  have x2 : Box ((w.alloc (.cells #[.int .i64 r, .int .i64 c, .slice a zs.length cap] 24)).alloc (.cells #[.pointer none, .int .i64 0, .int .i64 0, .int .i64 0, .int .i64 0, .int .i64 0] 29)) (w.heap.size + 1) [.pointer none, .int .i64 0, .int .i64 0, .int .i64 0, .int .i64 0, .int .i64 0] := Box.newA _ _ _ (by simp)
  have HO := Lib.hid (fun W hZ => Of_yes r c a zs cap W hr hc hn hZ)
  have HX := Lib.hid (show _ ∧ _ ∧ _ from ⟨hbA, x2, hZ.below hbA⟩)
  have HR := Lib.hid (show _ ∧ _ ∧ _ from ⟨hr, hc, hn⟩)
  obtain ⟨p1, p2, p3⟩ := x0.facts
  clear hZ hbA x2 x0 hr hc hn
  cases t
  case false =>
    simp only [show ∀ st, ofV false st r c = newV st r c from fun _ => rfl, show ofL false r c zs = zs from rfl]
    go_enter Try.func17, Try.ntmps17
    go_wp2_with fail
    refine (HO.out _ HX.out.2.2).mono ?_
    rintro e w1 ⟨st, sb, rfl, k1, k2, hS, hb1⟩
    have hB1 := below_step HX.out.1 HX.out.1.size hb1
    have x2 := HX.out.2.1.below hb1
    have hbB : Below w1.heap.size w1 (w1.alloc (.cells #[.pointer (some ⟨st, 0, none⟩), .int .i64 r, .int .i64 c, .int .i64 0, .int .i64 c, .int .i64 1] 29)) := (Below.refl _ _).alloc (Nat.le_refl _) _
    have x3 : Box (w1.alloc (.cells #[.pointer (some ⟨st, 0, none⟩), .int .i64 r, .int .i64 c, .int .i64 0, .int .i64 c, .int .i64 1] 29)) w1.heap.size [.pointer (some ⟨st, 0, none⟩), .int .i64 r, .int .i64 c, .int .i64 (0 : Nat), .int .i64 c, .int .i64 (1 : Nat)] := Box.newA _ _ _ rfl
    replace x2 := x2.below hbB
    have hB2 := below_step hB1 hB1.size hbB
    have hlt := sto_lts hS
    have hS2 := hS.below hbB
    have hx := HX.out.1.size
    simp only [World.size_alloc] at k1 k2 hx
    unfold newV Vw.val
    dsimp only
    obtain ⟨p1, p2, p3⟩ := x2.facts
    have HE := Lib.hid (show _ ∧ _ ∧ _ ∧ _ ∧ _ ∧ _ from ⟨x2, hB2, hS2, k1, k2, hlt⟩)
    clear hB1 x2 hbB x3 hB2 hS hlt hS2 hx hb1 HX HO k1 k2
    go_wp2
    obtain ⟨x2, hB2, hS2, k1, k2, hlt⟩ := HE.out
    refine bodyPost_ret (results_one rfl (rv_cell (g := w.heap.size + 1) rfl (x2.put6 _ _ _ _ _ _) rfl Try.underlying29 (by kernel_rfl))) rfl ⟨st, sb, rfl, by omega, by omega, ?_, ?_⟩
    · exact hS2.other6 (by omega) (by omega) _ _ _ _ _ _
    · exact below_put6 hB2 (by omega) _ _ _ _ _ _
  case true =>
    simp only [show ∀ st, ofV true st r c = (newV st c r).T from fun _ => rfl, show ofL true r c zs = (newV 0 r c).T.list zs from rfl]
    go_enter Try.func17, Try.ntmps17
    go_wp2_with fail
    refine (HO.out _ HX.out.2.2).mono ?_
    rintro e w1 ⟨st, sb, rfl, k1, k2, hS, hb1⟩
    have hB1 := below_step HX.out.1 HX.out.1.size hb1
    have x2 := HX.out.2.1.below hb1
    have hbB : Below w1.heap.size w1 (w1.alloc (.cells #[.pointer (some ⟨st, 0, none⟩), .int .i64 r, .int .i64 c, .int .i64 0, .int .i64 c, .int .i64 1] 29)) := (Below.refl _ _).alloc (Nat.le_refl _) _
    have x3 : Box (w1.alloc (.cells #[.pointer (some ⟨st, 0, none⟩), .int .i64 r, .int .i64 c, .int .i64 0, .int .i64 c, .int .i64 1] 29)) w1.heap.size [.pointer (some ⟨st, 0, none⟩), .int .i64 r, .int .i64 c, .int .i64 (0 : Nat), .int .i64 c, .int .i64 (1 : Nat)] := Box.newA _ _ _ rfl
    replace x2 := x2.below hbB
    have hB2 := below_step hB1 hB1.size hbB
    have hS2 := hS.below hbB
    have hx := HX.out.1.size
    simp only [World.size_alloc] at k1 k2 hx
    obtain ⟨L, hL⟩ : ∃ L, L = (newV 0 r c).T.list zs := ⟨_, rfl⟩
    have hLl : L.length = c * r := by rw [hL]; exact list_len8 _ _
    have HT := Lib.hid (show ∀ W, Calls Try.prog 46 #[(.agg #[.pointer (some ⟨st, 0, none⟩), .int .i64 r, .int .i64 c, .int .i64 (0 : Nat), .int .i64 c, .int .i64 (1 : Nat)])] W _ from fun W => T_any (newV st r c) W)
    have HM := Lib.hid (show ∀ W, Sto W (some ⟨st, 0, none⟩) sb zs → Calls Try.prog 48 #[(.agg #[.pointer (some ⟨st, 0, none⟩), .int .i64 c, .int .i64 r, .int .i64 (0 : Nat), .int .i64 (1 : Nat), .int .i64 c])] W fun e w' => ∃ a cap, e = .returned (.agg #[.int .i64 c, .int .i64 r, .slice a L.length cap]) ∧ Cel w' a L ∧ Below W.heap.size W w' from fun W hS => hL ▸ Matrix_cel W (newV st r c).T sb zs (T_ok (newV_ok hS HR.out.1 HR.out.2.1 HR.out.2.2)))
    have HO2 := Lib.hid (fun a cap W hZ => Of_yes c r a L cap W HR.out.2.1 HR.out.1 hLl hZ)
    have HT2 := Lib.hid (show ∀ st W, Calls Try.prog 46 #[(.agg #[.pointer (some ⟨st, 0, none⟩), .int .i64 c, .int .i64 r, .int .i64 (0 : Nat), .int .i64 r, .int .i64 (1 : Nat)])] W _ from fun st W => T_any (newV st c r) W)
    have HE := Lib.hid (show _ ∧ _ ∧ _ from ⟨x2, hB2, hS2⟩)
    clear hB1 x2 hbB hB2 hS hS2 hb1 HX k1 k2 p1 p2 p3 HO hx
    have HL := Lib.hid hL
    clear hL hLl
    unfold newV Vw.T Vw.val at HT HT2
    unfold newV Vw.val at HO2 ⊢
    dsimp only at HT HT2 HO2 ⊢
    obtain ⟨q1, q2, q3⟩ := x3.facts
    clear x3
    go_wp2_with fail
    refine (HT.out _).mono ?_
    rintro e w2 ⟨rfl, hb2⟩
    have hB3 := below_step HE.out.2.1 HE.out.2.1.size hb2
    have x3 := HE.out.1.below hb2
    have hS3 := HE.out.2.2.below hb2
    have HE3 := Lib.hid (show _ ∧ _ ∧ _ from ⟨x3, hB3, hS3⟩)
    clear q1 q2 q3 hB3 x3 hS3 HE hb2 HT
    go_wp2_with fail
    refine (HM.out _ HE3.out.2.2).mono ?_
    rintro e w3 ⟨a3, cap3, rfl, hcel, hb3⟩
    have hB4 := below_step HE3.out.2.1 HE3.out.2.1.size hb3
    have x4 := HE3.out.1.below hb3
    have HE4 := Lib.hid (show _ ∧ _ ∧ _ from ⟨x4, hB4, hcel⟩)
    clear hB4 x4 hcel HE3 hb3 HM
    go_wp2_with fail
    refine (HO2.out _ _ _ HE4.out.2.2).mono ?_
    rintro e w4 ⟨st2, sb2, rfl, k1, k2, hS4, hb4⟩
    have hB5 := below_step HE4.out.2.1 HE4.out.2.1.size hb4
    have x5 := HE4.out.1.below hb4
    have s4 := HE4.out.2.1.size
    have l5 := HE4.out.1.lt
    have hbB : Below w4.heap.size w4 (w4.alloc (.cells #[.pointer (some ⟨st2, 0, none⟩), .int .i64 c, .int .i64 r, .int .i64 0, .int .i64 r, .int .i64 1] 29)) := (Below.refl _ _).alloc (Nat.le_refl _) _
    have x6 : Box (w4.alloc (.cells #[.pointer (some ⟨st2, 0, none⟩), .int .i64 c, .int .i64 r, .int .i64 0, .int .i64 r, .int .i64 1] 29)) w4.heap.size [.pointer (some ⟨st2, 0, none⟩), .int .i64 c, .int .i64 r, .int .i64 (0 : Nat), .int .i64 r, .int .i64 (1 : Nat)] := Box.newA _ _ _ rfl
    have hS5 := hS4.below hbB
    have hB6 := below_step hB5 hB5.size hbB
    have x7 := x5.below hbB
    have HE5 := Lib.hid (show _ ∧ _ ∧ _ ∧ _ ∧ _ ∧ _ ∧ _ from ⟨x7, hB6, hS5, k1, k2, s4, l5⟩)
    obtain ⟨q1, q2, q3⟩ := x6.facts
    clear hB5 x5 hS4 hbB x6 hS5 hB6 x7 HE4 hb4 HO2 k1 k2 s4 l5
    go_wp2_with fail
    refine (HT2.out _ _).mono ?_
    rintro e w5 ⟨rfl, hb5⟩
    obtain ⟨x7, hB6, hS5, k1, k2, s4, l5⟩ := HE5.out
    have x8 := x7.below hb5
    have hB7 := below_step hB6 hB6.size hb5
    have hS6 := hS5.below hb5
    obtain ⟨p1, p2, p3⟩ := x8.facts
    have HE6 := Lib.hid (show _ ∧ _ ∧ _ ∧ _ ∧ _ ∧ _ ∧ _ from ⟨x8, hB7, hS6, k1, k2, s4, l5⟩)
    clear HT2 HE5 x7 hB6 hS5 x8 hB7 hS6 hb5 q1 q2 q3 k1 k2 s4 l5
    go_wp2
    obtain ⟨x8, hB7, hS6, k1, k2, s4, l5⟩ := HE6.out
    refine bodyPost_ret (results_one rfl (rv_cell (g := w.heap.size + 1) rfl (x8.put6 _ _ _ _ _ _) rfl Try.underlying29 (by kernel_rfl))) rfl ⟨st2, sb2, rfl, by omega, by omega, ?_, ?_⟩
    · rw [← HL.out]
      exact hS6.other6 (by omega) (by omega) _ _ _ _ _ _
    · exact below_put6 hB7 (by omega) _ _ _ _ _ _
end Go.Proofs.Ytbcdpibcieadlaa
