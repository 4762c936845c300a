/- Views: a store in memory; one place of it, told and set. -/
import Derived.Test.YtbcdpibcieadlaaZz2
namespace Go.Proofs.Ytbcdpibcieadlaa
open Go Go.RowKit
set_option maxRecDepth 100000

/-! ### Worlds that differ in one block -/
/-- Below B, but for block s, the world w' is as w was. -/
structure Bel (B s : Nat) (w w' : World) : Prop where
  os : w'.os = w.os
  tape : w'.tape = w.tape
  output : w'.output = w.output
  size : w.heap.size ≤ w'.heap.size
  block : ∀ k, k < B → k ≠ s → w'.heap[k]? = w.heap[k]?
theorem Bel.of {B s : Nat} {w w' : World} (h : Below B w w') : Bel B s w w' := ⟨h.os, h.tape, h.output, h.size, fun k hk _ => h.block k hk⟩
theorem Bel.refl (B s : Nat) (w : World) : Bel B s w w := Bel.of (Below.refl B w)
theorem Bel.trans {B s : Nat} {a b c : World} (h : Bel B s a b) (k : Bel B s b c) : Bel B s a c :=
  ⟨k.os.trans h.os, k.tape.trans h.tape, k.output.trans h.output, Nat.le_trans h.size k.size, fun i hi hs => (k.block i hi hs).trans (h.block i hi hs)⟩
theorem Bel.mono {B B' s : Nat} {w w' : World} (h : Bel B s w w') (hB : B' ≤ B) : Bel B' s w w' := ⟨h.os, h.tape, h.output, h.size, fun k hk => h.block k (Nat.lt_of_lt_of_le hk hB)⟩
theorem Bel.set {B s : Nat} {a w : World} (h : Bel B s a w) (o : Nat) (u : Value) : Bel B s a (w.setCell ⟨s, o, none⟩ u) :=
  h.trans ⟨rfl, rfl, rfl, by simp [World.setCell], fun k _ hs => Below.heap_setCell _ _ _ _ hs⟩
/-- The block was made later. -/
theorem Bel.below {B s : Nat} {w w' : World} (h : Bel B s w w') (hs : B ≤ s) : Below B w w' := ⟨h.os, h.tape, h.output, h.size, fun k hk => h.block k hk (by omega)⟩
theorem bel_step {W w1 w2 : World} {B s : Nat} (h : Bel B s W w1) (hB : B ≤ w1.heap.size) (k : Bel w1.heap.size s w1 w2) : Bel B s W w2 := h.trans (k.mono hB)
theorem Box.bel {w w' : World} {n s : Nat} {cs : List Value} (h : Box w n cs) (hs : n ≠ s) (hb : Bel w.heap.size s w w') : Box w' n cs := by
  have hl := h.lt
  obtain ⟨T, h⟩ := h
  exact ⟨T, by rw [hb.block n hl hs]; exact h⟩

/-! ### A store -/
/-- The store at p holds ws, in block sb. -/
def Sto (w : World) (p : Option Addr) (sb : Nat) (ws : List Nat) : Prop :=
  ∃ st, p = some ⟨st, 0, none⟩ ∧ Box w st [.slice (some ⟨sb, 0, none⟩) ws.length ws.length] ∧ Box w sb (ws.map (Value.float .f64)) ∧ ws.length ≤ 262144
theorem Sto.below {w w' : World} {p : Option Addr} {sb : Nat} {ws : List Nat} (h : Sto w p sb ws) (hb : Below w.heap.size w w') : Sto w' p sb ws := by
  obtain ⟨st, rfl, h1, h2, h3⟩ := h
  exact ⟨st, rfl, h1.below hb, h2.below hb, h3⟩
theorem Box.inj {w : World} {n : Nat} {xs ys : List Value} (h : Box w n xs) (k : Box w n ys) : xs = ys := by
  obtain ⟨T, h⟩ := h
  obtain ⟨T', k⟩ := k
  rw [h] at k
  simp only [Option.some.injEq, Obj.cells.injEq] at k
  have := congrArg Array.toList k.1
  simpa using this
theorem Sto.ne {w : World} {st sb : Nat} {ws : List Nat} (h1 : Box w st [.slice (some ⟨sb, 0, none⟩) ws.length ws.length]) (h2 : Box w sb (ws.map (Value.float .f64))) : st ≠ sb := by
  rintro rfl
  have := h1.inj h2
  cases ws <;> simp at this
theorem Sto.at {w : World} {sb : Nat} {ws : List Nat} (h : Box w sb (ws.map (Value.float .f64))) {k : Nat} (hk : k < ws.length) : w.cell? ⟨sb, k, none⟩ = some (.float .f64 (ws.getD k 0)) := by
  rw [h.cell]
  simp [hk]

/-! ### Places -/
/-- Is there such a place? -/
def inV (r c : Nat) (i j : Int) : Bool := decide (0 ≤ i ∧ i < r ∧ 0 ≤ j ∧ j < c)
set_option maxHeartbeats 1000000 in
theorem within_any (p : Option Addr) (r c o d u : Nat) (i j : Int) (w : World) :
    Calls Try.prog 108 #[(.agg #[.pointer p, .int .i64 r, .int .i64 c, .int .i64 o, .int .i64 d, .int .i64 u]), .int .i64 i, .int .i64 j] w fun e w' => e = .returned (.bool (inV r c i j)) ∧ Below w.heap.size w w' := by
  by_cases h1 : 0 ≤ i
  all_goals by_cases h2 : i < r
  all_goals by_cases h3 : 0 ≤ j
  all_goals
    go_enter Try.func108, Try.ntmps108
    go_wp2
    go_ret
    refine ⟨?_, (Below.refl _ _).alloc (Nat.le_refl _) _⟩
    (first | (simp [inV]; omega) | (simp [inV, *]))

set_option maxHeartbeats 1000000 in
theorem place_any (p : Option Addr) (r c o d u i j : Nat) (w : World) (h : o + i * d + j * u ≤ 9223372036854775807) :
    Calls Try.prog 109 #[(.agg #[.pointer p, .int .i64 r, .int .i64 c, .int .i64 o, .int .i64 d, .int .i64 u]), .int .i64 i, .int .i64 j] w fun e w' => e = .returned (.int .i64 ((o + i * d + j * u : Nat) : Int)) ∧ Below w.heap.size w w' := by
  have e : ((o + i * d + j * u : Nat) : Int) = (o : Int) + (i : Int) * (d : Int) + (j : Int) * (u : Int) := by simp only [Int.natCast_add, Int.natCast_mul]
  have h1 : (o : Int) + (i : Int) * (d : Int) + (j : Int) * (u : Int) ≤ 9223372036854775807 := by rw [← e]; exact Int.ofNat_le.2 h
  have h2 : (0 : Int) ≤ (i : Int) * (d : Int) := Int.mul_nonneg (Int.natCast_nonneg _) (Int.natCast_nonneg _)
  have h3 : (0 : Int) ≤ (j : Int) * (u : Int) := Int.mul_nonneg (Int.natCast_nonneg _) (Int.natCast_nonneg _)
  rw [e]
  clear e h
  go_enter Try.func109, Try.ntmps109
  go_wp2
  go_ret
  exact ⟨rfl, (Below.refl _ _).alloc (Nat.le_refl _) _⟩

def PlF (k : Nat) (_ : FuncId) (_ : Array Value) (v : Value) : Prop := v = .int .i64 k

set_option maxHeartbeats 1000000 in
theorem At_out (w : World) (p : Option Addr) (r c o d u : Nat) (i j : Int) (h : inV r c i j = false) :
    Calls Try.prog 74 #[(.agg #[.pointer p, .int .i64 r, .int .i64 c, .int .i64 o, .int .i64 d, .int .i64 u]), .int .i64 i, .int .i64 j] w fun e w' => e = .returned (.float .f64 0) ∧ Below w.heap.size w w' := by
  go_enter Try.func74, Try.ntmps74
  go_wp2_with (go_at_call 108; refine (within_any _ _ _ _ _ _ _ _ _).mono ?_; rintro e w1 ⟨rfl, hb1⟩; rw [h])
  go_ret
  exact ⟨rfl, below_step ((Below.refl _ _).alloc (Nat.le_refl _) _) (by simp) hb1⟩

set_option maxHeartbeats 1000000 in
theorem At_in (w : World) (p : Option Addr) (r c o d u sb : Nat) (ws : List Nat) (i j : Nat) (hS : Sto w p sb ws) (hi : i < r) (hj : j < c) (hk : o + i * d + j * u < ws.length) :
    Calls Try.prog 74 #[(.agg #[.pointer p, .int .i64 r, .int .i64 c, .int .i64 o, .int .i64 d, .int .i64 u]), .int .i64 i, .int .i64 j] w fun e w' => e = .returned (.float .f64 (ws.getD (o + i * d + j * u) 0)) ∧ Below w.heap.size w w' := by
  obtain ⟨st, rfl, hst, hsb, hlen⟩ := hS
  have HP0 := fun W => place_any (some ⟨st, 0, none⟩) r c o d u i j W (by omega)
  have t1 : inV r c i j = true := by simp [inV]; omega
  generalize o + i * d + j * u = k at HP0 hk
  have HP := Lib.hid HP0
  clear HP0 hi hj
  have hbx := Box.new w [.pointer (some ⟨st, 0, none⟩), .int .i64 r, .int .i64 c, .int .i64 o, .int .i64 d, .int .i64 u] 29
  have hB0 : Below w.heap.size w (w.alloc (.cells #[.pointer (some ⟨st, 0, none⟩), .int .i64 r, .int .i64 c, .int .i64 o, .int .i64 d, .int .i64 u] 29)) := (Below.refl _ _).alloc (Nat.le_refl _) _
  go_enter Try.func74, Try.ntmps74
  go_wp2_with fail
  refine (within_any _ _ _ _ _ _ _ _ _).mono ?_
  rintro e w1 ⟨rfl, hb1⟩
  rw [t1]
  have y1 := hbx.below hb1
  have hB1 := below_step hB0 hB0.size hb1
  have y2 := hst.below hB1
  have y3 := hsb.below hB1
  have c3 := Sto.at y3 hk
  have l3 := y3.lt
  obtain ⟨a1, a2, a3⟩ := y1.facts
  obtain ⟨a4, a5, a6⟩ := y2.facts
  have hki : (k : Int) < (ws.length : Int) := by omega
  go_wp2
  refine wp_region_nqb 12 (PlF k) (by kernel_rfl) (by kernel_rfl) ?_
  intro C R hc hb' hb2 hd hR
  simp only [List.take_succ_cons, List.take_zero]
  repeat (
    first
      | (refine nqW_plain (fun K hK => ?_))
      | (refine nqW_step (fun K hK => ?_); go_simp)
    first
      | (refine nq_move rfl ?_; go_simp; refine hK _ ?_; clear hK K)
      | (refine nq_assign rfl ?_; go_simp; refine hK _ ?_; clear hK K)
      | (refine nq_flt rfl rfl rfl rfl hd ?_; intro _; go_frame; refine hK _ ?_; clear hK K)
      | (refine nq_in ?_; intro w' hw'; go_simp; refine ⟨?_, ?_⟩; (next => (intro w2 hw2; go_at_call 109; exact (HP.out w2).mono (fun e w3 ⟨he, hb⟩ => ⟨_, he, rfl, hb2 _ _ hw2 hb⟩))); intro v hv; obtain rfl := hv; go_simp; refine hK _ ?_; clear hK K hw' w')
      | (refine nq_same ?_; intro w' hw'; go_simp; (try go_bits); refine hK _ ?_; clear hK K hw' w')
      | (refine nq_same ?_; intro w' hw'; go_simp; rw [if_pos (by omega)]; go_simp; (try go_bits); refine hK _ ?_; clear hK K hw' w')
      | (go_simp; refine hK _ ?_; clear hK K))
  refine nqW_nil (hR _ ?_)
  clear hc hb' hb2 hd hR
  intro w' hw'
  simp only [List.drop]
  go_wp2
  go_ret
  exact ⟨by simp [hk], below_step hB1 hB1.size hw'⟩

theorem Sto.set {w w' : World} {st sb : Nat} {ws : List Nat} (h1 : Box w st [.slice (some ⟨sb, 0, none⟩) ws.length ws.length]) (h2 : Box w sb (ws.map (Value.float .f64))) (hl : ws.length ≤ 262144) (k x : Nat)
    (hw : w' = w.setCell ⟨sb, k, none⟩ (.float .f64 x)) : Sto w' (some ⟨st, 0, none⟩) sb (ws.set k x) := by
  subst hw
  refine ⟨st, rfl, ?_, ?_, by simpa using hl⟩
  · rw [List.length_set]; exact h1.set_other (Sto.ne h1 h2) _ _
  · rw [List.map_set]; exact h2.set _ _

set_option maxHeartbeats 1000000 in
theorem Set_nil (w : World) (r c o d u : Nat) (i j : Int) (x : Nat) :
    Calls Try.prog 80 #[(.agg #[.pointer none, .int .i64 r, .int .i64 c, .int .i64 o, .int .i64 d, .int .i64 u]), .int .i64 i, .int .i64 j, .float .f64 x] w fun e w' => e = .returned (.int .i64 1) ∧ Below w.heap.size w w' := by
  go_enter Try.func80, Try.ntmps80
  go_wp2
  go_ret
  exact ⟨rfl, (Below.refl _ _).alloc (Nat.le_refl _) _⟩
set_option maxHeartbeats 1000000 in
theorem Set_out (w : World) (st : Nat) (r c o d u : Nat) (i j : Int) (x : Nat) (h : inV r c i j = false) :
    Calls Try.prog 80 #[(.agg #[.pointer (some ⟨st, 0, none⟩), .int .i64 r, .int .i64 c, .int .i64 o, .int .i64 d, .int .i64 u]), .int .i64 i, .int .i64 j, .float .f64 x] w fun e w' => e = .returned (.int .i64 2) ∧ Below w.heap.size w w' := by
  go_enter Try.func80, Try.ntmps80
  go_wp2_with (go_at_call 108; refine (within_any _ _ _ _ _ _ _ _ _).mono ?_; rintro e w1 ⟨rfl, hb1⟩; rw [h])
  go_ret
  exact ⟨rfl, below_step ((Below.refl _ _).alloc (Nat.le_refl _) _) (by simp) hb1⟩

set_option maxHeartbeats 1000000 in
theorem Set_in (w : World) (p : Option Addr) (r c o d u sb : Nat) (ws : List Nat) (i j x : Nat) (hS : Sto w p sb ws) (hi : i < r) (hj : j < c) (hk : o + i * d + j * u < ws.length) :
    Calls Try.prog 80 #[(.agg #[.pointer p, .int .i64 r, .int .i64 c, .int .i64 o, .int .i64 d, .int .i64 u]), .int .i64 i, .int .i64 j, .float .f64 x] w fun e w' => e = .returned (.int .i64 0) ∧ Sto w' p sb (ws.set (o + i * d + j * u) x) ∧ Bel w.heap.size sb w w' := by
  obtain ⟨st, rfl, hst, hsb, hlen⟩ := hS
  have HP0 := fun W => place_any (some ⟨st, 0, none⟩) r c o d u i j W (by omega)
  have t1 : inV r c i j = true := by simp [inV]; omega
  generalize o + i * d + j * u = k at HP0 hk ⊢
  have HP := Lib.hid HP0
  clear HP0 hi hj
  have hbx := Box.new w [.pointer (some ⟨st, 0, none⟩), .int .i64 r, .int .i64 c, .int .i64 o, .int .i64 d, .int .i64 u] 29
  have hB0 : Below w.heap.size w (w.alloc (.cells #[.pointer (some ⟨st, 0, none⟩), .int .i64 r, .int .i64 c, .int .i64 o, .int .i64 d, .int .i64 u] 29)) := (Below.refl _ _).alloc (Nat.le_refl _) _
  go_enter Try.func80, Try.ntmps80
  go_wp2_with fail
  refine (within_any _ _ _ _ _ _ _ _ _).mono ?_
  rintro e w1 ⟨rfl, hb1⟩
  rw [t1]
  have y1 := hbx.below hb1
  have hB1 := below_step hB0 hB0.size hb1
  have y2 := hst.below hB1
  have y3 := hsb.below hB1
  have c3 := Sto.at y3 hk
  have l3 := y3.lt
  obtain ⟨a1, a2, a3⟩ := y1.facts
  obtain ⟨a4, a5, a6⟩ := y2.facts
  have hki : (k : Int) < (ws.length : Int) := by omega
  go_wp2
  refine wp_region_nqb 11 (PlF k) (by kernel_rfl) (by kernel_rfl) ?_
  intro C R hc hb' hb2 hd hR
  simp only [List.take_succ_cons, List.take_zero]
  repeat (
    first
      | (refine nqW_plain (fun K hK => ?_))
      | (refine nqW_step (fun K hK => ?_); go_simp)
    first
      | (refine nq_move rfl ?_; go_simp; refine hK _ ?_; clear hK K)
      | (refine nq_assign rfl ?_; go_simp; refine hK _ ?_; clear hK K)
      | (refine nq_flt rfl rfl rfl rfl hd ?_; intro _; go_frame; refine hK _ ?_; clear hK K)
      | (refine nq_in ?_; intro w' hw'; go_simp; refine ⟨?_, ?_⟩; (next => (intro w2 hw2; go_at_call 109; exact (HP.out w2).mono (fun e w3 ⟨he, hb⟩ => ⟨_, he, rfl, hb2 _ _ hw2 hb⟩))); intro v hv; obtain rfl := hv; go_simp; refine hK _ ?_; clear hK K hw' w')
      | (refine nq_same ?_; intro w' hw'; go_simp; (try go_bits); refine hK _ ?_; clear hK K hw' w')
      | (refine nq_same ?_; intro w' hw'; go_simp; rw [if_pos (by omega)]; go_simp; (try go_bits); refine hK _ ?_; clear hK K hw' w')
      | (go_simp; refine hK _ ?_; clear hK K))
  refine nqW_nil (hR _ ?_)
  clear hc hb' hb2 hd hR
  intro w' hw'
  simp only [List.drop]
  have z2 := y2.below hw'
  have z3 := y3.below hw'
  have d3 := Sto.at z3 hk
  have d4 := z3.frozen k
  go_wp2
  go_ret
  exact ⟨rfl, Sto.set z2 z3 hlen k x rfl, (Bel.of (below_step hB1 hB1.size hw')).set _ _⟩

set_option maxHeartbeats 1000000 in
theorem along_any (p : Option Addr) (r c o d u : Nat) (i : Int) (w : World) :
    Calls Try.prog 102 #[(.agg #[.pointer p, .int .i64 r, .int .i64 c, .int .i64 o, .int .i64 d, .int .i64 u]), .int .i64 i] w fun e w' => e = .returned (.tuple #[.int .i64 (if r = 1 then 0 else i), .int .i64 (if r = 1 then i else 0)]) ∧ Below w.heap.size w w' := by
  by_cases h1 : r = 1
  · subst h1
    go_enter Try.func102, Try.ntmps102
    go_wp2
    go_ret2
    exact ⟨rfl, (Below.refl _ _).alloc (Nat.le_refl _) _⟩
  · rw [if_neg h1, if_neg h1]
    have t1 : ((r : Int) == 1) = false := by simp; omega
    clear h1
    go_enter Try.func102, Try.ntmps102
    go_wp2
    go_ret2
    exact ⟨rfl, (Below.refl _ _).alloc (Nat.le_refl _) _⟩

/-- Is it a vector? -/
def vecV (p : Option Addr) (r c : Nat) : Bool := p.isSome && (decide (r = 1) || decide (c = 1) || (decide (r = 0) && decide (c = 0)))
set_option maxHeartbeats 1000000 in
theorem Vector_any (p : Option Addr) (r c o d u : Nat) (w : World) :
    Calls Try.prog 63 #[(.agg #[.pointer p, .int .i64 r, .int .i64 c, .int .i64 o, .int .i64 d, .int .i64 u])] w fun e w' => e = .returned (.bool (vecV p r c)) ∧ Below w.heap.size w w' := by
  cases p
  case none =>
    go_enter Try.func63, Try.ntmps63
    go_wp2
    go_ret
    exact ⟨rfl, (Below.refl _ _).alloc (Nat.le_refl _) _⟩
  case some a =>
    have f1 : r ≠ 1 → ((r : Int) == 1) = false := fun h => by simp; omega
    have f2 : c ≠ 1 → ((c : Int) == 1) = false := fun h => by simp; omega
    have f3 : r ≠ 0 → ((r : Int) == 0) = false := fun h => by simp; omega
    have f4 : c ≠ 0 → ((c : Int) == 0) = false := fun h => by simp; omega
    by_cases h1 : r = 1
    · subst h1
      clear f1 f2 f3 f4
      go_enter Try.func63, Try.ntmps63
      go_wp2
      go_ret
      exact ⟨by simp [vecV], (Below.refl _ _).alloc (Nat.le_refl _) _⟩
    replace f1 := f1 h1
    by_cases h2 : c = 1
    · subst h2
      have e : vecV (some a) r 1 = true := by simp [vecV]
      clear f2 f3 f4 h1
      rw [e]
      clear e
      go_enter Try.func63, Try.ntmps63
      go_wp2
      go_ret
      exact ⟨rfl, (Below.refl _ _).alloc (Nat.le_refl _) _⟩
    replace f2 := f2 h2
    by_cases h3 : r = 0
    · subst h3
      by_cases h4 : c = 0
      · subst h4
        clear f1 f2 f3 f4 h1 h2
        go_enter Try.func63, Try.ntmps63
        go_wp2
        go_ret
        exact ⟨by simp [vecV], (Below.refl _ _).alloc (Nat.le_refl _) _⟩
      · replace f4 := f4 h4
        have e : vecV (some a) 0 c = false := by simp [vecV, h2, h4]
        clear f3 f1 h1 h2 h4
        rw [e]
        clear e
        go_enter Try.func63, Try.ntmps63
        go_wp2
        go_ret
        exact ⟨rfl, (Below.refl _ _).alloc (Nat.le_refl _) _⟩
    · replace f3 := f3 h3
      have e : vecV (some a) r c = false := by simp [vecV, h1, h2, h3]
      clear f4 h1 h2 h3
      rw [e]
      clear e
      go_enter Try.func63, Try.ntmps63
      go_wp2
      go_ret
      exact ⟨rfl, (Below.refl _ _).alloc (Nat.le_refl _) _⟩

set_option maxHeartbeats 1000000 in
theorem Rows_any (p : Option Addr) (r c o d u : Nat) (w : World) :
    Calls Try.prog 71 #[(.agg #[.pointer p, .int .i64 r, .int .i64 c, .int .i64 o, .int .i64 d, .int .i64 u])] w fun e w' => e = .returned (.int .i64 r) ∧ Below w.heap.size w w' := by
  go_enter Try.func71, Try.ntmps71
  go_wp2
  go_ret
  exact ⟨rfl, (Below.refl _ _).alloc (Nat.le_refl _) _⟩
set_option maxHeartbeats 1000000 in
theorem Cols_any (p : Option Addr) (r c o d u : Nat) (w : World) :
    Calls Try.prog 70 #[(.agg #[.pointer p, .int .i64 r, .int .i64 c, .int .i64 o, .int .i64 d, .int .i64 u])] w fun e w' => e = .returned (.int .i64 c) ∧ Below w.heap.size w w' := by
  go_enter Try.func70, Try.ntmps70
  go_wp2
  go_ret
  exact ⟨rfl, (Below.refl _ _).alloc (Nat.le_refl _) _⟩

/-- How many places has a vector? -/
def lenV (p : Option Addr) (r c : Nat) : Nat := if vecV p r c then r * c else 0
set_option maxHeartbeats 1000000 in
theorem Len_any (p : Option Addr) (r c o d u : Nat) (w : World) (hr : r ≤ 512) (hc : c ≤ 512) :
    Calls Try.prog 65 #[(.agg #[.pointer p, .int .i64 r, .int .i64 c, .int .i64 o, .int .i64 d, .int .i64 u])] w fun e w' => e = .returned (.int .i64 (lenV p r c)) ∧ Below w.heap.size w w' := by
  have h0 : r * c ≤ 512 * 512 := Nat.mul_le_mul hr hc
  have e0 : ((r * c : Nat) : Int) = (r : Int) * (c : Int) := Int.natCast_mul _ _
  have h1 : (r : Int) * (c : Int) ≤ 9223372036854775807 := by rw [← e0]; omega
  have h2 : (0 : Int) ≤ (r : Int) * (c : Int) := Int.mul_nonneg (Int.natCast_nonneg _) (Int.natCast_nonneg _)
  have hbx := Box.new w [.pointer p, .int .i64 r, .int .i64 c, .int .i64 o, .int .i64 d, .int .i64 u] 29
  have hB0 : Below w.heap.size w (w.alloc (.cells #[.pointer p, .int .i64 r, .int .i64 c, .int .i64 o, .int .i64 d, .int .i64 u] 29)) := (Below.refl _ _).alloc (Nat.le_refl _) _
  have HE := Lib.hid e0
  clear e0
  cases t1 : vecV p r c
  all_goals
    go_enter Try.func65, Try.ntmps65
    go_wp2_with fail
    refine (Vector_any _ _ _ _ _ _ _).mono ?_
    rintro e w1 ⟨rfl, hb1⟩
    rw [t1]
    have y1 := hbx.below hb1
    have hB1 := below_step hB0 hB0.size hb1
    obtain ⟨a1, a2, a3⟩ := y1.facts
    go_wp2
    go_ret
    exact ⟨by simp [lenV, t1, HE.out], hB1⟩
end Go.Proofs.Ytbcdpibcieadlaa

/- Views: what is cut of a view; a vector's places; a view made. -/
namespace Go.Proofs.Ytbcdpibcieadlaa
open Go Go.RowKit
set_option maxRecDepth 100000

/-- A view. -/
structure Vw where
  p : Option Addr
  r : Nat
  c : Nat
  o : Nat
  d : Nat
  u : Nat
def Vw.val (v : Vw) : Value := (.agg #[.pointer v.p, .int .i64 v.r, .int .i64 v.c, .int .i64 v.o, .int .i64 v.d, .int .i64 v.u])
def Vw.none : Vw := ⟨Option.none, 0, 0, 0, 0, 0⟩
/-- All its places are the store's. -/
def Vw.In (v : Vw) (n : Nat) : Prop := ∀ i j, i < v.r → j < v.c → v.o + i * v.d + j * v.u < n
/-- A view of the store ws in block sb, or none. -/
def Vw.Ok (v : Vw) (w : World) (sb : Nat) (ws : List Nat) : Prop := v = Vw.none ∨ (Sto w v.p sb ws ∧ v.In ws.length ∧ v.r ≤ 512 ∧ v.c ≤ 512)
theorem Vw.Ok.below {v : Vw} {w w' : World} {sb : Nat} {ws : List Nat} (h : v.Ok w sb ws) (hb : Below w.heap.size w w') : v.Ok w' sb ws := by
  rcases h with h | ⟨h, k⟩
  · exact .inl h
  · exact .inr ⟨h.below hb, k⟩
theorem Vw.Ok.small {v : Vw} {w : World} {sb : Nat} {ws : List Nat} (h : v.Ok w sb ws) : v.r ≤ 512 ∧ v.c ≤ 512 := by
  rcases h with h | h
  · subst h; exact ⟨by decide, by decide⟩
  · exact h.2.2
/-- What it tells at a place. -/
def Vw.get (v : Vw) (ws : List Nat) (i j : Int) : Nat := if inV v.r v.c i j then ws.getD (v.o + i.toNat * v.d + j.toNat * v.u) 0 else 0
/-- The store behind it, a place set. -/
def Vw.put (v : Vw) (ws : List Nat) (i j : Int) (x : Nat) : List Nat := if inV v.r v.c i j then ws.set (v.o + i.toNat * v.d + j.toNat * v.u) x else ws
theorem Vw.put_length (v : Vw) (ws : List Nat) (i j : Int) (x : Nat) : (v.put ws i j x).length = ws.length := by unfold Vw.put; split <;> simp
theorem inV_nat {r c : Nat} {i j : Int} (h : inV r c i j = true) : ∃ a b : Nat, i = a ∧ j = b ∧ a < r ∧ b < c := by
  unfold inV at h
  simp only [decide_eq_true_eq] at h
  exact ⟨i.toNat, j.toNat, by omega, by omega, by omega, by omega⟩

theorem At_any (w : World) (v : Vw) (sb : Nat) (ws : List Nat) (i j : Int) (h : v.Ok w sb ws) :
    Calls Try.prog 74 #[v.val, .int .i64 i, .int .i64 j] w fun e w' => e = .returned (.float .f64 (v.get ws i j)) ∧ Below w.heap.size w w' := by
  unfold Vw.get
  cases hi : inV v.r v.c i j
  · exact At_out w v.p v.r v.c v.o v.d v.u i j hi
  · rcases h with rfl | ⟨h, h2, _, _⟩
    · obtain ⟨a, b, _, _, h1, _⟩ := inV_nat hi
      exact absurd h1 (Nat.not_lt_zero _)
    · obtain ⟨a, b, rfl, rfl, h3, h4⟩ := inV_nat hi
      exact At_in w v.p v.r v.c v.o v.d v.u sb ws a b h h3 h4 (h2 a b h3 h4)

/-- The code of setting. -/
def Vw.putE (v : Vw) (i j : Int) : Int := if v.p.isSome then (if inV v.r v.c i j then 0 else 2) else 1
theorem Set_any (w : World) (v : Vw) (sb : Nat) (ws : List Nat) (i j : Int) (x : Nat) (h : v.Ok w sb ws) :
    Calls Try.prog 80 #[v.val, .int .i64 i, .int .i64 j, .float .f64 x] w fun e w' => e = .returned (.int .i64 (v.putE i j)) ∧ v.Ok w' sb (v.put ws i j x) ∧ Bel w.heap.size sb w w' := by
  have h0 := h
  rcases h with rfl | ⟨h, h2, h3, h4⟩
  · refine (Set_nil w 0 0 0 0 0 i j x).mono ?_
    rintro e w' ⟨rfl, hb⟩
    exact ⟨rfl, .inl rfl, Bel.of hb⟩
  · have hh := h
    obtain ⟨st, hp, _⟩ := hh
    unfold Vw.put Vw.putE
    cases hi : inV v.r v.c i j
    · have hc := Set_out w st v.r v.c v.o v.d v.u i j x hi
      rw [← hp] at hc
      refine hc.mono ?_
      rintro e w' ⟨rfl, hb⟩
      exact ⟨by rw [hp]; rfl, h0.below hb, Bel.of hb⟩
    · obtain ⟨a, b, rfl, rfl, h5, h6⟩ := inV_nat hi
      refine (Set_in w v.p v.r v.c v.o v.d v.u sb ws a b x h h5 h6 (h2 a b h5 h6)).mono ?_
      rintro e w' ⟨rfl, hs, hb⟩
      refine ⟨by rw [hp]; rfl, .inr ⟨hs, ?_, h3, h4⟩, hb⟩
      simp only [if_true, List.length_set]; exact h2

theorem Box.newA (w : World) (cs : List Value) (T : TypeId) {n : Nat} (h : w.heap.size = n) : Box (w.alloc (.cells cs.toArray T)) n cs := by subst h; exact Box.new w cs T
theorem Box.put6 {w : World} {n : Nat} {a0 a1 a2 a3 a4 a5 : Value} (h : Box w n [a0, a1, a2, a3, a4, a5]) (v0 v1 v2 v3 v4 v5 : Value) :
    Box ((((((w.setCell ⟨n, 0, none⟩ v0).setCell ⟨n, 1, none⟩ v1).setCell ⟨n, 2, none⟩ v2).setCell ⟨n, 3, none⟩ v3).setCell ⟨n, 4, none⟩ v4).setCell ⟨n, 5, none⟩ v5) n [v0, v1, v2, v3, v4, v5] :=
  (((((h.set 0 v0).set 1 v1).set 2 v2).set 3 v3).set 4 v4).set 5 v5
theorem below_set {B n : Nat} {a w : World} (h : Below B a w) (hn : B ≤ n) (o : Nat) (u : Value) : Below B a (w.setCell ⟨n, o, none⟩ u) := h.setCell hn u
theorem below_put6 {B n : Nat} {a w : World} (h : Below B a w) (hn : B ≤ n) (v0 v1 v2 v3 v4 v5 : Value) :
    Below B a ((((((w.setCell ⟨n, 0, none⟩ v0).setCell ⟨n, 1, none⟩ v1).setCell ⟨n, 2, none⟩ v2).setCell ⟨n, 3, none⟩ v3).setCell ⟨n, 4, none⟩ v4).setCell ⟨n, 5, none⟩ v5) :=
  below_set (below_set (below_set (below_set (below_set (below_set h hn _ _) hn _ _) hn _ _) hn _ _) hn _ _) hn _ _

def Vw.T (v : Vw) : Vw := ⟨v.p, v.c, v.r, v.o, v.u, v.d⟩
set_option maxHeartbeats 1000000 in
theorem T_any (v : Vw) (w : World) :
    Calls Try.prog 46 #[v.val] w fun e w' => e = .returned v.T.val ∧ Below w.heap.size w w' := by
  obtain ⟨p, r, c, o, d, u⟩ := v
  unfold Vw.val Vw.T
  dsimp only
  go_enter Try.func46, Try.ntmps46
  go_wp2
  refine bodyPost_ret (results_one rfl (rv_cell (g := w.heap.size + 1) rfl (Box.newA _ [.pointer p, .int .i64 c, .int .i64 r, .int .i64 o, .int .i64 u, .int .i64 d] _ (by simp)) rfl Try.underlying29 (by kernel_rfl))) rfl ⟨rfl, ?_⟩
  exact ((Below.refl _ _).alloc (Nat.le_refl _) _).alloc (by simp) _

/-- Does a part fit? -/
def fitsV (i n : Int) (m : Nat) : Bool := decide (0 ≤ i ∧ 0 ≤ n ∧ i ≤ m ∧ n ≤ m - i)
set_option maxHeartbeats 1000000 in
theorem Fits_any (i n : Int) (m : Nat) (hm : m ≤ 512) (w : World) :
    Calls Try.prog 114 #[.int .i64 i, .int .i64 n, .int .i64 m] w fun e w' => e = .returned (.bool (fitsV i n m)) ∧ w = w' := by
  by_cases h1 : 0 ≤ i
  all_goals by_cases h2 : 0 ≤ n
  all_goals by_cases h3 : i ≤ m
  all_goals
    go_enter Try.func114, Try.ntmps114
    go_wp2
    go_ret
    exact ⟨(by first | (simp [fitsV]; omega) | simp [fitsV, *]), rfl⟩
theorem Fits_run (i n m : Int) (w : World) : (callFunc 114 #[.int .i64 i, .int .i64 n, .int .i64 m]).run Try.prog w = .ok (.enter 114 #[.int .i64 i, .int .i64 n, .int .i64 m]) w := by kernel_rfl

/-- A part. -/
def Vw.part (v : Vw) (i j a b : Int) : Vw := if v.p.isSome && fitsV i a v.r && fitsV j b v.c then ⟨v.p, a.toNat, b.toNat, v.o + i.toNat * v.d + j.toNat * v.u, v.d, v.u⟩ else Vw.none
/-- Its numbers are not too great. -/
def Vw.Bnd (v : Vw) (n : Nat) : Prop := v.r ≤ 512 ∧ v.c ≤ 512 ∧ v.d + v.u ≤ 2 ^ (10 + n) ∧ v.o ≤ 2 ^ (20 + n)
theorem place_bnd {o d u i j n : Nat} (hi : i ≤ 512) (hj : j ≤ 512) (hd : d + u ≤ 2 ^ (10 + n)) (ho : o ≤ 2 ^ (20 + n)) : o + i * d + j * u ≤ 2 ^ (20 + (n + 1)) := by
  have h1 : i * d ≤ 512 * d := Nat.mul_le_mul_right _ hi
  have h2 : j * u ≤ 512 * u := Nat.mul_le_mul_right _ hj
  have h3 : 512 * (d + u) ≤ 512 * 2 ^ (10 + n) := Nat.mul_le_mul_left _ hd
  have h4 : 512 * 2 ^ (10 + n) ≤ 2 ^ (20 + n) := by
    rw [show 20 + n = 10 + (10 + n) by omega, Nat.pow_add 2 10 (10 + n)]
    exact Nat.mul_le_mul_right _ (by decide)
  rw [show 20 + (n + 1) = (20 + n) + 1 by omega, Nat.pow_succ]
  omega
theorem pow_small {n : Nat} (h : n ≤ 40) : 2 ^ (20 + (n + 1)) ≤ 9223372036854775807 :=
  Nat.le_trans (Nat.pow_le_pow_right (by decide) (show 20 + (n + 1) ≤ 61 by omega)) (by decide)
theorem fits_nat {i n : Int} {m : Nat} (h : fitsV i n m = true) : ∃ a b : Nat, i = a ∧ n = b ∧ a + b ≤ m := by
  unfold fitsV at h
  simp only [decide_eq_true_eq] at h
  exact ⟨i.toNat, n.toNat, by omega, by omega, by omega⟩

set_option maxHeartbeats 2000000 in
theorem Part_any (v : Vw) (i j a b : Int) (w : World) (n : Nat) (hv : v.Bnd n) (hn : n ≤ 40) :
    Calls Try.prog 95 #[v.val, .int .i64 i, .int .i64 j, .int .i64 a, .int .i64 b] w fun e w' => e = .returned (v.part i j a b).val ∧ Below w.heap.size w w' := by
  obtain ⟨p, r, c, o, d, u⟩ := v
  obtain ⟨hr, hc, hd, ho⟩ := hv
  dsimp only at hr hc hd ho
  have hbig := pow_small hn
  have hx1 : Box ((w.alloc (.cells #[.pointer p, .int .i64 r, .int .i64 c, .int .i64 o, .int .i64 d, .int .i64 u] 29)).alloc (.cells #[.pointer none, .int .i64 0, .int .i64 0, .int .i64 0, .int .i64 0, .int .i64 0] 29)) w.heap.size [.pointer p, .int .i64 r, .int .i64 c, .int .i64 o, .int .i64 d, .int .i64 u] := (Box.new w _ _).alloc _
  have hx2 : Box ((w.alloc (.cells #[.pointer p, .int .i64 r, .int .i64 c, .int .i64 o, .int .i64 d, .int .i64 u] 29)).alloc (.cells #[.pointer none, .int .i64 0, .int .i64 0, .int .i64 0, .int .i64 0, .int .i64 0] 29)) (w.heap.size + 1) [.pointer none, .int .i64 0, .int .i64 0, .int .i64 0, .int .i64 0, .int .i64 0] := Box.newA _ _ _ (by simp)
  have hB0 : Below w.heap.size w ((w.alloc (.cells #[.pointer p, .int .i64 r, .int .i64 c, .int .i64 o, .int .i64 d, .int .i64 u] 29)).alloc (.cells #[.pointer none, .int .i64 0, .int .i64 0, .int .i64 0, .int .i64 0, .int .i64 0] 29)) := ((Below.refl _ _).alloc (Nat.le_refl _) _).alloc (by simp) _
  have hne : w.heap.size ≠ w.heap.size + 1 := by omega
  have fin : Vw.none.val = (.agg #[.pointer none, .int .i64 0, .int .i64 0, .int .i64 0, .int .i64 0, .int .i64 0]) := rfl
  cases p
  case none =>
    have e0 : (Vw.mk Option.none r c o d u).part i j a b = Vw.none := rfl
    rw [e0, fin]
    unfold Vw.val
    dsimp only
    clear hbig hd ho e0 fin
    go_enter Try.func95, Try.ntmps95
    go_wp2
    refine bodyPost_ret (results_one rfl (rv_cell (g := w.heap.size + 1) rfl (Box.newA _ [.pointer none, .int .i64 0, .int .i64 0, .int .i64 0, .int .i64 0, .int .i64 0] _ (by simp)) rfl Try.underlying29 (by kernel_rfl))) rfl ⟨rfl, ?_⟩
    exact ((Below.refl _ _).alloc (Nat.le_refl _) _).alloc (by simp) _
  case some q =>
    cases t1 : fitsV i a r
    case false =>
      have e0 : (Vw.mk (some q) r c o d u).part i j a b = Vw.none := by unfold Vw.part; dsimp only; rw [t1]; rfl
      rw [e0, fin]
      unfold Vw.val
      dsimp only
      clear hbig hd ho e0 fin
      go_enter Try.func95, Try.ntmps95
      go_wp2_with fail
      refine (Fits_any _ _ r hr _).mono ?_
      rintro e w1 ⟨rfl, rfl⟩
      rw [t1]
      go_wp2_with fail
      refine bodyPost_ret (results_one rfl (rv_cell (g := w.heap.size + 1) rfl (Box.newA _ [.pointer none, .int .i64 0, .int .i64 0, .int .i64 0, .int .i64 0, .int .i64 0] _ (by simp)) rfl Try.underlying29 (by kernel_rfl))) rfl ⟨rfl, ?_⟩
      exact ((Below.refl _ _).alloc (Nat.le_refl _) _).alloc (by simp) _
    case true =>
      cases t2 : fitsV j b c
      case false =>
        have e0 : (Vw.mk (some q) r c o d u).part i j a b = Vw.none := by unfold Vw.part; dsimp only; rw [t1, t2]; rfl
        rw [e0, fin]
        unfold Vw.val
        dsimp only
        clear hbig hd ho e0 fin
        go_enter Try.func95, Try.ntmps95
        go_wp2_with fail
        refine (Fits_any _ _ r hr _).mono ?_
        rintro e w1 ⟨rfl, rfl⟩
        rw [t1]
        go_wp2_with fail
        refine (Fits_any _ _ c hc _).mono ?_
        rintro e w1 ⟨rfl, rfl⟩
        rw [t2]
        go_wp2_with fail
        refine bodyPost_ret (results_one rfl (rv_cell (g := w.heap.size + 1) rfl (Box.newA _ [.pointer none, .int .i64 0, .int .i64 0, .int .i64 0, .int .i64 0, .int .i64 0] _ (by simp)) rfl Try.underlying29 (by kernel_rfl))) rfl ⟨rfl, ?_⟩
        exact ((Below.refl _ _).alloc (Nat.le_refl _) _).alloc (by simp) _
      case true =>
        have e0 : (Vw.mk (some q) r c o d u).part i j a b = ⟨some q, a.toNat, b.toNat, o + i.toNat * d + j.toNat * u, d, u⟩ := by unfold Vw.part; dsimp only; rw [t1, t2]; rfl
        rw [e0]
        unfold Vw.val
        dsimp only
        have f1 := fits_nat t1
        have f2 := fits_nat t2
        obtain ⟨i, a, rfl, rfl, hi⟩ := f1
        obtain ⟨j, b, rfl, rfl, hj⟩ := f2
        simp only [Int.toNat_natCast]
        have hpl := place_bnd (i := i) (j := j) (by omega) (by omega) hd ho
        have HP0 := fun W => place_any (some q) r c o d u i j W (by omega)
        clear hbig hd ho e0 fin hpl hi hj
        generalize o + i * d + j * u = k at HP0 ⊢
        have HP := Lib.hid HP0
        clear HP0
        go_enter Try.func95, Try.ntmps95
        go_wp2_with fail
        refine (Fits_any _ _ r hr _).mono ?_
        rintro e w1 ⟨rfl, rfl⟩
        rw [t1]
        go_wp2_with fail
        refine (Fits_any _ _ c hc _).mono ?_
        rintro e w1 ⟨rfl, rfl⟩
        rw [t2]
        go_wp2_with fail
        refine (HP.out _).mono ?_
        rintro e w1 ⟨rfl, hb1⟩
        have y1 := hx1.below hb1
        have y2 := hx2.below hb1
        have hB1 := below_step hB0 hB0.size hb1
        obtain ⟨a1, a2, a3⟩ := y1.facts
        obtain ⟨a4, a5, a6⟩ := y2.facts
        go_wp2
        refine bodyPost_ret (results_one rfl (rv_cell (g := w.heap.size + 1) rfl ((((y2.set_other hne.symm 3 _).set_other hne.symm 1 _).set_other hne.symm 2 _).put6 _ _ _ _ _ _) rfl Try.underlying29 (by kernel_rfl))) rfl ⟨rfl, ?_⟩
        exact below_put6 (below_set (below_set (below_set hB1 (Nat.le_refl _) _ _) (Nat.le_refl _) _ _) (Nat.le_refl _) _ _) (by simp) _ _ _ _ _ _

def Vw.row (v : Vw) (i : Int) : Vw := v.part i 0 1 v.c
def Vw.col (v : Vw) (j : Int) : Vw := v.part 0 j v.r 1
set_option maxHeartbeats 2000000 in
theorem Row_any (v : Vw) (i : Int) (w : World) (n : Nat) (hv : v.Bnd n) (hn : n ≤ 40) :
    Calls Try.prog 47 #[v.val, .int .i64 i] w fun e w' => e = .returned (v.row i).val ∧ Below w.heap.size w w' := by
  have HP := Lib.hid (fun W => Part_any v i 0 1 v.c W n hv hn)
  have er : v.row i = v.part i 0 1 v.c := rfl
  rw [er]
  clear er
  obtain ⟨p, r, c, o, d, u⟩ := v
  have hx2 : Box ((w.alloc (.cells #[.pointer p, .int .i64 r, .int .i64 c, .int .i64 o, .int .i64 d, .int .i64 u] 29)).alloc (.cells #[.pointer none, .int .i64 0, .int .i64 0, .int .i64 0, .int .i64 0, .int .i64 0] 29)) (w.heap.size + 1) [.pointer none, .int .i64 0, .int .i64 0, .int .i64 0, .int .i64 0, .int .i64 0] := Box.newA _ _ _ (by simp)
  have hB0 : Below w.heap.size w ((w.alloc (.cells #[.pointer p, .int .i64 r, .int .i64 c, .int .i64 o, .int .i64 d, .int .i64 u] 29)).alloc (.cells #[.pointer none, .int .i64 0, .int .i64 0, .int .i64 0, .int .i64 0, .int .i64 0] 29)) := ((Below.refl _ _).alloc (Nat.le_refl _) _).alloc (by simp) _
  generalize (Vw.mk p r c o d u).part i 0 1 (Vw.mk p r c o d u).c = v' at HP ⊢
  obtain ⟨p', r', c', o', d', u'⟩ := v'
  unfold Vw.val at HP ⊢
  dsimp only at HP ⊢
  go_enter Try.func47, Try.ntmps47
  go_wp2_with fail
  refine (HP.out _).mono ?_
  rintro e w1 ⟨rfl, hb1⟩
  have y2 := hx2.below hb1
  have hB1 := below_step hB0 hB0.size hb1
  obtain ⟨a4, a5, a6⟩ := y2.facts
  go_wp2
  refine bodyPost_ret (results_one rfl (rv_cell (g := w.heap.size + 1) rfl (y2.put6 _ _ _ _ _ _) rfl Try.underlying29 (by kernel_rfl))) rfl ⟨rfl, ?_⟩
  exact below_put6 hB1 (by simp) _ _ _ _ _ _
set_option maxHeartbeats 2000000 in
theorem Col_any (v : Vw) (j : Int) (w : World) (n : Nat) (hv : v.Bnd n) (hn : n ≤ 40) :
    Calls Try.prog 49 #[v.val, .int .i64 j] w fun e w' => e = .returned (v.col j).val ∧ Below w.heap.size w w' := by
  have HP := Lib.hid (fun W => Part_any v 0 j v.r 1 W n hv hn)
  have er : v.col j = v.part 0 j v.r 1 := rfl
  rw [er]
  clear er
  obtain ⟨p, r, c, o, d, u⟩ := v
  have hx2 : Box ((w.alloc (.cells #[.pointer p, .int .i64 r, .int .i64 c, .int .i64 o, .int .i64 d, .int .i64 u] 29)).alloc (.cells #[.pointer none, .int .i64 0, .int .i64 0, .int .i64 0, .int .i64 0, .int .i64 0] 29)) (w.heap.size + 1) [.pointer none, .int .i64 0, .int .i64 0, .int .i64 0, .int .i64 0, .int .i64 0] := Box.newA _ _ _ (by simp)
  have hB0 : Below w.heap.size w ((w.alloc (.cells #[.pointer p, .int .i64 r, .int .i64 c, .int .i64 o, .int .i64 d, .int .i64 u] 29)).alloc (.cells #[.pointer none, .int .i64 0, .int .i64 0, .int .i64 0, .int .i64 0, .int .i64 0] 29)) := ((Below.refl _ _).alloc (Nat.le_refl _) _).alloc (by simp) _
  generalize (Vw.mk p r c o d u).part 0 j (Vw.mk p r c o d u).r 1 = v' at HP ⊢
  obtain ⟨p', r', c', o', d', u'⟩ := v'
  unfold Vw.val at HP ⊢
  dsimp only at HP ⊢
  go_enter Try.func49, Try.ntmps49
  go_wp2_with fail
  refine (HP.out _).mono ?_
  rintro e w1 ⟨rfl, hb1⟩
  have y2 := hx2.below hb1
  have hB1 := below_step hB0 hB0.size hb1
  obtain ⟨a4, a5, a6⟩ := y2.facts
  go_wp2
  refine bodyPost_ret (results_one rfl (rv_cell (g := w.heap.size + 1) rfl (y2.put6 _ _ _ _ _ _) rfl Try.underlying29 (by kernel_rfl))) rfl ⟨rfl, ?_⟩
  exact below_put6 hB1 (by simp) _ _ _ _ _ _

def Vw.diag (v : Vw) : Vw := if v.p.isSome then ⟨v.p, min v.r v.c, 1, v.o, v.d + v.u, v.u⟩ else Vw.none
end Go.Proofs.Ytbcdpibcieadlaa
