/- Views: do two show one place? -/
import Derived.Test.YtbcdpibcieadlaaZz6
import Derived.WideKeyArr
import Derived.Scope
import Derived.LaidEqlPtr
import Derived.Maps.OwnIn
import Derived.Maps.Views
namespace Go.Proofs.Ytbcdpibcieadlaa
open Go Go.RowKit Go.Shelf
attribute [local go_sem] Oper.semAt_some
set_option maxRecDepth 100000

theorem keyed1 : Maps.Keyed Try.prog 118 := Maps.Keyed.of_law (WideMaps.ArrKey.law (n := 1) (e := 3) ⟨Try.underlying118, by kernel_rfl, by kernel_rfl, by kernel_rfl⟩)
/-- A place, as a key reads. -/
def keyL (n : Nat) : Lit := .string (keyBytes [.int .i64 n])
theorem keyOf1 (n : Nat) (h : n ≤ 9223372036854775807) : keyOf Try.prog 118 (.agg #[.int .i64 n]) = some (keyL n) := by
  have hk : Try.prog.keyType 118 = true := by kernel_rfl
  have hs : ∃ m, Try.prog.types.size = m + 1 := ⟨Try.prog.types.size - 1, by kernel_rfl⟩
  obtain ⟨m, hm⟩ := hs
  have c1 : Try.prog.cellsOf 118 = 1 := by kernel_rfl
  have c2 : Try.prog.cellsOf 3 = 1 := by kernel_rfl
  have hw : (Lit.int .i64 (n : Int)).wf = true := by simp [Lit.wf, IntKind.min, IntKind.max, IntKind.bits, IntKind.signed]; omega
  unfold keyOf
  rw [Try.underlying118]
  simp only [hk, Bool.true_and]
  have hf : (Value.agg #[Value.int .i64 (n : Int)]).formed Try.prog 118 = true := by
    simp [Value.formed, Try.underlying118, c1]
  rw [if_pos hf, hm]
  unfold Program.keyLits
  rw [Try.underlying118]
  simp only [Value.cells, c1, c2]
  unfold Program.keyLits
  rw [Try.underlying3]
  simp [hw, keyL]
theorem keyL_inj {a b : Nat} (ha : a ≤ 9223372036854775807) (hb : b ≤ 9223372036854775807) (h : keyL a = keyL b) : a = b := by
  have h1 := keyOf1 a ha
  have h2 := keyOf1 b hb
  rw [h] at h1
  have := keyed1.inj h1 h2
  simp at this
  omega
/-- A datum of a set of places. -/
def KeySet (D : DataW Unit) (ks : List Nat) : Prop := Maps.IsMap D ∧ ∀ k, k ≤ 9223372036854775807 → D.atKey (keyL k) (.lit (.bool false)) = .lit (.bool (decide (k ∈ ks)))
theorem KeySet.nil : KeySet (.map []) [] := ⟨⟨_, rfl⟩, fun _ _ => rfl⟩
theorem KeySet.put {D : DataW Unit} {ks : List Nat} (h : KeySet D ks) {k : Nat} (hk : k ≤ 9223372036854775807) (hD : Maps.IsMap (D.put (keyL k) (.lit (.bool true)))) : KeySet (D.put (keyL k) (.lit (.bool true))) (ks ++ [k]) := by
  refine ⟨hD, fun j hj => ?_⟩
  by_cases e : j = k
  · subst e
    rw [Maps.atKey_put_same h.1 (keyed1.key (keyOf1 j hk))]
    simp
  · rw [Maps.atKey_put_other (fun e' => e (keyL_inj hj hk e')), h.2 j hj]
    simp [e]
theorem plainBool {v : Value} {b : Bool} {ps : List MemPlace} (h : plainElem (H := Unit) Try.prog 4 v = some (.lit (.bool b), ps)) : v = .bool b := by
  unfold plainElem at h
  rw [Try.underlying4] at h
  cases v <;> simp at h
  rw [h.1]

def Vw.places (v : Vw) (l : List (Nat × Nat)) : List Nat := l.map fun x => v.o + x.1 * v.d + x.2 * v.u
/-- Do two views show one place? -/
def sharesV (v o : Vw) : Bool := v.p.isSome && decide (v.p = o.p) && (o.places (plcs o.c (o.r * o.c))).any fun k => decide (k ∈ v.places (plcs v.c (v.r * v.c)))

theorem ownsMap_still {H : Type} {P : Program} {k : TypeId} {R : Value → Option (DataW H × List MemPlace)} {A B : World} {b n base : Nat} {D : DataW H} (h : A.ownsMap P k R b n D) (hs : StillC base A B) (hb : b < base) : B.ownsMap P k R b n D := by
  obtain ⟨es, clock, h1, h2⟩ := h
  exact ⟨es, clock, by rw [hs.1.block b hb]; exact h1, h2⟩
theorem ownsMap_below {H : Type} {P : Program} {k : TypeId} {R : Value → Option (DataW H × List MemPlace)} {A B : World} {b n : Nat} {D : DataW H} (h : A.ownsMap P k R b n D) (hb : Below A.heap.size A B) : B.ownsMap P k R b n D := by
  have hl := h.lt
  obtain ⟨es, clock, h1, h2⟩ := h
  exact ⟨es, clock, by rw [hb.block b hl]; exact h1, h2⟩
theorem noGoto_ret {Q : Exit → Act → World → Prop} {a : Act} {w : World} (h : Q .ret a w) : Exit.noGoto Q .ret a w := h
/-- A look-up among bools. -/
theorem wpListIn_lookup_bool {FF : Fence} {nF : Nat} {w : World} {ops : Array Oper} {rest : List Oper} {o : Oper} {a : Act} {Q : Exit → Act → World → Prop}
    (hg : o.guard = none) (m x : Operand) (hop : o.op = Op.lookup 117 m x false) (b n : Nat) (D : DataW Unit)
    (hm : a.eval m = .map (some b)) (hown : w.ownsMap Try.prog 118 (plainElem Try.prog 4) b n D) (key : Value) (kl : Lit) (hx : a.eval x = key) (hkey : keyOf Try.prog 118 key = some kl)
    (c : Bool) (hat : D.atKey kl (.lit (.bool false)) = .lit (.bool c)) (hK : wpListIn FF nF Try.prog ops Q rest (a.put o.dst (.bool c)) w) :
    wpListIn FF nF Try.prog ops Q (o :: rest) a w := by
  have hz : (zeroValue 4).run Try.prog w = .ok (.bool false) w := Try.zeroValue4 w
  refine wpListIn_plain hg fun K' hK' => ?_
  obtain ⟨v, ps, hrun, hv⟩ := hown.lookup keyed1 Try.underlying117 hz (zd := .lit (.bool false)) (zp := []) (plainElem_bool Try.underlying4 false) hkey
  rw [hat] at hv
  obtain rfl := plainBool hv
  unfold Oper.wpIn
  refine ⟨by simp [Oper.about, hop], ?_⟩
  rw [Oper.semAt_plain FF _ _ (by rw [hop]; intro c hc'; cases hc')]
  simp [execOp, hop, hm, hx, hrun, Result.andThen]
  exact hK' _ _ hK
theorem ptr_same (a : Addr) (w : World) : (binOp .neq 27 (.pointer (some a)) (.pointer (some a))).run Try.prog w = .ok (.bool false) w := by
  have hte : ∃ j, Try.prog.info? 105 = some j := by
    cases h : Try.prog.info? 105 with
    | some j => exact ⟨j, rfl⟩
    | none => exact absurd h (by intro h; have : (Try.prog.info? 105).isSome = true := by kernel_rfl
                                 rw [h] at this; cases this)
  obtain ⟨j, hj⟩ := hte
  have h : ∀ d : Nat, (Op.equalIn (d + 1) 27 (.pointer (some a)) (.pointer (some a))).run Try.prog w = .ok true w := fun d => by
    simp [Op.equalIn, run_underlying Try.underlying27, sizeOf, typeInfo, hj, run_sameAddr_same]
  simp only [binOp]
  simp [Op.equal, Op.maxDepth, h 9999]
theorem ptr_other {a b : Nat} {w : World} {ca cb : List Value} (hne : a ≠ b) (ha : Box w a ca) (hb : Box w b cb) : (binOp .neq 27 (.pointer (some ⟨a, 0, none⟩)) (.pointer (some ⟨b, 0, none⟩))).run Try.prog w = .ok (.bool true) w := by
  have hte : ∃ j, Try.prog.info? 105 = some j ∧ j.size ≠ 0 := by
    have h0 : (Try.prog.info? 105).map (·.size) = some 1 := by kernel_rfl
    obtain ⟨j, hj, h1⟩ := Option.map_eq_some_iff.1 h0
    exact ⟨j, hj, by omega⟩
  obtain ⟨j, hj, hsz⟩ := hte
  obtain ⟨Ta, hA⟩ := ha
  obtain ⟨Tb, hB⟩ := hb
  have h : ∀ d : Nat, (Op.equalIn (d + 1) 27 (.pointer (some ⟨a, 0, none⟩)) (.pointer (some ⟨b, 0, none⟩))).run Try.prog w = .ok false w := fun d => by
    have hd : (⟨a, 0, none⟩ : Addr) ≠ ⟨b, 0, none⟩ := fun e => hne (by injection e)
    simp [Op.equalIn, run_underlying Try.underlying27, sizeOf, typeInfo, hj, hsz, run_sameAddr_other w hd hA hB]
  simp only [binOp]
  simp [Op.equal, Op.maxDepth, h 9999]

set_option maxHeartbeats 4000000 in
theorem Shares_nil (w : World) (v o : Vw) (h : v.p = none) :
    Calls Try.prog 97 #[v.val, o.val] w fun e w' => e = .returned (.bool false) ∧ Below w.heap.size w w' := by
  obtain ⟨p, r, c, q, d, u⟩ := v
  obtain ⟨p', r', c', q', d', u'⟩ := o
  obtain rfl : p = none := h
  unfold Vw.val
  dsimp only
  skip
  go_enter Try.func97, Try.ntmps97
  go_wp2
  refine wp_scope_straight ?_
  go_wp2
  refine noGoto_ret ?_
  go_ret
  exact ⟨rfl, ((Below.refl _ _).alloc (Nat.le_refl _) _).alloc (by simp) _⟩
set_option maxHeartbeats 4000000 in
theorem Shares_nil2 (w : World) (v o : Vw) (st : Nat) (hv : v.p = some ⟨st, 0, none⟩) (h : o.p = none) :
    Calls Try.prog 97 #[v.val, o.val] w fun e w' => e = .returned (.bool false) ∧ Below w.heap.size w w' := by
  obtain ⟨p, r, c, q, d, u⟩ := v
  obtain ⟨p', r', c', q', d', u'⟩ := o
  obtain rfl : p = _ := hv
  obtain rfl : p' = none := h
  unfold Vw.val
  dsimp only
  skip
  go_enter Try.func97, Try.ntmps97
  go_wp2
  refine wp_scope_straight ?_
  go_wp2
  refine noGoto_ret ?_
  go_ret
  exact ⟨rfl, ((Below.refl _ _).alloc (Nat.le_refl _) _).alloc (by simp) _⟩
set_option maxHeartbeats 4000000 in
theorem Shares_other (w : World) (v o : Vw) (st so : Nat) (cv co : List Value) (hv : v.p = some ⟨st, 0, none⟩) (ho : o.p = some ⟨so, 0, none⟩) (hne : st ≠ so) (bv : Box w st cv) (bo : Box w so co) :
    Calls Try.prog 97 #[v.val, o.val] w fun e w' => e = .returned (.bool false) ∧ Below w.heap.size w w' := by
  obtain ⟨p, r, c, q, d, u⟩ := v
  obtain ⟨p', r', c', q', d', u'⟩ := o
  obtain rfl : p = _ := hv
  obtain rfl : p' = _ := ho
  unfold Vw.val
  dsimp only
  have hpe := ptr_other hne ((bv.alloc (.cells #[.pointer (some ⟨st, 0, none⟩), .int .i64 r, .int .i64 c, .int .i64 q, .int .i64 d, .int .i64 u] 29)).alloc (.cells #[.pointer (some ⟨so, 0, none⟩), .int .i64 r', .int .i64 c', .int .i64 q', .int .i64 d', .int .i64 u'] 29)) ((bo.alloc (.cells #[.pointer (some ⟨st, 0, none⟩), .int .i64 r, .int .i64 c, .int .i64 q, .int .i64 d, .int .i64 u] 29)).alloc (.cells #[.pointer (some ⟨so, 0, none⟩), .int .i64 r', .int .i64 c', .int .i64 q', .int .i64 d', .int .i64 u'] 29))
  clear hne bv bo
  go_enter Try.func97, Try.ntmps97
  go_wp2
  refine wp_scope_straight ?_
  go_wp2
  refine noGoto_ret ?_
  go_ret
  exact ⟨rfl, ((Below.refl _ _).alloc (Nat.le_refl _) _).alloc (by simp) _⟩

set_option maxHeartbeats 4000000 in
theorem Shares_yes (w : World) (v o : Vw) (st sb : Nat) (ws : List Nat) (hp1 : v.p = some ⟨st, 0, none⟩) (hp2 : o.p = some ⟨st, 0, none⟩) (hv : v.Ok w sb ws) (ho : o.Ok w sb ws) :
    Calls Try.prog 97 #[v.val, o.val] w fun e w' => e = .returned (.bool ((o.places (plcs o.c (o.r * o.c))).any fun k => decide (k ∈ v.places (plcs v.c (v.r * v.c))))) ∧ Below w.heap.size w w' := by
  have hsm := hv.small
  have hsmo := ho.small
  have hrc : v.r * v.c ≤ 512 * 512 := Nat.mul_le_mul hsm.1 hsm.2
  have ev1 : v.val = (.agg #[.pointer (some ⟨st, 0, none⟩), .int .i64 v.r, .int .i64 v.c, .int .i64 v.o, .int .i64 v.d, .int .i64 v.u]) := by unfold Vw.val; rw [hp1]
  have ev2 : o.val = (.agg #[.pointer (some ⟨st, 0, none⟩), .int .i64 o.r, .int .i64 o.c, .int .i64 o.o, .int .i64 o.d, .int .i64 o.u]) := by unfold Vw.val; rw [hp2]
  have hmm := @run_makeMap Try.prog
  have hpe := ptr_same ⟨st, 0, none⟩
  rw [ev1, ev2]
  have HP := Lib.hid (And.intro hp1 hp2)
  clear hp1 hp2
  refine (callsIn_wide (n := 9)).1 ?_
  refine callsIn_of_wp_marks Try.func97 rfl trivial ?_ rfl
  simp only [Try.ntmps97, List.size_toArray, List.length_cons, List.length_nil, Nat.reduceAdd, Nat.reduceSub, Array.replicate_succ, Array.replicate_zero, List.push_toArray, List.append_toArray, List.nil_append, List.cons_append]
  gi_wp2
  refine wpIn_wide.2 (wp_scope_straight (wpIn_wide (n := 9).1 ?_))
  gi_wp2_with (refine ⟨trivial, ?_⟩; gi_at_call 79; refine (callsIn_wide.2 (All_any _ _ _ _ _ _ _)).mono ?_; rintro e w1 ⟨rfl, rfl⟩)
  have hB0 : Below w.heap.size w (((((w.alloc (.cells #[.pointer (some ⟨st, 0, none⟩), .int .i64 v.r, .int .i64 v.c, .int .i64 v.o, .int .i64 v.d, .int .i64 v.u] 29)).alloc (.cells #[.pointer (some ⟨st, 0, none⟩), .int .i64 o.r, .int .i64 o.c, .int .i64 o.o, .int .i64 o.d, .int .i64 o.u] 29)).alloc (.map #[] 0)).alloc (.cells #[.map (some (w.heap.size + 1 + 1))] 117)).alloc (.cells #[.pointer (some ⟨st, 0, none⟩), .int .i64 v.r, .int .i64 v.c, .int .i64 v.o, .int .i64 v.d, .int .i64 v.u] 29)) := (((((Below.refl _ _).alloc (Nat.le_refl _) _).alloc (by simp) _).alloc (by simp; omega) _).alloc (by simp; omega) _).alloc (by simp; omega) _
  have x1 : Box (((((w.alloc (.cells #[.pointer (some ⟨st, 0, none⟩), .int .i64 v.r, .int .i64 v.c, .int .i64 v.o, .int .i64 v.d, .int .i64 v.u] 29)).alloc (.cells #[.pointer (some ⟨st, 0, none⟩), .int .i64 o.r, .int .i64 o.c, .int .i64 o.o, .int .i64 o.d, .int .i64 o.u] 29)).alloc (.map #[] 0)).alloc (.cells #[.map (some (w.heap.size + 1 + 1))] 117)).alloc (.cells #[.pointer (some ⟨st, 0, none⟩), .int .i64 v.r, .int .i64 v.c, .int .i64 v.o, .int .i64 v.d, .int .i64 v.u] 29)) w.heap.size [.pointer (some ⟨st, 0, none⟩), .int .i64 v.r, .int .i64 v.c, .int .i64 v.o, .int .i64 v.d, .int .i64 v.u] := ((((Box.newA _ _ _ rfl).alloc _).alloc _).alloc _).alloc _
  have x2 : Box (((((w.alloc (.cells #[.pointer (some ⟨st, 0, none⟩), .int .i64 v.r, .int .i64 v.c, .int .i64 v.o, .int .i64 v.d, .int .i64 v.u] 29)).alloc (.cells #[.pointer (some ⟨st, 0, none⟩), .int .i64 o.r, .int .i64 o.c, .int .i64 o.o, .int .i64 o.d, .int .i64 o.u] 29)).alloc (.map #[] 0)).alloc (.cells #[.map (some (w.heap.size + 1 + 1))] 117)).alloc (.cells #[.pointer (some ⟨st, 0, none⟩), .int .i64 v.r, .int .i64 v.c, .int .i64 v.o, .int .i64 v.d, .int .i64 v.u] 29)) (w.heap.size + 1) [.pointer (some ⟨st, 0, none⟩), .int .i64 o.r, .int .i64 o.c, .int .i64 o.o, .int .i64 o.d, .int .i64 o.u] := (((Box.newA _ _ _ (by simp)).alloc _).alloc _).alloc _
  have x3 : Box (((((w.alloc (.cells #[.pointer (some ⟨st, 0, none⟩), .int .i64 v.r, .int .i64 v.c, .int .i64 v.o, .int .i64 v.d, .int .i64 v.u] 29)).alloc (.cells #[.pointer (some ⟨st, 0, none⟩), .int .i64 o.r, .int .i64 o.c, .int .i64 o.o, .int .i64 o.d, .int .i64 o.u] 29)).alloc (.map #[] 0)).alloc (.cells #[.map (some (w.heap.size + 1 + 1))] 117)).alloc (.cells #[.pointer (some ⟨st, 0, none⟩), .int .i64 v.r, .int .i64 v.c, .int .i64 v.o, .int .i64 v.d, .int .i64 v.u] 29)) (w.heap.size + 1 + 1 + 1) [.map (some (w.heap.size + 1 + 1))] := (Box.newA _ [_] _ (by simp)).alloc _
  have x4 : Box (((((w.alloc (.cells #[.pointer (some ⟨st, 0, none⟩), .int .i64 v.r, .int .i64 v.c, .int .i64 v.o, .int .i64 v.d, .int .i64 v.u] 29)).alloc (.cells #[.pointer (some ⟨st, 0, none⟩), .int .i64 o.r, .int .i64 o.c, .int .i64 o.o, .int .i64 o.d, .int .i64 o.u] 29)).alloc (.map #[] 0)).alloc (.cells #[.map (some (w.heap.size + 1 + 1))] 117)).alloc (.cells #[.pointer (some ⟨st, 0, none⟩), .int .i64 v.r, .int .i64 v.c, .int .i64 v.o, .int .i64 v.d, .int .i64 v.u] 29)) (w.heap.size + 1 + 1 + 1 + 1) [.pointer (some ⟨st, 0, none⟩), .int .i64 v.r, .int .i64 v.c, .int .i64 v.o, .int .i64 v.d, .int .i64 v.u] := Box.newA _ _ _ (by simp)
  have hmap0 : (((((w.alloc (.cells #[.pointer (some ⟨st, 0, none⟩), .int .i64 v.r, .int .i64 v.c, .int .i64 v.o, .int .i64 v.d, .int .i64 v.u] 29)).alloc (.cells #[.pointer (some ⟨st, 0, none⟩), .int .i64 o.r, .int .i64 o.c, .int .i64 o.o, .int .i64 o.d, .int .i64 o.u] 29)).alloc (.map #[] 0)).alloc (.cells #[.map (some (w.heap.size + 1 + 1))] 117)).alloc (.cells #[.pointer (some ⟨st, 0, none⟩), .int .i64 v.r, .int .i64 v.c, .int .i64 v.o, .int .i64 v.d, .int .i64 v.u] 29)).ownsMap (H := Unit) Try.prog 118 (plainElem Try.prog 4) (w.heap.size + 1 + 1) 0 (.map []) := by
    have h0 := World.ownsMap_made (H := Unit) ((w.alloc (.cells #[.pointer (some ⟨st, 0, none⟩), .int .i64 v.r, .int .i64 v.c, .int .i64 v.o, .int .i64 v.d, .int .i64 v.u] 29)).alloc (.cells #[.pointer (some ⟨st, 0, none⟩), .int .i64 o.r, .int .i64 o.c, .int .i64 o.o, .int .i64 o.d, .int .i64 o.u] 29)) Try.prog 118 (plainElem Try.prog 4)
    simp only [World.size_alloc] at h0
    exact (h0.alloc _).alloc _
  have hsz : (((((w.alloc (.cells #[.pointer (some ⟨st, 0, none⟩), .int .i64 v.r, .int .i64 v.c, .int .i64 v.o, .int .i64 v.d, .int .i64 v.u] 29)).alloc (.cells #[.pointer (some ⟨st, 0, none⟩), .int .i64 o.r, .int .i64 o.c, .int .i64 o.o, .int .i64 o.d, .int .i64 o.u] 29)).alloc (.map #[] 0)).alloc (.cells #[.map (some (w.heap.size + 1 + 1))] 117)).alloc (.cells #[.pointer (some ⟨st, 0, none⟩), .int .i64 v.r, .int .i64 v.c, .int .i64 v.o, .int .i64 v.d, .int .i64 v.u] 29)).heap.size = w.heap.size + 5 := by simp
  generalize (((((w.alloc (.cells #[.pointer (some ⟨st, 0, none⟩), .int .i64 v.r, .int .i64 v.c, .int .i64 v.o, .int .i64 v.d, .int .i64 v.u] 29)).alloc (.cells #[.pointer (some ⟨st, 0, none⟩), .int .i64 o.r, .int .i64 o.c, .int .i64 o.o, .int .i64 o.d, .int .i64 o.u] 29)).alloc (.map #[] 0)).alloc (.cells #[.map (some (w.heap.size + 1 + 1))] 117)).alloc (.cells #[.pointer (some ⟨st, 0, none⟩), .int .i64 v.r, .int .i64 v.c, .int .i64 v.o, .int .i64 v.d, .int .i64 v.u] 29)) = W1 at *
  clear hmm hpe
  refine view_loop (v := v) (sb := sb) 9 (by decide) (AllRd.R v sb (w.heap.size + 1 + 1 + 1 + 1) ws) hsm.1 hsm.2 ⟨by rw [HP.out.1]; exact x4, hv.below hB0⟩ (fun _ _ h hs => h.still hs) rfl rfl
    (fun pre W => (∃ D, W.ownsMap (H := Unit) Try.prog 118 (plainElem Try.prog 4) (w.heap.size + 1 + 1) pre.length D ∧ KeySet D (v.places (pre.map velP))) ∧ Box W w.heap.size [.pointer (some ⟨st, 0, none⟩), .int .i64 v.r, .int .i64 v.c, .int .i64 v.o, .int .i64 v.d, .int .i64 v.u] ∧ Box W (w.heap.size + 1) [.pointer (some ⟨st, 0, none⟩), .int .i64 o.r, .int .i64 o.c, .int .i64 o.o, .int .i64 o.d, .int .i64 o.u] ∧ Box W (w.heap.size + 1 + 1 + 1) [.map (some (w.heap.size + 1 + 1))] ∧ Below w.heap.size w W ∧ W1.heap.size ≤ W.heap.size)
    (fun _ _ _ => False)
    (fun _ _ h => h.2.2.2.2.2) (fun _ _ _ h hs => ⟨by obtain ⟨D, k1, k2⟩ := h.1; exact ⟨D, ownsMap_still k1 hs (by omega), k2⟩, h.2.1.still hs, h.2.2.1.still hs, h.2.2.2.1.still hs, below_still h.2.2.2.2.1 hs (by omega), Nat.le_trans h.2.2.2.2.2 hs.1.size⟩)
    (fun _ _ _ h => h.elim) (fun _ _ _ _ h hs => h)
    ⟨⟨_, hmap0, KeySet.nil⟩, x1, x2, x3, hB0, Nat.le_refl _⟩
    (fun T x Bx => (((T.setIfInBounds 22 (.agg #[.int .i64 (x.1.1 : Int), .int .i64 (x.1.2.1 : Int)])).setIfInBounds 23 (.float .f64 x.1.2.2)).setIfInBounds 6 (.pointer (some ⟨Bx, 0, none⟩)))) ?assign ?body ?done ?stop
  case assign =>
    intro l x W K hK
    unfold velV
    gi_wp2
    exact hK
  case body =>
    rintro l pre y Bx W ⟨⟨D, hmap, hks⟩, hb1, hb2, hb3, hB, hs4⟩ hbx hBx hlt
    obtain ⟨q1, q2, q3⟩ := hb1.facts
    obtain ⟨q4, q5, q6⟩ := hb3.facts
    obtain ⟨q7, q8, q9⟩ := hbx.facts
    obtain ⟨k, hk⟩ : ∃ k, k = v.o + y.1.1 * v.d + y.1.2.1 * v.u := ⟨_, rfl⟩
    have hkb : k ≤ 262144 := by
      rcases hv with rfl | ⟨⟨_, _, _, _, h4⟩, h5, _, _⟩
      · exact absurd y.2.1 (Nat.not_lt_zero _)
      · have := h5 y.1.1 y.1.2.1 y.2.1 y.2.2.1
        omega
    have HPL := Lib.hid (fun W' => place_any (some ⟨st, 0, none⟩) v.r v.c v.o v.d v.u y.1.1 y.1.2.1 W' (by omega))
    rw [← hk] at HPL
    have HK := Lib.hid hk
    clear hk
    gi_wp2
    refine wpIn_region_nqb 8 (PlF k) (by kernel_rfl) (by kernel_rfl) ?_
    intro C R hc hb' hb2 hd hR
    simp only [List.take_succ_cons, List.take_zero]
    repeat (
      first
        | (refine nqW_plain (fun K hK => ?_))
        | (refine nqW_step (fun K hK => ?_); go_simp)
      first
        | (refine nq_move rfl ?_; go_simp; refine hK _ ?_; clear hK K)
        | (refine nq_assign rfl ?_; go_simp; refine hK _ ?_; clear hK K)
        | (refine nq_flt rfl rfl rfl rfl hd ?_; intro _; go_frame; refine hK _ ?_; clear hK K)
        | (refine nq_in ?_; intro w' hw'; go_simp; refine ⟨?_, ?_⟩; (next => (intro w2 hw2; go_at_call 109; exact (HPL.out w2).mono (fun e w3 ⟨he, hb⟩ => ⟨_, he, rfl, hb2 _ _ hw2 hb⟩))); intro v hv; obtain rfl := hv; go_simp; refine hK _ ?_; clear hK K hw' w')
        | (refine nq_same ?_; intro w' hw'; go_simp; (try go_bits); refine hK _ ?_; clear hK K hw' w')
        | (refine nq_same ?_; intro w' hw'; go_simp; rw [if_pos (by omega)]; go_simp; (try go_bits); refine hK _ ?_; clear hK K hw' w')
        | (go_simp; refine hK _ ?_; clear hK K))
    refine nqW_nil (hR _ ?_)
    clear hc hb' hb2 hd hR
    intro w' hw'
    simp only [List.drop]
    have hmap' := ownsMap_below hmap hw'
    have hBW : Below w.heap.size w w' := below_step hB hB.size hw'
    refine wpListIn_mapUpdate_own _ rfl _ _ _ 117 rfl 118 4 keyed1 Try.underlying117 _ (w.heap.size + 1 + 1) pre.length D rfl hmap' (by unfold maxLen; omega) _ _ (keyL k) rfl rfl (keyOf1 k (by omega)) (.lit (.bool true)) [] (plainElem_bool Try.underlying4 true) ?_
    intro w3 hown3 hgrow3
    have hkey := hks.put (k := k) (by omega) hown3.isMap
    gi_wp2
    have hr3 : ∀ r, some (w.heap.size + 1 + 1) = some r → w.heap.size ≤ r := fun r e => by cases e; omega
    have hB3 : Below w.heap.size w w3 := hBW.grown hgrow3 hBW.size hr3
    have hne : ∀ n, n ≠ w.heap.size + 1 + 1 → ∀ r, some (w.heap.size + 1 + 1) = some r → n ≠ r := fun n h r e => by cases e; exact h
    refine ⟨(keeps_below hw' _).trans (KeepsFrom.of_grownBy hgrow3 (fun j e => by cases e; omega)), fun hR => ⟨(hR.1.below hw').grown hgrow3 (hne _ (by omega)), hv.below hB3⟩, ⟨D.put (keyL k) (.lit (.bool true)), ?_, ?_⟩, (hb1.below hw').grown hgrow3 (hne _ (by omega)), (hb2.below hw').grown hgrow3 (hne _ (by omega)), (hb3.below hw').grown hgrow3 (hne _ (by omega)), hB3, Nat.le_trans hs4 (Nat.le_trans hw'.size hgrow3.size)⟩
    · rw [List.length_append]; exact hown3
    · have e1 : v.places ((pre ++ [y]).map velP) = v.places (pre.map velP) ++ [k] := by
        unfold Vw.places
        rw [List.map_append, List.map_append, HK.out]
        rfl
      rw [e1]; exact hkey
  case done =>
    rintro D0 ys W hD hys ⟨⟨D, hmap, hks⟩, hb1, hb2, hb3, hB, hs4⟩ hK
    rw [hys] at hks
    have HKS := Lib.hid hks
    clear hks
    obtain ⟨q1, q2, q3⟩ := hb2.facts
    gi_wp2
    refine wpIn_label ?_
    go_simp
    gi_wp2_with (refine ⟨trivial, ?_⟩; gi_at_call 79; refine (callsIn_wide.2 (All_any _ _ _ _ _ _ _)).mono ?_; rintro e w1 ⟨rfl, rfl⟩)
    have hBW : Below W.heap.size W ((W.alloc (.cells #[.bool false] 4)).alloc (.cells #[.pointer (some ⟨st, 0, none⟩), .int .i64 o.r, .int .i64 o.c, .int .i64 o.o, .int .i64 o.d, .int .i64 o.u] 29)) := ((Below.refl _ _).alloc (Nat.le_refl _) _).alloc (by simp) _
    have hB2 : Below w.heap.size w ((W.alloc (.cells #[.bool false] 4)).alloc (.cells #[.pointer (some ⟨st, 0, none⟩), .int .i64 o.r, .int .i64 o.c, .int .i64 o.o, .int .i64 o.d, .int .i64 o.u] 29)) := below_step hB hB.size hBW
    have u1 := hb2.below hBW
    have u2 := hb3.below hBW
    have u3 : Box ((W.alloc (.cells #[.bool false] 4)).alloc (.cells #[.pointer (some ⟨st, 0, none⟩), .int .i64 o.r, .int .i64 o.c, .int .i64 o.o, .int .i64 o.d, .int .i64 o.u] 29)) W.heap.size [.bool false] := (Box.newA _ [_] _ rfl).alloc _
    have u4 : Box ((W.alloc (.cells #[.bool false] 4)).alloc (.cells #[.pointer (some ⟨st, 0, none⟩), .int .i64 o.r, .int .i64 o.c, .int .i64 o.o, .int .i64 o.d, .int .i64 o.u] 29)) (W.heap.size + 1) [.pointer (some ⟨st, 0, none⟩), .int .i64 o.r, .int .i64 o.c, .int .i64 o.o, .int .i64 o.d, .int .i64 o.u] := Box.newA _ _ _ (by simp)
    have hmap2 := ownsMap_below hmap hBW
    have hDl : D0 < W.heap.size := (Array.getElem?_eq_some_iff.1 hK).1
    have hK2 : ((W.alloc (.cells #[.bool false] 4)).alloc (.cells #[.pointer (some ⟨st, 0, none⟩), .int .i64 o.r, .int .i64 o.c, .int .i64 o.o, .int .i64 o.d, .int .i64 o.u] 29)).heap[D0]? = some (.deferred (some [])) := by rw [hBW.block D0 hDl]; exact hK
    have hsz2 : ((W.alloc (.cells #[.bool false] 4)).alloc (.cells #[.pointer (some ⟨st, 0, none⟩), .int .i64 o.r, .int .i64 o.c, .int .i64 o.o, .int .i64 o.d, .int .i64 o.u] 29)).heap.size = W.heap.size + 2 := by simp
    have hml := hmap.lt
    clear q1 q2 q3
    generalize ((W.alloc (.cells #[.bool false] 4)).alloc (.cells #[.pointer (some ⟨st, 0, none⟩), .int .i64 o.r, .int .i64 o.c, .int .i64 o.o, .int .i64 o.d, .int .i64 o.u] 29)) = W2 at *
    refine view_loop (v := o) (sb := sb) 9 (by decide) (AllRd.R o sb (W.heap.size + 1) ws) hsmo.1 hsmo.2 ⟨by rw [HP.out.2]; exact u4, ho.below hB2⟩ (fun _ _ h hs => h.still hs) rfl rfl
      (fun pre W' => ((o.places (pre.map velP)).any fun k => decide (k ∈ v.places (plcs v.c (v.r * v.c)))) = false ∧ W'.ownsMap (H := Unit) Try.prog 118 (plainElem Try.prog 4) (w.heap.size + 1 + 1) ys.length D ∧ Box W' (w.heap.size + 1) [.pointer (some ⟨st, 0, none⟩), .int .i64 o.r, .int .i64 o.c, .int .i64 o.o, .int .i64 o.d, .int .i64 o.u] ∧ Box W' (w.heap.size + 1 + 1 + 1) [.map (some (w.heap.size + 1 + 1))] ∧ Box W' W.heap.size [.bool false] ∧ W'.heap[D0]? = some (.deferred (some [])) ∧ Below w.heap.size w W' ∧ W2.heap.size ≤ W'.heap.size)
      (fun c pre W' => c = .exit 2 ∧ ((o.places (pre.map velP)).any fun k => decide (k ∈ v.places (plcs v.c (v.r * v.c)))) = true ∧ Box W' W.heap.size [.bool true] ∧ W'.heap[D0]? = some (.deferred (some [])) ∧ Below w.heap.size w W' ∧ W2.heap.size ≤ W'.heap.size)
      (fun _ _ h => h.2.2.2.2.2.2.2) (fun _ _ _ h hs => ⟨h.1, ownsMap_still h.2.1 hs (by omega), h.2.2.1.still hs, h.2.2.2.1.still hs, h.2.2.2.2.1.still hs, by rw [hs.1.block D0 (by omega)]; exact h.2.2.2.2.2.1, below_still h.2.2.2.2.2.2.1 hs (by have := hB2.size; omega), Nat.le_trans h.2.2.2.2.2.2.2 hs.1.size⟩)
      (fun _ _ _ h => h.2.2.2.2.2) (fun _ _ _ _ h hs => ⟨h.1, h.2.1, h.2.2.1.still hs, by rw [hs.1.block D0 (by omega)]; exact h.2.2.2.1, below_still h.2.2.2.2.1 hs (by have := hB2.size; omega), Nat.le_trans h.2.2.2.2.2 hs.1.size⟩)
      ⟨rfl, hmap2, u1, u2, u3, hK2, hB2, Nat.le_refl _⟩
      (fun T x Bx => (((T.setIfInBounds 34 (.agg #[.int .i64 (x.1.1 : Int), .int .i64 (x.1.2.1 : Int)])).setIfInBounds 35 (.float .f64 x.1.2.2)).setIfInBounds 8 (.pointer (some ⟨Bx, 0, none⟩)))) ?assign2 ?body2 ?done2 ?stop2
    case assign2 =>
      intro l x W K hK
      unfold velV
      gi_wp2
      exact hK
    case body2 =>
      rintro l pre y Bx X ⟨hany, hmp, c1, c2, c3, c4, c5, c6⟩ hbx hBx hlt
      obtain ⟨q1, q2, q3⟩ := c1.facts
      obtain ⟨q4, q5, q6⟩ := c2.facts
      obtain ⟨q7, q8, q9⟩ := hbx.facts
      obtain ⟨k, hk⟩ : ∃ k, k = o.o + y.1.1 * o.d + y.1.2.1 * o.u := ⟨_, rfl⟩
      have hkb : k ≤ 262144 := by
        rcases ho with rfl | ⟨⟨_, _, _, _, h4⟩, h5, _, _⟩
        · exact absurd y.2.1 (Nat.not_lt_zero _)
        · have := h5 y.1.1 y.1.2.1 y.2.1 y.2.2.1
          omega
      have HPL := Lib.hid (fun W' => place_any (some ⟨st, 0, none⟩) o.r o.c o.o o.d o.u y.1.1 y.1.2.1 W' (by omega))
      rw [← hk] at HPL
      have HA : Hid (((o.places ((pre ++ [y]).map velP)).any fun k => decide (k ∈ v.places (plcs v.c (v.r * v.c)))) = decide (k ∈ v.places (plcs v.c (v.r * v.c)))) := by
        unfold Hid Vw.places
        unfold Vw.places at hany
        rw [List.map_append, List.map_append, List.any_append, hany, hk]
        simp [velP]
      clear hk hany
      gi_wp2
      refine wpIn_region_nqb 8 (PlF k) (by kernel_rfl) (by kernel_rfl) ?_
      intro C R hc hb' hb2 hd hR
      simp only [List.take_succ_cons, List.take_zero]
      repeat (
        first
          | (refine nqW_plain (fun K hK => ?_))
          | (refine nqW_step (fun K hK => ?_); go_simp)
        first
          | (refine nq_move rfl ?_; go_simp; refine hK _ ?_; clear hK K)
          | (refine nq_assign rfl ?_; go_simp; refine hK _ ?_; clear hK K)
          | (refine nq_flt rfl rfl rfl rfl hd ?_; intro _; go_frame; refine hK _ ?_; clear hK K)
          | (refine nq_in ?_; intro w' hw'; go_simp; refine ⟨?_, ?_⟩; (next => (intro w2 hw2; go_at_call 109; exact (HPL.out w2).mono (fun e w3 ⟨he, hb⟩ => ⟨_, he, rfl, hb2 _ _ hw2 hb⟩))); intro v hv; obtain rfl := hv; go_simp; refine hK _ ?_; clear hK K hw' w')
          | (refine nq_same ?_; intro w' hw'; go_simp; (try go_bits); refine hK _ ?_; clear hK K hw' w')
          | (refine nq_same ?_; intro w' hw'; go_simp; rw [if_pos (by omega)]; go_simp; (try go_bits); refine hK _ ?_; clear hK K hw' w')
          | (go_simp; refine hK _ ?_; clear hK K))
      refine nqW_nil (hR _ ?_)
      clear hc hb' hb2 hd hR
      intro w' hw'
      simp only [List.drop]
      have hmap' := ownsMap_below hmp hw'
      have hBX : Below w.heap.size w w' := below_step c5 c5.size hw'
      have c4' : w'.heap[D0]? = some (.deferred (some [])) := by rw [hw'.block D0 (Array.getElem?_eq_some_iff.1 c4).1]; exact c4
      have c3' := c3.below hw'
      refine wpListIn_lookup_bool rfl _ _ rfl (w.heap.size + 1 + 1) ys.length D rfl hmap' _ (keyL k) rfl (keyOf1 k (by omega)) _ (HKS.out.2 k (by omega)) ?_
      clear q1 q2 q3 q4 q5 q6 q7 q8 q9
      obtain ⟨q1, q2, q3⟩ := c3'.facts
      cases hin : decide (k ∈ v.places (plcs v.c (v.r * v.c)))
      · gi_wp2
        exact ⟨keeps_below hw' _, fun hR => ⟨hR.1.below hw', ho.below hBX⟩, by rw [HA.out, hin], hmap', c1.below hw', c2.below hw', c3', c4', hBX, Nat.le_trans c6 hw'.size⟩
      · gi_wp2
        refine ⟨(keeps_below hw' _).trans ((KeepsOthers.setCell _ _ _).from _), rfl, by rw [HA.out, hin], c3'.set 0 _, ?_, below_set hBX (by have := hB.size; omega) _ _, ?_⟩
        · rw [Below.heap_setCell _ _ _ _ (by show D0 ≠ W.heap.size; omega)]; exact c4'
        · have := Nat.le_trans c6 hw'.size
          simpa using this
    case done2 =>
      rintro D1 zs X hD1 hzs ⟨hany, hmp, c1, c2, c3, c4, c5, c6⟩ hK1
      rw [hzs] at hany
      have HA := Lib.hid hany
      clear hany
      obtain ⟨q1, q2, q3⟩ := c3.facts
      gi_wp2
      have hst : StillC W2.heap.size _ _ := StillC.put (o' := .deferred none) hD1 hK1 rfl
      have c4' : (X.putObj D1 (.deferred none)).heap[D0]? = some (.deferred (some [])) := by rw [hst.1.block D0 (by omega)]; exact c4
      have hst2 : StillC W1.heap.size _ _ := StillC.put (o' := .deferred none) hD c4' rfl
      have hBf : Below w.heap.size w ((X.putObj D1 (.deferred none)).putObj D0 (.deferred none)) := below_still (below_still c5 hst (by have := hB2.size; omega)) hst2 (by omega)
      refine noGoto_ret ?_
      refine ⟨by simp, .inl ⟨_, _, rfl, run_takeDeferred hK1, ?_⟩⟩
      refine ⟨by simp, .inl ⟨_, _, rfl, run_takeDeferred c4', ?_⟩⟩
      exact ⟨_, results_tmp rfl _ _ _, by rw [HA.out]; rfl, hBf⟩
    case stop2 =>
      rintro D1 c pre X hD1 hpre ⟨rfl, hany, c3, c4, c5, c6⟩ hK1
      obtain ⟨q1, q2, q3⟩ := c3.facts
      gi_wp2
      have hst : StillC W2.heap.size _ _ := StillC.put (o' := .deferred none) hD1 hK1 rfl
      have c4' : (X.putObj D1 (.deferred none)).heap[D0]? = some (.deferred (some [])) := by rw [hst.1.block D0 (by omega)]; exact c4
      have hst2 : StillC W1.heap.size _ _ := StillC.put (o' := .deferred none) hD c4' rfl
      have hBf : Below w.heap.size w ((X.putObj D1 (.deferred none)).putObj D0 (.deferred none)) := below_still (below_still c5 hst (by have := hB2.size; omega)) hst2 (by omega)
      refine noGoto_ret ?_
      refine ⟨by simp, .inl ⟨_, _, rfl, run_takeDeferred hK1, ?_⟩⟩
      refine ⟨by simp, .inl ⟨_, _, rfl, run_takeDeferred c4', ?_⟩⟩
      refine ⟨_, results_tmp rfl _ _ _, ?_, hBf⟩
      obtain ⟨rest, hrest⟩ := hpre
      have e : ((o.places (plcs o.c (o.r * o.c))).any fun k => decide (k ∈ v.places (plcs v.c (v.r * v.c)))) = true := by
        rw [← hrest]
        unfold Vw.places at hany ⊢
        rw [List.map_append, List.any_append, hany]
        rfl
      rw [e]; rfl
  case stop =>
    rintro D c pre W _ _ h _
    exact h.elim
end Go.Proofs.Ytbcdpibcieadlaa
