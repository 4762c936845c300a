/- Layer 8: what KernelsSums holds on to (printed by gen_kr.py). No condition but on lengths. -/
import Derived.Test.YtbcdpibcieadlaaKqZ
import Derived.Test.YtbcdpibcieadlaaVw7Z
import Derived.Test.YtbcdpibcieadlaaZz8
import Derived.Laws.AppendOwn
namespace Go.Proofs.Ytbcdpibcieadlaa
open Go Go.RowKit
set_option maxRecDepth 1000000

theorem mayM_nat {r c : Int} {n : Nat} (h : mayM r c n = true) : ∃ r' c' : Nat, r = r' ∧ c = c' ∧ r' ≤ 512 ∧ c' ≤ 512 ∧ n = r' * c' := by
  unfold mayM okSz at h
  simp only [Bool.and_eq_true, decide_eq_true_eq] at h
  obtain ⟨⟨⟨h1, h2⟩, h3, h4⟩, h5⟩ := h
  obtain ⟨r', rfl⟩ := Int.eq_ofNat_of_zero_le h1
  obtain ⟨c', rfl⟩ := Int.eq_ofNat_of_zero_le h3
  exact ⟨r', c', rfl, rfl, by omega, by omega, by exact_mod_cast h5⟩
/-- What a view of a matrix is. -/
structure OfP (v : Vw) (st r c : Nat) (zs ws : List Nat) : Prop where
  ep : v.p = some ⟨st, 0, none⟩
  er : v.r = r
  ec : v.c = c
  words : Words ws
  get : ∀ i j : Nat, i < r → j < c → v.get ws i j = zs.getD (i * c + j) 0
  ok : ∀ W sb, Sto W (some ⟨st, 0, none⟩) sb ws → v.Ok W sb ws
theorem of8_any (t : Bool) (r c : Nat) (a : Option Addr) (zs : List Nat) (cap : Nat) (w : World) (hr : r ≤ 512) (hc : c ≤ 512) (hn : zs.length = r * c) (hZ : Cel w a zs) (hW : Words zs) :
    Calls Try.prog 17 #[.agg #[.int .i64 r, .int .i64 c, .slice a zs.length cap], .bool t] w fun e w' => ∃ v st sb ws, e = .returned v.val ∧ w.heap.size ≤ st ∧ w.heap.size ≤ sb ∧ Sto w' (some ⟨st, 0, none⟩) sb ws ∧ OfP v st r c zs ws ∧ Below w.heap.size w w' := by
  refine (of_any t r c a zs cap w hr hc hn hZ).mono ?_
  rintro e w' ⟨st, sb, rfl, k1, k2, hS, hb⟩
  exact ⟨ofV t st r c, st, sb, ofL t r c zs, rfl, k1, k2, hS, ⟨ofV_p _ _ _ _, ofV_r _ _ _ _, ofV_c _ _ _ _, ofL_words t r c hW, fun i j hi hj => ofV_at t st r c zs hi hj, fun W sb h => ofV_ok h hr hc hn⟩, hb⟩
structure SuW (w W : World) (b7 b8 : Nat) (v u : Vw) (sbx sby : Nat) (wsx wsy : List Nat) (X Y : List Value) : Prop where
  x7 : Box W b7 [.pointer v.p, .int .i64 v.r, .int .i64 v.c, .int .i64 v.o, .int .i64 v.d, .int .i64 v.u]
  x8 : Box W b8 [.pointer u.p, .int .i64 u.r, .int .i64 u.c, .int .i64 u.o, .int .i64 u.d, .int .i64 u.u]
  ox : v.Ok W sbx wsx
  oy : u.Ok W sby wsy
  x0 : Box W w.heap.size X
  x1 : Box W (w.heap.size + 1) Y
  below : Below w.heap.size w W
theorem SuW.step {w W W' : World} {b7 b8 : Nat} {v u : Vw} {sbx sby : Nat} {wsx wsy : List Nat} {X Y : List Value} (h : SuW w W b7 b8 v u sbx sby wsx wsy X Y) (hb : Below W.heap.size W W') : SuW w W' b7 b8 v u sbx sby wsx wsy X Y :=
  ⟨h.x7.below hb, h.x8.below hb, h.ox.below hb, h.oy.below hb, h.x0.below hb, h.x1.below hb, below_step h.below h.below.size hb⟩
def vec8 (r c : Nat) : Bool := decide (r = 1) || decide (c = 1) || (decide (r = 0) && decide (c = 0))
theorem vecM_nat (r c : Nat) : vecM r c = vec8 r c := by
  unfold vecM vec8
  rw [Bool.eq_iff_iff]; simp; omega
theorem OfP.vec {v : Vw} {st r c : Nat} {zs ws : List Nat} (h : OfP v st r c zs ws) : vecV v.p v.r v.c = vec8 r c := by
  rw [h.ep, h.er, h.ec]; rfl
theorem OfP.len {v : Vw} {st r c : Nat} {zs ws : List Nat} (h : OfP v st r c zs ws) : lenV v.p v.r v.c = if vec8 r c then r * c else 0 := by
  unfold lenV; rw [h.vec, h.er, h.ec]
theorem OfP.at {v : Vw} {st r c : Nat} {zs ws : List Nat} (h : OfP v st r c zs ws) (hv : vec8 r c = true) (k : Nat) (hk : k < r * c) : v.getVec ws k = atL zs k := by
  unfold Vw.getVec
  rw [h.vec, hv, if_pos rfl]
  unfold Vw.al atL
  rw [h.er]
  unfold vec8 at hv
  simp only [Bool.or_eq_true, Bool.and_eq_true, decide_eq_true_eq] at hv
  by_cases h1 : r = 1
  · subst h1
    have := h.get 0 k (by omega) (by omega)
    rw [Nat.zero_mul, Nat.zero_add] at this
    simpa using this
  · rcases hv with (h2 | h2) | h2
    · exact absurd h2 h1
    · subst h2
      have := h.get k 0 (by omega) (by omega)
      rw [Nat.mul_one, Nat.add_zero] at this
      simpa [h1] using this
    · rw [h2.1] at hk; omega
theorem asumG_congr {x y : Nat → Nat} : ∀ n, (∀ k, k < n → x k = y k) → asumG x n = asumG y n
  | 0, _ => rfl
  | n + 1, h => by rw [asumG, asumG, asumG_congr n (fun k hk => h k (by omega)), h n (by omega)]
theorem amaxG_congr {x y : Nat → Nat} : ∀ n, (∀ k, k < n → x k = y k) → amaxG x n = amaxG y n
  | 0, _ => rfl
  | n + 1, h => by rw [amaxG, amaxG, amaxG_congr n (fun k hk => h k (by omega)), h n (by omega)]
theorem OfP.one {v : Vw} {st r c : Nat} {zs ws : List Nat} (h : OfP v st r c zs ws) : openE [v] (vecV v.p v.r v.c) = if vec8 r c then 0 else 8 := by
  unfold openE; rw [h.vec]; simp [h.ep]
theorem OfP.asum {v : Vw} {st r c : Nat} {zs ws : List Nat} (h : OfP v st r c zs ws) (hn : zs.length = r * c) : asumV v ws = if vec8 r c then asumG (atL zs) zs.length else 0 := by
  unfold asumV
  rw [h.one, h.len, hn]
  cases hv : vec8 r c
  · rfl
  · simp only [if_true]
    exact asumG_congr _ (fun k hk => h.at hv k hk)
theorem OfP.amax {v : Vw} {st r c : Nat} {zs ws : List Nat} (h : OfP v st r c zs ws) (hn : zs.length = r * c) (hv : vec8 r c = true) : amaxV v ws = amaxG (atL zs) zs.length := by
  unfold amaxV
  rw [h.len, hn, hv, if_pos rfl]
  exact amaxG_congr _ (fun k hk => h.at hv k hk)
theorem asumG_lt (x : Nat → Nat) : ∀ n, asumG x n < 18446744073709551616
  | 0 => by rw [asumG]; decide
  | n + 1 => fadd_lt _ _
theorem amaxG_lt (x : Nat → Nat) : ∀ n, (amaxG x n).2 < 18446744073709551616
  | 0 => by rw [amaxG]; decide
  | n + 1 => by
    rw [amaxG]
    split
    · show fabs _ < _; unfold fabs; omega
    · exact amaxG_lt x n
theorem f0eq : Value.float .f64 0 = Value.float .f64 (raw 0 0) := by rw [raw_of_not (by kernel_rfl)]
theorem float0 (s : Nat) (w : World) : Calls Try.prog 23 #[.float .f64 (raw 0 s), .float .f64 0] w fun e w' => e = .returned (.bool true) ∧ w = w' := by
  have h := float8_raw 0 s 0 (by decide) w
  rw [raw_of_not (v := 0) (by kernel_rfl) 0] at h
  exact h
def fit8 (r c r' c' n n' : Nat) : Bool := vec8 r c && (vec8 r' c' && decide (n = n'))
theorem OfP.two {v u : Vw} {st st' r c r' c' : Nat} {zs ws ys us : List Nat} (h : OfP v st r c zs ws) (h' : OfP u st' r' c' ys us) (hn : zs.length = r * c) (hn' : ys.length = r' * c') :
    openE [v, u] (fits2 v u) = if fit8 r c r' c' zs.length ys.length then 0 else 8 := by
  have e : fits2 v u = fit8 r c r' c' zs.length ys.length := by
    unfold fits2 fit8
    rw [h.vec, h'.vec, h.len, h'.len, hn, hn']
    cases vec8 r c
    · rfl
    · cases vec8 r' c'
      · rfl
      · simp only [Bool.true_and, if_true]
        rw [Bool.eq_iff_iff]; simp; omega
  unfold openE; rw [e]; simp [h.ep, h'.ep]
theorem OfP.dot {v u : Vw} {st st' r c r' c' : Nat} {zs ws ys us : List Nat} (h : OfP v st r c zs ws) (h' : OfP u st' r' c' ys us) (hn : zs.length = r * c) (hn' : ys.length = r' * c') :
    dotV v ws u us = if fit8 r c r' c' zs.length ys.length then sumG (atL zs) (atL ys) 0 zs.length else 0 := by
  unfold dotV
  rw [h.two h' hn hn']
  cases hf : fit8 r c r' c' zs.length ys.length
  · rfl
  · simp only [if_true]
    unfold fit8 at hf
    simp only [Bool.and_eq_true, decide_eq_true_eq] at hf
    rw [h.len, hf.1, if_pos rfl, ← hn]
    refine sumG_congr _ (fun k hk => ⟨?_, ?_⟩)
    · rw [Nat.zero_add]; exact h.at hf.1 k (by omega)
    · rw [Nat.zero_add]; exact h'.at hf.2.1 k (by omega)
end Go.Proofs.Ytbcdpibcieadlaa

/- A seat with views has the general declarations in their texts. No condition. -/

/- A block of floats, up to a NaN's bits, that is read and written; a slice of floats appended to nil. No condition but on lengths. -/
namespace Go.Proofs.Ytbcdpibcieadlaa
open Go Go.RowKit
set_option maxRecDepth 100000

/-- Block n holds the floats l, up to a NaN's bits, and perhaps more. -/
def Flb (W : World) (n : Nat) (l : List Nat) : Prop := ∃ cs : List Value, Box W n cs ∧ ∀ (i v : Nat), l[i]? = some v → ∃ s, cs[i]? = some (.float .f64 (raw v s))
section
variable {W W' : World} {n : Nat} {l : List Nat}
theorem Flb.lt (h : Flb W n l) : n < W.heap.size := by obtain ⟨cs, hb, _⟩ := h; exact hb.lt
theorem Flb.fls (h : Flb W n l) : Fls W (some ⟨n, 0, none⟩) l := fun _ => by
  obtain ⟨cs, hb, hc⟩ := h
  refine ⟨n, 0, rfl, hb.lt, fun i v hi => ?_⟩
  obtain ⟨s, hs⟩ := hc i v hi
  exact ⟨s, by rw [hb.cell, Nat.zero_add]; exact hs⟩
theorem Flb.frozen (h : Flb W n l) (i : Nat) : W.frozen? ⟨n, i, none⟩ = false := by obtain ⟨cs, hb, _⟩ := h; exact hb.frozen i
theorem Flb.at (h : Flb W n l) {i : Nat} (hi : i < l.length) : ∃ s, W.cell? ⟨n, i, none⟩ = some (.float .f64 (raw (l.getD i 0) s)) := by
  obtain ⟨cs, hb, hc⟩ := h
  have hv : l[i]? = some (l.getD i 0) := by rw [List.getD_eq_getElem?_getD, List.getElem?_eq_getElem hi]; rfl
  obtain ⟨s, hs⟩ := hc i _ hv
  exact ⟨s, by rw [hb.cell]; exact hs⟩
theorem Flb.set (h : Flb W n l) (j v s : Nat) : Flb (W.setCell ⟨n, j, none⟩ (.float .f64 (raw v s))) n (l.set j v) := by
  obtain ⟨cs, hb, hc⟩ := h
  refine ⟨_, hb.set j _, fun i u hi => ?_⟩
  by_cases hj : j = i
  · subst hj
    have hlt : j < l.length := by
      have := (List.getElem?_eq_some_iff.1 hi).1
      simpa using this
    rw [List.getElem?_set_self hlt] at hi
    simp only [Option.some.injEq] at hi
    subst hi
    have hv : l[j]? = some (l[j]) := List.getElem?_eq_getElem hlt
    obtain ⟨s', hs'⟩ := hc j _ hv
    exact ⟨s, by rw [List.getElem?_set_self (List.getElem?_eq_some_iff.1 hs').1]⟩
  · rw [List.getElem?_set_ne hj] at hi
    obtain ⟨s', hs'⟩ := hc i u hi
    exact ⟨s', by rw [List.getElem?_set_ne hj]; exact hs'⟩
theorem Flb.below (h : Flb W n l) (hb : Below W.heap.size W W') : Flb W' n l := by
  obtain ⟨cs, h1, hc⟩ := h
  exact ⟨cs, h1.below hb, hc⟩
theorem Flb.bel {s : Nat} (h : Flb W n l) (hs : n ≠ s) (hb : Bel W.heap.size s W W') : Flb W' n l := by
  obtain ⟨cs, h1, hc⟩ := h
  exact ⟨cs, h1.bel hs hb, hc⟩
theorem Flb.other (h : Flb W n l) {m : Nat} (hm : n ≠ m) (j : Nat) (u : Value) : Flb (W.setCell ⟨m, j, none⟩ u) n l :=
  h.bel hm ((Bel.refl _ _ W).set j u)
theorem Flb.ofBox {zs : List Nat} (h : Box W n (zs.map (Value.float .f64))) (hn : ∀ v ∈ zs, isnan v = false) : Flb W n zs :=
  ⟨_, h, fun i v hi => ⟨0, by rw [List.getElem?_map, hi, raw_of_not (hn v (List.mem_of_getElem? hi))]; rfl⟩⟩
end
/-- The words behind floats up to a NaN's bits. -/
theorem Fls.words {w : World} {a : Option Addr} {l : List Nat} (h : Fls w a l) : ∃ ws : List Nat, ws.length = l.length ∧ (∀ (i v : Nat), l[i]? = some v → ∃ s, ws[i]? = some (raw v s)) ∧ Cel w a ws := by
  by_cases hz : l = []
  · subst hz
    exact ⟨[], rfl, fun i v hi => by simp at hi, fun h0 => absurd rfl h0⟩
  · obtain ⟨b, off, e, hlt, hc⟩ := h hz
    refine ⟨(List.range l.length).map fun i => match w.cell? ⟨b, off + i, none⟩ with | some (.float .f64 x) => x | _ => 0, by simp, fun i v hi => ?_, fun _ => ⟨b, off, e, hlt, fun i v hi => ?_⟩⟩
    · obtain ⟨s, hs⟩ := hc i v hi
      have hil := (List.getElem?_eq_some_iff.1 hi).1
      exact ⟨s, by rw [List.getElem?_map, List.getElem?_range hil]; simp only [Option.map_some, hs]⟩
    · have hil : i < l.length := by
        have := (List.getElem?_eq_some_iff.1 hi).1
        simpa using this
      obtain ⟨s, hs⟩ := hc i l[i] (List.getElem?_eq_getElem hil)
      rw [List.getElem?_map, List.getElem?_range hil] at hi
      simp only [Option.map_some, hs, Option.some.injEq] at hi
      rw [hs, hi]
theorem below_of_grownA {w w' : World} (h : w.grownBy w' none) : Below w.heap.size w w' := ⟨h.os, h.tape, h.output, h.size, fun k hk => h.block k hk (by simp)⟩
theorem run_append_fls (w : World) (ty : TypeId) (a : Option Addr) (l : List Nat) (cap : Nat) (hZ : Fls w a l) (hl : l.length ≤ 262144) (h0 : l ≠ []) :
    ∃ g c' w', (Builtin.append_ #[22, 22] ty #[.slice none 0 0, .slice a l.length cap]).run Try.prog w = .ok (.slice (some ⟨g, 0, none⟩) l.length c') w' ∧ w.heap.size ≤ g ∧ Flb w' g l ∧ Below w.heap.size w w' := by
  obtain ⟨i0, hi, hz0, hz1, hz2⟩ := info_parts info_f64
  obtain ⟨ws, hwl, hws, hC⟩ := hZ.words
  have hn : 0 < l.length := List.length_pos_iff.2 h0
  have hw0 : ws ≠ [] := fun h => by rw [h] at hwl; simp at hwl; omega
  obtain ⟨b, off, e, _, hc⟩ := hC hw0
  subst e
  obtain ⟨v', w', hr, h2, h3, _⟩ := run_append_own (P := Try.prog) w w.heap.size 22 ty 31 i0 (.float .f64 0) 1 8 Try.underlying22 hi hz0 hz1 hz2 rfl (by decide) (.slice none 0 0) 0 [] (World.ownsRow_nil _ _ _ _) ⟨b, off, none⟩ l.length cap (ws.map (Value.float .f64)) (by rw [List.length_map, hwl, Nat.mul_one])
    (fun j u hu => by
      simp only [List.getElem?_map, Option.map_eq_some_iff] at hu
      obtain ⟨x, hx, rfl⟩ := hu
      have h2 : (⟨b, off, none⟩ : Addr).add j = ⟨b, off + j, none⟩ := by unfold Addr.add; split <;> simp_all
      rw [h2]
      exact hc j x hx)
    (by simp [Value.oneCell']) (by unfold maxLen; omega) (by omega) (Nat.le_refl _)
  rw [Nat.zero_add, List.nil_append] at h2
  rcases h2.2 with ⟨_, h4⟩ | ⟨g, c', cur, hv, hb, hg, _, _, _, htk⟩
  · omega
  · subst hv
    refine ⟨g, c', w', hr, hb, ⟨cur.toList, ⟨31, by rw [Array.toArray_toList]; exact hg⟩, fun i v hi => ?_⟩, below_of_grownA h3⟩
    obtain ⟨s, hs⟩ := hws i v hi
    have hil := (List.getElem?_eq_some_iff.1 hi).1
    refine ⟨s, ?_⟩
    have h5 : (cur.toList.take (l.length * 1))[i]? = some (.float .f64 (raw v s)) := by rw [htk, List.getElem?_map, hs]; rfl
    rw [List.getElem?_take_of_lt (by omega)] at h5
    exact h5
theorem wpList_append_fls {w : World} {ops : Array Oper} {rest : List Oper} {o : Oper} {a : Act} {Q : Exit → Act → World → Prop} (hgd : o.guard = none) (s x : Operand)
    (ho : o.op = .call { callee := .builtin .append, args := #[s, x], argTypes := #[22, 22] })
    (ad : Option Addr) (l : List Nat) (cap : Nat) (hs : a.eval s = .slice none 0 0) (hx : a.eval x = .slice ad l.length cap) (hZ : Fls w ad l) (hl : l.length ≤ 262144) (h0 : l ≠ [])
    (h : ∀ g c' w', w.heap.size ≤ g → Flb w' g l → Below w.heap.size w w' → wpList Try.prog ops Q rest (a.put o.dst (.slice (some ⟨g, 0, none⟩) l.length c')) w') : wpList Try.prog ops Q (o :: rest) a w :=
  wpList_plain hgd fun _ hK => by
    obtain ⟨g, c', w', hr, h1, h2, h3⟩ := run_append_fls w o.type ad l cap hZ hl h0
    unfold Oper.wp execOp
    simp only [ho, resolve, invoke, builtin, Sem.run_bind, Sem.run_pure, Result.andThen_ok, List.map_toArray, List.map_cons, List.map_nil, hs, hx, hr]
    exact hK _ _ (h g c' w' h1 h2 h3)
end Go.Proofs.Ytbcdpibcieadlaa

/- Slices of a call's own that hold floats up to a NaN's bits, and what is appended to them. No condition but on lengths. -/
namespace Go.Proofs.Ytbcdpibcieadlaa
open Go Go.RowKit
set_option maxRecDepth 100000

/-- v is a slice of the call's own that holds the floats l, up to a NaN's bits. -/
def OwnF (W : World) (B : Nat) (v : Value) (l : List Nat) : Prop := ∃ ws : List Nat, ws.length = l.length ∧ (∀ (i u : Nat), l[i]? = some u → ∃ s, ws[i]? = some (raw u s)) ∧ W.ownsRow B 31 1 v l.length (ws.map (Value.float .f64))
/-- The floats of a slice, in block b; or there are none. -/
def FS (W : World) (a : Option Addr) (b : Nat) (l : List Nat) : Prop := l = [] ∨ (a = some ⟨b, 0, none⟩ ∧ Flb W b l)
section
variable {W W' : World} {B b : Nat} {a : Option Addr} {v : Value} {l : List Nat}
theorem OwnF.fs (h : OwnF W B v l) : ∃ a b cap, v = .slice a l.length cap ∧ l.length ≤ cap ∧ cap ≤ maxLen ∧ B ≤ b ∧ FS W a b l ∧ (l ≠ [] → b < W.heap.size) := by
  obtain ⟨ws, h1, h2, h3, h4⟩ := h
  rcases h4 with ⟨rfl, h0⟩ | ⟨g, cap, cur, rfl, hb, hg, hn, hm, hs, ht⟩
  · exact ⟨none, B, 0, by rw [h0], by omega, by unfold maxLen; omega, Nat.le_refl _, .inl (List.eq_nil_of_length_eq_zero h0), fun hz => absurd (List.eq_nil_of_length_eq_zero h0) hz⟩
  · refine ⟨_, g, cap, rfl, hn, hm, hb, .inr ⟨rfl, cur.toList, ⟨31, by rw [Array.toArray_toList]; exact hg⟩, fun i u hi => ?_⟩, fun _ => (Array.getElem?_eq_some_iff.1 hg).1⟩
    obtain ⟨s, hs'⟩ := h2 i u hi
    have hil := (List.getElem?_eq_some_iff.1 hi).1
    refine ⟨s, ?_⟩
    have h5 : (cur.toList.take (l.length * 1))[i]? = some (.float .f64 (raw u s)) := by rw [ht, List.getElem?_map, hs']; rfl
    rw [List.getElem?_take_of_lt (by omega)] at h5
    exact h5
theorem OwnF.below (h : OwnF W B v l) (hb : Below W.heap.size W W') : OwnF W' B v l := by
  obtain ⟨ws, h1, h2, h3⟩ := h
  exact ⟨ws, h1, h2, h3.kept (grown_of_below hb) (by rcases h3.2 with ⟨rfl, _⟩ | ⟨g, cap, cur, rfl, _⟩; exact .inl rfl; exact .inr (by simp [Value.ownBlock]))⟩
theorem OwnF.nil (W : World) (B : Nat) : OwnF W B (.slice none 0 0) [] := ⟨[], rfl, fun i u hi => by simp at hi, World.ownsRow_nil _ _ _ _⟩
theorem OwnF.fls (h : OwnF W B v l) : ∃ a cap, v = .slice a l.length cap ∧ Fls W a l := by
  obtain ⟨a, b, cap, hv, _, _, _, h0 | ⟨rfl, hF⟩, _⟩ := h.fs
  · subst h0; exact ⟨a, cap, hv, fun hz => absurd rfl hz⟩
  · exact ⟨_, cap, hv, hF.fls⟩
theorem FS.fls (h : FS W a b l) : Fls W a l := by
  rcases h with h0 | ⟨rfl, hF⟩
  · subst h0; exact fun hz => absurd rfl hz
  · exact hF.fls
theorem FS.flb (h : FS W a b l) (h0 : 0 < l.length) : a = some ⟨b, 0, none⟩ ∧ Flb W b l := by
  rcases h with rfl | h
  · exact absurd h0 (by simp)
  · exact h
theorem FS.below (h : FS W a b l) (hb : Below W.heap.size W W') : FS W' a b l := h.imp id (fun ⟨h1, h2⟩ => ⟨h1, h2.below hb⟩)
end
theorem run_append_ownF (w : World) (ty : TypeId) (B : Nat) (sv : Value) (l1 : List Nat) (hs : OwnF w B sv l1) (ad : Addr) (l2 : List Nat) (cap : Nat) (hZ : Fls w (some ad) l2) (hl : l1.length + l2.length ≤ 262144) (hB : B ≤ w.heap.size) :
    ∃ v' w', (Builtin.append_ #[22, 22] ty #[sv, .slice (some ad) l2.length cap]).run Try.prog w = .ok v' w' ∧ OwnF w' B v' (l1 ++ l2) ∧ Below B w w' := by
  obtain ⟨i0, hi, hz0, hz1, hz2⟩ := info_parts info_f64
  obtain ⟨ws, hwl, hws, hC⟩ := hZ.words
  obtain ⟨us, hul, hus, hO⟩ := hs
  obtain ⟨v', w', hr, h2, h3, _⟩ := run_append_own (P := Try.prog) w B 22 ty 31 i0 (.float .f64 0) 1 8 Try.underlying22 hi hz0 hz1 hz2 rfl (by decide) sv l1.length (us.map (Value.float .f64)) hO ad l2.length cap (ws.map (Value.float .f64)) (by rw [List.length_map, hwl, Nat.mul_one])
    (fun j u hu => by
      simp only [List.getElem?_map, Option.map_eq_some_iff] at hu
      obtain ⟨x, hx, rfl⟩ := hu
      have hw0 : ws ≠ [] := fun h => by rw [h] at hx; simp at hx
      obtain ⟨b, off, e, _, hc⟩ := hC hw0
      obtain rfl : ad = ⟨b, off, none⟩ := by simpa using e
      have h2 : (⟨b, off, none⟩ : Addr).add j = ⟨b, off + j, none⟩ := by unfold Addr.add; split <;> simp_all
      rw [h2]
      exact hc j x hx)
    (by simp [Value.oneCell']) (by unfold maxLen; omega) (by omega) hB
  refine ⟨v', w', hr, ⟨us ++ ws, by rw [List.length_append, List.length_append, hul, hwl], fun i u hi => ?_, by rw [List.length_append, List.map_append]; exact h2⟩,
    ⟨h3.os, h3.tape, h3.output, h3.size, fun k hk => h3.block k (Nat.lt_of_lt_of_le hk hB) (fun e => by have := (hO.lt k e.symm).1; omega)⟩⟩
  by_cases hlt : i < l1.length
  · rw [List.getElem?_append_left hlt] at hi
    obtain ⟨s, hs⟩ := hus i u hi
    exact ⟨s, by rw [List.getElem?_append_left (by omega)]; exact hs⟩
  · rw [List.getElem?_append_right (by omega)] at hi
    obtain ⟨s, hs⟩ := hws _ u hi
    exact ⟨s, by rw [List.getElem?_append_right (by omega), hul]; exact hs⟩
theorem run_append_anyF (w : World) (ty : TypeId) (B : Nat) (sv : Value) (l1 : List Nat) (hs : OwnF w B sv l1) (xa : Option Addr) (l2 : List Nat) (cap : Nat) (hZ : Fls w xa l2) (hn : xa = none → l2 = [] ∧ cap = 0) (hl : l1.length + l2.length ≤ 262144) (hB : B ≤ w.heap.size) :
    ∃ v' w', (Builtin.append_ #[22, 22] ty #[sv, .slice xa l2.length cap]).run Try.prog w = .ok v' w' ∧ OwnF w' B v' (l1 ++ l2) ∧ Below B w w' := by
  cases xa with
  | some ad => exact run_append_ownF w ty B sv l1 hs ad l2 cap hZ hl hB
  | none =>
    obtain ⟨rfl, rfl⟩ := hn rfl
    obtain ⟨i0, hi, hz0, hz1, hz2⟩ := info_parts info_f64
    refine ⟨sv, w, ?_, by rw [List.append_nil]; exact hs, Below.refl _ _⟩
    obtain ⟨us, hul, hus, hO⟩ := hs
    exact run_append_owned_none (P := Try.prog) (w := w) B 22 ty 31 i0 1 Try.underlying22 hi sv _ _ hO
theorem wp_append_ownF {w : World} {o : Oper} {a : Act} {K : Act → World → Prop} {Q : Exit → Act → World → Prop} (s x : Operand)
    (ho : o.op = .call { callee := .builtin .append, args := #[s, x], argTypes := #[22, 22] })
    (B : Nat) (sv : Value) (l1 : List Nat) (hs : a.eval s = sv) (hO : OwnF w B sv l1) (ad : Addr) (l2 : List Nat) (cap : Nat) (hx : a.eval x = .slice (some ad) l2.length cap) (hZ : Fls w (some ad) l2) (hl : l1.length + l2.length ≤ 262144) (hB : B ≤ w.heap.size)
    (h : ∀ v' w', OwnF w' B v' (l1 ++ l2) → Below B w w' → K (a.put o.dst v') w') : Oper.wp Try.prog o a w K Q := by
  obtain ⟨v', w', hr, h1, h2⟩ := run_append_ownF w o.type B sv l1 hO ad l2 cap hZ hl hB
  unfold Oper.wp execOp
  simp only [ho, resolve, invoke, builtin, Sem.run_bind, Sem.run_pure, Result.andThen_ok, List.map_toArray, List.map_cons, List.map_nil, hs, hx, hr]
  exact h _ _ h1 h2
theorem wpList_append_ownF {w : World} {ops : Array Oper} {rest : List Oper} {o : Oper} {a : Act} {Q : Exit → Act → World → Prop} (hgd : o.guard = none) (s x : Operand)
    (ho : o.op = .call { callee := .builtin .append, args := #[s, x], argTypes := #[22, 22] })
    (B : Nat) (sv : Value) (l1 : List Nat) (hs : a.eval s = sv) (hO : OwnF w B sv l1) (ad : Addr) (l2 : List Nat) (cap : Nat) (hx : a.eval x = .slice (some ad) l2.length cap) (hZ : Fls w (some ad) l2) (hl : l1.length + l2.length ≤ 262144) (hB : B ≤ w.heap.size)
    (h : ∀ v' w', OwnF w' B v' (l1 ++ l2) → Below B w w' → wpList Try.prog ops Q rest (a.put o.dst v') w') : wpList Try.prog ops Q (o :: rest) a w :=
  wpList_plain hgd fun _ hK => wp_append_ownF s x ho B sv l1 hs hO ad l2 cap hx hZ hl hB fun v' w' h1 h2 => hK _ _ (h v' w' h1 h2)
theorem wp_append_anyF {w : World} {o : Oper} {a : Act} {K : Act → World → Prop} {Q : Exit → Act → World → Prop} (s x : Operand)
    (ho : o.op = .call { callee := .builtin .append, args := #[s, x], argTypes := #[22, 22] })
    (B : Nat) (sv : Value) (l1 : List Nat) (hs : a.eval s = sv) (hO : OwnF w B sv l1) (xa : Option Addr) (l2 : List Nat) (cap : Nat) (hx : a.eval x = .slice xa l2.length cap) (hZ : Fls w xa l2) (hn : xa = none → l2 = [] ∧ cap = 0) (hl : l1.length + l2.length ≤ 262144) (hB : B ≤ w.heap.size)
    (h : ∀ v' w', OwnF w' B v' (l1 ++ l2) → Below B w w' → K (a.put o.dst v') w') : Oper.wp Try.prog o a w K Q := by
  obtain ⟨v', w', hr, h1, h2⟩ := run_append_anyF w o.type B sv l1 hO xa l2 cap hZ hn hl hB
  unfold Oper.wp execOp
  simp only [ho, resolve, invoke, builtin, Sem.run_bind, Sem.run_pure, Result.andThen_ok, List.map_toArray, List.map_cons, List.map_nil, hs, hx, hr]
  exact h _ _ h1 h2
theorem wpList_append_anyF {w : World} {ops : Array Oper} {rest : List Oper} {o : Oper} {a : Act} {Q : Exit → Act → World → Prop} (hgd : o.guard = none) (s x : Operand)
    (ho : o.op = .call { callee := .builtin .append, args := #[s, x], argTypes := #[22, 22] })
    (B : Nat) (sv : Value) (l1 : List Nat) (hs : a.eval s = sv) (hO : OwnF w B sv l1) (xa : Option Addr) (l2 : List Nat) (cap : Nat) (hx : a.eval x = .slice xa l2.length cap) (hZ : Fls w xa l2) (hn : xa = none → l2 = [] ∧ cap = 0) (hl : l1.length + l2.length ≤ 262144) (hB : B ≤ w.heap.size)
    (h : ∀ v' w', OwnF w' B v' (l1 ++ l2) → Below B w w' → wpList Try.prog ops Q rest (a.put o.dst v') w') : wpList Try.prog ops Q (o :: rest) a w :=
  wpList_plain hgd fun _ hK => wp_append_anyF s x ho B sv l1 hs hO xa l2 cap hx hZ hn hl hB fun v' w' h1 h2 => hK _ _ (h v' w' h1 h2)
/-- A slice made of no part. -/
theorem OwnF.made (w : World) : OwnF (w.alloc (.cells #[] 31)) w.heap.size (.slice (some ⟨w.heap.size, 0, none⟩) 0 0) [] :=
  ⟨[], rfl, fun i u hi => by simp at hi, World.ownsRow_made w #[] 0 (Nat.le_refl _) (Nat.zero_le _) rfl⟩
theorem Fls.alloc {w : World} {a : Option Addr} {l : List Nat} (h : Fls w a l) (o : Obj) : Fls (w.alloc o) a l := h.below ((Below.refl _ _).alloc (Nat.le_refl _) o)

theorem OwnF.mono {W : World} {B B' : Nat} {v : Value} {l : List Nat} (h : OwnF W B v l) (hB : B' ≤ B) : OwnF W B' v l := by
  obtain ⟨ws, h1, h2, h3, h4⟩ := h
  refine ⟨ws, h1, h2, h3, ?_⟩
  rcases h4 with h4 | ⟨g, cap, cur, e, hb, rest⟩
  · exact .inl h4
  · exact .inr ⟨g, cap, cur, e, Nat.le_trans hB hb, rest⟩
theorem Cel.fls {w : World} {a : Option Addr} {zs : List Nat} (h : Cel w a zs) (hW : Words zs) : Fls w a zs := fun hz => by
  obtain ⟨b, off, e, hlt, hc⟩ := h hz
  refine ⟨b, off, e, hlt, fun i v hi => ?_⟩
  obtain ⟨s, hs⟩ := raw_self (hW v (List.mem_of_getElem? hi))
  exact ⟨s, by rw [← hs]; exact hc i v hi⟩
/-- One float, appended to a slice of the call's own; it lies in a block made for it. -/
theorem wpList_append_one {w : World} {ops : Array Oper} {rest : List Oper} {o : Oper} {a : Act} {Q : Exit → Act → World → Prop} (hgd : o.guard = none) (s x : Operand)
    (ho : o.op = .call { callee := .builtin .append, args := #[s, x], argTypes := #[22, 22] })
    (B : Nat) (sv : Value) (l1 : List Nat) (hs : a.eval s = sv) (hO : OwnF w B sv l1) (T : TypeId) (v k : Nat) (hx : a.eval x = .slice (some ⟨w.heap.size, 0, none⟩) 1 1) (hl : l1.length + 1 ≤ 262144) (hB : B ≤ w.heap.size)
    (h : ∀ v' w', OwnF w' B v' (l1 ++ [v]) → Below B w w' → wpList Try.prog ops Q rest (a.put o.dst v') w') : wpList Try.prog ops Q (o :: rest) a (w.alloc (.cells #[.float .f64 (raw v k)] T)) := by
  have hb0 : Below w.heap.size w (w.alloc (.cells #[.float .f64 (raw v k)] T)) := (Below.refl _ _).alloc (Nat.le_refl _) _
  refine wpList_append_ownF hgd s x ho B sv l1 hs (hO.below hb0) ⟨w.heap.size, 0, none⟩ [v] 1 hx (fun _ => ⟨w.heap.size, 0, rfl, by simp, fun i u hi => ?_⟩) (by simpa using hl) (by simp; omega) fun v' w' h1 h2 => h v' w' h1 ?_
  · cases i with
    | zero =>
      simp only [List.getElem?_cons_zero, Option.some.injEq] at hi
      subst hi
      exact ⟨k, (Box.newA w [.float .f64 (raw v k)] T rfl).cell 0⟩
    | succ i => simp at hi
  · exact (Below.mono hb0 hB).trans h2
end Go.Proofs.Ytbcdpibcieadlaa

/- Layer 8, the document: an entry, a row, both, a square. No condition but on lengths. -/
namespace Go.Proofs.Ytbcdpibcieadlaa
open Go Go.RowKit
set_option maxRecDepth 1000000

theorem w64m {x : Int} (m : Nat) (e : x = (m : Int)) (h : m ≤ 9223372036854775807) : wrap64 x = (m : Int) := by subst e; unfold wrap64; omega
theorem wi64m {x : Int} (m : Nat) (e : x = (m : Int)) (h : m ≤ 9223372036854775807) : IntKind.i64.wrap x = (m : Int) := by subst e; rw [IntKind.wrap_i64]; omega
theorem RBoth_any (w : World) (b o a s t u : Nat) : Calls Try.prog 76 #[.float .f64 b, .float .f64 (raw o u), .float .f64 a, .float .f64 (raw s t)] w fun e w' => (∃ u, e = .returned (.float .f64 (raw (bothW b o a s) u))) ∧ Below w.heap.size w w' := by
  unfold bothW
  go_enter Try.func76, Try.ntmps76
  go_wp2_with (first | (fail) | (refine wpList_flt rfl rfl rfl rfl rfl ?_; intro K hK _ _; go_frame; refine hK _ _ ?_; clear hK K))
  simp only [fadd_rawl, fadd_rawr, fmul_rawr]
  go_ret
  exact ⟨⟨_, rfl⟩, below_drewN _ (below_drewN _ (below_drewN _ (Below.refl _ _)))⟩
set_option maxHeartbeats 1000000 in
theorem RSquare_any (r c : Nat) (a : Option Addr) (n cap : Nat) (w : World) : Calls Try.prog 34 #[.agg #[.int .i64 r, .int .i64 c, .slice a n cap]] w fun e w' => e = .returned (.bool (decide (r = c))) ∧ Below w.heap.size w w' := by
  have hB0 : Below w.heap.size w (w.alloc (.cells #[.int .i64 r, .int .i64 c, .slice a n cap] 24)) := (Below.refl _ _).alloc (Nat.le_refl _) _
  have HX := Lib.hid hB0
  have t1 : ((r : Int) == (c : Int)) = decide (r = c) := by rw [Bool.eq_iff_iff]; simp; omega
  generalize decide (r = c) = q at *
  clear hB0
  go_enter Try.func34, Try.ntmps34
  go_wp2
  go_ret
  exact ⟨rfl, HX.out⟩
set_option maxHeartbeats 2000000 in
theorem RAt_any (w : World) (r c i j : Nat) (a : Option Addr) (zs : List Nat) (cap : Nat) (hZ : Fls w a zs) (hl : zs.length ≤ 262144) (hi : i * c + j < zs.length) :
    Calls Try.prog 82 #[.agg #[.int .i64 r, .int .i64 c, .slice a zs.length cap], .int .i64 i, .int .i64 j] w fun e w' => (∃ s, e = .returned (.float .f64 (raw (zs.getD (i * c + j) 0) s))) ∧ Below w.heap.size w w' := by
  have hB0 : Below w.heap.size w (w.alloc (.cells #[.int .i64 r, .int .i64 c, .slice a zs.length cap] 24)) := (Below.refl _ _).alloc (Nat.le_refl _) _
  obtain ⟨b, off, s, rfl, hb, hc⟩ := (hZ.below hB0).at hi
  have x0 := Box.newA w [.int .i64 r, .int .i64 c, .slice (some ⟨b, off, none⟩) zs.length cap] 24 rfl
  obtain ⟨p1, p2, p3⟩ := x0.facts
  obtain ⟨P, hP⟩ : ∃ P, P = i * c := ⟨_, rfl⟩
  have t1 : wrap64 ((i : Int) * (c : Int)) = (P : Int) := w64m P (by rw [hP]; push_cast; rfl) (by omega)
  rw [← hP] at hi hc ⊢
  generalize zs.getD (P + j) 0 = v at *
  have HX := Lib.hid hB0
  clear hZ hB0 x0 hP
  go_enter Try.func82, Try.ntmps82
  go_wp2
  go_ret
  exact ⟨⟨s, rfl⟩, HX.out⟩
def rowL (zs : List Nat) (c i : Nat) : List Nat := (List.range c).map fun k => zs.getD (i * c + k) 0
theorem rowL_len (zs : List Nat) (c i : Nat) : (rowL zs c i).length = c := by unfold rowL; simp
theorem rowL_at (zs : List Nat) (c i k : Nat) (hk : k < c) : atL (rowL zs c i) k = zs.getD (i * c + k) 0 := by
  unfold atL rowL
  rw [List.getD_eq_getElem?_getD, List.getElem?_map, List.getElem?_range hk]
  rfl
theorem Fls.row {w : World} {a : Option Addr} {zs : List Nat} (h : Fls w a zs) {c i : Nat} (hi : i * c + c ≤ zs.length) (hc : 0 < c) : ∃ b off, a = some ⟨b, off, none⟩ ∧ Fls w (some ⟨b, off + i * c, none⟩) (rowL zs c i) := by
  have hz : zs ≠ [] := fun e => by rw [e] at hi; simp at hi; omega
  obtain ⟨b, off, rfl, hlt, hcl⟩ := h hz
  refine ⟨b, off, rfl, fun _ => ⟨b, off + i * c, rfl, hlt, fun k v hk => ?_⟩⟩
  have hk2 : k < c := by have := (List.getElem?_eq_some_iff.1 hk).1; rwa [rowL_len] at this
  unfold rowL at hk
  rw [List.getElem?_map, List.getElem?_range hk2] at hk
  simp only [Option.map_some, Option.some.injEq] at hk
  obtain ⟨s, hs⟩ := hcl (i * c + k) v (by rw [← hk, List.getD_eq_getElem?_getD, List.getElem?_eq_getElem (by omega)]; rfl)
  exact ⟨s, by rw [Nat.add_assoc]; exact hs⟩
set_option maxHeartbeats 2000000 in
theorem RRow_any (w : World) (r c i : Nat) (a : Option Addr) (zs : List Nat) (cap : Nat) (hZ : Fls w a zs) (hl : zs.length ≤ 262144) (hn : zs.length = r * c) (hi : i < r) (hcap : zs.length ≤ cap) (hcm : cap ≤ maxLen) (hr : r ≤ 512) :
    Calls Try.prog 77 #[.agg #[.int .i64 r, .int .i64 c, .slice a zs.length cap], .int .i64 i] w fun e w' => (∃ a' cap', e = .returned (.slice a' (rowL zs c i).length cap') ∧ Fls w' a' (rowL zs c i)) ∧ Below w.heap.size w w' := by
  have hB0 : Below w.heap.size w (w.alloc (.cells #[.int .i64 r, .int .i64 c, .slice a zs.length cap] 24)) := (Below.refl _ _).alloc (Nat.le_refl _) _
  have x0 := Box.newA w [.int .i64 r, .int .i64 c, .slice a zs.length cap] 24 rfl
  rw [rowL_len]
  have hic : i * c + c ≤ r * c := by rw [← Nat.succ_mul]; exact Nat.mul_le_mul_right _ hi
  obtain ⟨P, hP⟩ : ∃ P, P = i * c := ⟨_, rfl⟩
  have t1 : wrap64 ((i : Int) * (c : Int)) = (P : Int) := w64m P (by rw [hP]; push_cast; rfl) (by omega)
  rw [← hP, ← hn] at hic
  unfold maxLen at hcm
  by_cases hc : c = 0
  · subst hc
    obtain rfl : zs = [] := List.eq_nil_of_length_eq_zero (by rw [hn, Nat.mul_zero])
    obtain rfl : P = 0 := by rw [hP, Nat.mul_zero]
    obtain ⟨p1, p2, p3⟩ := x0.facts
    have HX := Lib.hid hB0
    have hnil : rowL [] 0 i = [] := rfl
    rw [hnil]
    clear hZ hB0 x0 hP hn hnil
    by_cases h0 : cap = 0
    · subst h0
      go_enter Try.func77, Try.ntmps77
      go_wp2
      go_ret
      exact ⟨⟨_, _, rfl, fun h => absurd rfl h⟩, HX.out⟩
    · go_enter Try.func77, Try.ntmps77
      go_wp2
      go_ret
      exact ⟨⟨_, _, rfl, fun h => absurd rfl h⟩, HX.out⟩
  · obtain ⟨b, off, rfl, hF⟩ := (hZ.below hB0).row (i := i) (by rw [← hP]; exact hic) (Nat.pos_of_ne_zero hc)
    obtain ⟨p1, p2, p3⟩ := x0.facts
    have h0 : ¬ cap = P := by omega
    rw [← hP] at hF
    have HX := Lib.hid (show _ ∧ _ from ⟨hB0, hF⟩)
    generalize rowL zs c i = L at *
    generalize zs.length = n at *
    clear hZ hB0 x0 hP hn hF
    go_enter Try.func77, Try.ntmps77
    go_wp2
    go_ret
    exact ⟨⟨some ⟨b, off + P, none⟩, cap - P, congrArg Ending.returned (show Value.slice (some ⟨b, off + P, none⟩) (P + c - P) (cap - P) = Value.slice (some ⟨b, off + P, none⟩) c (cap - P) by rw [Nat.add_sub_cancel_left]), HX.out.2⟩, HX.out.1⟩
end Go.Proofs.Ytbcdpibcieadlaa

/- Layer 8, the document: the sum of products of floats up to a NaN's bits; a matrix times a vector. No condition but on lengths. -/
namespace Go.Proofs.Ytbcdpibcieadlaa
open Go Go.RowKit
set_option maxRecDepth 1000000

theorem Fls.at8 {w : World} {a : Option Addr} {zs : List Nat} (h : Fls w a zs) {i : Nat} (hi : i < zs.length) : ∃ b off s, a = some ⟨b, off, none⟩ ∧ b < w.heap.size ∧ w.cell? ⟨b, off + i, none⟩ = some (.float .f64 (raw (atL zs i) s)) := h.at hi
set_option maxHeartbeats 4000000 in
theorem RDotF_any (w : World) (za ya : Option Addr) (zs ys : List Nat) (zc yc : Nat) (hZ : Fls w za zs) (hY : Fls w ya ys) (hl : zs.length ≤ 262144) (he : ys.length = zs.length) :
    Calls Try.prog 26 #[.slice za zs.length zc, .slice ya ys.length yc] w fun e w' => (∃ s, e = .returned (.float .f64 (raw (sumG (atL zs) (atL ys) 0 zs.length) s))) ∧ Below w.heap.size w w' := by
  rw [he]
  obtain ⟨n, hn⟩ : ∃ n, n = zs.length := ⟨_, rfl⟩
  have HZ := Lib.hid (show ∀ W k, Below w.heap.size w W → k < n → ∃ b off s, za = some ⟨b, off, none⟩ ∧ b < W.heap.size ∧ W.cell? ⟨b, off + k, none⟩ = some (.float .f64 (raw (atL zs k) s)) from fun W k h hk => (hZ.below h).at8 (by omega))
  have HY := Lib.hid (show ∀ W k, Below w.heap.size w W → k < n → ∃ b off s, ya = some ⟨b, off, none⟩ ∧ b < W.heap.size ∧ W.cell? ⟨b, off + k, none⟩ = some (.float .f64 (raw (atL ys k) s)) from fun W k h hk => (hY.below h).at8 (by omega))
  rw [← hn] at hl ⊢
  generalize atL zs = x at *
  generalize atL ys = y at *
  clear hZ hY he hn
  go_enter Try.func26, Try.ntmps26
  go_wp2_with fail
  go_loopw [5, 6] (fun s5 s6 wr => ∃ k s : Nat, k ≤ n ∧ s5 = .float .f64 (raw (sumG x y 0 k) s) ∧ s6 = .int .i64 k ∧ Below w.heap.size w wr) (fun _ s6 _ => n - (intOf s6).toNat)
  case atStart => exact ⟨0, 0, Nat.zero_le _, by rw [sumG, raw_of_not (by kernel_rfl)], rfl, Below.refl _ _⟩
  case round =>
    obtain ⟨k, s, hk, rfl, rfl, hB⟩ := hrel
    by_cases hlt : k < n
    · obtain ⟨b1, o1, sa, e1, c1, d1⟩ := HZ.out wr k hB hlt
      obtain ⟨b2, o2, sb, e2, c2, d2⟩ := HY.out wr k hB hlt
      subst e1 e2
      have HB := Lib.hid (show _ ∧ _ from ⟨hB, hlt⟩)
      have hdr : Below wr.heap.size wr wr.drew := below_drewN 1 (Below.refl _ wr)
      have HS := Lib.hid (show wr.drew.cell? ⟨b1, o1 + k, none⟩ = some (.float .f64 (raw (x k) sa)) ∧ wr.drew.cell? ⟨b2, o2 + k, none⟩ = some (.float .f64 (raw (y k) sb)) from ⟨cells_of_below hdr _ _ _ d1, cells_of_below hdr _ _ _ d2⟩)
      have HB2 := Lib.hid (below_step hB hB.size hdr)
      clear hB hk HZ HY hdr d1 d2
      go_upto_region 5 with (fail)
      refine wp_region_items 8 [(true, 0), (true, 1), (true, 2), (true, 3), (true, 4), (true, 5), (true, 6), (true, 7)] (fun W => W.cell? ⟨b1, o1 + k, none⟩ = some (.float .f64 (raw (x k) sa)) ∧ W.cell? ⟨b2, o2 + k, none⟩ = some (.float .f64 (raw (y k) sb))) (by kernel_rfl) (by kernel_rfl) HS.out ?_
      generalize wr.drew = w2 at *
      iterate 8 (refine iW_take (v := ?_) rfl rfl ?_ ?_; rotate_left; (next => (intro w' hSw; (try dsimp only at hSw); go_simp; (try (rw [if_pos (by omega)]; go_simp)); (try with_reducible rfl))); (simp only [Act.put, List.setIfInBounds_toArray, List.set_cons_zero, List.set_cons_succ]))
      refine iW_nil ?_
      go_simp
      go_wp2_with (first | (fail) | (refine wpList_flt rfl rfl rfl rfl rfl ?_; intro K hK _ _; go_frame; refine hK _ _ ?_; clear hK K))
      refine NoPanic.normal ?_
      go_wp2_with (first | (fail) | (refine wpList_flt rfl rfl rfl rfl rfl ?_; intro K hK _ _; go_frame; refine hK _ _ ?_; clear hK K))
      go_roundw
      case rel => exact ⟨k + 1, _, HB.out.2, by rw [sumG, Nat.zero_add]; simp only [fadd_rawl, fadd_rawr, fmul_rawl, fmul_rawr]; rfl, by go_num, below_drewN _ HB2.out⟩
      case measure => have := HB.out.2; simp [intOf]; omega
    · obtain rfl : k = n := by omega
      have HB := Lib.hid hB
      clear hB hk
      go_wp2_with fail
      go_ret
      exact ⟨⟨s, rfl⟩, HB.out⟩
/-- A matrix times a vector, added to another one: the document's. -/
def gemvR (a : Nat) (zs : List Nat) (c : Nat) (xs : List Nat) (b : Nat) (ys : List Nat) (r : Nat) : List Nat := (List.range r).map fun i => bothW b (atL ys i) a (sumG (atL (rowL zs c i)) (atL xs) 0 c)
theorem gemvR_len (a : Nat) (zs : List Nat) (c : Nat) (xs : List Nat) (b : Nat) (ys : List Nat) (r : Nat) : (gemvR a zs c xs b ys r).length = r := by unfold gemvR; simp
theorem gemvR_succ (a : Nat) (zs : List Nat) (c : Nat) (xs : List Nat) (b : Nat) (ys : List Nat) (r : Nat) : gemvR a zs c xs b ys (r + 1) = gemvR a zs c xs b ys r ++ [bothW b (atL ys r) a (sumG (atL (rowL zs c r)) (atL xs) 0 c)] := by
  unfold gemvR
  rw [List.range_succ, List.map_append]
  rfl
set_option maxHeartbeats 8000000 in
theorem RGemv_any (w : World) (a b r c : Nat) (za xa ya : Option Addr) (zs xs ys : List Nat) (zc xc yc : Nat) (hZ : Fls w za zs) (hX : Fls w xa xs) (hY : Fls w ya ys) (hl : zs.length ≤ 262144) (hn : zs.length = r * c) (hxl : xs.length = c) (hyl : ys.length = r) (hcap : zs.length ≤ zc) (hcm : zc ≤ maxLen) (hr : r ≤ 512) (hc : c ≤ 512) :
    Calls Try.prog 30 #[.float .f64 a, .agg #[.int .i64 r, .int .i64 c, .slice za zs.length zc], .slice xa xs.length xc, .float .f64 b, .slice ya ys.length yc] w fun e w' => (∃ v, e = .returned v ∧ OwnF w' w.heap.size v (gemvR a zs c xs b ys r)) ∧ Below w.heap.size w w' := by
  obtain ⟨W1, hW1⟩ : ∃ W1, W1 = w.alloc (.cells #[.int .i64 r, .int .i64 c, .slice za zs.length zc] 24) := ⟨_, rfl⟩
  have hB0 : Below w.heap.size w W1 := hW1 ▸ (Below.refl _ _).alloc (Nat.le_refl _) _
  have x0 : Box W1 w.heap.size [.int .i64 r, .int .i64 c, .slice za zs.length zc] := hW1 ▸ Box.newA w [.int .i64 r, .int .i64 c, .slice za zs.length zc] 24 rfl
  have HR := Lib.hid (fun W (h : Below w.heap.size w W) i (hi : i < r) => RRow_any W r c i za zs zc (hZ.below h) hl hn hi hcap hcm hr)
  have HD := Lib.hid (fun W (h : Below w.heap.size w W) i a' cap' (hF : Fls W a' (rowL zs c i)) => RDotF_any W a' xa (rowL zs c i) xs cap' xc hF (hX.below h) (by rw [rowL_len]; omega) (by rw [rowL_len, hxl]))
  simp only [rowL_len] at HD HR
  have HY := Lib.hid (fun W (h : Below w.heap.size w W) i (hi : i < r) => (hY.below h).at8 (i := i) (by omega))
  have HX0 := Lib.hid (show _ ∧ _ from ⟨hB0, x0⟩)
  have HL := Lib.hid (show _ ∧ _ from ⟨hr, hyl⟩)
  rw [hyl]
  clear hZ hX hY hl hn hxl hyl hcap hcm hr hc hB0
  obtain ⟨p1, p2, p3⟩ := x0.facts
  clear x0
  go_enter Try.func30, Try.ntmps30
  go_upto_region 2 with (fail)
  rw [← hW1]
  clear hW1
  go_wp2_with fail
  clear p1 p2 p3
  go_loopw [11, 12] (fun s11 s12 wr => ∃ k : Nat, k ≤ r ∧ OwnF wr W1.heap.size s11 (gemvR a zs c xs b ys k) ∧ s12 = .int .i64 k ∧ Below W1.heap.size W1 wr) (fun _ s12 _ => r - (intOf s12).toNat)
  case atStart => exact ⟨0, Nat.zero_le _, OwnF.nil _ _, rfl, Below.refl _ _⟩
  case round =>
    obtain ⟨k, hk, hO, rfl, hB⟩ := hrel
    have hs := hB.size
    have hBw := below_step HX0.out.1 HX0.out.1.size hB
    have x1 := HX0.out.2.below hB
    obtain ⟨q1, q2, q3⟩ := x1.facts
    by_cases hlt : k < r
    · go_upto_region 5 with (fail)
      have hdr : Below wr.heap.size wr wr.drew := below_drewN 1 (Below.refl _ wr)
      have hB2 := below_step hB hB.size hdr
      have hBw2 := below_step hBw hBw.size hdr
      obtain ⟨b2, o2, s2, rfl, c2, d2⟩ := HY.out _ hBw2 k hlt
      have HS := Lib.hid (show ∀ W, Below wr.drew.heap.size wr.drew W → (fun W => (∀ i, W.cell? ⟨w.heap.size, i, none⟩ = ([.int .i64 r, .int .i64 c, .slice za zs.length zc] : List Value)[i]?) ∧ W.cell? ⟨b2, o2 + k, none⟩ = some (.float .f64 (raw (atL ys k) s2))) W from fun W h => ⟨((x1.below hdr).below h).cell, cells_of_below h _ _ _ d2⟩)
      refine wp_region_items 14 [(true, 0), (true, 1), (true, 2), (true, 3), (true, 4), (true, 5), (true, 6), (true, 7), (true, 8), (true, 10), (false, 9), (false, 11), (false, 12), (false, 13)] (fun W => (∀ i, W.cell? ⟨w.heap.size, i, none⟩ = ([.int .i64 r, .int .i64 c, .slice za zs.length zc] : List Value)[i]?) ∧ W.cell? ⟨b2, o2 + k, none⟩ = some (.float .f64 (raw (atL ys k) s2))) (by kernel_rfl) (by kernel_rfl) (HS.out _ (Below.refl _ _)) ?_
      have HO := Lib.hid (hO.below hdr)
      have HB2 := Lib.hid (show _ ∧ _ ∧ _ from ⟨hB2, hBw2, hlt⟩)
      generalize wr.drew = w2 at *
      have hk5 : k ≤ 512 := by have := HL.out.1; omega
      have hlk : (k : Int) < (r : Int) := by omega
      clear hB hBw hB2 hBw2 hO hdr c2 d2 x1 q1 q2 q3 hk hs
      iterate 10 (refine iW_take (v := ?_) rfl rfl ?_ ?_; rotate_left; (next => (intro w' hSw; (try dsimp only at hSw); go_simp; (try (rw [if_pos (by omega)]; go_simp)); (try with_reducible rfl))); (simp only [Act.put, List.setIfInBounds_toArray, List.set_cons_zero, List.set_cons_succ]))
      refine iW_mid rfl rfl ?_
      go_simp
      refine (HR.out w2 HB2.out.2.1 k HB2.out.2.2).mono ?_
      rintro e w3 ⟨⟨a', cap', rfl, hF⟩, hb3⟩
      have HF := Lib.hid hF
      have HO3 := Lib.hid (HO.out.below hb3)
      have HB3 := Lib.hid (show _ ∧ _ from ⟨below_step HB2.out.1 HB2.out.1.size hb3, below_step HB2.out.2.1 HB2.out.2.1.size hb3⟩)
      refine ⟨HS.out _ hb3, ?_⟩
      have HS3 := Lib.hid (fun W (h : Below w3.heap.size w3 W) => HS.out W (below_step hb3 hb3.size h))
      clear hF hb3 HO HS
      refine iW_mid rfl rfl ?_
      go_simp
      refine (HD.out w3 HB3.out.2 k a' cap' HF.out).mono ?_
      rintro e w4 ⟨⟨s4, rfl⟩, hb4⟩
      have HO4 := Lib.hid (HO3.out.below hb4)
      have HB4 := Lib.hid (show _ ∧ _ from ⟨below_step HB3.out.1 HB3.out.1.size hb4, below_step HB3.out.2 HB3.out.2.size hb4⟩)
      refine ⟨HS3.out _ hb4, ?_⟩
      have HS4 := Lib.hid (fun W (h : Below w4.heap.size w4 W) => HS3.out W (below_step hb4 hb4.size h))
      clear hb4 HO3 HS3
      refine iW_mid rfl rfl ?_
      go_simp
      refine (RBoth_any w4 b (atL ys k) a _ s4 s2).mono ?_
      rintro e w5 ⟨⟨s5, rfl⟩, hb5⟩
      have HO5 := Lib.hid (HO4.out.below hb5)
      have HB5 := Lib.hid (show _ ∧ _ from ⟨below_step HB4.out.1 HB4.out.1.size hb5, below_step HB4.out.2 HB4.out.2.size hb5⟩)
      refine ⟨HS4.out _ hb5, ?_⟩
      have HS5 := Lib.hid (fun W (h : Below w5.heap.size w5 W) => HS4.out W (below_step hb5 hb5.size h))
      clear hb5 HO4 HS4
      refine iW_mid rfl rfl ?_
      go_simp
      refine ⟨HS5.out _ ((Below.refl _ _).alloc (Nat.le_refl _) _), ?_⟩
      refine iW_nil ?_
      go_simp
      refine wpList_append_one rfl _ _ rfl W1.heap.size _ (gemvR a zs c xs b ys k) rfl HO5.out _ _ _ rfl (by rw [gemvR_len]; omega) HB5.out.1.size ?_
      intro v' w6 hO6 hb6
      have HE := Lib.hid (show _ ∧ _ from ⟨hO6, HB5.out.1.trans hb6⟩)
      clear hO6 hb6
      go_wp2_with fail
      refine NoPanic.normal ?_
      go_wp2_with fail
      go_roundw
      case rel => exact ⟨k + 1, HB2.out.2.2, by rw [gemvR_succ]; exact HE.out.1, by go_num, HE.out.2⟩
      case measure => have := HB2.out.2.2; simp [intOf]; omega
    · obtain rfl : k = r := by omega
      have HB := Lib.hid (show _ ∧ _ from ⟨hO, hBw⟩)
      clear hB hk hO hBw
      go_wp2_with fail
      go_ret
      exact ⟨⟨_, rfl, HB.out.1.mono HX0.out.1.size⟩, HB.out.2⟩
end Go.Proofs.Ytbcdpibcieadlaa
