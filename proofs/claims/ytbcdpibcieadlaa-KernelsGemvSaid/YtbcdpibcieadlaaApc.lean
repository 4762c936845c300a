/- A block of floats, up to a NaN's bits, that is read and written; a slice of floats appended to nil. No condition but on lengths. -/
import Derived.Test.YtbcdpibcieadlaaGen
import Derived.Laws.AppendOwn
namespace Go.Proofs.Ytbcdpibcieadlaa
open Go Go.RowKit
set_option maxRecDepth 100000

/-- Block n holds the floats l, up to a NaN's bits, and perhaps more. -/
def Flb (W : World) (n : Nat) (l : List Nat) : Prop := ∃ cs : List Value, Box W n cs ∧ ∀ (i v : Nat), l[i]? = some v → ∃ s, cs[i]? = some (.float .f64 (raw v s))
section
variable {W W' : World} {n : Nat} {l : List Nat}
theorem Flb.lt (h : Flb W n l) : n < W.heap.size := by obtain ⟨cs, hb, _⟩ := h; exact hb.lt
theorem Flb.fls (h : Flb W n l) : Fls W (some ⟨n, 0, none⟩) l := fun _ => by
  obtain ⟨cs, hb, hc⟩ := h
  refine ⟨n, 0, rfl, hb.lt, fun i v hi => ?_⟩
  obtain ⟨s, hs⟩ := hc i v hi
  exact ⟨s, by rw [hb.cell, Nat.zero_add]; exact hs⟩
theorem Flb.frozen (h : Flb W n l) (i : Nat) : W.frozen? ⟨n, i, none⟩ = false := by obtain ⟨cs, hb, _⟩ := h; exact hb.frozen i
theorem Flb.at (h : Flb W n l) {i : Nat} (hi : i < l.length) : ∃ s, W.cell? ⟨n, i, none⟩ = some (.float .f64 (raw (l.getD i 0) s)) := by
  obtain ⟨cs, hb, hc⟩ := h
  have hv : l[i]? = some (l.getD i 0) := by rw [List.getD_eq_getElem?_getD, List.getElem?_eq_getElem hi]; rfl
  obtain ⟨s, hs⟩ := hc i _ hv
  exact ⟨s, by rw [hb.cell]; exact hs⟩
theorem Flb.set (h : Flb W n l) (j v s : Nat) : Flb (W.setCell ⟨n, j, none⟩ (.float .f64 (raw v s))) n (l.set j v) := by
  obtain ⟨cs, hb, hc⟩ := h
  refine ⟨_, hb.set j _, fun i u hi => ?_⟩
  by_cases hj : j = i
  · subst hj
    have hlt : j < l.length := by
      have := (List.getElem?_eq_some_iff.1 hi).1
      simpa using this
    rw [List.getElem?_set_self hlt] at hi
    simp only [Option.some.injEq] at hi
    subst hi
    have hv : l[j]? = some (l[j]) := List.getElem?_eq_getElem hlt
    obtain ⟨s', hs'⟩ := hc j _ hv
    exact ⟨s, by rw [List.getElem?_set_self (List.getElem?_eq_some_iff.1 hs').1]⟩
  · rw [List.getElem?_set_ne hj] at hi
    obtain ⟨s', hs'⟩ := hc i u hi
    exact ⟨s', by rw [List.getElem?_set_ne hj]; exact hs'⟩
theorem Flb.below (h : Flb W n l) (hb : Below W.heap.size W W') : Flb W' n l := by
  obtain ⟨cs, h1, hc⟩ := h
  exact ⟨cs, h1.below hb, hc⟩
theorem Flb.bel {s : Nat} (h : Flb W n l) (hs : n ≠ s) (hb : Bel W.heap.size s W W') : Flb W' n l := by
  obtain ⟨cs, h1, hc⟩ := h
  exact ⟨cs, h1.bel hs hb, hc⟩
theorem Flb.other (h : Flb W n l) {m : Nat} (hm : n ≠ m) (j : Nat) (u : Value) : Flb (W.setCell ⟨m, j, none⟩ u) n l :=
  h.bel hm ((Bel.refl _ _ W).set j u)
theorem Flb.ofBox {zs : List Nat} (h : Box W n (zs.map (Value.float .f64))) (hn : ∀ v ∈ zs, isnan v = false) : Flb W n zs :=
  ⟨_, h, fun i v hi => ⟨0, by rw [List.getElem?_map, hi, raw_of_not (hn v (List.mem_of_getElem? hi))]; rfl⟩⟩
end
/-- The words behind floats up to a NaN's bits. -/
theorem Fls.words {w : World} {a : Option Addr} {l : List Nat} (h : Fls w a l) : ∃ ws : List Nat, ws.length = l.length ∧ (∀ (i v : Nat), l[i]? = some v → ∃ s, ws[i]? = some (raw v s)) ∧ Cel w a ws := by
  by_cases hz : l = []
  · subst hz
    exact ⟨[], rfl, fun i v hi => by simp at hi, fun h0 => absurd rfl h0⟩
  · obtain ⟨b, off, e, hlt, hc⟩ := h hz
    refine ⟨(List.range l.length).map fun i => match w.cell? ⟨b, off + i, none⟩ with | some (.float .f64 x) => x | _ => 0, by simp, fun i v hi => ?_, fun _ => ⟨b, off, e, hlt, fun i v hi => ?_⟩⟩
    · obtain ⟨s, hs⟩ := hc i v hi
      have hil := (List.getElem?_eq_some_iff.1 hi).1
      exact ⟨s, by rw [List.getElem?_map, List.getElem?_range hil]; simp only [Option.map_some, hs]⟩
    · have hil : i < l.length := by
        have := (List.getElem?_eq_some_iff.1 hi).1
        simpa using this
      obtain ⟨s, hs⟩ := hc i l[i] (List.getElem?_eq_getElem hil)
      rw [List.getElem?_map, List.getElem?_range hil] at hi
      simp only [Option.map_some, hs, Option.some.injEq] at hi
      rw [hs, hi]
theorem below_of_grownA {w w' : World} (h : w.grownBy w' none) : Below w.heap.size w w' := ⟨h.os, h.tape, h.output, h.size, fun k hk => h.block k hk (by simp)⟩
theorem run_append_fls (w : World) (ty : TypeId) (a : Option Addr) (l : List Nat) (cap : Nat) (hZ : Fls w a l) (hl : l.length ≤ 262144) (h0 : l ≠ []) :
    ∃ g c' w', (Builtin.append_ #[22, 22] ty #[.slice none 0 0, .slice a l.length cap]).run Try.prog w = .ok (.slice (some ⟨g, 0, none⟩) l.length c') w' ∧ w.heap.size ≤ g ∧ Flb w' g l ∧ Below w.heap.size w w' := by
  obtain ⟨i0, hi, hz0, hz1, hz2⟩ := info_parts info_f64
  obtain ⟨ws, hwl, hws, hC⟩ := hZ.words
  have hn : 0 < l.length := List.length_pos_iff.2 h0
  have hw0 : ws ≠ [] := fun h => by rw [h] at hwl; simp at hwl; omega
  obtain ⟨b, off, e, _, hc⟩ := hC hw0
  subst e
  obtain ⟨v', w', hr, h2, h3, _⟩ := run_append_own (P := Try.prog) w w.heap.size 22 ty 31 i0 (.float .f64 0) 1 8 Try.underlying22 hi hz0 hz1 hz2 rfl (by decide) (.slice none 0 0) 0 [] (World.ownsRow_nil _ _ _ _) ⟨b, off, none⟩ l.length cap (ws.map (Value.float .f64)) (by rw [List.length_map, hwl, Nat.mul_one])
    (fun j u hu => by
      simp only [List.getElem?_map, Option.map_eq_some_iff] at hu
      obtain ⟨x, hx, rfl⟩ := hu
      have h2 : (⟨b, off, none⟩ : Addr).add j = ⟨b, off + j, none⟩ := by unfold Addr.add; split <;> simp_all
      rw [h2]
      exact hc j x hx)
    (by simp [Value.oneCell']) (by unfold maxLen; omega) (by omega) (Nat.le_refl _)
  rw [Nat.zero_add, List.nil_append] at h2
  rcases h2.2 with ⟨_, h4⟩ | ⟨g, c', cur, hv, hb, hg, _, _, _, htk⟩
  · omega
  · subst hv
    refine ⟨g, c', w', hr, hb, ⟨cur.toList, ⟨31, by rw [Array.toArray_toList]; exact hg⟩, fun i v hi => ?_⟩, below_of_grownA h3⟩
    obtain ⟨s, hs⟩ := hws i v hi
    have hil := (List.getElem?_eq_some_iff.1 hi).1
    refine ⟨s, ?_⟩
    have h5 : (cur.toList.take (l.length * 1))[i]? = some (.float .f64 (raw v s)) := by rw [htk, List.getElem?_map, hs]; rfl
    rw [List.getElem?_take_of_lt (by omega)] at h5
    exact h5
theorem wpList_append_fls {w : World} {ops : Array Oper} {rest : List Oper} {o : Oper} {a : Act} {Q : Exit → Act → World → Prop} (hgd : o.guard = none) (s x : Operand)
    (ho : o.op = .call { callee := .builtin .append, args := #[s, x], argTypes := #[22, 22] })
    (ad : Option Addr) (l : List Nat) (cap : Nat) (hs : a.eval s = .slice none 0 0) (hx : a.eval x = .slice ad l.length cap) (hZ : Fls w ad l) (hl : l.length ≤ 262144) (h0 : l ≠ [])
    (h : ∀ g c' w', w.heap.size ≤ g → Flb w' g l → Below w.heap.size w w' → wpList Try.prog ops Q rest (a.put o.dst (.slice (some ⟨g, 0, none⟩) l.length c')) w') : wpList Try.prog ops Q (o :: rest) a w :=
  wpList_plain hgd fun _ hK => by
    obtain ⟨g, c', w', hr, h1, h2, h3⟩ := run_append_fls w o.type ad l cap hZ hl h0
    unfold Oper.wp execOp
    simp only [ho, resolve, invoke, builtin, Sem.run_bind, Sem.run_pure, Result.andThen_ok, List.map_toArray, List.map_cons, List.map_nil, hs, hx, hr]
    exact hK _ _ (h g c' w' h1 h2 h3)
end Go.Proofs.Ytbcdpibcieadlaa
