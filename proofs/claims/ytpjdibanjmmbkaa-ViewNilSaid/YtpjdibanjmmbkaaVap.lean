/- A slice of floats that came in, appended to nil. No condition but on lengths. -/
import Derived.Test.YtpjdibanjmmbkaaVr
import Derived.Test.YtpjdibanjmmbkaaVw4
import Derived.Laws.AppendOwn
namespace Go.Proofs.Ytpjdibanjmmbkaa
open Go Go.RowKit
set_option maxRecDepth 100000

theorem below_of_grown {w w' : World} (h : w.grownBy w' none) : Below w.heap.size w w' := ⟨h.os, h.tape, h.output, h.size, fun k hk => h.block k hk (by simp)⟩

theorem Cel.bel {w0 w w' : World} {a : Option Addr} {zs : List Nat} {s : Nat} (h0 : Cel w0 a zs) (h : Cel w a zs) (hs : w0.heap.size ≤ s) (hb : Bel w.heap.size s w w') : Cel w' a zs := fun hz => by
  obtain ⟨b0, o0, rfl, hlt0, _⟩ := h0 hz
  obtain ⟨b, off, e, hlt, hc⟩ := h hz
  simp only [Option.some.injEq, Addr.mk.injEq] at e
  obtain ⟨rfl, rfl, _⟩ := e
  refine ⟨b0, o0, rfl, Nat.lt_of_lt_of_le hlt hb.size, fun i v hi => ?_⟩
  rw [World.cell?_of_block (a := ⟨b0, o0 + i, none⟩) (hb.block b0 hlt (by omega))]
  exact hc i v hi

theorem Cel.owns {w : World} {base n : Nat} {a : Option Addr} {cap : Nat} {zs : List Nat} (h : w.ownsRow base 23 1 (.slice a n cap) zs.length (zs.map (Value.float .f64))) : Cel w a zs := fun hz => by
  rcases h.2 with ⟨_, h0⟩ | ⟨g, cap', cur, hv, hb, hg, hn, hm, hcs, htk⟩
  · exact absurd (List.eq_nil_of_length_eq_zero h0) hz
  · simp only [Value.slice.injEq] at hv
    obtain ⟨rfl, _, _⟩ := hv
    refine ⟨g, 0, rfl, (Array.getElem?_eq_some_iff.1 hg).1, fun i v hv => ?_⟩
    have h1 := h.cells (g := g) rfl i (.float .f64 v) (by simp [hv])
    have h2 : (⟨g, 0, none⟩ : Addr).add i = ⟨g, 0 + i, none⟩ := by unfold Addr.add; split <;> simp_all
    rw [← h2]
    exact h1

theorem run_append_cel (w : World) (ty : TypeId) (a : Option Addr) (zs : List Nat) (cap : Nat) (hZ : Cel w a zs) (hl : zs.length ≤ 262144) :
    ∃ v' w', (Builtin.append_ #[22, 22] ty #[.slice none 0 0, .slice a zs.length cap]).run Try.prog w = .ok v' w' ∧ w'.ownsRow w.heap.size 23 1 v' zs.length (zs.map (Value.float .f64)) ∧ w.grownBy w' none := by
  obtain ⟨i0, hi, hz0, hz1, hz2⟩ := info_parts info_f64
  cases a with
  | none =>
    have hz : zs = [] := by
      cases zs with
      | nil => rfl
      | cons x xs => obtain ⟨b, off, e, _⟩ := hZ (by simp); cases e
    subst hz
    refine ⟨.slice none 0 0, w, ?_, World.ownsRow_nil w _ _ _, ⟨rfl, rfl, rfl, Nat.le_refl _, fun _ _ _ => rfl⟩⟩
    simp [Builtin.append_, run_underlying Try.underlying22, sizeOf, typeInfo, hi, Builtin.lenOf, Builtin.firstCells]
  | some ad =>
    obtain ⟨v', w', hr, h2, h3, _⟩ := run_append_own (P := Try.prog) w w.heap.size 22 ty 23 i0 (.float .f64 0) 1 8 Try.underlying22 hi hz0 hz1 hz2 rfl (by decide) (.slice none 0 0) 0 [] (World.ownsRow_nil _ _ _ _) ad zs.length cap (zs.map (Value.float .f64)) (by simp)
      (fun j u hu => by
        simp only [List.getElem?_map, Option.map_eq_some_iff] at hu
        obtain ⟨x, hx, rfl⟩ := hu
        have hz : zs ≠ [] := fun h => by subst h; simp at hx
        obtain ⟨b, off, e, _, hc⟩ := hZ hz
        simp only [Option.some.injEq] at e
        subst e
        have h2 : (⟨b, off, none⟩ : Addr).add j = ⟨b, off + j, none⟩ := by unfold Addr.add; split <;> simp_all
        rw [h2]
        exact hc j x hx)
      (by simp [Value.oneCell']) (by unfold maxLen; omega) (by omega) (Nat.le_refl _)
    rw [Nat.zero_add, List.nil_append] at h2
    exact ⟨v', w', hr, h2, h3⟩

theorem wp_append_cel {w : World} {o : Oper} {a : Act} {K : Act → World → Prop} {Q : Exit → Act → World → Prop} (s x : Operand)
    (ho : o.op = .call { callee := .builtin .append, args := #[s, x], argTypes := #[22, 22] })
    (ad : Option Addr) (zs : List Nat) (cap : Nat) (hs : a.eval s = .slice none 0 0) (hx : a.eval x = .slice ad zs.length cap) (hZ : Cel w ad zs) (hl : zs.length ≤ 262144)
    (h : ∀ a' cap' w', w'.ownsRow w.heap.size 23 1 (.slice a' zs.length cap') zs.length (zs.map (Value.float .f64)) → Below w.heap.size w w' → K (a.put o.dst (.slice a' zs.length cap')) w') : o.wp Try.prog a w K Q := by
  obtain ⟨v', w', hr, h2, h3⟩ := run_append_cel w o.type ad zs cap hZ hl
  obtain ⟨a', cap', rfl⟩ := ownsRow_slice h2
  unfold Oper.wp execOp
  simp only [ho, resolve, invoke, builtin, Sem.run_bind, Sem.run_pure, Result.andThen_ok, List.map_toArray, List.map_cons, List.map_nil, hs, hx, hr]
  exact h a' cap' w' h2 (below_of_grown h3)
theorem wpList_append_cel {w : World} {ops : Array Oper} {rest : List Oper} {o : Oper} {a : Act} {Q : Exit → Act → World → Prop} (hgd : o.guard = none) (s x : Operand)
    (ho : o.op = .call { callee := .builtin .append, args := #[s, x], argTypes := #[22, 22] })
    (ad : Option Addr) (zs : List Nat) (cap : Nat) (hs : a.eval s = .slice none 0 0) (hx : a.eval x = .slice ad zs.length cap) (hZ : Cel w ad zs) (hl : zs.length ≤ 262144)
    (h : ∀ a' cap' w', w'.ownsRow w.heap.size 23 1 (.slice a' zs.length cap') zs.length (zs.map (Value.float .f64)) → Below w.heap.size w w' → wpList Try.prog ops Q rest (a.put o.dst (.slice a' zs.length cap')) w') : wpList Try.prog ops Q (o :: rest) a w :=
  wpList_plain hgd fun _ hK => wp_append_cel s x ho ad zs cap hs hx hZ hl fun a' cap' w' h2 h3 => hK _ _ (h a' cap' w' h2 h3)

/-! ### What calls give, each function once -/
def FV (l : List (FuncId × Value)) (f : FuncId) (_ : Array Value) (v : Value) : Prop := ∀ p ∈ l, f = p.1 → v = p.2
def nodupB : List FuncId → Bool
  | [] => true
  | a :: l => !l.contains a && nodupB l
theorem nodupB_spec : ∀ {l : List (FuncId × Value)} {k : Nat} {f : FuncId} {v : Value}, nodupB (l.map Prod.fst) = true → l[k]? = some (f, v) → ∀ p ∈ l, f = p.1 → v = p.2
  | [], _, _, _, _, hk, _, _, _ => by simp at hk
  | (g, u) :: l, 0, f, v, hn, hk, p, hp, hf => by
    simp only [List.getElem?_cons_zero, Option.some.injEq, Prod.mk.injEq] at hk
    obtain ⟨rfl, rfl⟩ := hk
    rcases List.mem_cons.1 hp with rfl | hp
    · rfl
    · simp only [List.map_cons, nodupB, Bool.and_eq_true, Bool.not_eq_true'] at hn
      have : (l.map Prod.fst).contains g = true := by
        rw [List.contains_iff_mem]
        exact List.mem_map.2 ⟨p, hp, hf.symm⟩
      rw [this] at hn
      cases hn.1
  | (g, u) :: l, k + 1, f, v, hn, hk, p, hp, hf => by
    simp only [List.map_cons, nodupB, Bool.and_eq_true, Bool.not_eq_true'] at hn
    rw [List.getElem?_cons_succ] at hk
    rcases List.mem_cons.1 hp with rfl | hp
    · have : (l.map Prod.fst).contains g = true := by
        rw [List.contains_iff_mem]
        exact List.mem_map.2 ⟨(f, v), List.mem_of_getElem? hk, hf⟩
      rw [this] at hn
      cases hn.1
    · exact nodupB_spec hn.2 hk p hp hf
theorem FV_in {l : List (FuncId × Value)} {f : FuncId} {args : Array Value} {v : Value} (k : Nat) (hk : l[k]? = some (f, v)) (hn : nodupB (l.map Prod.fst) = true) : FV l f args v := nodupB_spec hn hk
theorem FV_out {l : List (FuncId × Value)} {f : FuncId} {args : Array Value} {v u : Value} (h : FV l f args v) (k : Nat) (hk : l[k]? = some (f, u)) : v = u := h _ (List.mem_of_getElem? hk) rfl
end Go.Proofs.Ytpjdibanjmmbkaa
