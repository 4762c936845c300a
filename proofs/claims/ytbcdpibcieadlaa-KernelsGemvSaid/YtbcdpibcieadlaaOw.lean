/- Slices of a call's own that hold floats up to a NaN's bits, and what is appended to them. No condition but on lengths. -/
import Derived.Test.YtbcdpibcieadlaaApc
namespace Go.Proofs.Ytbcdpibcieadlaa
open Go Go.RowKit
set_option maxRecDepth 100000

/-- v is a slice of the call's own that holds the floats l, up to a NaN's bits. -/
def OwnF (W : World) (B : Nat) (v : Value) (l : List Nat) : Prop := ∃ ws : List Nat, ws.length = l.length ∧ (∀ (i u : Nat), l[i]? = some u → ∃ s, ws[i]? = some (raw u s)) ∧ W.ownsRow B 31 1 v l.length (ws.map (Value.float .f64))
/-- The floats of a slice, in block b; or there are none. -/
def FS (W : World) (a : Option Addr) (b : Nat) (l : List Nat) : Prop := l = [] ∨ (a = some ⟨b, 0, none⟩ ∧ Flb W b l)
section
variable {W W' : World} {B b : Nat} {a : Option Addr} {v : Value} {l : List Nat}
theorem OwnF.fs (h : OwnF W B v l) : ∃ a b cap, v = .slice a l.length cap ∧ l.length ≤ cap ∧ cap ≤ maxLen ∧ B ≤ b ∧ FS W a b l ∧ (l ≠ [] → b < W.heap.size) := by
  obtain ⟨ws, h1, h2, h3, h4⟩ := h
  rcases h4 with ⟨rfl, h0⟩ | ⟨g, cap, cur, rfl, hb, hg, hn, hm, hs, ht⟩
  · exact ⟨none, B, 0, by rw [h0], by omega, by unfold maxLen; omega, Nat.le_refl _, .inl (List.eq_nil_of_length_eq_zero h0), fun hz => absurd (List.eq_nil_of_length_eq_zero h0) hz⟩
  · refine ⟨_, g, cap, rfl, hn, hm, hb, .inr ⟨rfl, cur.toList, ⟨31, by rw [Array.toArray_toList]; exact hg⟩, fun i u hi => ?_⟩, fun _ => (Array.getElem?_eq_some_iff.1 hg).1⟩
    obtain ⟨s, hs'⟩ := h2 i u hi
    have hil := (List.getElem?_eq_some_iff.1 hi).1
    refine ⟨s, ?_⟩
    have h5 : (cur.toList.take (l.length * 1))[i]? = some (.float .f64 (raw u s)) := by rw [ht, List.getElem?_map, hs']; rfl
    rw [List.getElem?_take_of_lt (by omega)] at h5
    exact h5
theorem OwnF.below (h : OwnF W B v l) (hb : Below W.heap.size W W') : OwnF W' B v l := by
  obtain ⟨ws, h1, h2, h3⟩ := h
  exact ⟨ws, h1, h2, h3.kept (grown_of_below hb) (by rcases h3.2 with ⟨rfl, _⟩ | ⟨g, cap, cur, rfl, _⟩; exact .inl rfl; exact .inr (by simp [Value.ownBlock]))⟩
theorem OwnF.nil (W : World) (B : Nat) : OwnF W B (.slice none 0 0) [] := ⟨[], rfl, fun i u hi => by simp at hi, World.ownsRow_nil _ _ _ _⟩
theorem OwnF.fls (h : OwnF W B v l) : ∃ a cap, v = .slice a l.length cap ∧ Fls W a l := by
  obtain ⟨a, b, cap, hv, _, _, _, h0 | ⟨rfl, hF⟩, _⟩ := h.fs
  · subst h0; exact ⟨a, cap, hv, fun hz => absurd rfl hz⟩
  · exact ⟨_, cap, hv, hF.fls⟩
theorem FS.fls (h : FS W a b l) : Fls W a l := by
  rcases h with h0 | ⟨rfl, hF⟩
  · subst h0; exact fun hz => absurd rfl hz
  · exact hF.fls
theorem FS.flb (h : FS W a b l) (h0 : 0 < l.length) : a = some ⟨b, 0, none⟩ ∧ Flb W b l := by
  rcases h with rfl | h
  · exact absurd h0 (by simp)
  · exact h
theorem FS.below (h : FS W a b l) (hb : Below W.heap.size W W') : FS W' a b l := h.imp id (fun ⟨h1, h2⟩ => ⟨h1, h2.below hb⟩)
end
theorem run_append_ownF (w : World) (ty : TypeId) (B : Nat) (sv : Value) (l1 : List Nat) (hs : OwnF w B sv l1) (ad : Addr) (l2 : List Nat) (cap : Nat) (hZ : Fls w (some ad) l2) (hl : l1.length + l2.length ≤ 262144) (hB : B ≤ w.heap.size) :
    ∃ v' w', (Builtin.append_ #[22, 22] ty #[sv, .slice (some ad) l2.length cap]).run Try.prog w = .ok v' w' ∧ OwnF w' B v' (l1 ++ l2) ∧ Below B w w' := by
  obtain ⟨i0, hi, hz0, hz1, hz2⟩ := info_parts info_f64
  obtain ⟨ws, hwl, hws, hC⟩ := hZ.words
  obtain ⟨us, hul, hus, hO⟩ := hs
  obtain ⟨v', w', hr, h2, h3, _⟩ := run_append_own (P := Try.prog) w B 22 ty 31 i0 (.float .f64 0) 1 8 Try.underlying22 hi hz0 hz1 hz2 rfl (by decide) sv l1.length (us.map (Value.float .f64)) hO ad l2.length cap (ws.map (Value.float .f64)) (by rw [List.length_map, hwl, Nat.mul_one])
    (fun j u hu => by
      simp only [List.getElem?_map, Option.map_eq_some_iff] at hu
      obtain ⟨x, hx, rfl⟩ := hu
      have hw0 : ws ≠ [] := fun h => by rw [h] at hx; simp at hx
      obtain ⟨b, off, e, _, hc⟩ := hC hw0
      obtain rfl : ad = ⟨b, off, none⟩ := by simpa using e
      have h2 : (⟨b, off, none⟩ : Addr).add j = ⟨b, off + j, none⟩ := by unfold Addr.add; split <;> simp_all
      rw [h2]
      exact hc j x hx)
    (by simp [Value.oneCell']) (by unfold maxLen; omega) (by omega) hB
  refine ⟨v', w', hr, ⟨us ++ ws, by rw [List.length_append, List.length_append, hul, hwl], fun i u hi => ?_, by rw [List.length_append, List.map_append]; exact h2⟩,
    ⟨h3.os, h3.tape, h3.output, h3.size, fun k hk => h3.block k (Nat.lt_of_lt_of_le hk hB) (fun e => by have := (hO.lt k e.symm).1; omega)⟩⟩
  by_cases hlt : i < l1.length
  · rw [List.getElem?_append_left hlt] at hi
    obtain ⟨s, hs⟩ := hus i u hi
    exact ⟨s, by rw [List.getElem?_append_left (by omega)]; exact hs⟩
  · rw [List.getElem?_append_right (by omega)] at hi
    obtain ⟨s, hs⟩ := hws _ u hi
    exact ⟨s, by rw [List.getElem?_append_right (by omega), hul]; exact hs⟩
theorem run_append_anyF (w : World) (ty : TypeId) (B : Nat) (sv : Value) (l1 : List Nat) (hs : OwnF w B sv l1) (xa : Option Addr) (l2 : List Nat) (cap : Nat) (hZ : Fls w xa l2) (hn : xa = none → l2 = [] ∧ cap = 0) (hl : l1.length + l2.length ≤ 262144) (hB : B ≤ w.heap.size) :
    ∃ v' w', (Builtin.append_ #[22, 22] ty #[sv, .slice xa l2.length cap]).run Try.prog w = .ok v' w' ∧ OwnF w' B v' (l1 ++ l2) ∧ Below B w w' := by
  cases xa with
  | some ad => exact run_append_ownF w ty B sv l1 hs ad l2 cap hZ hl hB
  | none =>
    obtain ⟨rfl, rfl⟩ := hn rfl
    obtain ⟨i0, hi, hz0, hz1, hz2⟩ := info_parts info_f64
    refine ⟨sv, w, ?_, by rw [List.append_nil]; exact hs, Below.refl _ _⟩
    obtain ⟨us, hul, hus, hO⟩ := hs
    exact run_append_owned_none (P := Try.prog) (w := w) B 22 ty 31 i0 1 Try.underlying22 hi sv _ _ hO
theorem wp_append_ownF {w : World} {o : Oper} {a : Act} {K : Act → World → Prop} {Q : Exit → Act → World → Prop} (s x : Operand)
    (ho : o.op = .call { callee := .builtin .append, args := #[s, x], argTypes := #[22, 22] })
    (B : Nat) (sv : Value) (l1 : List Nat) (hs : a.eval s = sv) (hO : OwnF w B sv l1) (ad : Addr) (l2 : List Nat) (cap : Nat) (hx : a.eval x = .slice (some ad) l2.length cap) (hZ : Fls w (some ad) l2) (hl : l1.length + l2.length ≤ 262144) (hB : B ≤ w.heap.size)
    (h : ∀ v' w', OwnF w' B v' (l1 ++ l2) → Below B w w' → K (a.put o.dst v') w') : Oper.wp Try.prog o a w K Q := by
  obtain ⟨v', w', hr, h1, h2⟩ := run_append_ownF w o.type B sv l1 hO ad l2 cap hZ hl hB
  unfold Oper.wp execOp
  simp only [ho, resolve, invoke, builtin, Sem.run_bind, Sem.run_pure, Result.andThen_ok, List.map_toArray, List.map_cons, List.map_nil, hs, hx, hr]
  exact h _ _ h1 h2
theorem wpList_append_ownF {w : World} {ops : Array Oper} {rest : List Oper} {o : Oper} {a : Act} {Q : Exit → Act → World → Prop} (hgd : o.guard = none) (s x : Operand)
    (ho : o.op = .call { callee := .builtin .append, args := #[s, x], argTypes := #[22, 22] })
    (B : Nat) (sv : Value) (l1 : List Nat) (hs : a.eval s = sv) (hO : OwnF w B sv l1) (ad : Addr) (l2 : List Nat) (cap : Nat) (hx : a.eval x = .slice (some ad) l2.length cap) (hZ : Fls w (some ad) l2) (hl : l1.length + l2.length ≤ 262144) (hB : B ≤ w.heap.size)
    (h : ∀ v' w', OwnF w' B v' (l1 ++ l2) → Below B w w' → wpList Try.prog ops Q rest (a.put o.dst v') w') : wpList Try.prog ops Q (o :: rest) a w :=
  wpList_plain hgd fun _ hK => wp_append_ownF s x ho B sv l1 hs hO ad l2 cap hx hZ hl hB fun v' w' h1 h2 => hK _ _ (h v' w' h1 h2)
theorem wp_append_anyF {w : World} {o : Oper} {a : Act} {K : Act → World → Prop} {Q : Exit → Act → World → Prop} (s x : Operand)
    (ho : o.op = .call { callee := .builtin .append, args := #[s, x], argTypes := #[22, 22] })
    (B : Nat) (sv : Value) (l1 : List Nat) (hs : a.eval s = sv) (hO : OwnF w B sv l1) (xa : Option Addr) (l2 : List Nat) (cap : Nat) (hx : a.eval x = .slice xa l2.length cap) (hZ : Fls w xa l2) (hn : xa = none → l2 = [] ∧ cap = 0) (hl : l1.length + l2.length ≤ 262144) (hB : B ≤ w.heap.size)
    (h : ∀ v' w', OwnF w' B v' (l1 ++ l2) → Below B w w' → K (a.put o.dst v') w') : Oper.wp Try.prog o a w K Q := by
  obtain ⟨v', w', hr, h1, h2⟩ := run_append_anyF w o.type B sv l1 hO xa l2 cap hZ hn hl hB
  unfold Oper.wp execOp
  simp only [ho, resolve, invoke, builtin, Sem.run_bind, Sem.run_pure, Result.andThen_ok, List.map_toArray, List.map_cons, List.map_nil, hs, hx, hr]
  exact h _ _ h1 h2
theorem wpList_append_anyF {w : World} {ops : Array Oper} {rest : List Oper} {o : Oper} {a : Act} {Q : Exit → Act → World → Prop} (hgd : o.guard = none) (s x : Operand)
    (ho : o.op = .call { callee := .builtin .append, args := #[s, x], argTypes := #[22, 22] })
    (B : Nat) (sv : Value) (l1 : List Nat) (hs : a.eval s = sv) (hO : OwnF w B sv l1) (xa : Option Addr) (l2 : List Nat) (cap : Nat) (hx : a.eval x = .slice xa l2.length cap) (hZ : Fls w xa l2) (hn : xa = none → l2 = [] ∧ cap = 0) (hl : l1.length + l2.length ≤ 262144) (hB : B ≤ w.heap.size)
    (h : ∀ v' w', OwnF w' B v' (l1 ++ l2) → Below B w w' → wpList Try.prog ops Q rest (a.put o.dst v') w') : wpList Try.prog ops Q (o :: rest) a w :=
  wpList_plain hgd fun _ hK => wp_append_anyF s x ho B sv l1 hs hO xa l2 cap hx hZ hn hl hB fun v' w' h1 h2 => hK _ _ (h v' w' h1 h2)
/-- A slice made of no part. -/
theorem OwnF.made (w : World) : OwnF (w.alloc (.cells #[] 31)) w.heap.size (.slice (some ⟨w.heap.size, 0, none⟩) 0 0) [] :=
  ⟨[], rfl, fun i u hi => by simp at hi, World.ownsRow_made w #[] 0 (Nat.le_refl _) (Nat.zero_le _) rfl⟩
theorem Fls.alloc {w : World} {a : Option Addr} {l : List Nat} (h : Fls w a l) (o : Obj) : Fls (w.alloc o) a l := h.below ((Below.refl _ _).alloc (Nat.le_refl _) o)

theorem OwnF.mono {W : World} {B B' : Nat} {v : Value} {l : List Nat} (h : OwnF W B v l) (hB : B' ≤ B) : OwnF W B' v l := by
  obtain ⟨ws, h1, h2, h3, h4⟩ := h
  refine ⟨ws, h1, h2, h3, ?_⟩
  rcases h4 with h4 | ⟨g, cap, cur, e, hb, rest⟩
  · exact .inl h4
  · exact .inr ⟨g, cap, cur, e, Nat.le_trans hB hb, rest⟩
theorem Cel.fls {w : World} {a : Option Addr} {zs : List Nat} (h : Cel w a zs) (hW : Words zs) : Fls w a zs := fun hz => by
  obtain ⟨b, off, e, hlt, hc⟩ := h hz
  refine ⟨b, off, e, hlt, fun i v hi => ?_⟩
  obtain ⟨s, hs⟩ := raw_self (hW v (List.mem_of_getElem? hi))
  exact ⟨s, by rw [← hs]; exact hc i v hi⟩
/-- One float, appended to a slice of the call's own; it lies in a block made for it. -/
theorem wpList_append_one {w : World} {ops : Array Oper} {rest : List Oper} {o : Oper} {a : Act} {Q : Exit → Act → World → Prop} (hgd : o.guard = none) (s x : Operand)
    (ho : o.op = .call { callee := .builtin .append, args := #[s, x], argTypes := #[22, 22] })
    (B : Nat) (sv : Value) (l1 : List Nat) (hs : a.eval s = sv) (hO : OwnF w B sv l1) (T : TypeId) (v k : Nat) (hx : a.eval x = .slice (some ⟨w.heap.size, 0, none⟩) 1 1) (hl : l1.length + 1 ≤ 262144) (hB : B ≤ w.heap.size)
    (h : ∀ v' w', OwnF w' B v' (l1 ++ [v]) → Below B w w' → wpList Try.prog ops Q rest (a.put o.dst v') w') : wpList Try.prog ops Q (o :: rest) a (w.alloc (.cells #[.float .f64 (raw v k)] T)) := by
  have hb0 : Below w.heap.size w (w.alloc (.cells #[.float .f64 (raw v k)] T)) := (Below.refl _ _).alloc (Nat.le_refl _) _
  refine wpList_append_ownF hgd s x ho B sv l1 hs (hO.below hb0) ⟨w.heap.size, 0, none⟩ [v] 1 hx (fun _ => ⟨w.heap.size, 0, rfl, by simp, fun i u hi => ?_⟩) (by simpa using hl) (by simp; omega) fun v' w' h1 h2 => h v' w' h1 ?_
  · cases i with
    | zero =>
      simp only [List.getElem?_cons_zero, Option.some.injEq] at hi
      subst hi
      exact ⟨k, (Box.newA w [.float .f64 (raw v k)] T rfl).cell 0⟩
    | succ i => simp at hi
  · exact (Below.mono hb0 hB).trans h2
end Go.Proofs.Ytbcdpibcieadlaa
