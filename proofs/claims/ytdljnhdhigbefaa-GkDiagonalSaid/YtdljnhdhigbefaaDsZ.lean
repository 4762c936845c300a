/- 'GkDiagonal', its parts: what is left of a slice of floats, one of them cut out in place; what is solved of a diagonal. No condition but on lengths. -/
import Derived.Test.YtdljnhdhigbefaaDqZ
namespace Go.Proofs.Ytdljnhdhigbefaa
open Go Go.RowKit
set_option maxRecDepth 100000

/-- A slice of the call's own, from its block's start, that holds the floats l. -/
def LeftP (W : World) (B g cap : Nat) (l : List Nat) : Prop := ∃ (ws : List Nat) (cur : Array Value), ws.length = l.length ∧ (∀ (i u : Nat), l[i]? = some u → ∃ s, ws[i]? = some (raw u s)) ∧ W.heap[g]? = some (.cells cur 40 (0, 0)) ∧ l.length ≤ cap ∧ cur.size = cap ∧ cur.toList.take l.length = ws.map (Value.float .f64) ∧ B ≤ g ∧ cap ≤ maxLen
theorem LeftP.of {W : World} {B : Nat} {v : Value} {l : List Nat} (h : OwnF W B v l) (h0 : l ≠ []) : ∃ g cap, v = .slice (some ⟨g, 0, none⟩) l.length cap ∧ LeftP W B g cap l := by
  obtain ⟨ws, h1, h2, h3, h4⟩ := h
  rcases h4 with ⟨_, h5⟩ | ⟨g, cap, cur, e, hb, hg, hn, hm, hs, ht⟩
  · exact absurd (List.eq_nil_of_length_eq_zero h5) h0
  · exact ⟨g, cap, e, ws, cur, h1, h2, hg, hn, by rw [hs, Nat.mul_one], by rw [← ht, Nat.mul_one], hb, hm⟩
theorem LeftP.lt {W : World} {B g cap : Nat} {l : List Nat} (h : LeftP W B g cap l) : g < W.heap.size := by
  obtain ⟨ws, cur, _, _, hg, _⟩ := h
  exact (Array.getElem?_eq_some_iff.1 hg).1
theorem LeftP.below {W W' : World} {B g cap : Nat} {l : List Nat} (h : LeftP W B g cap l) (hb : Below W.heap.size W W') : LeftP W' B g cap l := by
  have hlt := h.lt
  obtain ⟨ws, cur, h1, h2, hg, h3⟩ := h
  exact ⟨ws, cur, h1, h2, (hb.block g hlt).trans hg, h3⟩
theorem LeftP.cells {W : World} {B g cap : Nat} {l : List Nat} (h : LeftP W B g cap l) : ∃ ws : List Nat, ws.length = l.length ∧ (∀ (i u : Nat), l[i]? = some u → ∃ s, ws[i]? = some (raw u s)) ∧ ∀ i, i < l.length → W.cell? ⟨g, i, none⟩ = (ws.map (Value.float .f64))[i]? := by
  obtain ⟨ws, cur, h1, h2, hg, h3, h4, h5, h6⟩ := h
  refine ⟨ws, h1, h2, fun i hi => ?_⟩
  have hc : W.cell? ⟨g, i, none⟩ = cur[i]? := by unfold World.cell?; rw [hg]; rfl
  rw [hc, ← h5, List.getElem?_take_of_lt hi, Array.getElem?_toList]
theorem LeftP.at {W : World} {B g cap : Nat} {l : List Nat} (h : LeftP W B g cap l) {i : Nat} (hi : i < l.length) : ∃ s, W.cell? ⟨g, i, none⟩ = some (.float .f64 (raw (l.getD i 0) s)) := by
  obtain ⟨ws, h1, h2, h3⟩ := h.cells
  obtain ⟨s, hs⟩ := h2 i (l.getD i 0) (by rw [List.getD_eq_getElem?_getD, List.getElem?_eq_getElem hi]; rfl)
  exact ⟨s, by rw [h3 i hi, List.getElem?_map, hs]; rfl⟩
theorem run_append_cut (w : World) (ty : TypeId) (B g cap k xc : Nat) (l : List Nat) (hk : k < l.length) (hL : LeftP w B g cap l) (ad : Addr) (had : ad = ⟨g, k + 1, none⟩ ∨ l.length = k + 1) :
    ∃ w', (Builtin.append_ #[22, 22] ty #[.slice (some ⟨g, 0, none⟩) k cap, .slice (some ad) (l.length - (k + 1)) xc]).run Try.prog w = .ok (.slice (some ⟨g, 0, none⟩) (l.eraseIdx k).length cap) w' ∧ LeftP w' B g cap (l.eraseIdx k) ∧ Below B w w' := by
  obtain ⟨i0, hi, hz0, hz1, hz2⟩ := info_parts info_f64
  obtain ⟨ws, hwl, hws, hcell⟩ := hL.cells
  obtain ⟨ws', cur, h1, h2, hg, h3, h4, h5, h6, h7⟩ := hL
  have hlen : (l.eraseIdx k).length = k + (l.length - (k + 1)) := by rw [List.length_eraseIdx, if_pos hk]; omega
  have hnl : ((ws'.drop (k + 1)).map (Value.float .f64)).length = (l.length - (k + 1)) * i0.size := by rw [List.length_map, List.length_drop, h1, hz1, Nat.mul_one]
  have hnews : ∀ j u, ((ws'.drop (k + 1)).map (Value.float .f64))[j]? = some u → w.cell? (ad.add j) = some u := fun j u hu => by
    have had : ad = ⟨g, k + 1, none⟩ := had.resolve_right (fun hl => by
      have := (List.getElem?_eq_some_iff.1 hu).1
      rw [List.length_map, List.length_drop, h1] at this
      omega)
    subst had
    have hadd : (⟨g, k + 1, none⟩ : Addr).add j = ⟨g, k + 1 + j, none⟩ := by unfold Addr.add; split <;> simp_all
    have hj : k + 1 + j < l.length := by
      have := (List.getElem?_eq_some_iff.1 hu).1
      rw [List.length_map, List.length_drop, h1] at this
      omega
    rw [hadd]
    have hc : w.cell? ⟨g, k + 1 + j, none⟩ = cur[k + 1 + j]? := by unfold World.cell?; rw [hg]; rfl
    rw [hc, ← Array.getElem?_toList, ← List.getElem?_take_of_lt hj, h5]
    rw [List.getElem?_map] at hu ⊢
    rw [List.getElem?_drop] at hu
    exact hu
  have hr := run_append_room (P := Try.prog) w 22 ty 40 i0 Try.underlying22 hi g k cap cur hg ad (l.length - (k + 1)) xc _ hnl hnews (fun u hu => by obtain ⟨x, _, rfl⟩ := List.mem_map.1 hu; simp [Value.oneCell']) (by omega) (by rw [hnl, hz1, h4]; omega)
  rw [← hlen] at hr
  refine ⟨_, hr, ⟨ws'.take k ++ ws'.drop (k + 1), _, ?_, ?_, setRow_heap w g cur _ _ _ hg, by rw [hlen]; omega, ?_, ?_, h6, h7⟩, below_setRow (Below.refl _ _) h6 _⟩
  · rw [List.length_append, List.length_take, List.length_drop, hlen, h1]; omega
  · intro i u hiu
    rw [List.eraseIdx_eq_take_drop_succ] at hiu
    by_cases hik : i < k
    · rw [List.getElem?_append_left (by rw [List.length_take]; omega), List.getElem?_take_of_lt hik] at hiu
      obtain ⟨s, hs⟩ := h2 i u hiu
      exact ⟨s, by rw [List.getElem?_append_left (by rw [List.length_take, h1]; omega), List.getElem?_take_of_lt hik]; exact hs⟩
    · rw [List.getElem?_append_right (by rw [List.length_take]; omega), List.length_take, Nat.min_eq_left (by omega), List.getElem?_drop] at hiu
      obtain ⟨s, hs⟩ := h2 _ u hiu
      exact ⟨s, by rw [List.getElem?_append_right (by rw [List.length_take, h1]; omega), List.length_take, Nat.min_eq_left (by omega), List.getElem?_drop]; exact hs⟩
  · simp only [List.size_toArray, List.length_append, List.length_take, List.length_drop, Array.length_toList, List.length_map, h1, hz1]
    omega
  · simp only [hz1, Nat.mul_one]
    have ht : cur.toList.take k = (ws'.take k).map (Value.float .f64) := by
      rw [List.map_take, ← h5, List.take_take, Nat.min_eq_left (by omega)]
    rw [List.map_append, ← ht, hlen]
    have e1 : (cur.toList.take k ++ (ws'.drop (k + 1)).map (Value.float .f64)).length = k + (l.length - (k + 1)) := by
      rw [List.length_append, List.length_take, List.length_map, List.length_drop, h1, Array.length_toList]; omega
    rw [← e1]
    exact List.take_left
theorem wpList_append_cut {w : World} {ops : Array Oper} {rest : List Oper} {o : Oper} {a : Act} {Q : Exit → Act → World → Prop} (hgd : o.guard = none) (s x : Operand)
    (ho : o.op = .call { callee := .builtin .append, args := #[s, x], argTypes := #[22, 22] })
    (B g cap k xc : Nat) (l : List Nat) (hk : k < l.length) (hL : LeftP w B g cap l) (ad : Addr) (had : ad = ⟨g, k + 1, none⟩ ∨ l.length = k + 1) (hs : a.eval s = .slice (some ⟨g, 0, none⟩) k cap) (hx : a.eval x = .slice (some ad) (l.length - (k + 1)) xc)
    (h : ∀ w', LeftP w' B g cap (l.eraseIdx k) → Below B w w' → wpList Try.prog ops Q rest (a.put o.dst (.slice (some ⟨g, 0, none⟩) (l.eraseIdx k).length cap)) w') : wpList Try.prog ops Q (o :: rest) a w :=
  wpList_plain hgd fun K hK => by
    obtain ⟨w', hr, h1, h2⟩ := run_append_cut w o.type B g cap k xc l hk hL ad had
    unfold Oper.wp execOp
    simp only [ho, resolve, invoke, builtin, Sem.run_bind, Sem.run_pure, Result.andThen_ok, List.map_toArray, List.map_cons, List.map_nil, hs, hx, hr]
    exact hK _ _ (h w' h1 h2)
/-- What a diagonal's solving tells. -/
structure DiagG (d : List Nat) (W : World) (q : GR) : Prop where
  code : q.code = 0
  m : q.m = 0
  sz : q.n = d.length
  vals : ∃ s l' : List Nat, s.length = d.length ∧ Fls W q.a s ∧ takeAll s d = some l' ∧ ∀ i, 0 < i → i < d.length → flt (s.getD (i - 1) 0) (s.getD i 0) = false
theorem rep_getD (k i : Nat) : (0 :: List.replicate k 0).getD i 0 = 0 := by
  cases i with
  | zero => rfl
  | succ i =>
    show (List.replicate k 0).getD i 0 = 0
    rw [List.getD_eq_getElem?_getD, List.getElem?_replicate]
    split <;> rfl
theorem diag_vals {d : List Nat} {k : Nat} {W : World} {q : GR} (hk : d.length = k + 1) (hn : d.length ≤ 512) (hf : d.all ffin = true) (h : SG17 d (List.replicate k 0) [] [] 0 d.length 0 d.length W q) : DiagG d W q := by
  have hw : wG d (List.replicate k 0) [] [] 0 d.length 0 d.length = 0 := by
    rw [wG_none hn, hf]
    have h1 : mayT d.length (List.replicate k 0).length = true := by unfold mayT; rw [List.length_replicate]; simp; omega
    have h2 : (List.replicate k 0).all ffin = true := List.all_eq_true.2 fun x hx => by rw [(List.mem_replicate.1 hx).2]; kernel_rfl
    rw [h1, h2]
    rfl
  rcases h with ⟨h0, _⟩ | ⟨_, ru, rv, ho, y, hy, hm, h⟩
  · exact absurd hw h0
  obtain ⟨e1, e2⟩ := ho.r
  obtain rfl : ru = 0 := by omega
  obtain rfl : rv = 0 := by omega
  obtain ⟨s1, s2⟩ := diag_spec (n := d.length) (ru := 0) (rv := 0) (d := d) (e := 0 :: List.replicate k 0) (u := []) (v := []) rfl (List.all_eq_true.1 hf) (rep_getD k)
  obtain ⟨t1, ⟨l', t2⟩, t3⟩ := diag_found (n := d.length) (ru := 0) (rv := 0) (d := d) (u := y.1.u) (v := y.1.v) rfl (List.all_eq_true.1 hf)
  rw [← hy] at s1 s2
  rw [← s2] at t1 t2 t3
  rcases h with ⟨c, a1, a2, a3, a4, a5, a6, a7, a8, f0, f1, f2⟩ | ⟨c, _⟩
  · exact ⟨a8, by rw [hm, s1]; rfl, a1, _, l', by rw [sortG_len, s2, List.length_map], f0, t2, fun i h1 h2 => t3 i h1 h2⟩
  · exact absurd ⟨by rw [s1], List.all_eq_true.2 t1⟩ c
end Go.Proofs.Ytdljnhdhigbefaa
