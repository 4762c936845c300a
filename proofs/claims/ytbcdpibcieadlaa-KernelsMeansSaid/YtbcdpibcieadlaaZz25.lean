/- Layer 8: what KernelsAhead's four views are while they are made, in whatever order. No condition but on lengths. -/
import Derived.Test.YtbcdpibcieadlaaZz24
import Derived.Test.YtbcdpibcieadlaaZz21
namespace Go.Proofs.Ytbcdpibcieadlaa
open Go Go.RowKit
set_option maxRecDepth 1000000

def upd {α : Type} (f : Nat → α) (k : Nat) (x : α) : Nat → α := fun i => if i = k then x else f i
theorem upd_same {α : Type} (f : Nat → α) (k : Nat) (x : α) : upd f k x k = x := by unfold upd; rw [if_pos rfl]
theorem upd_ne {α : Type} (f : Nat → α) {k i : Nat} (x : α) (h : i ≠ k) : upd f k x i = f i := by unfold upd; rw [if_neg h]
/-- A view that is made; a variable's box. -/
def AhC (W : World) (n : Nat) (zm : List Nat) (v : Vw) (ws : List Nat) (s : Value) (k0 k1 : Nat) : Prop := s = v.val ∧ Sto W (some ⟨k0, 0, none⟩) k1 ws ∧ OfP v k0 n n zm ws ∧ OfI v n n ∧ ws.length = n * n
def AhA (W : World) (s : Value) (k0 : Nat) : Prop := s = .pointer (some ⟨k0, 0, none⟩) ∧ Box W k0 [.pointer none, .int .i64 0, .int .i64 0, .int .i64 0, .int .i64 0, .int .i64 0]
structure AhJ (w W : World) (n : Nat) (zm : List Nat) (rc pd : List Nat) (s : Nat → Value) (K0 K1 : Nat → Nat) (V : Nat → Vw) (L : Nat → List Nat) : Prop where
  below : Below w.heap.size w W
  big : w.heap.size < W.heap.size
  call : ∀ c ∈ [1, 3, 5, 7], c ∉ rc → AhC W n zm (V c) (L c) (s c) (K0 c) (K1 c)
  al : ∀ q ∈ [8, 9, 10, 11], q ∉ pd → AhA W (s q) (K0 q) ∧ K1 q = K0 q
  lo : ∀ x ∈ [1, 3, 5, 7, 8, 9, 10, 11], x ∉ rc → x ∉ pd → (w.heap.size < K0 x ∧ w.heap.size < K1 x) ∧ K0 x < W.heap.size ∧ K1 x < W.heap.size
  ne : ∀ x ∈ [1, 3, 5, 7, 8, 9, 10, 11], ∀ y ∈ [1, 3, 5, 7, 8, 9, 10, 11], x ∉ rc → x ∉ pd → y ∉ rc → y ∉ pd → x ≠ y → K0 x ≠ K0 y ∧ K0 x ≠ K1 y ∧ K1 x ≠ K1 y
section
variable {w W W' : World} {n : Nat} {zm : List Nat} {rc pd : List Nat} {s : Nat → Value} {K0 K1 : Nat → Nat} {V : Nat → Vw} {L : Nat → List Nat}
theorem AhJ.start (hb : Below w.heap.size w W) (hl : w.heap.size < W.heap.size) (s : Nat → Value) (K0 K1 : Nat → Nat) (V : Nat → Vw) (L : Nat → List Nat) : AhJ w W n zm [1, 3, 5, 7] [8, 9, 10, 11] s K0 K1 V L := by
  have no : ∀ x ∈ [1, 3, 5, 7, 8, 9, 10, 11], x ∉ [1, 3, 5, 7] → x ∉ [8, 9, 10, 11] → False := by decide
  exact ⟨hb, hl, fun c hc h => absurd hc h, fun q hq h => absurd hq h, fun x hx h1 h2 => (no x hx h1 h2).elim, fun x hx y _ h1 h2 _ _ _ => (no x hx h1 h2).elim⟩
theorem AhC.below {v : Vw} {ws : List Nat} {x : Value} {k0 k1 : Nat} (h : AhC W n zm v ws x k0 k1) (hb : Below W.heap.size W W') : AhC W' n zm v ws x k0 k1 := ⟨h.1, h.2.1.below hb, h.2.2⟩
/-- A view more. -/
theorem AhJ.made {c : Nat} (h : AhJ w W n zm (c :: rc) pd s K0 K1 V L) (hc : c ∈ [1, 3, 5, 7]) (hcr : c ∉ rc) (hcp : c ∉ pd) {v : Vw} {st sb : Nat} {ws : List Nat} (k1 : W.heap.size ≤ st) (k2 : W.heap.size ≤ sb) (hS : Sto W' (some ⟨st, 0, none⟩) sb ws) (hP : OfP v st n n zm ws) (hI : OfI v n n) (hl : ws.length = n * n) (hb : Below W.heap.size W W') :
    AhJ w W' n zm rc pd (upd s c v.val) (upd K0 c st) (upd K1 c sb) (upd V c v) (upd L c ws) := by
  have hsz := hb.size
  have hlt := sto_lts hS
  have hg := h.big
  have h8 : c ∉ [8, 9, 10, 11] := by
    simp only [List.mem_cons, List.not_mem_nil, or_false] at hc
    rcases hc with rfl | rfl | rfl | rfl <;> decide
  refine ⟨below_step h.below h.below.size hb, by omega, fun d hd hdr => ?_, fun q hq hqp => ?_, fun x hx hxr hxp => ?_, fun x hx y hy hxr hxp hyr hyp hxy => ?_⟩
  · by_cases e : d = c
    · subst e
      simp only [upd_same]
      exact ⟨rfl, hS, hP, hI, hl⟩
    · simp only [upd_ne _ _ e]
      exact (h.call d hd (by simp [e, hdr])).below hb
  · have e : q ≠ c := fun e => h8 (e ▸ hq)
    simp only [upd_ne _ _ e]
    obtain ⟨⟨a1, a2⟩, a3⟩ := h.al q hq hqp
    exact ⟨⟨a1, a2.below hb⟩, a3⟩
  · by_cases e : x = c
    · subst e
      simp only [upd_same]
      omega
    · simp only [upd_ne _ _ e]
      have := h.lo x hx (by simp [e, hxr]) hxp
      omega
  · by_cases e : x = c
    · subst e
      have e2 : y ≠ x := fun h => hxy h.symm
      simp only [upd_same, upd_ne _ _ e2]
      have := h.lo y hy (by simp [e2, hyr]) hyp
      omega
    · by_cases e2 : y = c
      · subst e2
        simp only [upd_same, upd_ne _ _ e]
        have := h.lo x hx (by simp [e, hxr]) hxp
        omega
      · simp only [upd_ne _ _ e, upd_ne _ _ e2]
        exact h.ne x hx y hy (by simp [e, hxr]) hxp (by simp [e2, hyr]) hyp hxy
/-- A variable more. -/
theorem AhJ.boxed {q : Nat} (h : AhJ w W n zm rc pd s K0 K1 V L) (hq : q ∈ [8, 9, 10, 11]) (hnd : pd.Nodup) (hqr : q ∉ rc) (T : TypeId) :
    AhJ w (W.alloc (.cells ([.pointer none, .int .i64 0, .int .i64 0, .int .i64 0, .int .i64 0, .int .i64 0] : List Value).toArray T)) n zm rc (pd.erase q) (upd s q (.pointer (some ⟨W.heap.size, 0, none⟩))) (upd K0 q W.heap.size) (upd K1 q W.heap.size) V L := by
  have hb : Below W.heap.size W (W.alloc (.cells ([.pointer none, .int .i64 0, .int .i64 0, .int .i64 0, .int .i64 0, .int .i64 0] : List Value).toArray T)) := (Below.refl _ _).alloc (Nat.le_refl _) _
  have hsz : (W.alloc (.cells ([.pointer none, .int .i64 0, .int .i64 0, .int .i64 0, .int .i64 0, .int .i64 0] : List Value).toArray T)).heap.size = W.heap.size + 1 := by simp
  have hz : Box (W.alloc (.cells ([.pointer none, .int .i64 0, .int .i64 0, .int .i64 0, .int .i64 0, .int .i64 0] : List Value).toArray T)) W.heap.size [.pointer none, .int .i64 0, .int .i64 0, .int .i64 0, .int .i64 0, .int .i64 0] := Box.newA W _ _ rfl
  have hg := h.big
  have h8 : ∀ c ∈ [1, 3, 5, 7], c ≠ q := fun c hc e => by
    subst e
    simp only [List.mem_cons, List.not_mem_nil, or_false] at hc hq
    omega
  have hp : ∀ x, x ≠ q → x ∉ pd.erase q → x ∉ pd := fun x e hx h => hx (hnd.mem_erase_iff.2 ⟨e, h⟩)
  refine ⟨below_step h.below h.below.size hb, by omega, fun d hd hdr => ?_, fun x hx hxp => ?_, fun x hx hxr hxp => ?_, fun x hx y hy hxr hxp hyr hyp hxy => ?_⟩
  · simp only [upd_ne _ _ (h8 d hd)]
    exact (h.call d hd hdr).below hb
  · by_cases e : x = q
    · subst e
      simp only [upd_same]
      exact ⟨⟨rfl, hz⟩, trivial⟩
    · simp only [upd_ne _ _ e]
      obtain ⟨⟨a1, a2⟩, a3⟩ := h.al x hx (hp x e hxp)
      exact ⟨⟨a1, a2.below hb⟩, a3⟩
  · by_cases e : x = q
    · subst e
      simp only [upd_same]
      omega
    · simp only [upd_ne _ _ e]
      have := h.lo x hx hxr (hp x e hxp)
      omega
  · by_cases e : x = q
    · subst e
      have e2 : y ≠ x := fun h => hxy h.symm
      simp only [upd_same, upd_ne _ _ e2]
      have := h.lo y hy hyr (hp y e2 hyp)
      omega
    · by_cases e2 : y = q
      · subst e2
        simp only [upd_same, upd_ne _ _ e]
        have := h.lo x hx hxr (hp x e hxp)
        omega
      · simp only [upd_ne _ _ e, upd_ne _ _ e2]
        exact h.ne x hx y hy hxr (hp x e hxp) hyr (hp y e2 hyp) hxy
end
end Go.Proofs.Ytbcdpibcieadlaa

/- Layer 8: boxes, and a list of views of stores of their own. No condition but on lengths. -/
namespace Go.Proofs.Ytbcdpibcieadlaa
open Go Go.RowKit
set_option maxRecDepth 1000000

/-- A view, its block, its words. -/
abbrev Vs := Vw × Nat × List Nat
def Sep (x y : Vs) : Prop := x.2.1 ≠ y.2.1 ∧ (∀ st, x.1.p = some ⟨st, 0, none⟩ → st ≠ y.2.1) ∧ (∀ st, y.1.p = some ⟨st, 0, none⟩ → st ≠ x.2.1)
structure VsW (w W : World) (bs : List (Nat × List Value)) (vs : List Vs) : Prop where
  bx : ∀ p ∈ bs, Box W p.1 p.2
  ok : ∀ x ∈ vs, x.1.Ok W x.2.1 x.2.2
  words : ∀ x ∈ vs, Words x.2.2
  nb : ∀ p ∈ bs, ∀ x ∈ vs, p.1 ≠ x.2.1 ∧ ∀ st, x.1.p = some ⟨st, 0, none⟩ → p.1 ≠ st
  nn : vs.Pairwise Sep
  lo : ∀ x ∈ vs, w.heap.size ≤ x.2.1
  below : Below w.heap.size w W
section
variable {w W W' : World} {bs : List (Nat × List Value)} {vs : List Vs} {v : Vw} {sb : Nat} {ws us : List Nat}
theorem VsW.step (h : VsW w W bs vs) (hb : Below W.heap.size W W') : VsW w W' bs vs :=
  ⟨fun p hp => (h.bx p hp).below hb, fun x hx => (h.ok x hx).below hb, h.words, h.nb, h.nn, h.lo, below_step h.below h.below.size hb⟩
theorem VsW.get (h : VsW w W bs vs) (k : Nat) {n : Nat} {cs : List Value} (hk : bs[k]? = some (n, cs)) : Box W n cs := h.bx (n, cs) (List.mem_of_getElem? hk)
theorem VsW.vw (h : VsW w W bs vs) (k : Nat) {v : Vw} {sb : Nat} {ws : List Nat} (hk : vs[k]? = some (v, sb, ws)) : v.Ok W sb ws ∧ Words ws := ⟨h.ok _ (List.mem_of_getElem? hk), h.words _ (List.mem_of_getElem? hk)⟩
theorem ok_belS {v : Vw} {m : Nat} (h : v.Ok W sb ws) (h1 : sb ≠ m) (h2 : ∀ st, v.p = some ⟨st, 0, none⟩ → st ≠ m) (hb : Bel W.heap.size m W W') : v.Ok W' sb ws :=
  (Vw.Apart.bel ⟨h, .inr ⟨h1, h2⟩⟩ hb).1
/-- One view is written: those ahead of it (ls), those behind (cs). -/
theorem VsW.put {ls cs : List Vs} (h : VsW w W bs (ls ++ (v, sb, ws) :: cs)) (ho : v.Ok W' sb us) (hW : Words us) (hb : Bel W.heap.size sb W W') : VsW w W' bs (ls ++ (v, sb, us) :: cs) := by
  have hm : (v, sb, ws) ∈ ls ++ (v, sb, ws) :: cs := by simp
  have hp := List.pairwise_append.1 h.nn
  have hp2 := List.pairwise_cons.1 hp.2.1
  have ha : ∀ x ∈ ls, x.1.Ok W' x.2.1 x.2.2 := fun x hx => by
    have hs := hp.2.2 x hx (v, sb, ws) (by simp)
    exact ok_belS (h.ok x (by simp [hx])) hs.1 hs.2.1 hb
  have hc : ∀ x ∈ cs, x.1.Ok W' x.2.1 x.2.2 := fun x hx => by
    have hs := hp2.1 x hx
    exact ok_belS (h.ok x (by simp [hx])) hs.1.symm hs.2.2 hb
  have mem : ∀ x ∈ ls ++ (v, sb, us) :: cs, x ∈ ls ∨ x = (v, sb, us) ∨ x ∈ cs := fun x hx => by simpa using hx
  refine ⟨fun p hp' => (h.bx p hp').bel (h.nb p hp' _ hm).1 hb, fun x hx => ?_, fun x hx => ?_, fun p hp' x hx => ?_, ?_, fun x hx => ?_, h.below.trans ((hb.mono h.below.size).below (h.lo _ hm))⟩
  · rcases mem x hx with hx | rfl | hx
    · exact ha x hx
    · exact ho
    · exact hc x hx
  · rcases mem x hx with hx | rfl | hx
    · exact h.words x (by simp [hx])
    · exact hW
    · exact h.words x (by simp [hx])
  · rcases mem x hx with hx | rfl | hx
    · exact h.nb p hp' x (by simp [hx])
    · exact h.nb p hp' (v, sb, ws) hm
    · exact h.nb p hp' x (by simp [hx])
  · refine List.pairwise_append.2 ⟨hp.1, List.pairwise_cons.2 ⟨fun x hx => hp2.1 x hx, hp2.2⟩, fun x hx y hy => ?_⟩
    rcases List.mem_cons.1 hy with rfl | hy
    · exact hp.2.2 x hx (v, sb, ws) (by simp)
    · exact hp.2.2 x hx y (by simp [hy])
  · rcases mem x hx with hx | rfl | hx
    · exact h.lo x (by simp [hx])
    · exact h.lo (v, sb, ws) hm
    · exact h.lo x (by simp [hx])
/-- A new box. -/
theorem VsW.alloc (h : VsW w W bs vs) (hs : ∀ x ∈ vs, x.1.p.isSome = true) (cs : List Value) (T : TypeId) : VsW w (W.alloc (.cells cs.toArray T)) (bs ++ [(W.heap.size, cs)]) vs := by
  have hb : Below W.heap.size W (W.alloc (.cells cs.toArray T)) := (Below.refl _ _).alloc (Nat.le_refl _) _
  have h3 := h.step hb
  refine ⟨fun p hp => ?_, h3.ok, h.words, fun p hp x hx => ?_, h.nn, h.lo, h3.below⟩
  · rcases List.mem_append.1 hp with hp | hp
    · exact h3.bx p hp
    · simp only [List.mem_cons, List.not_mem_nil, or_false] at hp
      subst hp
      exact Box.newA _ _ _ rfl
  · rcases List.mem_append.1 hp with hp | hp
    · exact h.nb p hp x hx
    · simp only [List.mem_cons, List.not_mem_nil, or_false] at hp
      subst hp
      have h1 := Vw.Ok.sto (h.ok x hx) (hs x hx)
      refine ⟨?_, fun st e => ?_⟩
      · show W.heap.size ≠ x.2.1
        omega
      · show W.heap.size ≠ st
        have := h1.2 st e
        omega
end
section
variable {w W : World} {n : Nat} {zm : List Nat} {s : Nat → Value} {K0 K1 : Nat → Nat} {V : Nat → Vw} {L : Nat → List Nat}
/-- Region 7's end. -/
theorem AhJ.done (h : AhJ w W n zm [] [] s K0 K1 V L) {MX : List Value} (x0 : Box W w.heap.size MX) :
    VsW w (six (six (six (six W (K0 8) (V 1)) (K0 9) (V 3)) (K0 10) (V 5)) (K0 11) (V 7))
      [(w.heap.size, MX), (K0 8, [.pointer (V 1).p, .int .i64 (V 1).r, .int .i64 (V 1).c, .int .i64 (V 1).o, .int .i64 (V 1).d, .int .i64 (V 1).u]), (K0 9, [.pointer (V 3).p, .int .i64 (V 3).r, .int .i64 (V 3).c, .int .i64 (V 3).o, .int .i64 (V 3).d, .int .i64 (V 3).u]), (K0 10, [.pointer (V 5).p, .int .i64 (V 5).r, .int .i64 (V 5).c, .int .i64 (V 5).o, .int .i64 (V 5).d, .int .i64 (V 5).u]), (K0 11, [.pointer (V 7).p, .int .i64 (V 7).r, .int .i64 (V 7).c, .int .i64 (V 7).o, .int .i64 (V 7).d, .int .i64 (V 7).u])]
      [(V 1, K1 1, L 1), (V 3, K1 3, L 3), (V 5, K1 5, L 5), (V 7, K1 7, L 7)] := by
  have ne : ∀ x ∈ [1, 3, 5, 7, 8, 9, 10, 11], ∀ y ∈ [1, 3, 5, 7, 8, 9, 10, 11], x ≠ y → K0 x ≠ K0 y ∧ K0 x ≠ K1 y ∧ K1 x ≠ K1 y := fun x hx y hy e => h.ne x hx y hy (by simp) (by simp) (by simp) (by simp) e
  have lo : ∀ x ∈ [1, 3, 5, 7, 8, 9, 10, 11], (w.heap.size < K0 x ∧ w.heap.size < K1 x) ∧ K0 x < W.heap.size ∧ K1 x < W.heap.size := fun x hx => h.lo x hx (by simp) (by simp)
  have bz : ∀ q ∈ [8, 9, 10, 11], Box W (K0 q) [.pointer none, .int .i64 0, .int .i64 0, .int .i64 0, .int .i64 0, .int .i64 0] := fun q hq => (h.al q hq (by simp)).1.2
  have cl : ∀ c ∈ [1, 3, 5, 7], AhC W n zm (V c) (L c) (s c) (K0 c) (K1 c) := fun c hc => h.call c hc (by simp)
  have i8 : ∀ q ∈ [8, 9, 10, 11], q ∈ [1, 3, 5, 7, 8, 9, 10, 11] := by decide
  have i1 : ∀ q ∈ [1, 3, 5, 7], q ∈ [1, 3, 5, 7, 8, 9, 10, 11] := by decide
  have cq : ∀ c ∈ [1, 3, 5, 7], ∀ q ∈ [8, 9, 10, 11], c ≠ q := by decide
  have sto : ∀ c ∈ [1, 3, 5, 7], Sto (six (six (six (six W (K0 8) (V 1)) (K0 9) (V 3)) (K0 10) (V 5)) (K0 11) (V 7)) (some ⟨K0 c, 0, none⟩) (K1 c) (L c) := fun c hc => by
    have e : ∀ q ∈ [8, 9, 10, 11], K0 c ≠ K0 q ∧ K1 c ≠ K0 q := fun q hq => by
      have := ne c (i1 c hc) q (i8 q hq) (cq c hc q hq)
      have := ne q (i8 q hq) c (i1 c hc) (fun e => cq c hc q hq e.symm)
      exact ⟨by omega, by omega⟩
    have hS := (cl c hc).2.1
    exact Sto.bel (Sto.bel (Sto.bel (Sto.bel hS (e 8 (by decide)).1 (e 8 (by decide)).2 (six_bel _ _ _ _)) (e 9 (by decide)).1 (e 9 (by decide)).2 (six_bel _ _ _ _)) (e 10 (by decide)).1 (e 10 (by decide)).2 (six_bel _ _ _ _)) (e 11 (by decide)).1 (e 11 (by decide)).2 (six_bel _ _ _ _)
  have d89 := (ne 8 (by decide) 9 (by decide) (by decide)).1
  have d810 := (ne 8 (by decide) 10 (by decide) (by decide)).1
  have d811 := (ne 8 (by decide) 11 (by decide) (by decide)).1
  have d910 := (ne 9 (by decide) 10 (by decide) (by decide)).1
  have d911 := (ne 9 (by decide) 11 (by decide) (by decide)).1
  have d1011 := (ne 10 (by decide) 11 (by decide) (by decide)).1
  have l8 := lo 8 (by decide)
  have l9 := lo 9 (by decide)
  have l10 := lo 10 (by decide)
  have l11 := lo 11 (by decide)
  have sep : ∀ c ∈ [1, 3, 5, 7], ∀ d ∈ [1, 3, 5, 7], c ≠ d → Sep (V c, K1 c, L c) (V d, K1 d, L d) := fun c hc d hd e => by
    have e1 := ne c (i1 c hc) d (i1 d hd) e
    have e2 := ne d (i1 d hd) c (i1 c hc) (fun h => e h.symm)
    refine ⟨e1.2.2, fun st hst => ?_, fun st hst => ?_⟩
    · rw [(cl c hc).2.2.1.ep] at hst
      obtain rfl : K0 c = st := by simpa using hst
      exact e1.2.1
    · rw [(cl d hd).2.2.1.ep] at hst
      obtain rfl : K0 d = st := by simpa using hst
      exact e2.2.1
  have mem : ∀ x ∈ [(V 1, K1 1, L 1), (V 3, K1 3, L 3), (V 5, K1 5, L 5), (V 7, K1 7, L 7)], ∃ c ∈ [1, 3, 5, 7], x = (V c, K1 c, L c) := fun x hx => by
    simp only [List.mem_cons, List.not_mem_nil, or_false] at hx
    rcases hx with rfl | rfl | rfl | rfl
    · exact ⟨1, by decide, rfl⟩
    · exact ⟨3, by decide, rfl⟩
    · exact ⟨5, by decide, rfl⟩
    · exact ⟨7, by decide, rfl⟩
  refine ⟨fun p hp => ?_, fun x hx => ?_, fun x hx => ?_, fun p hp x hx => ?_, ?_, fun x hx => ?_, six_below (six_below (six_below (six_below h.below (by omega) _) (by omega) _) (by omega) _) (by omega) _⟩
  · simp only [List.mem_cons, List.not_mem_nil, or_false] at hp
    rcases hp with rfl | rfl | rfl | rfl | rfl
    · exact six_other (six_other (six_other (six_other x0 (by omega) _) (by omega) _) (by omega) _) (by omega) _
    · exact six_other (six_other (six_other (six_box (u := ⟨none, 0, 0, 0, 0, 0⟩) (bz 8 (by decide)) _) (by omega) _) (by omega) _) (by omega) _
    · exact six_other (six_other (six_box (u := ⟨none, 0, 0, 0, 0, 0⟩) (six_other (bz 9 (by decide)) (by omega) _) _) (by omega) _) (by omega) _
    · exact six_other (six_box (u := ⟨none, 0, 0, 0, 0, 0⟩) (six_other (six_other (bz 10 (by decide)) (by omega) _) (by omega) _) _) (by omega) _
    · exact six_box (u := ⟨none, 0, 0, 0, 0, 0⟩) (six_other (six_other (six_other (bz 11 (by decide)) (by omega) _) (by omega) _) (by omega) _) _
  · obtain ⟨c, hc, rfl⟩ := mem x hx
    exact (cl c hc).2.2.1.ok _ _ (sto c hc)
  · obtain ⟨c, hc, rfl⟩ := mem x hx
    exact (cl c hc).2.2.1.words
  · obtain ⟨c, hc, rfl⟩ := mem x hx
    have lc := lo c (i1 c hc)
    have key : ∀ q ∈ [8, 9, 10, 11], K0 q ≠ K1 c ∧ K0 q ≠ K0 c := fun q hq => by
      have := ne q (i8 q hq) c (i1 c hc) (fun e => cq c hc q hq e.symm)
      exact ⟨this.2.1, this.1⟩
    have hep := (cl c hc).2.2.1.ep
    have fin : p.1 ≠ K1 c ∧ p.1 ≠ K0 c := by
      simp only [List.mem_cons, List.not_mem_nil, or_false] at hp
      rcases hp with rfl | rfl | rfl | rfl | rfl
      · exact ⟨by dsimp only; omega, by dsimp only; omega⟩
      · exact key 8 (by decide)
      · exact key 9 (by decide)
      · exact key 10 (by decide)
      · exact key 11 (by decide)
    refine ⟨fin.1, fun st hst => ?_⟩
    dsimp only at hst
    rw [hep] at hst
    obtain rfl : K0 c = st := by simpa using hst
    exact fin.2
  · refine List.pairwise_cons.2 ⟨fun y hy => ?_, List.pairwise_cons.2 ⟨fun y hy => ?_, List.pairwise_cons.2 ⟨fun y hy => ?_, List.pairwise_cons.2 ⟨fun y hy => ?_, List.Pairwise.nil⟩⟩⟩⟩
    · simp only [List.mem_cons, List.not_mem_nil, or_false] at hy
      rcases hy with rfl | rfl | rfl
      · exact sep 1 (by decide) 3 (by decide) (by decide)
      · exact sep 1 (by decide) 5 (by decide) (by decide)
      · exact sep 1 (by decide) 7 (by decide) (by decide)
    · simp only [List.mem_cons, List.not_mem_nil, or_false] at hy
      rcases hy with rfl | rfl
      · exact sep 3 (by decide) 5 (by decide) (by decide)
      · exact sep 3 (by decide) 7 (by decide) (by decide)
    · simp only [List.mem_cons, List.not_mem_nil, or_false] at hy
      subst hy
      exact sep 5 (by decide) 7 (by decide) (by decide)
    · cases hy
  · obtain ⟨c, hc, rfl⟩ := mem x hx
    have := lo c (i1 c hc)
    show w.heap.size ≤ K1 c
    omega
end
/-- Floats in a block apart from every view's. -/
structure FlV (W : World) (a : Option Addr) (l : List Nat) (vs : List Nat) : Prop where
  fls : Fls W a l
  ne : ∀ b o, a = some ⟨b, o, none⟩ → l ≠ [] → ∀ x ∈ vs, b ≠ x
section
variable {w W W' : World} {a : Option Addr} {l vs : List Nat} {sb : Nat}
theorem FlV.step (h : FlV W a l vs) (hb : Below W.heap.size W W') : FlV W' a l vs := ⟨h.fls.below hb, h.ne⟩
theorem FlV.put (h : FlV W a l vs) (hs : sb ∈ vs) (hb : Bel W.heap.size sb W W') : FlV W' a l vs := ⟨h.fls.belS (fun b o e hz => h.ne b o e hz sb hs) hb, h.ne⟩
theorem FlV.of (h : Fls w a l) (hb : Below w.heap.size w W) (hlo : ∀ x ∈ vs, w.heap.size ≤ x) : FlV W a l vs := ⟨h.below hb, fun b o e hz x hx => by
  obtain ⟨b', off, e', hlt, _⟩ := h hz
  rw [e] at e'
  simp only [Option.some.injEq, Addr.mk.injEq] at e'
  obtain ⟨rfl, _⟩ := e'
  have := hlo x hx
  omega⟩
theorem OwnF.flv {B : Nat} {v : Value} (h : OwnF W B v l) (hv : ∀ x ∈ vs, x < B) : ∃ a cap, v = .slice a l.length cap ∧ FlV W a l vs := by
  obtain ⟨a, b, cap, e0, _, _, hB, hfs, _⟩ := h.fs
  refine ⟨a, cap, e0, hfs.fls, fun b' o e hz x hx => ?_⟩
  rcases hfs with h0 | ⟨e', _⟩
  · exact absurd h0 hz
  · rw [e] at e'
    simp only [Option.some.injEq, Addr.mk.injEq] at e'
    obtain ⟨rfl, _⟩ := e'
    have := hv x hx
    omega
theorem ofI_bnd {v : Vw} {st r c : Nat} {zs ws : List Nat} (h : OfP v st r c zs ws) (hI : OfI v r c) (hr : r ≤ 512) (hc : c ≤ 512) : v.Bnd 0 := by
  refine ⟨by rw [h.er]; exact hr, by rw [h.ec]; exact hc, ?_, by rw [hI.o0]; exact Nat.zero_le _⟩
  rcases hI.form with ⟨e1, e2⟩ | ⟨e1, e2⟩ <;> (rw [e1, e2]; omega)
/-- What a matrix of a view is: floats of its own. -/
theorem own_row {B : Nat} {v : Value} {l : List Nat} (h : W.ownsRow B 31 1 v l.length (l.map (Value.float .f64))) (hw : Words l) (hv : ∀ x ∈ vs, x < B) : ∃ a cap, v = .slice a l.length cap ∧ FlV W a l vs ∧ Cel W a l := by
  obtain ⟨a, cap, e, hc⟩ := cel_of_row h
  have hO : OwnF W B v l := ⟨l, rfl, fun i u hi => (raw_self (hw u (List.mem_of_getElem? hi))).imp fun s hs => by rw [hi, ← hs], h⟩
  obtain ⟨a', cap', e', hf⟩ := hO.flv hv
  rw [e] at e'
  simp only [Value.slice.injEq] at e'
  obtain ⟨rfl, _, rfl⟩ := e'
  exact ⟨a, cap, e, hf, hc⟩
theorem list_eq9 {v : Vw} {st r c : Nat} {zs ws : List Nat} (h : OfP v st r c zs ws) (hn : zs.length = r * c) : v.list ws = zs := by
  have hl : (v.list ws).length = r * c := by rw [list_len8, h.er, h.ec]
  refine List.ext_getElem (by rw [hl, hn]) fun k h1 h2 => ?_
  rw [hl] at h1
  have e1 : (v.list ws)[k] = (v.list ws).getD k 0 := by simp [List.getD_eq_getElem?_getD, hl, h1]
  have e2 : zs[k] = zs.getD k 0 := by simp [List.getD_eq_getElem?_getD, h2]
  rw [e1, e2, list_getD8 v ws (by rw [h.er, h.ec]; exact h1), h.ec]
  have hc : 0 < c := by
    rcases Nat.eq_zero_or_pos c with e | e
    · rw [e, Nat.mul_zero] at h1; omega
    · exact e
  have d := Nat.div_add_mod k c
  rw [Nat.mul_comm] at d
  have hm := Nat.mod_lt k hc
  have hd : k / c < r := by rw [Nat.div_lt_iff_lt_mul hc]; exact h1
  rw [h.get (k / c) (k % c) hd hm, d]
end
end Go.Proofs.Ytbcdpibcieadlaa

/- Layer 8, the document: a symmetric matrix of its lower places. No condition but on lengths. -/
namespace Go.Proofs.Ytbcdpibcieadlaa
open Go Go.RowKit
set_option maxRecDepth 1000000

theorem run_append_memC (w : World) (ty : TypeId) (a : Option Addr) (zs : List Nat) (cap : Nat) (hZ : Fls w a zs) (hl : zs.length ≤ 262144) :
    ∃ a' b cap' w', (Builtin.append_ #[22, 22] ty #[.slice none 0 0, .slice a zs.length cap]).run Try.prog w = .ok (.slice a' zs.length cap') w' ∧ Mem w' w.heap.size a' b zs ∧ Below w.heap.size w w' ∧ zs.length ≤ cap' ∧ cap' ≤ maxLen := by
  cases a with
  | some ad =>
    obtain ⟨v', w', hr, hO, hb⟩ := run_append_ownF w ty w.heap.size (.slice none 0 0) [] (OwnF.nil _ _) ad zs cap hZ (by simpa using hl) (Nat.le_refl _)
    rw [List.nil_append] at hO
    obtain ⟨a', b, cap', rfl, c1, c2, h1, h2, h3⟩ := hO.fs
    exact ⟨a', b, cap', w', hr, ⟨h2, h1, h3⟩, hb, c1, c2⟩
  | none =>
    have hz : zs = [] := by
      cases zs with
      | nil => rfl
      | cons x xs => obtain ⟨b, off, e, _⟩ := hZ (by simp); cases e
    subst hz
    obtain ⟨i0, hi, hz0, hz1, hz2⟩ := info_parts info_f64
    refine ⟨none, w.heap.size, 0, w, ?_, ⟨.inl rfl, Nat.le_refl _, fun h => absurd rfl h⟩, Below.refl _ _, Nat.le_refl _, Nat.zero_le _⟩
    simp [Builtin.append_, run_underlying Try.underlying22, sizeOf, typeInfo, hi, Builtin.lenOf, Builtin.firstCells]
theorem wp_append_memC {w : World} {o : Oper} {a : Act} {K : Act → World → Prop} {Q : Exit → Act → World → Prop} (s x : Operand)
    (ho : o.op = .call { callee := .builtin .append, args := #[s, x], argTypes := #[22, 22] })
    (ad : Option Addr) (zs : List Nat) (cap : Nat) (hs : a.eval s = .slice none 0 0) (hx : a.eval x = .slice ad zs.length cap) (hZ : Fls w ad zs) (hl : zs.length ≤ 262144)
    (h : ∀ a' b cap' w', Mem w' w.heap.size a' b zs → Below w.heap.size w w' → zs.length ≤ cap' → cap' ≤ maxLen → K (a.put o.dst (.slice a' zs.length cap')) w') : o.wp Try.prog a w K Q := by
  obtain ⟨a', b, cap', w', hr, h2, h3, h4, h5⟩ := run_append_memC w o.type ad zs cap hZ hl
  unfold Oper.wp execOp
  simp only [ho, resolve, invoke, builtin, Sem.run_bind, Sem.run_pure, Result.andThen_ok, List.map_toArray, List.map_cons, List.map_nil, hs, hx, hr]
  exact h a' b cap' w' h2 h3 h4 h5
set_option maxHeartbeats 4000000 in
theorem RCopyC_any (w : World) (r c : Nat) (a : Option Addr) (zs : List Nat) (cap : Nat) (hZ : Fls w a zs) (hl : zs.length ≤ 262144) :
    Calls Try.prog 50 #[.agg #[.int .i64 r, .int .i64 c, .slice a zs.length cap]] w fun e w' => (∃ a' b cap', e = .returned (.agg #[.int .i64 r, .int .i64 c, .slice a' zs.length cap']) ∧ Mem w' w.heap.size a' b zs ∧ zs.length ≤ cap' ∧ cap' ≤ maxLen) ∧ Below w.heap.size w w' := by
  obtain ⟨W0, hW0⟩ : ∃ W0, W0 = (w.alloc (.cells #[.int .i64 r, .int .i64 c, .slice a zs.length cap] 24)).alloc (.cells #[.int .i64 0, .int .i64 0, .slice none 0 0] 24) := ⟨_, rfl⟩
  have hB0 : Below w.heap.size w W0 := hW0 ▸ ((Below.refl _ _).alloc (Nat.le_refl _) _).alloc (by simp) _
  have x0 : Box W0 w.heap.size [.int .i64 r, .int .i64 c, .slice a zs.length cap] := hW0 ▸ (Box.newA w [_, _, _] _ rfl).alloc _
  have x1 : Box W0 (w.heap.size + 1) [.int .i64 0, .int .i64 0, .slice none 0 0] := hW0 ▸ Box.newA _ _ _ (by simp)
  have HX := Lib.hid (show _ ∧ _ ∧ _ from ⟨hB0, x0, x1⟩)
  have HZ := Lib.hid (fun W (h : Below w.heap.size w W) => hZ.below h)
  clear hB0 x0 x1 hZ
  go_enter Try.func50, Try.ntmps50
  go_upto_region 1 with (fail)
  rw [← hW0]
  clear hW0
  have hdr : Below W0.heap.size W0 W0.drew := below_drewN 1 (Below.refl _ W0)
  have HB := Lib.hid (show _ ∧ _ ∧ _ from ⟨below_step HX.out.1 HX.out.1.size hdr, HX.out.2.1.below hdr, HX.out.2.2.below hdr⟩)
  have HS := Lib.hid (show ∀ W, Below W0.drew.heap.size W0.drew W → (fun W => ∀ i, W.cell? ⟨w.heap.size, i, none⟩ = ([.int .i64 r, .int .i64 c, .slice a zs.length cap] : List Value)[i]?) W from fun W h => (HB.out.2.1.below h).cell)
  refine wp_region_items 7 [(true, 0), (true, 1), (true, 2), (true, 3), (true, 4), (true, 5), (false, 6)] (fun W => ∀ i, W.cell? ⟨w.heap.size, i, none⟩ = ([.int .i64 r, .int .i64 c, .slice a zs.length cap] : List Value)[i]?) (by kernel_rfl) (by kernel_rfl) (HS.out _ (Below.refl _ _)) ?_
  generalize W0.drew = W1 at *
  clear hdr HX
  iterate 6 (refine iW_take (v := ?_) rfl rfl ?_ ?_; rotate_left; (next => (intro w' hSw; (try dsimp only at hSw); go_simp; (try (rw [if_pos (by omega)]; go_simp)); (try with_reducible rfl))); (simp only [Act.put, List.setIfInBounds_toArray, List.set_cons_zero, List.set_cons_succ]))
  refine iW_mid rfl rfl ?_
  refine wp_append_memC _ _ rfl a zs cap rfl rfl (HZ.out W1 HB.out.1) hl ?_
  intro a' b cap' w2 hM hb hc1 hc2
  have HCap := Lib.hid (And.intro hc1 hc2)
  clear hc1 hc2
  have hlt := HB.out.2.2.lt
  have hle := HB.out.1.size
  have HE := Lib.hid (show _ ∧ _ ∧ _ ∧ _ from ⟨hM, below_step HB.out.1 HB.out.1.size hb, HB.out.2.2.below hb, hlt⟩)
  refine ⟨HS.out _ hb, ?_⟩
  obtain ⟨q1, q2, q3⟩ := HE.out.2.2.1.facts
  clear hM hb HS HZ hlt hle
  refine iW_nil ?_
  go_simp
  go_wp2_with fail
  refine NoPanic.normal ?_
  go_wp2_with fail
  obtain ⟨hM, hB, x1, hlt⟩ := HE.out
  refine bodyPost_ret (results_one rfl (rv_cell (g := w.heap.size + 1) rfl (x1.put3 _ _ _) rfl Try.underlying24 (by kernel_rfl))) rfl ⟨⟨a', b, cap', rfl, ?_, HCap.out.1, HCap.out.2⟩, ?_⟩
  · have hx : ∀ u0 u1 u2, Mem (((w2.setCell ⟨w.heap.size + 1, 0, none⟩ u0).setCell ⟨w.heap.size + 1, 1, none⟩ u1).setCell ⟨w.heap.size + 1, 2, none⟩ u2) w.heap.size a' b zs := fun u0 u1 u2 => by
      have h1 := hM.lo
      have h2 := HB.out.1.size
      refine ⟨?_, by omega, fun hz => by simpa using hM.lt hz⟩
      rcases hM.fs with h | ⟨e, hF⟩
      · exact .inl h
      · exact .inr ⟨e, ((hF.other (by omega) _ _).other (by omega) _ _).other (by omega) _ _⟩
    exact hx _ _ _
  · exact below_put3 hB (by omega) _ _ _
/-- The places above the diagonal are set, up to row i and place j of it. -/
def LowP (zs : List Nat) (n i j : Nat) (l : List Nat) : Prop := ∀ a b, a < n → b < n → l.getD (a * n + b) 0 = if a < b ∧ (a < i ∨ a = i ∧ b < j) then zs.getD (b * n + a) 0 else zs.getD (a * n + b) 0
theorem LowP.zero (zs : List Nat) (n : Nat) : LowP zs n 0 0 zs := fun a b _ _ => by rw [if_neg (by omega)]
theorem LowP.next {zs l : List Nat} {n i j : Nat} (h : LowP zs n i j l) (hj : n ≤ j) : LowP zs n (i + 1) 0 l := fun a b ha hb => by
  rw [h a b ha hb]
  by_cases e : a < b ∧ (a < i ∨ a = i ∧ b < j)
  · rw [if_pos e, if_pos (by omega)]
  · rw [if_neg e, if_neg (by omega)]
theorem LowP.start {zs l : List Nat} {n i : Nat} (h : LowP zs n i 0 l) : LowP zs n i (i + 1) l := fun a b ha hb => by
  rw [h a b ha hb]
  by_cases e : a < b ∧ (a < i ∨ a = i ∧ b < 0)
  · rw [if_pos e, if_pos (by omega)]
  · rw [if_neg e, if_neg (by omega)]
theorem LowP.set {zs l : List Nat} {n i j : Nat} (h : LowP zs n i j l) (hl : l.length = n * n) (hi : i < n) (hj : j < n) (hij : i < j) : LowP zs n i (j + 1) (l.set (i * n + j) (zs.getD (j * n + i) 0)) := fun a b ha hb => by
  rw [getD_set8 _ _ _ _ (by rw [hl]; exact place8 hi hj), h a b ha hb]
  by_cases e : i * n + j = a * n + b
  · obtain ⟨rfl, rfl⟩ := place8_inj hj hb e
    rw [if_pos rfl, if_pos (by omega)]
  · rw [if_neg e]
    have hne : ¬ (a = i ∧ b = j) := fun h2 => e (by rw [h2.1, h2.2])
    by_cases e2 : a < b ∧ (a < i ∨ a = i ∧ b < j)
    · rw [if_pos e2, if_pos (by omega)]
    · rw [if_neg e2, if_neg (by omega)]
theorem LowP.done {zs l : List Nat} {n : Nat} (h : LowP zs n n 0 l) (a b : Nat) (ha : a < n) (hb : b < n) : l.getD (a * n + b) 0 = zs.getD ((max a b) * n + min a b) 0 := by
  rw [h a b ha hb]
  by_cases e : a < b
  · rw [if_pos (by omega), show max a b = b by omega, show min a b = a by omega]
  · rw [if_neg (by omega), show max a b = a by omega, show min a b = b by omega]
set_option maxHeartbeats 16000000 in
theorem RLower_any (w : World) (n : Nat) (a : Option Addr) (zs : List Nat) (cap : Nat) (hZ : Fls w a zs) (hl : zs.length ≤ 262144) (hn : zs.length = n * n) (hu : n ≤ 512) :
    Calls Try.prog 39 #[.agg #[.int .i64 n, .int .i64 n, .slice a zs.length cap]] w fun e w' => (∃ a' c' l, e = .returned (.agg #[.int .i64 n, .int .i64 n, .slice a' l.length c']) ∧ Fls w' a' l ∧ l.length = zs.length ∧ LowP zs n n 0 l ∧ l.length ≤ c' ∧ c' ≤ maxLen) ∧ Below w.heap.size w w' := by
  obtain ⟨W0, hW0⟩ : ∃ W0, W0 = (w.alloc (.cells #[.int .i64 n, .int .i64 n, .slice a zs.length cap] 24)).alloc (.cells #[.int .i64 0, .int .i64 0, .slice none 0 0] 24) := ⟨_, rfl⟩
  have hB0 : Below w.heap.size w W0 := hW0 ▸ ((Below.refl _ _).alloc (Nat.le_refl _) _).alloc (by simp) _
  have x0 : Box W0 w.heap.size [.int .i64 n, .int .i64 n, .slice a zs.length cap] := hW0 ▸ (Box.newA w [.int .i64 n, .int .i64 n, .slice a zs.length cap] _ rfl).alloc _
  have x1 : Box W0 (w.heap.size + 1) [.int .i64 0, .int .i64 0, .slice none 0 0] := hW0 ▸ Box.newA _ [.int .i64 0, .int .i64 0, .slice none 0 0] _ (by simp)
  have S0 := Lib.hid (show BoxS w W0 [(w.heap.size, [.int .i64 n, .int .i64 n, .slice a zs.length cap]), (w.heap.size + 1, [.int .i64 0, .int .i64 0, .slice none 0 0])] from ⟨fun p hp => by
    simp only [List.mem_cons, List.not_mem_nil, or_false] at hp
    rcases hp with rfl | rfl
    · exact x0
    · exact x1
    , hB0⟩)
  have HAt := Lib.hid (fun W (h : Below w.heap.size w W) i j (hi : i < n) (hj : j < n) => RAt_any W n n j i a zs cap (hZ.below h) hl (by rw [hn]; exact place8 hj hi))
  have HCp := Lib.hid (fun W (h : Below w.heap.size w W) => RCopyC_any W n n a zs cap (hZ.below h) hl)
  have HN := Lib.hid (show _ ∧ _ from ⟨hn, hl⟩)
  clear hB0 x0 x1 hZ hl hn
  go_enter Try.func39, Try.ntmps39
  go_upto_region 1 with (fail)
  rw [← hW0]
  clear hW0
  obtain ⟨f01, f02, f03⟩ := (S0.out.get 0 rfl).facts
  go_wp2_with fail
  refine (HCp.out _ S0.out.below).mono ?_
  rintro e w1 ⟨⟨ra, b0, rc, rfl, hMem, hc1, hc2⟩, hb⟩
  have HCap := Lib.hid (And.intro hc1 hc2)
  have D0 := Lib.hid (BoxS.copy (cs := [.int .i64 n, .int .i64 n, .slice ra zs.length rc]) (S0.out.step hb) S0.out hMem)
  clear f01 f02 f03 hMem hb HCp S0 hc1 hc2
  dsimp only
  go_upto_region 2 with (fail)
  obtain ⟨P, hPP⟩ : ∃ P, P = w1.heap.size := ⟨_, rfl⟩
  simp only [← hPP] at D0 ⊢
  generalize w1.alloc (.cells #[.int .i64 n, .int .i64 n, .slice ra zs.length rc] 24) = V0 at *
  clear hPP
  go_wp2_with fail
  go_loopw [4] (fun si wr => ∃ i : Nat, i ≤ n ∧ si = .int .i64 i ∧ ∃ l : List Nat, l.length = zs.length ∧ LowP zs n i 0 l ∧ DocW w wr ([(w.heap.size, [.int .i64 n, .int .i64 n, .slice a zs.length cap]), (w.heap.size + 1, [.int .i64 0, .int .i64 0, .slice none 0 0])] ++ [(P, [.int .i64 n, .int .i64 n, .slice ra zs.length rc])]) ra b0 l) (fun si _ => n - (intOf si).toNat)
  case atStart => exact ⟨0, Nat.zero_le _, rfl, zs, rfl, LowP.zero zs n, D0.out⟩
  case round =>
    obtain ⟨i, hi, rfl, l, hll, hP, hD⟩ := hrel
    have D1 := Lib.hid hD
    have HL1 := Lib.hid (And.intro hll hP)
    clear hD D0 hll hP
    by_cases hir : i < n
    · skip
      obtain ⟨f11, f12, f13⟩ := (D1.out.get 0 rfl).facts
      go_wp2_with fail
      clear f11 f12 f13
      go_loopw [5] (fun sj wr => ∃ j : Nat, i < j ∧ j ≤ n ∧ sj = .int .i64 j ∧ ∃ l : List Nat, l.length = zs.length ∧ LowP zs n i j l ∧ DocW w wr ([(w.heap.size, [.int .i64 n, .int .i64 n, .slice a zs.length cap]), (w.heap.size + 1, [.int .i64 0, .int .i64 0, .slice none 0 0])] ++ [(P, [.int .i64 n, .int .i64 n, .slice ra zs.length rc])]) ra b0 l) (fun sj _ => n - (intOf sj).toNat)
      case atStart => exact ⟨i + 1, Nat.lt_succ_self _, hir, by go_num, l, HL1.out.1, HL1.out.2.start, D1.out⟩
      case round =>
        clear HL1 D1
        obtain ⟨j, hij, hj, rfl, l, hll, hP, hD⟩ := hrel
        have D2 := Lib.hid hD
        have HL2 := Lib.hid (And.intro hll hP)
        clear hD hll hP
        by_cases hjc : j < n
        · skip
          obtain ⟨f11, f12, f13⟩ := (D2.out.get 0 rfl).facts
          obtain ⟨PP, hPP⟩ : ∃ PP, PP = i * n := ⟨_, rfl⟩
          have t1 : wrap64 ((i : Int) * (n : Int)) = (PP : Int) ∧ IntKind.i64.wrap ((i : Int) * (n : Int)) = (PP : Int) := by
            have hpl := place8 hir hjc
            have := HN.out.1
            have := HN.out.2
            exact ⟨w64m PP (by rw [hPP]; push_cast; rfl) (by omega), wi64m PP (by rw [hPP]; push_cast; rfl) (by omega)⟩
          have HPP := Lib.hid hPP
          clear hPP
          have t2 : IntKind.i64.wrap ((PP : Int) + (j : Int)) = (PP : Int) + j := by have hpl := place8 hir hjc; have h1 := HN.out.1; have h2 := HN.out.2; rw [IntKind.wrap_i64]; have := HPP.out; omega
          have HA1 := Lib.hid (fun W h => HAt.out W h i j hir hjc)
          have hV : zs.getD (j * n + i) 0 = zs.getD (j * n + i) 0 := rfl
          obtain ⟨zv, hzv⟩ : ∃ zv, zv = zs.getD (j * n + i) 0 := ⟨_, rfl⟩
          rw [← hzv] at HA1
          have HZV := Lib.hid hzv
          clear hzv hV
          go_upto_region 8 with (fail)
          have hdr : Below wr.heap.size wr wr.drew := below_drewN 1 (Below.refl _ wr)
          have D4 := Lib.hid (D2.out.step hdr)
          clear D2 f11 f12 f13
          have HS := Lib.hid (show ∀ W, Below wr.drew.heap.size wr.drew W → (fun W => (∀ i, W.cell? ⟨w.heap.size, i, none⟩ = ([.int .i64 n, .int .i64 n, .slice a zs.length cap] : List Value)[i]?) ∧ (∀ i, W.cell? ⟨P, i, none⟩ = ([.int .i64 n, .int .i64 n, .slice ra zs.length rc] : List Value)[i]?)) W from fun W h => ⟨((D4.out.step h).get 0 rfl).cell, ((D4.out.step h).get 2 rfl).cell⟩)
          have HPl := Lib.hid (place8 hir hjc)
          refine wp_region_items 12 [(true, 0), (true, 1), (true, 2), (true, 3), (true, 4), (true, 5), (true, 6), (true, 7), (true, 8), (true, 9), (true, 10), (false, 11)] (fun W => (∀ i, W.cell? ⟨w.heap.size, i, none⟩ = ([.int .i64 n, .int .i64 n, .slice a zs.length cap] : List Value)[i]?) ∧ (∀ i, W.cell? ⟨P, i, none⟩ = ([.int .i64 n, .int .i64 n, .slice ra zs.length rc] : List Value)[i]?)) (by kernel_rfl) (by kernel_rfl) (HS.out _ (Below.refl _ _)) ?_
          generalize wr.drew = w2 at *
          clear hdr
          have hPj : PP + j < 262144 := by have h1 := HPl.out; have h2 := HPP.out; have h3 := HN.out.1; have h4 := HN.out.2; omega
          iterate 11 (refine iW_take (v := ?_) rfl rfl ?_ ?_; rotate_left; (next => (intro w' hSw; (try dsimp only at hSw); go_simp; (try (rw [if_pos (by omega)]; go_simp)); (try with_reducible rfl))); (simp only [Act.put, List.setIfInBounds_toArray, List.set_cons_zero, List.set_cons_succ]))
          refine iW_mid rfl rfl ?_
          go_simp
          refine (HA1.out w2 D4.out.below).mono ?_
          rintro e w3 ⟨⟨s3, rfl⟩, hb⟩
          have D5 := Lib.hid (D4.out.step hb)
          refine ⟨HS.out _ hb, ?_⟩
          clear hb
          refine iW_nil ?_
          go_simp
          obtain ⟨rfl, hF⟩ := D5.out.flb (k := i * n + j) (by rw [HL2.out.1, HN.out.1]; exact HPl.out)
          have hF1 := hF.lt
          have hF2 := hF.frozen
          obtain ⟨sf, hF3⟩ := hF.at (i := i * n + j) (by rw [HL2.out.1, HN.out.1]; exact HPl.out)
          have DD := Lib.hid (D5.out.set (k := i * n + j) (by rw [HL2.out.1, HN.out.1]; exact HPl.out) zv s3)
          have hpz : PP + j < zs.length := by rw [HN.out.1, HPP.out]; exact HPl.out
          rw [← HPP.out] at hF3 DD
          have hzz := HN.out.2
          have HL3 := Lib.hid (show (l.set (PP + j) zv).length = zs.length ∧ LowP zs n i (j + 1) (l.set (PP + j) zv) from ⟨by rw [List.length_set]; exact HL2.out.1, by rw [HPP.out, HZV.out]; exact HL2.out.2.set (by rw [HL2.out.1, HN.out.1]) hir hjc hij⟩)
          clear hF D5
          go_wp2_with fail
          refine NoPanic.normal ?_
          go_wp2_with fail
          go_roundw
          case rel => exact ⟨j + 1, by omega, hjc, by go_num, _, HL3.out.1, HL3.out.2, DD.out⟩
          case measure => simp [intOf]; omega
        · skip
          obtain rfl : j = n := by omega
          obtain ⟨f11, f12, f13⟩ := (D2.out.get 0 rfl).facts
          go_wp2_with fail
          go_roundw
          case rel => exact ⟨i + 1, hir, by go_num, l, HL2.out.1, HL2.out.2.next (Nat.le_refl _), D2.out⟩
          case measure => simp [intOf]; omega
    · skip
      obtain rfl : i = n := by omega
      obtain ⟨f11, f12, f13⟩ := (D1.out.get 0 rfl).facts
      obtain ⟨f21, f22, f23⟩ := (D1.out.get 1 rfl).facts
      obtain ⟨f31, f32, f33⟩ := (D1.out.get 2 rfl).facts
      go_wp2_with fail
      have hx2 := D1.out.get 1 rfl
      have hne := D1.out.ne
      have hfs := D1.out.fs
      have hbl := D1.out.below
      refine bodyPost_ret (results_one rfl (rv_cell (g := w.heap.size + 1) rfl (hx2.put3 _ _ _) rfl Try.underlying24 (by kernel_rfl))) rfl ⟨⟨ra, rc, l, by rw [HL1.out.1], ?_, HL1.out.1, HL1.out.2, by rw [HL1.out.1]; exact HCap.out.1, HCap.out.2⟩, ?_⟩
      · have hq : ∀ u0 u1 u2, Fls (((wr.setCell ⟨w.heap.size + 1, 0, none⟩ u0).setCell ⟨w.heap.size + 1, 1, none⟩ u1).setCell ⟨w.heap.size + 1, 2, none⟩ u2) ra l := fun u0 u1 u2 => by
          by_cases hz : l = []
          · rw [hz]; exact fun h => absurd rfl h
          · rcases hfs with h | ⟨e, hF⟩
            · exact absurd h hz
            · subst e
              have hn := hne hz (w.heap.size + 1, [.int .i64 0, .int .i64 0, .slice none 0 0]) (List.mem_of_getElem? (i := 1) rfl)
              exact (((hF.other (Ne.symm hn) _ _).other (Ne.symm hn) _ _).other (Ne.symm hn) _ _).fls
        exact hq _ _ _
      · exact below_put3 hbl (by omega) _ _ _
end Go.Proofs.Ytbcdpibcieadlaa
