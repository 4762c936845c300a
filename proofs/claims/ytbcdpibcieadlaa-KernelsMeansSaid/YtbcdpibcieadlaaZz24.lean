/- Layer 8: two views that are written, plainly; what KernelsSteps holds on to. No condition but on lengths. -/
import Derived.Test.YtbcdpibcieadlaaZz23
import Derived.Test.YtbcdpibcieadlaaKqZ
import Derived.Test.YtbcdpibcieadlaaZz9
namespace Go.Proofs.Ytbcdpibcieadlaa
open Go Go.RowKit
set_option maxRecDepth 1000000

/-- Boxes, and two views of stores of their own. -/
structure StW (w W : World) (bs : List (Nat × List Value)) (u v : Vw) (su sv : Nat) (us vs : List Nat) : Prop where
  bx : ∀ p ∈ bs, Box W p.1 p.2
  nu : ∀ p ∈ bs, p.1 ≠ su
  nv : ∀ p ∈ bs, p.1 ≠ sv
  nst : ∀ p ∈ bs, ∀ st, u.p = some ⟨st, 0, none⟩ ∨ v.p = some ⟨st, 0, none⟩ → p.1 ≠ st
  ou : u.Apart W su us sv
  ov : v.Apart W sv vs su
  wu : Words us
  wv : Words vs
  lu : w.heap.size ≤ su
  lv : w.heap.size ≤ sv
  below : Below w.heap.size w W
section
variable {w W W' : World} {bs : List (Nat × List Value)} {u v : Vw} {su sv : Nat} {us vs xs : List Nat}
theorem StW.step (h : StW w W bs u v su sv us vs) (hb : Below W.heap.size W W') : StW w W' bs u v su sv us vs :=
  ⟨fun p hp => (h.bx p hp).below hb, h.nu, h.nv, h.nst, h.ou.below hb, h.ov.below hb, h.wu, h.wv, h.lu, h.lv, below_step h.below h.below.size hb⟩
theorem StW.setU (h : StW w W bs u v su sv us vs) (hb : Bel W.heap.size su W W') (ho : u.Ok W' su xs) (hW : Words xs) : StW w W' bs u v su sv xs vs :=
  ⟨fun p hp => (h.bx p hp).bel (h.nu p hp) hb, h.nu, h.nv, h.nst, ⟨ho, h.ou.2⟩, h.ov.bel hb, hW, h.wv, h.lu, h.lv, h.below.trans ((hb.mono h.below.size).below h.lu)⟩
theorem StW.setV (h : StW w W bs u v su sv us vs) (hb : Bel W.heap.size sv W W') (ho : v.Ok W' sv xs) (hW : Words xs) : StW w W' bs u v su sv us xs :=
  ⟨fun p hp => (h.bx p hp).bel (h.nv p hp) hb, h.nu, h.nv, h.nst, h.ou.bel hb, ⟨ho, h.ov.2⟩, h.wu, hW, h.lu, h.lv, h.below.trans ((hb.mono h.below.size).below h.lv)⟩
theorem StW.get (h : StW w W bs u v su sv us vs) (k : Nat) {n : Nat} {cs : List Value} (hk : bs[k]? = some (n, cs)) : Box W n cs := h.bx (n, cs) (List.mem_of_getElem? hk)
theorem StW.ltu (h : StW w W bs u v su sv us vs) (hp : u.p.isSome = true) : su < W.heap.size ∧ ∀ st, u.p = some ⟨st, 0, none⟩ → st < W.heap.size := Vw.Ok.sto h.ou.1 hp
theorem StW.ltv (h : StW w W bs u v su sv us vs) (hp : v.p.isSome = true) : sv < W.heap.size ∧ ∀ st, v.p = some ⟨st, 0, none⟩ → st < W.heap.size := Vw.Ok.sto h.ov.1 hp
/-- A new box. -/
theorem StW.alloc (h : StW w W bs u v su sv us vs) (hu : u.p.isSome = true) (hv : v.p.isSome = true) (cs : List Value) (T : TypeId) : StW w (W.alloc (.cells cs.toArray T)) (bs ++ [(W.heap.size, cs)]) u v su sv us vs := by
  have hb : Below W.heap.size W (W.alloc (.cells cs.toArray T)) := (Below.refl _ _).alloc (Nat.le_refl _) _
  have h1 := h.ltu hu
  have h2 := h.ltv hv
  have h3 := h.step hb
  refine ⟨fun p hp => ?_, fun p hp => ?_, fun p hp => ?_, fun p hp st hst => ?_, h3.ou, h3.ov, h.wu, h.wv, h.lu, h.lv, h3.below⟩
  · rcases List.mem_append.1 hp with hp | hp
    · exact h3.bx p hp
    · simp only [List.mem_cons, List.not_mem_nil, or_false] at hp
      subst hp
      exact Box.newA _ _ _ rfl
  · rcases List.mem_append.1 hp with hp | hp
    · exact h.nu p hp
    · simp only [List.mem_cons, List.not_mem_nil, or_false] at hp
      subst hp
      show W.heap.size ≠ su
      omega
  · rcases List.mem_append.1 hp with hp | hp
    · exact h.nv p hp
    · simp only [List.mem_cons, List.not_mem_nil, or_false] at hp
      subst hp
      show W.heap.size ≠ sv
      omega
  · rcases List.mem_append.1 hp with hp | hp
    · exact h.nst p hp st hst
    · simp only [List.mem_cons, List.not_mem_nil, or_false] at hp
      subst hp
      show W.heap.size ≠ st
      rcases hst with e | e
      · have := h1.2 st e; omega
      · have := h2.2 st e; omega
theorem Bel.refl3 {n : Nat} (B : Nat) (v0 v1 v2 : Value) : Bel B n W (((W.setCell ⟨n, 0, none⟩ v0).setCell ⟨n, 1, none⟩ v1).setCell ⟨n, 2, none⟩ v2) := (((Bel.refl _ _ _).set _ _).set _ _).set _ _
/-- The last box turned. -/
theorem StW.put3 {n : Nat} {c0 c1 c2 : Value} (h : StW w W (bs ++ [(n, [c0, c1, c2])]) u v su sv us vs) (hu : u.p.isSome = true) (hv : v.p.isSome = true) (hd : ∀ p ∈ bs, p.1 ≠ n) (hn : w.heap.size ≤ n) (v0 v1 v2 : Value) :
    StW w (((W.setCell ⟨n, 0, none⟩ v0).setCell ⟨n, 1, none⟩ v1).setCell ⟨n, 2, none⟩ v2) (bs ++ [(n, [v0, v1, v2])]) u v su sv us vs := by
  have hm : (n, [c0, c1, c2]) ∈ bs ++ [(n, [c0, c1, c2])] := by simp
  have hnu := h.nu _ hm
  have hnv := h.nv _ hm
  have hns := h.nst _ hm
  have hbl : Bel W.heap.size n W _ := Bel.refl3 W.heap.size v0 v1 v2
  have a1 : u.Apart W su us n := ⟨h.ou.1, .inr ⟨fun e => hnu e.symm, fun st e e2 => hns st (.inl e) e2.symm⟩⟩
  have a2 : v.Apart W sv vs n := ⟨h.ov.1, .inr ⟨fun e => hnv e.symm, fun st e e2 => hns st (.inr e) e2.symm⟩⟩
  have mem : ∀ p ∈ bs ++ [(n, [v0, v1, v2])], p ∈ bs ∨ p = (n, [v0, v1, v2]) := fun p hp => by
    rcases List.mem_append.1 hp with hp | hp
    · exact .inl hp
    · simp only [List.mem_cons, List.not_mem_nil, or_false] at hp
      exact .inr hp
  refine ⟨fun p hp => ?_, fun p hp => ?_, fun p hp => ?_, fun p hp st hst => ?_, ⟨(a1.bel hbl).1, h.ou.2⟩, ⟨(a2.bel hbl).1, h.ov.2⟩, h.wu, h.wv, h.lu, h.lv, below_put3 h.below hn _ _ _⟩
  · rcases mem p hp with hp | rfl
    · exact (h.bx p (List.mem_append.2 (.inl hp))).other3 (hd p hp) _ _ _
    · exact (h.bx _ hm).put3 _ _ _
  · rcases mem p hp with hp | rfl
    · exact h.nu p (List.mem_append.2 (.inl hp))
    · exact hnu
  · rcases mem p hp with hp | rfl
    · exact h.nv p (List.mem_append.2 (.inl hp))
    · exact hnv
  · rcases mem p hp with hp | rfl
    · exact h.nst p (List.mem_append.2 (.inl hp)) st hst
    · exact hns st hst
end
/-- Floats in a block apart from both stores. -/
structure FlN (W : World) (a : Option Addr) (l : List Nat) (su sv : Nat) : Prop where
  fls : Fls W a l
  ne : ∀ b o, a = some ⟨b, o, none⟩ → l ≠ [] → b ≠ su ∧ b ≠ sv
section
variable {w W W' : World} {a : Option Addr} {l : List Nat} {su sv : Nat}
theorem Fls.belS {s : Nat} (h : Fls W a l) (hn : ∀ b o, a = some ⟨b, o, none⟩ → l ≠ [] → b ≠ s) (hb : Bel W.heap.size s W W') : Fls W' a l := fun hz => by
  obtain ⟨b, off, rfl, hlt, hc⟩ := h hz
  refine ⟨b, off, rfl, Nat.lt_of_lt_of_le hlt hb.size, fun i v hi => ?_⟩
  rw [World.cell?_of_block (a := ⟨b, off + i, none⟩) (hb.block b hlt (hn b off rfl hz))]
  exact hc i v hi
theorem FlN.step (h : FlN W a l su sv) (hb : Below W.heap.size W W') : FlN W' a l su sv := ⟨h.fls.below hb, h.ne⟩
theorem FlN.setU (h : FlN W a l su sv) (hb : Bel W.heap.size su W W') : FlN W' a l su sv := ⟨h.fls.belS (fun b o e hz => (h.ne b o e hz).1) hb, h.ne⟩
theorem FlN.setV (h : FlN W a l su sv) (hb : Bel W.heap.size sv W W') : FlN W' a l su sv := ⟨h.fls.belS (fun b o e hz => (h.ne b o e hz).2) hb, h.ne⟩
theorem FlN.of (h : Fls w a l) (hb : Below w.heap.size w W) (h1 : w.heap.size ≤ su) (h2 : w.heap.size ≤ sv) : FlN W a l su sv := ⟨h.below hb, fun b o e hz => by
  obtain ⟨b', off, e', hlt, _⟩ := h hz
  rw [e] at e'
  simp only [Option.some.injEq, Addr.mk.injEq] at e'
  obtain ⟨rfl, _⟩ := e'
  exact ⟨by omega, by omega⟩⟩
theorem OwnF.fln {B : Nat} {v : Value} (h : OwnF W B v l) (h1 : su < B) (h2 : sv < B) : ∃ a cap, v = .slice a l.length cap ∧ FlN W a l su sv := by
  obtain ⟨a, b, cap, hv, _, _, hB, hfs, _⟩ := h.fs
  refine ⟨a, cap, hv, hfs.fls, fun b' o e hz => ?_⟩
  rcases hfs with h0 | ⟨e', _⟩
  · exact absurd h0 hz
  · rw [e] at e'
    simp only [Option.some.injEq, Addr.mk.injEq] at e'
    obtain ⟨rfl, _⟩ := e'
    exact ⟨by omega, by omega⟩
/-- A box apart is turned. -/
theorem FlN.put3 {n : Nat} {cs : List Value} (h : FlN W a l su sv) (hb : Box W n cs) (hc : ∀ (i x : Nat), cs[i]? ≠ some (Value.float .f64 x)) (v0 v1 v2 : Value) : FlN (((W.setCell ⟨n, 0, none⟩ v0).setCell ⟨n, 1, none⟩ v1).setCell ⟨n, 2, none⟩ v2) a l su sv :=
  ⟨h.fls.belS (s := n) (fun b o e hz e2 => by
    subst e2
    obtain ⟨b', off, e', _, hcl⟩ := h.fls hz
    rw [e] at e'
    simp only [Option.some.injEq, Addr.mk.injEq] at e'
    obtain ⟨rfl, rfl, _⟩ := e'
    obtain ⟨x, xs, rfl⟩ := List.exists_cons_of_ne_nil hz
    obtain ⟨s, hs⟩ := hcl 0 x rfl
    rw [hb.cell] at hs
    exact hc _ _ hs) (Bel.refl3 _ _ _ _), h.ne⟩
theorem mat_nofloat (r c : Int) (a : Option Addr) (n k : Nat) (i x : Nat) : ([.int .i64 r, .int .i64 c, .slice a n k] : List Value)[i]? ≠ some (Value.float .f64 x) := by
  match i with
  | 0 => simp
  | 1 => simp
  | 2 => simp
  | n + 3 => simp
end

section
variable {v : Vw} {r c : Nat}
theorem scalP_spec (h : OfI v r c) (er : v.r = r) (ec : v.c = c) (hp : vecV v.p v.r v.c = true) (hv : vec8 r c = true) (a : Nat) (xs : List Nat) (hl : xs.length = r * c) :
    ∀ n, n ≤ r * c → (scalP a v xs n).length = r * c ∧ ∀ k, k < r * c → v.getVec (scalP a v xs n) k = if k < n then fmul a (v.getVec xs k) else v.getVec xs k
  | 0, _ => ⟨hl, fun k _ => by rw [scalP, if_neg (Nat.not_lt_zero _)]⟩
  | n + 1, hn => by
    obtain ⟨h1, h2⟩ := scalP_spec h er ec hp hv a xs hl n (by omega)
    refine ⟨by rw [scalP, putVec_len8]; exact h1, fun k hk => ?_⟩
    rw [scalP, vec_put h er ec hp hv _ h1 (by omega) hk, h2 k hk, h2 n (by omega), if_neg (Nat.lt_irrefl n)]
    by_cases e : n = k
    · subst e
      rw [if_pos rfl, if_pos (by omega)]
    · rw [if_neg e]
      by_cases e2 : k < n
      · rw [if_pos e2, if_pos (by omega)]
      · rw [if_neg e2, if_neg (by omega)]
theorem axpyP_spec (h : OfI v r c) (er : v.r = r) (ec : v.c = c) (hp : vecV v.p v.r v.c = true) (hv : vec8 r c = true) (a : Nat) (x : Vw) (xs : List Nat) (ys : List Nat) (hl : ys.length = r * c) :
    ∀ n, n ≤ r * c → (axpyP a x xs v ys n).length = r * c ∧ ∀ k, k < r * c → v.getVec (axpyP a x xs v ys n) k = if k < n then fadd (v.getVec ys k) (fmul a (x.getVec xs k)) else v.getVec ys k
  | 0, _ => ⟨hl, fun k _ => by rw [axpyP, if_neg (Nat.not_lt_zero _)]⟩
  | n + 1, hn => by
    obtain ⟨h1, h2⟩ := axpyP_spec h er ec hp hv a x xs ys hl n (by omega)
    refine ⟨by rw [axpyP, putVec_len8]; exact h1, fun k hk => ?_⟩
    rw [axpyP, vec_put h er ec hp hv _ h1 (by omega) hk, h2 k hk, h2 n (by omega), if_neg (Nat.lt_irrefl n)]
    by_cases e : n = k
    · subst e
      rw [if_pos rfl, if_pos (by omega)]
    · rw [if_neg e]
      by_cases e2 : k < n
      · rw [if_pos e2, if_pos (by omega)]
      · rw [if_neg e2, if_neg (by omega)]
end
section
variable {u v : Vw} {su sv rx cx ry cy a : Nat} {zx zy us vs X Y : List Nat}
/-- What Axpy leaves. -/
def wantL (b : Bool) (a : Nat) (zx zy : List Nat) : List Nat := if b then axpyR a zx zy zx.length else zy
def scaledL (b : Bool) (a : Nat) (zx : List Nat) : List Nat := if b then scalR a zx zx.length else zx
theorem axpy_rw (Pu : OfP u su rx cx zx us) (Pv : OfP v sv ry cy zy vs) (Iv : OfI v ry cy) (hvl : vs.length = ry * cy) (hnx : zx.length = rx * cx) (hny : zy.length = ry * cy)
    (hR : Rw Y (axpyL a u v us vs)) : Y.length = ry * cy ∧ Rw (v.list Y) (wantL (fit8 rx cx ry cy zx.length zy.length) a zx zy) := by
  unfold axpyL at hR
  rw [Pu.two Pv hnx hny] at hR
  unfold wantL
  cases hf : fit8 rx cx ry cy zx.length zy.length
  · rw [hf] at hR
    simp only [Bool.false_eq_true, if_false, show ((8 : Int) = 0) = False from by decide] at hR ⊢
    exact ⟨hR.1.trans hvl, Pv.same hny hR⟩
  · rw [hf] at hR
    simp only [if_true] at hR ⊢
    unfold fit8 at hf
    simp only [Bool.and_eq_true, decide_eq_true_eq] at hf
    obtain ⟨vx, vy, hxy⟩ := hf
    have hvy : vecV v.p v.r v.c = true := by rw [Pv.vec]; exact vy
    have hlx : lenV u.p u.r u.c = ry * cy := by rw [Pu.len, vx, if_pos rfl, ← hnx, hxy, hny]
    rw [hlx] at hR
    obtain ⟨h1, h2⟩ := axpyP_spec Iv Pv.er Pv.ec hvy vy a u us vs hvl (ry * cy) (Nat.le_refl _)
    refine ⟨hR.1.trans h1, vec_rw Pv.er Pv.ec hvy vy Y _ (by rw [axpyR_len, hxy, hny]) fun k hk => ?_⟩
    obtain ⟨s, hs⟩ := hR.getVec v k
    refine ⟨s, ?_⟩
    rw [hs, h2 k hk, if_pos hk, axpyR_at a zx zy zx.length k (by rw [hxy, hny]; exact hk), Pv.at vy k hk, Pu.at vx k (by rw [← hnx, hxy, hny]; exact hk)]
theorem scal_rw (Pu : OfP u su rx cx zx us) (Iu : OfI u rx cx) (hul : us.length = rx * cx) (hnx : zx.length = rx * cx)
    (hR : Rw X (scalL a u us)) : X.length = rx * cx ∧ Rw (u.list X) (scaledL (vec8 rx cx) a zx) := by
  unfold scalL at hR
  rw [Pu.one] at hR
  unfold scaledL
  cases hf : vec8 rx cx
  · rw [hf] at hR
    simp only [Bool.false_eq_true, if_false, show ((8 : Int) = 0) = False from by decide] at hR ⊢
    exact ⟨hR.1.trans hul, Pu.same hnx hR⟩
  · rw [hf] at hR
    simp only [if_true] at hR ⊢
    have hvx : vecV u.p u.r u.c = true := by rw [Pu.vec]; exact hf
    have hlx : lenV u.p u.r u.c = rx * cx := by rw [Pu.len, hf, if_pos rfl]
    rw [hlx] at hR
    obtain ⟨h1, h2⟩ := scalP_spec Iu Pu.er Pu.ec hvx hf a us hul (rx * cx) (Nat.le_refl _)
    refine ⟨hR.1.trans h1, vec_rw Pu.er Pu.ec hvx hf X _ (by rw [scalR_len, hnx]) fun k hk => ?_⟩
    obtain ⟨s, hs⟩ := hR.getVec u k
    refine ⟨s, ?_⟩
    rw [hs, h2 k hk, if_pos hk, scalR_at a zx zx.length k (by rw [hnx]; exact hk), Pu.at hf k hk]
/-- What a view shows of one that it took. -/
theorem take_rw {o : Vw} {wo L : List Nat} (Pu : OfP u su rx cx zx us) (Iu : OfI u rx cx) (hX : X.length = rx * cx) (er : o.r = rx) (ec : o.c = cx) (ht : takeE u o = 0) (hL : L.length = rx * cx) (hG : ∀ i j, i < rx → j < cx → ∃ s, o.get wo i j = raw (L.getD (i * cx + j) 0) s) :
    Rw (u.list (u.take o wo X)) L := by
  unfold Vw.take
  rw [if_pos ht]
  unfold Vw.takeL
  obtain ⟨_, h2⟩ := puts_spec Iu Pu.er Pu.ec (fun p _ => o.get wo p.1 p.2) X hX (fun i j => o.get wo i j) (fun _ _ _ _ _ _ _ => rfl) (rx * cx) (Nat.le_refl _)
  refine list_rw u _ rx cx Pu.er Pu.ec L hL fun i j hi hj => ?_
  obtain ⟨s, hs⟩ := hG i j hi hj
  refine ⟨s, ?_⟩
  have e := h2 i j hi hj
  rw [if_pos (place8 hi hj)] at e
  rw [Pu.er, Pu.ec, e, hs]
theorem rw_get {L : List Nat} (er : v.r = ry) (ec : v.c = cy) (h : Rw (v.list Y) L) (hL : L.length = ry * cy) (i j : Nat) (hi : i < ry) (hj : j < cy) : ∃ s, v.get Y i j = raw (L.getD (i * cy + j) 0) s := by
  have hk := place8 hi hj
  obtain ⟨s, hs⟩ := h.2 (i * cy + j) (by rw [hL]; exact hk)
  refine ⟨s, ?_⟩
  rw [← hs, list_getD8 v Y (by rw [er, ec]; exact hk), ec]
  have h1 : (i * cy + j) / cy = i := by rw [Nat.mul_comm, Nat.mul_add_div (by omega), Nat.div_eq_of_lt hj, Nat.add_zero]
  have h2 : (i * cy + j) % cy = j := by rw [Nat.mul_comm, Nat.mul_add_mod, Nat.mod_eq_of_lt hj]
  rw [h1, h2]
theorem swap_code (Pu : OfP u su rx cx zx us) (Pv : OfP v sv ry cy zy vs) : openE [u, v] (fits_Swap u v false) = if decide (rx = ry) && decide (cx = cy) then 0 else 8 := by
  unfold openE fits_Swap
  rw [Pu.er, Pu.ec, Pv.er, Pv.ec]
  simp [Pu.ep, Pv.ep]
theorem wantL_len (hnx : zx.length = rx * cx) (hny : zy.length = ry * cy) : (wantL (fit8 rx cx ry cy zx.length zy.length) a zx zy).length = ry * cy := by
  unfold wantL
  cases hf : fit8 rx cx ry cy zx.length zy.length
  · exact hny
  · unfold fit8 at hf
    simp only [Bool.and_eq_true, decide_eq_true_eq] at hf
    rw [if_pos rfl, axpyR_len, hf.2.2, hny]
theorem scaledL_len (b : Bool) (hnx : zx.length = rx * cx) : (scaledL b a zx).length = rx * cx := by
  unfold scaledL
  cases b
  · exact hnx
  · rw [if_pos rfl, scalR_len, hnx]
theorem wantL_words (b : Bool) (h : Words zy) : Words (wantL b a zx zy) := by
  unfold wantL
  cases b
  · exact h
  · exact axpyR_words _ _ _ _
theorem scaledL_words (b : Bool) (h : Words zx) : Words (scaledL b a zx) := by
  unfold scaledL
  cases b
  · exact h
  · exact scalR_words _ _ _
end
end Go.Proofs.Ytbcdpibcieadlaa

/- Layer 8: what KernelsSteps holds on to, more. No condition but on lengths. -/
namespace Go.Proofs.Ytbcdpibcieadlaa
open Go Go.RowKit
set_option maxRecDepth 1000000

theorem get_lt9 {v : Vw} {ws : List Nat} (h : Words ws) (i j : Int) : v.get ws i j < 18446744073709551616 := by
  unfold Vw.get
  split
  · exact h.at _
  · decide
theorem takeL_words {v o : Vw} {wo : List Nat} (hw : Words wo) : ∀ (l : List (Nat × Nat)) (ws : List Nat), Words ws → Words (v.takeL o wo ws l)
  | [], _, h => h
  | y :: l, ws, h => by
    have := takeL_words (v := v) (o := o) hw l (v.put ws y.1 y.2 (o.get wo y.1 y.2)) (words_put h v _ _ (get_lt9 hw _ _))
    exact this
theorem take_words {v o : Vw} {wo ws : List Nat} (hw : Words wo) (h : Words ws) : Words (v.take o wo ws) := by
  unfold Vw.take
  split
  · exact takeL_words hw _ _ h
  · exact h
section
variable {w V : World} {MX MY : List Value} {b9 b10 su sv stu stv rx cx ry cy : Nat} {u v : Vw} {zx zy us vs : List Nat}
/-- The world behind the two views' making. -/
theorem stw_make (x0 : Box V w.heap.size MX) (x1 : Box V (w.heap.size + 1) MY) (z9 : Box V b9 [.pointer none, .int .i64 0, .int .i64 0, .int .i64 0, .int .i64 0, .int .i64 0]) (z10 : Box V b10 [.pointer none, .int .i64 0, .int .i64 0, .int .i64 0, .int .i64 0, .int .i64 0]) (hu : Sto V (some ⟨stu, 0, none⟩) su us) (hv : Sto V (some ⟨stv, 0, none⟩) sv vs)
    (Pu : OfP u stu rx cx zx us) (Pv : OfP v stv ry cy zy vs) (hB : Below w.heap.size w V) (k9 : w.heap.size + 1 < b9) (k10 : w.heap.size + 1 < b10) (n : b9 ≠ b10) (a1 : b9 ≠ su) (a2 : b9 ≠ sv) (a3 : b9 ≠ stu) (a4 : b9 ≠ stv) (c1 : b10 ≠ su) (c2 : b10 ≠ sv) (c3 : b10 ≠ stu) (c4 : b10 ≠ stv)
    (d1 : w.heap.size + 1 < su) (d2 : w.heap.size + 1 < sv) (d3 : w.heap.size + 1 < stu) (d4 : w.heap.size + 1 < stv) (e1 : su ≠ sv) (e2 : stu ≠ sv) (e3 : stv ≠ su) :
    StW w (six (six V b9 u) b10 v) [(w.heap.size, MX), (w.heap.size + 1, MY), (b9, [.pointer u.p, .int .i64 u.r, .int .i64 u.c, .int .i64 u.o, .int .i64 u.d, .int .i64 u.u]), (b10, [.pointer v.p, .int .i64 v.r, .int .i64 v.c, .int .i64 v.o, .int .i64 v.d, .int .i64 v.u])] u v su sv us vs := by
  have hu2 : Sto (six (six V b9 u) b10 v) (some ⟨stu, 0, none⟩) su us := Sto.bel (Sto.bel hu (by omega) (by omega) (six_bel _ _ _ _)) (by omega) (by omega) (six_bel _ _ _ _)
  have hv2 : Sto (six (six V b9 u) b10 v) (some ⟨stv, 0, none⟩) sv vs := Sto.bel (Sto.bel hv (by omega) (by omega) (six_bel _ _ _ _)) (by omega) (by omega) (six_bel _ _ _ _)
  refine ⟨fun p hp => ?_, fun p hp => ?_, fun p hp => ?_, fun p hp st hst => ?_, Vw.Apart.of (Pu.ok _ _ hu2) (.inr Pu.ep) e1 e2, Vw.Apart.of (Pv.ok _ _ hv2) (.inr Pv.ep) (fun h => e1 h.symm) e3, Pu.words, Pv.words, by omega, by omega, six_below (six_below hB (by omega) _) (by omega) _⟩
  · simp only [List.mem_cons, List.not_mem_nil, or_false] at hp
    rcases hp with rfl | rfl | rfl | rfl
    · exact six_other (six_other x0 (by omega) _) (by omega) _
    · exact six_other (six_other x1 (by omega) _) (by omega) _
    · exact six_other (six_box (u := ⟨none, 0, 0, 0, 0, 0⟩) z9 _) n _
    · exact six_box (u := ⟨none, 0, 0, 0, 0, 0⟩) (six_other z10 (fun h => n h.symm) _) _
  · simp only [List.mem_cons, List.not_mem_nil, or_false] at hp
    rcases hp with rfl | rfl | rfl | rfl <;> (dsimp only; omega)
  · simp only [List.mem_cons, List.not_mem_nil, or_false] at hp
    rcases hp with rfl | rfl | rfl | rfl <;> (dsimp only; omega)
  · rw [Pu.ep, Pv.ep] at hst
    simp only [Option.some.injEq, Addr.mk.injEq, and_true] at hst
    simp only [List.mem_cons, List.not_mem_nil, or_false] at hp
    rcases hp with rfl | rfl | rfl | rfl <;> (dsimp only; omega)
end
section
variable {w W W' : World} {bs : List (Nat × List Value)} {u v : Vw} {su sv stu stv rx cx ry cy : Nat} {zx zy us vs us' vs' wl sl : List Nat} {P : Nat}
theorem StW.lt {n : Nat} {cs : List Value} (h : StW w W bs u v su sv us vs) (k : Nat) (hk : bs[k]? = some (n, cs)) : n < W.heap.size := (h.get k hk).lt
/-- The law's Swap. -/
theorem StW.swap (h : StW w W bs u v su sv us' vs') (Pu : OfP u stu rx cx zx us) (Iu : OfI u rx cx) (Pv : OfP v stv ry cy zy vs) (Iv : OfI v ry cy) (hd : stu ≠ stv) (hX : us'.length = rx * cx) (hY : vs'.length = ry * cy)
    (hS : Rw (u.list us') sl) (hsl : sl.length = rx * cx) (hL : Rw (v.list vs') wl) (hwl : wl.length = ry * cy) :
    Calls Try.prog 51 #[u.val, v.val] W fun e W' => (e = .returned (.int .i64 (if decide (rx = ry) && decide (cx = cy) then 0 else 8))) ∧
      if (decide (rx = ry) && decide (cx = cy)) = true then ∃ X Y, StW w W' bs u v su sv X Y ∧ (∀ a l, FlN W a l su sv → FlN W' a l su sv) ∧ Rw (u.list X) wl ∧ Rw (v.list Y) sl else StW w W' bs u v su sv us' vs' ∧ (∀ a l, FlN W a l su sv → FlN W' a l su sv) := by
  have ou := h.ou.1
  have ov := h.ov.1
  have hsu : ∃ cu, Box W stu cu := by
    rcases ou with e | ⟨⟨st, e, b1, _⟩, _⟩
    · have := Pu.ep; rw [e] at this; cases this
    · rw [Pu.ep] at e; obtain rfl : stu = st := by simpa using e
      exact ⟨_, b1⟩
  have hsv : ∃ cv, Box W stv cv := by
    rcases ov with e | ⟨⟨st, e, b1, _⟩, _⟩
    · have := Pv.ep; rw [e] at this; cases this
    · rw [Pv.ep] at e; obtain rfl : stv = st := by simpa using e
      exact ⟨_, b1⟩
  obtain ⟨cu, bu⟩ := hsu
  obtain ⟨cv, bv⟩ := hsv
  have hk := Swap_any W u v su sv us' vs' (fun _ => vs') false ou ov (fun V hV => Shares_other V u v stu stv cu cv Pu.ep Pv.ep hd (bu.below hV) (bv.below hV)) (fun A B _ hy _ hb => (Vw.Apart.bel ⟨hy, h.ov.2⟩ hb).1)
  rw [swap_code Pu Pv] at hk
  refine hk.mono ?_
  rintro e W' ⟨rfl, h1, h2⟩
  refine ⟨rfl, ?_⟩
  cases hq : decide (rx = ry) && decide (cx = cy)
  · rw [hq] at h2
    simp only [Bool.false_eq_true, if_false] at h2 ⊢
    exact ⟨h.step (h2 (by decide)), fun a l k => k.step (h2 (by decide))⟩
  · rw [hq] at h1
    simp only [if_true] at h1 ⊢
    simp only [Bool.and_eq_true, decide_eq_true_eq] at hq
    obtain ⟨rfl, rfl⟩ := hq
    obtain ⟨w1, st, k1, k2, k3, k4, k5⟩ := h1 trivial
    have hU := h.setU k2 k1 (take_words h.wv h.wu)
    have hlw : Words (u.list us') := fun x hx => by
      unfold Vw.list at hx
      obtain ⟨p, _, rfl⟩ := List.mem_map.1 hx
      exact get_lt9 h.wu _ _
    have hV := hU.setV k5 k4 (take_words hlw h.wv)
    have pu : u.p.isSome = true := by rw [Pu.ep]; rfl
    have pv : v.p.isSome = true := by rw [Pv.ep]; rfl
    have hC := CpyF.of us' st pu h.ou.1.small.1 h.ou.1.small.2
    refine ⟨_, _, hV, fun a l k => (k.setU k2).setV k5, ?_, ?_⟩
    · exact take_rw Pu Iu hX Pv.er Pv.ec (takeE_zero pu pv (by rw [Pu.er, Pv.er]) (by rw [Pu.ec, Pv.ec])) hwl (fun i j hi hj => rw_get Pv.er Pv.ec hL hwl i j hi hj)
    · refine take_rw Pv Iv hY (hC.r.trans Pu.er) (hC.c.trans Pu.ec) (takeE_zero pv (by rw [hC.p]; rfl) (by rw [Pv.er, hC.r, Pu.er]) (by rw [Pv.ec, hC.c, Pu.ec])) hsl (fun i j hi hj => ?_)
      obtain ⟨s, hs⟩ := rw_get Pu.er Pu.ec hS hsl i j hi hj
      exact ⟨s, by rw [← hs]; exact hC.get i j (by rw [Pu.er]; exact hi) (by rw [Pu.ec]; exact hj)⟩
end
theorem RAxpy_eq (w : World) (a : Nat) (xa ya : Option Addr) (xs ys : List Nat) (xc yc : Nat) (hX : Fls w xa xs) (hY : Fls w ya ys) (he : xs.length = ys.length) (hl : xs.length ≤ 262144) :
    Calls Try.prog 53 #[.float .f64 a, .slice xa xs.length xc, .slice ya ys.length yc] w fun e w' => (∃ v, e = .returned v ∧ OwnF w' w.heap.size v (axpyR a xs ys xs.length)) ∧ Below w.heap.size w w' := by
  have h := RAxpy_any w a xs.length xa ya xs ys xc yc hX hY rfl he.symm hl
  rw [← he]
  exact h
end Go.Proofs.Ytbcdpibcieadlaa

/- Layer 8: a matrix's view turned, its rows and columns, as views of matrices. No condition but on lengths. -/
namespace Go.Proofs.Ytbcdpibcieadlaa
open Go Go.RowKit
set_option maxRecDepth 1000000

/-- A matrix turned; a row; a column. -/
def turnL (zs : List Nat) (r c : Nat) : List Nat := (List.range (c * r)).map fun k => zs.getD ((k % r) * c + k / r) 0
def rwL (zs : List Nat) (c i : Nat) : List Nat := (List.range c).map fun j => zs.getD (i * c + j) 0
def clL (zs : List Nat) (r c j : Nat) : List Nat := (List.range r).map fun i => zs.getD (i * c + j) 0
theorem turnL_len (zs : List Nat) (r c : Nat) : (turnL zs r c).length = c * r := by unfold turnL; simp
theorem rwL_len (zs : List Nat) (c i : Nat) : (rwL zs c i).length = c := by unfold rwL; simp
theorem clL_len (zs : List Nat) (r c j : Nat) : (clL zs r c j).length = r := by unfold clL; simp
theorem getD_map_range (f : Nat → Nat) {n k : Nat} (hk : k < n) : ((List.range n).map f).getD k 0 = f k := by
  rw [List.getD_eq_getElem?_getD, List.getElem?_map, List.getElem?_range hk]; rfl
theorem turnL_at (zs : List Nat) {r c i j : Nat} (hi : i < c) (hj : j < r) : (turnL zs r c).getD (i * r + j) 0 = zs.getD (j * c + i) 0 := by
  unfold turnL
  rw [getD_map_range _ (place8 hi hj)]
  have h1 : (i * r + j) / r = i := by rw [Nat.mul_comm, Nat.mul_add_div (by omega), Nat.div_eq_of_lt hj, Nat.add_zero]
  have h2 : (i * r + j) % r = j := by rw [Nat.mul_comm, Nat.mul_add_mod, Nat.mod_eq_of_lt hj]
  rw [h1, h2]
theorem turnL_words {zs : List Nat} (h : Words zs) (r c : Nat) : Words (turnL zs r c) := fun x hx => by
  obtain ⟨k, _, rfl⟩ := List.mem_map.1 hx
  exact h.at _
theorem rwL_words {zs : List Nat} (h : Words zs) (c i : Nat) : Words (rwL zs c i) := fun x hx => by
  obtain ⟨k, _, rfl⟩ := List.mem_map.1 hx
  exact h.at _
theorem clL_words {zs : List Nat} (h : Words zs) (r c j : Nat) : Words (clL zs r c j) := fun x hx => by
  obtain ⟨k, _, rfl⟩ := List.mem_map.1 hx
  exact h.at _
section
variable {v : Vw} {st r c : Nat} {zs ws : List Nat}
theorem T_get8 (v : Vw) (ws : List Nat) (i j : Nat) : v.T.get ws i j = v.get ws j i := by
  unfold Vw.get Vw.T inV
  dsimp only
  by_cases h : i < v.c ∧ j < v.r
  · rw [if_pos (by simp; omega), if_pos (by simp; omega)]
    congr 1
    omega
  · rw [if_neg (by simp; omega), if_neg (by simp; omega)]
theorem row_form (hp : v.p.isSome = true) {i : Nat} (hi : i < v.r) : v.row i = ⟨v.p, 1, v.c, v.o + i * v.d, v.d, v.u⟩ := by
  unfold Vw.row Vw.part
  rw [hp, if_pos (by unfold fitsV; simp; omega)]
  simp
theorem col_form (hp : v.p.isSome = true) {j : Nat} (hj : j < v.c) : v.col j = ⟨v.p, v.r, 1, v.o + j * v.u, v.d, v.u⟩ := by
  unfold Vw.col Vw.part
  rw [hp, if_pos (by unfold fitsV; simp; omega)]
  simp
theorem OfP.some (h : OfP v st r c zs ws) : v.p.isSome = true := by rw [h.ep]; rfl
theorem OfP.turn (h : OfP v st r c zs ws) : OfP v.T st c r (turnL zs r c) ws :=
  ⟨h.ep, h.ec, h.er, h.words, fun i j hi hj => by rw [T_get8, turnL_at zs hi hj]; exact h.get j i hj hi, fun W sb k => T_ok (h.ok W sb k)⟩
theorem OfP.row (h : OfP v st r c zs ws) {i : Nat} (hi : i < r) : OfP (v.row i) st 1 c (rwL zs c i) ws := by
  have e := row_form h.some (i := i) (by rw [h.er]; exact hi)
  refine ⟨by rw [e]; exact h.ep, by rw [e], by rw [e]; exact h.ec, h.words, fun a j ha hj => ?_, fun W sb k => row_ok (h.ok W sb k) _⟩
  obtain rfl : a = 0 := by omega
  rw [Nat.zero_mul, Nat.zero_add]
  unfold rwL
  rw [getD_map_range _ hj, ← h.get i j hi hj, e]
  unfold Vw.get inV
  dsimp only
  rw [if_pos (by simp; rw [h.ec]; omega), if_pos (by simp; rw [h.er, h.ec]; omega)]
  simp
theorem OfP.col (h : OfP v st r c zs ws) {j : Nat} (hj : j < c) : OfP (v.col j) st r 1 (clL zs r c j) ws := by
  have e := col_form h.some (j := j) (by rw [h.ec]; exact hj)
  refine ⟨by rw [e]; exact h.ep, by rw [e]; exact h.er, by rw [e], h.words, fun i b hi hb => ?_, fun W sb k => col_ok (h.ok W sb k) _⟩
  obtain rfl : b = 0 := by omega
  rw [Nat.mul_one, Nat.add_zero]
  unfold clL
  rw [getD_map_range _ hi, ← h.get i j hi hj, e]
  unfold Vw.get inV
  dsimp only
  rw [if_pos (by simp; rw [h.er]; omega), if_pos (by simp; rw [h.er, h.ec]; omega)]
  congr 1
  simp only [Int.toNat_natCast, Int.toNat_zero, Int.ofNat_zero]
  simp
  omega
/-- A column that is written. -/
theorem col_put8 (hp : v.p.isSome = true) {j : Nat} (hj : j < v.c) (us : List Nat) {k : Nat} (hk : k < v.r) (x : Nat) : (v.col j).putVec us k x = v.put us k j x := by
  have e := col_form hp hj
  have er : (v.col j).r = v.r := by rw [e]
  have hv : vecV (v.col j).p (v.col j).r (v.col j).c = true := by rw [e]; unfold vecV; rw [hp]; simp
  rw [putVec_al er hv]
  have ha : alN v.r k = (k, 0) := by
    unfold alN
    by_cases h1 : v.r = 1
    · rw [if_pos h1]; have : k = 0 := by omega
      rw [this]
    · rw [if_neg h1]
  rw [ha, e]
  unfold Vw.put inV
  dsimp only
  rw [if_pos (by simp; omega), if_pos (by simp; omega)]
  congr 1
  simp
  omega
theorem col_times (h : OfI v r c) (er : v.r = r) (ec : v.c = c) (hp : v.p.isSome = true) {j : Nat} (hj : j < c) (a b : Nat) (g : Nat → Nat → Nat) (X Y : Nat → Nat) (cols : Nat) (ys : List Nat) (hl : ys.length = r * c) :
    ∀ n, n ≤ r → (timesL a b g X Y (v.col j) cols ys n).length = r * c ∧ ∀ p q, p < r → q < c → v.get (timesL a b g X Y (v.col j) cols ys n) p q = if q = j ∧ p < n then bothW b (Y p) a (sumG (g p) X 0 cols) else v.get ys p q
  | 0, _ => ⟨by rw [timesL]; exact hl, fun p q _ _ => by rw [timesL, if_neg (fun h => Nat.not_lt_zero _ h.2)]⟩
  | n + 1, hn => by
    obtain ⟨h1, h2⟩ := col_times h er ec hp hj a b g X Y cols ys hl n (by omega)
    refine ⟨by rw [timesL, putVec_len8]; exact h1, fun p q hpr hq => ?_⟩
    rw [timesL, col_put8 hp (by rw [ec]; exact hj) _ (by rw [er]; omega), h.get_put er ec _ h1 (by omega) hj hpr hq, h2 p q hpr hq]
    by_cases e : n = p ∧ j = q
    · obtain ⟨rfl, rfl⟩ := e
      rw [if_pos ⟨rfl, rfl⟩, if_pos ⟨rfl, by omega⟩]
    · rw [if_neg e]
      by_cases e2 : q = j ∧ p < n
      · rw [if_pos e2, if_pos ⟨e2.1, by omega⟩]
      · rw [if_neg e2, if_neg (fun h3 => e2 ⟨h3.1, by have : n ≠ p := fun h4 => e ⟨h4, h3.1.symm⟩; omega⟩)]
/-- A square matrix, its column j put anew. -/
def putclL (zs l : List Nat) (n j : Nat) : List Nat := (List.range (n * n)).map fun k => if k % n = j then l.getD (k / n) 0 else zs.getD k 0
theorem putclL_len (zs l : List Nat) (n j : Nat) : (putclL zs l n j).length = n * n := by unfold putclL; simp
theorem gemv_col {n i : Nat} {us : List Nat} {a b : Nat} (P : OfP v st n n zs ws) (I : OfI v n n) (hl : ws.length = n * n) (hi : i < n)
    (hR : Rw us (gemvL a b v (v.row i) (v.col i) ws ws ws)) : us.length = n * n ∧ Rw (v.list us) (putclL zs (gemvR a zs n (rwL zs n i) b (clL zs n n i) n) n i) := by
  have Pr := P.row hi
  have Pc := P.col hi
  have hf : fitGv n n 1 n n 1 (rwL zs n i).length (clL zs n n i).length = true := by
    unfold fitGv vec8; rw [rwL_len, clL_len]; simp
  unfold gemvL at hR
  rw [gemv_code P Pr Pc (by rw [rwL_len, Nat.one_mul]) (by rw [clL_len, Nat.mul_one]), hf] at hR
  simp only [if_true] at hR
  obtain ⟨h1, h2⟩ := col_times I P.er P.ec P.some hi a b (fun i k => v.get ws i k) (fun k => (v.row i).getVec ws k) (fun k => (v.col i).getVec ws k) v.c ws hl v.r (Nat.le_of_eq P.er)
  refine ⟨hR.1.trans h1, list_rw v us n n P.er P.ec _ (putclL_len _ _ _ _) fun p q hp hq => ?_⟩
  obtain ⟨s, hs⟩ := hR.get v p q
  refine ⟨s, ?_⟩
  rw [hs, h2 p q hp hq]
  congr 1
  have d1 : (p * n + q) / n = p := by rw [Nat.mul_comm, Nat.mul_add_div (by omega), Nat.div_eq_of_lt hq, Nat.add_zero]
  have d2 : (p * n + q) % n = q := by rw [Nat.mul_comm, Nat.mul_add_mod, Nat.mod_eq_of_lt hq]
  unfold putclL
  rw [getD_map_range _ (place8 hp hq), d1, d2]
  by_cases e : q = i
  · rw [if_pos e, if_pos ⟨e, by rw [P.er]; exact hp⟩]
    have e1 : (gemvR a zs n (rwL zs n i) b (clL zs n n i) n).getD p 0 = bothW b (atL (clL zs n n i) p) a (sumG (atL (rowL zs n p)) (atL (rwL zs n i)) 0 n) := by
      unfold gemvR
      rw [getD_map_range _ hp]
    rw [e1, Pc.at (by unfold vec8; simp) p (by omega), P.ec]
    congr 1
    refine sumG_congr _ (fun k hk => ⟨?_, ?_⟩)
    · rw [Nat.zero_add, rowL_at _ _ _ _ hk]; exact P.get p k hp hk
    · rw [Nat.zero_add]; exact Pr.at (by unfold vec8; simp) k (by omega)
  · rw [if_neg e, if_neg (fun h => e h.1)]
    exact P.get p q hp hq
end
end Go.Proofs.Ytbcdpibcieadlaa

/- Regions that draw their order: a chain of operations, and beside it operations that may come at any time, by an invariant (no order is written out). No condition. -/
namespace Go.Proofs.Ytbcdpibcieadlaa
open Go Go.RowKit
section
variable {P : Program} {ops : Array Oper} {Q : Exit → Act → World → Prop} {md : Region.Mode} {S : World → Prop} {n : Nat}
def subsL : List Nat → List (List Nat)
  | [] => [[]]
  | x :: l => subsL l ++ (subsL l).map (x :: ·)
theorem subsL_nil : ∀ l : List Nat, [] ∈ subsL l
  | [] => by simp [subsL]
  | x :: l => by rw [subsL, List.mem_append]; exact .inl (subsL_nil l)
theorem subsL_self : ∀ l : List Nat, l ∈ subsL l
  | [] => by simp [subsL]
  | x :: l => by rw [subsL, List.mem_append]; exact .inr (List.mem_map_of_mem (subsL_self l))
theorem subsL_erase (q : Nat) : ∀ (l pd : List Nat), pd ∈ subsL l → pd.erase q ∈ subsL l
  | [], pd, h => by
    have : pd = [] := by simpa [subsL] using h
    subst this; exact h
  | x :: l, pd, h => by
    rw [subsL, List.mem_append] at h ⊢
    rcases h with h | h
    · exact .inl (subsL_erase q l pd h)
    · obtain ⟨p, hp, rfl⟩ := List.mem_map.1 h
      by_cases e : x = q
      · subst e
        rw [List.erase_cons_head]
        exact .inl hp
      · rw [List.erase_cons_tail (by simpa using e)]
        exact .inr (List.mem_map_of_mem (subsL_erase q l p hp))
theorem subsL_sub : ∀ (l pd : List Nat), pd ∈ subsL l → pd.Sublist l
  | [], pd, h => by
    have : pd = [] := by simpa [subsL] using h
    subst this; exact List.Sublist.refl _
  | x :: l, pd, h => by
    rw [subsL, List.mem_append] at h
    rcases h with h | h
    · exact (subsL_sub l pd h).cons x
    · obtain ⟨p, hp, rfl⟩ := List.mem_map.1 h
      exact (subsL_sub l p hp).cons_cons x
/-- What is listed where the chain's 'rc' and the others' 'pd' are left. -/
def lstd (sz n : Nat) (rc pd : List Nat) : Array Bool := ((List.range sz).map fun i => decide (i < n) && !rc.contains i && !pd.contains i).toArray
theorem lstd_set {sz n c : Nat} {rc pd rc' pd' : List Nat} (hc : c < n) (hcr : rc'.contains c = false) (hcp : pd'.contains c = false) (hr : ∀ i, i ≠ c → rc'.contains i = rc.contains i) (hp : ∀ i, i ≠ c → pd'.contains i = pd.contains i) :
    (lstd sz n rc pd).setIfInBounds c true = lstd sz n rc' pd' := by
  apply Array.ext
  · simp [lstd]
  · intro i h1 h2
    simp only [lstd, List.size_toArray, List.length_map, List.length_range, Array.size_setIfInBounds] at h1
    rw [Array.getElem_setIfInBounds (by simp [lstd]; exact h1)]
    by_cases e : c = i
    · subst e
      rw [if_pos rfl]
      simp only [lstd, List.getElem_toArray, List.getElem_map, List.getElem_range]
      rw [hcr, hcp]; simp [hc]
    · rw [if_neg e]
      simp only [lstd, List.getElem_toArray, List.getElem_map, List.getElem_range]
      rw [hr i (fun h => e h.symm), hp i (fun h => e h.symm)]
def sufs : List Nat → List (List Nat)
  | [] => [[]]
  | x :: l => (x :: l) :: sufs l
theorem sufs_self : ∀ l : List Nat, l ∈ sufs l
  | [] => by simp [sufs]
  | x :: l => by simp [sufs]
theorem sufs_tail : ∀ (l : List Nat) (c : Nat) (rc : List Nat), c :: rc ∈ sufs l → rc ∈ sufs l
  | [], c, rc, h => by simp [sufs] at h
  | x :: l, c, rc, h => by
    rw [sufs, List.mem_cons] at h ⊢
    rcases h with h | h
    · injection h with h1 h2; subst h2; exact .inr (sufs_self _)
    · exact .inr (sufs_tail l c rc h)
theorem sufs_sub : ∀ (l rc : List Nat), rc ∈ sufs l → rc.Sublist l
  | [], rc, h => by
    have : rc = [] := by simpa [sufs] using h
    subst this; exact List.Sublist.refl _
  | x :: l, rc, h => by
    rw [sufs, List.mem_cons] at h
    rcases h with rfl | h
    · exact List.Sublist.refl _
    · exact (sufs_sub l rc h).cons x
def stateB (md : Region.Mode) (ops : Array Oper) (n : Nat) (rc pd : List Nat) : Bool :=
  match rc with
  | [] => match pd with
    | [] => Region.seqB md ops (ops.size - n) n (lstd ops.size n [] [])
    | x :: l => permL (Region.ready md ops (lstd ops.size n [] (x :: l))) (x :: l)
  | c :: rc => permL (Region.ready md ops (lstd ops.size n (c :: rc) pd)) (c :: pd)
def invB (md : Region.Mode) (ops : Array Oper) (n : Nat) (calls free : List Nat) : Bool :=
  decide (calls ++ free).Nodup && ((calls ++ free).all fun i => decide (i < n)) && (sufs calls).all fun rc => (subsL free).all fun pd => stateB md ops n rc pd
theorem wpAnyS_inv {J : List Nat → List Nat → Act → World → Prop} {K : Act → World → Prop} {calls free : List Nat} (hB : invB md ops n calls free = true)
    (hK : ∀ a w, J [] [] a w → K a w) (h1 : ∀ c rc pd a w, c :: rc ∈ sufs calls → pd ∈ subsL free → S w → J (c :: rc) pd a w → opW P ops Q S c (J rc pd) a w)
    (h2 : ∀ q rc pd a w, rc ∈ sufs calls → pd ∈ subsL free → q ∈ pd → S w → J rc pd a w → opW P ops Q S q (J rc (pd.erase q)) a w) :
    ∀ (k : Nat) (rc pd : List Nat) (a : Act) (w : World), k = rc.length + pd.length → rc ∈ sufs calls → pd ∈ subsL free → S w → J rc pd a w →
      wpAnyS P md ops Q S n (fun listed a w => Region.seqB md ops (ops.size - n) n listed = true ∧ K a w) k (lstd ops.size n rc pd) a w := by
  simp only [invB, Bool.and_eq_true, decide_eq_true_eq, List.all_eq_true] at hB
  obtain ⟨⟨hnd, hlt⟩, hst⟩ := hB
  intro k
  induction k with
  | zero =>
    intro rc pd a w hk hrc hpd hS hJ
    obtain rfl : rc = [] := List.length_eq_zero_iff.1 (by omega)
    obtain rfl : pd = [] := List.length_eq_zero_iff.1 (by omega)
    exact ⟨hst [] hrc [] hpd, hK a w hJ⟩
  | succ k ih =>
    intro rc pd a w hk hrc hpd hS hJ
    have hs := hst rc hrc pd hpd
    have hrs := sufs_sub _ _ hrc
    have hps := subsL_sub _ _ hpd
    have hnd2 := List.nodup_append.1 hnd
    have hpn : pd.Nodup := hps.nodup hnd2.2.1
    have hrn : rc.Nodup := hrs.nodup hnd2.1
    have stepq : ∀ q, q ∈ pd → q < n ∧ wpOp P ops Q q (fun a' w' => S w' ∧ wpAnyS P md ops Q S n (fun listed a w => Region.seqB md ops (ops.size - n) n listed = true ∧ K a w) k ((lstd ops.size n rc pd).setIfInBounds q true) a' w') a w := fun q hq => by
      have hqn : q < n := hlt q (List.mem_append.2 (.inr (hps.subset hq)))
      refine ⟨hqn, wpOp_opW (fun a' w' hS' hk' => ?_) (h2 q rc pd a w hrc hpd hq hS hJ)⟩
      have hqr : q ∉ rc := fun h => hnd2.2.2 q (hrs.subset h) q (hps.subset hq) rfl
      rw [lstd_set (rc' := rc) (pd' := pd.erase q) hqn (by simpa using hqr) (by simpa using fun h => (hpn.mem_erase_iff.1 h).1 rfl) (fun _ _ => rfl) (fun i hi => by rw [Bool.eq_iff_iff]; simp [hpn.mem_erase_iff, hi])]
      exact ih rc (pd.erase q) a' w' (by rw [List.length_erase, if_pos hq]; have := List.length_pos_of_mem hq; omega) hrc (subsL_erase q _ _ hpd) hS' hk'
    cases rc with
    | nil =>
      cases pd with
      | nil => simp at hk
      | cons x l =>
        have hmem := permL_mem hs
        exact ⟨fun h0 => (by have := (hmem x).2 (by simp); rw [h0] at this; cases this), fun j hj => stepq j ((hmem j).1 hj)⟩
    | cons c rc =>
      have hmem := permL_mem hs
      refine ⟨fun h0 => (by have := (hmem c).2 (by simp); rw [h0] at this; cases this), fun j hj => ?_⟩
      by_cases e : j ∈ pd
      · exact stepq j e
      · obtain rfl : j = c := (List.mem_cons.1 ((hmem j).1 hj)).resolve_right e
        have hjn : j < n := hlt j (List.mem_append.2 (.inl (hrs.subset (by simp))))
        refine ⟨hjn, wpOp_opW (fun a' w' hS' hk' => ?_) (h1 j rc pd a w hrc hpd hS hJ)⟩
        have hjr : j ∉ rc := (List.nodup_cons.1 hrn).1
        rw [lstd_set (rc' := rc) (pd' := pd) hjn (by simpa using hjr) (by simpa using e) (fun i hi => by rw [Bool.eq_iff_iff]; simp [hi]) (fun _ _ => rfl)]
        exact ih rc pd a' w' (by simp only [List.length_cons] at hk; omega) (sufs_tail _ _ _ hrc) hpd hS' hk'
def preB (md : Region.Mode) (ops : Array Oper) (n : Nat) (calls free : List Nat) : List (Bool × Nat) → Array Bool → Bool
  | [], listed => decide (listed = lstd ops.size n calls free) && invB md ops n calls free
  | (b, i) :: l, listed => b && (Region.ready md ops listed).contains i && Region.free md ops listed i && decide (i < n) && preB md ops n calls free l (listed.setIfInBounds i true)
theorem wpAnyS_pre {J : List Nat → List Nat → Act → World → Prop} {K : Act → World → Prop} {calls free : List Nat} (hsel : Region.noSelect ops = true) (hQ : ∀ c a d v w, Q (.panic c) (Act.put a d v) w → Q (.panic c) a w)
    (hs : Region.sinkB md ops n = true) (hc : Region.chainB md ops n = true) (hn : n < ops.size)
    (hK : ∀ a w, J [] [] a w → K a w) (h1 : ∀ c rc pd a w, c :: rc ∈ sufs calls → pd ∈ subsL free → S w → J (c :: rc) pd a w → opW P ops Q S c (J rc pd) a w)
    (h2 : ∀ q rc pd a w, rc ∈ sufs calls → pd ∈ subsL free → q ∈ pd → S w → J rc pd a w → opW P ops Q S q (J rc (pd.erase q)) a w) :
    ∀ (l : List (Bool × Nat)) (listed : Array Bool) (a : Act) (w : World), HeadInv md ops n listed → preB md ops n calls free l listed = true → S w →
    iW P ops Q S (J calls free) l a w → wpAnyS P md ops Q S n (fun listed a w => Region.seqB md ops (ops.size - n) n listed = true ∧ K a w) (l.length + (calls.length + free.length)) listed a w
  | [], listed, a, w, _, hB, hS, h => by
    simp only [preB, Bool.and_eq_true, decide_eq_true_eq] at hB
    obtain ⟨rfl, hB⟩ := hB
    rw [List.length_nil, Nat.zero_add]
    exact wpAnyS_inv hB hK h1 h2 _ calls free a w rfl (sufs_self _) (subsL_self _) hS h
  | (false, p) :: l, listed, a, w, inv, hB, hS, h => by simp [preB] at hB
  | (true, p) :: l, listed, a, w, inv, hB, hS, h => by
    simp only [preB, Bool.true_and, Bool.and_eq_true, decide_eq_true_eq] at hB
    obtain ⟨⟨⟨hr, hf⟩, hpn⟩, hB⟩ := hB
    obtain ⟨o, ho', v, hy, hK'⟩ := h
    have ho : ops[p]? = some o := by simpa using ho'
    have hr' : p ∈ Region.ready md ops listed := by simpa using hr
    rw [List.length_cons, show l.length + 1 + (calls.length + free.length) = l.length + (calls.length + free.length) + 1 by omega]
    exact wpAnyS_first ho (Region.noSelect_spec hsel) (fun c a w => hQ c a _ _ w) hs hc hn hpn (fun listed' a' w' hL => seqB_ready hL.1) _ listed a w inv (Region.free_spec ho hf) hr' hy hS
      (wpAnyS_pre hsel hQ hs hc hn hK h1 h2 l _ _ w (inv.set hr' hpn) hB hS hK')
def itemsI (l : List Oper) (n : Nat) (is : List (Bool × Nat)) (calls free : List Nat) : Bool :=
  Region.noSelect l.toArray && decide (n < l.toArray.size) && decide (n = is.length + (calls.length + free.length)) && Region.sinkB .any l.toArray n && Region.chainB .any l.toArray n && preB .any l.toArray n calls free is (Array.replicate l.toArray.size false)
/-- **THE REGION.** -/
theorem wp_region_inv {id : Nat} {a : Act} {w : World} {l : List Oper} (n : Nat) (is : List (Bool × Nat)) (calls free : List Nat) (S : World → Prop) (J : List Nat → List Nat → Act → World → Prop) (hm : P.follows .mixedOrders = true) (hB : itemsI l n is calls free = true) (hS : S w.drew)
    (h : iW P l.toArray (NoPanic Q) S (J calls free) is a w.drew)
    (h1 : ∀ c rc pd a w, c :: rc ∈ sufs calls → pd ∈ subsL free → S w → J (c :: rc) pd a w → opW P l.toArray (NoPanic Q) S c (J rc pd) a w)
    (h2 : ∀ q rc pd a w, rc ∈ sufs calls → pd ∈ subsL free → q ∈ pd → S w → J rc pd a w → opW P l.toArray (NoPanic Q) S q (J rc (pd.erase q)) a w)
    (hK : ∀ a w, J [] [] a w → wpList P l.toArray (NoPanic Q) (l.drop n) a w) : (Code.region id l.toArray true).wp P Q a w := by
  refine wp_region_noPanic ?_
  simp only [itemsI, Bool.and_eq_true, decide_eq_true_eq] at hB
  obtain ⟨⟨⟨⟨⟨hsel, hn⟩, hlen⟩, hs⟩, hc⟩, hH⟩ := hB
  refine wp_region_any hm ?_
  have hsz : l.toArray.size = (is.length + (calls.length + free.length)) + (l.toArray.size - n) := by omega
  have inv : HeadInv .any l.toArray n (Array.replicate l.toArray.size false) :=
    ⟨by simp, fun j oj _ hl => (by rw [getD_replicate_false] at hl; cases hl), fun t _ ht => getD_in (by rw [Array.size_replicate]; exact ht) (getD_replicate_false _ _)⟩
  have hW := wpAnyS_pre (K := fun a w => wpList P l.toArray (NoPanic Q) (l.drop n) a w) hsel (fun _ _ _ _ _ h => h) hs hc hn hK h1 h2 is _ a w.drew inv hH hS h
  refine (congrArg (fun k => wpAny P .any l.toArray (NoPanic Q) k (Array.replicate l.toArray.size false) a w.drew) hsz).mpr ?_
  refine wpAny_of_S (fun listed a w hL => ?_) _ _ _ _ hW
  have hd : (l.drop n).length = l.toArray.size - n := by simp
  have := wpAny_of_seq (Q' := NoPanic Q) (l.drop n) n listed a w (fun j => by simp) (by rw [hd]; exact hL.1) hL.2
  rw [hd] at this
  exact this
end
end Go.Proofs.Ytbcdpibcieadlaa
