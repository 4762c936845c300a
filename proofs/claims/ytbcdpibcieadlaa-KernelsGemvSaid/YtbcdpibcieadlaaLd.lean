/- Layer 8: what the laws hold on to; what a vector shows; a matrix times a vector, plainly. No condition but on lengths. -/
import Derived.Test.YtbcdpibcieadlaaLc
namespace Go.Proofs.Ytbcdpibcieadlaa
open Go Go.RowKit
set_option maxRecDepth 1000000

/-! ### What a law holds on to -/
structure BoxS (w W : World) (bs : List (Nat × List Value)) : Prop where
  bx : ∀ p ∈ bs, Box W p.1 p.2
  below : Below w.heap.size w W
structure LawS (w W : World) (bs : List (Nat × List Value)) (v : Vw) (sb : Nat) (ws : List Nat) : Prop where
  bx : ∀ p ∈ bs, Box W p.1 p.2
  ne : ∀ p ∈ bs, p.1 ≠ sb
  ok : v.Ok W sb ws
  words : Words ws
  lo : w.heap.size ≤ sb
  below : Below w.heap.size w W
section
variable {w W W' : World} {bs : List (Nat × List Value)} {v : Vw} {sb : Nat} {ws us : List Nat}
theorem BoxS.step (h : BoxS w W bs) (hb : Below W.heap.size W W') : BoxS w W' bs := ⟨fun p hp => (h.bx p hp).below hb, below_step h.below h.below.size hb⟩
theorem BoxS.get (h : BoxS w W bs) (k : Nat) {n : Nat} {cs : List Value} (hk : bs[k]? = some (n, cs)) : Box W n cs := h.bx (n, cs) (List.mem_of_getElem? hk)
theorem LawS.step (h : LawS w W bs v sb ws) (hb : Below W.heap.size W W') : LawS w W' bs v sb ws := ⟨fun p hp => (h.bx p hp).below hb, h.ne, h.ok.below hb, h.words, h.lo, below_step h.below h.below.size hb⟩
theorem LawS.kern (h : LawS w W bs v sb ws) (hb : Bel W.heap.size sb W W') (ho : v.Ok W' sb us) (hW : Words us) : LawS w W' bs v sb us :=
  ⟨fun p hp => (h.bx p hp).bel (h.ne p hp) hb, h.ne, ho, hW, h.lo, h.below.trans ((hb.mono h.below.size).below h.lo)⟩
theorem LawS.get (h : LawS w W bs v sb ws) (k : Nat) {n : Nat} {cs : List Value} (hk : bs[k]? = some (n, cs)) : Box W n cs := h.bx (n, cs) (List.mem_of_getElem? hk)
/-- A view of a store of its own, in a variable. -/
theorem BoxS.view (h : BoxS w W bs) {st : Nat} (hok : v.Ok W sb ws) (hS : Sto W (some ⟨st, 0, none⟩) sb ws) (hW : Words ws) {W0 : World} (h0 : BoxS w W0 bs) (hlo : W0.heap.size ≤ sb) :
    LawS w (W.alloc (.cells #[.pointer v.p, .int .i64 v.r, .int .i64 v.c, .int .i64 v.o, .int .i64 v.d, .int .i64 v.u] 29)) (bs ++ [(W.heap.size, [.pointer v.p, .int .i64 v.r, .int .i64 v.c, .int .i64 v.o, .int .i64 v.d, .int .i64 v.u])]) v sb ws := by
  have hb : Below W.heap.size W (W.alloc (.cells #[.pointer v.p, .int .i64 v.r, .int .i64 v.c, .int .i64 v.o, .int .i64 v.d, .int .i64 v.u] 29)) := (Below.refl _ _).alloc (Nat.le_refl _) _
  have hlt := (sto_lts hS).2
  refine ⟨fun p hp => ?_, fun p hp => ?_, hok.below hb, hW, Nat.le_trans h0.below.size hlo, below_step h.below h.below.size hb⟩
  · rcases List.mem_append.1 hp with hp | hp
    · exact (h.bx p hp).below hb
    · simp only [List.mem_cons, List.not_mem_nil, or_false] at hp
      subst hp
      exact Box.newA _ _ _ rfl
  · rcases List.mem_append.1 hp with hp | hp
    · have := (h0.bx p hp).lt; omega
    · simp only [List.mem_cons, List.not_mem_nil, or_false] at hp
      subst hp
      show W.heap.size ≠ sb
      omega
end

/-- A matrix that came in and is small. -/
structure MatP (w : World) (r c : Nat) (a : Option Addr) (z : List Nat) (p : Nat) : Prop where
  cel : Cel w a z
  words : Words z
  hr : r ≤ 512
  hc : c ≤ 512
  hn : z.length = r * c
  hl : z.length ≤ 150
  hp : z.length ≤ p
  hm : p ≤ maxLen
theorem MatP.of {w : World} {r c : Nat} {a : Option Addr} {z : List Nat} {p : Nat} (h : MatP w r c a z p) (t : Bool) (W : World) (hb : Below w.heap.size w W) :
    Calls Try.prog 17 #[.agg #[.int .i64 r, .int .i64 c, .slice a z.length p], .bool t] W fun e w' => (∃ v st sb ws, e = .returned v.val ∧ W.heap.size ≤ st ∧ W.heap.size ≤ sb ∧ Sto w' (some ⟨st, 0, none⟩) sb ws ∧ OfP v st r c z ws ∧ OfI v r c ∧ ws.length = r * c) ∧ Below W.heap.size W w' :=
  of9_any t r c a z p W h.hr h.hc h.hn (h.cel.below hb) h.words
theorem MatP.fls {w : World} {r c : Nat} {a : Option Addr} {z : List Nat} {p : Nat} (h : MatP w r c a z p) (W : World) (hb : Below w.heap.size w W) : Fls W a z := (h.cel.below hb).fls h.words

/-! ### A vector -/
def alN (r k : Nat) : Nat × Nat := if r = 1 then (0, k) else (k, 0)
theorem alN_spec {r c k : Nat} (hv : vec8 r c = true) (hk : k < r * c) : (alN r k).1 < r ∧ (alN r k).2 < c ∧ (alN r k).1 * c + (alN r k).2 = k := by
  unfold alN
  unfold vec8 at hv
  simp only [Bool.or_eq_true, Bool.and_eq_true, decide_eq_true_eq] at hv
  by_cases h1 : r = 1
  · subst h1
    rw [if_pos rfl]
    dsimp only
    omega
  · rw [if_neg h1]
    rcases hv with (h2 | h2) | h2
    · exact absurd h2 h1
    · subst h2
      dsimp only
      omega
    · rw [h2.1] at hk; omega
section
variable {v : Vw} {st r c : Nat} {zs ws us : List Nat}
theorem getVec_al (er : v.r = r) (hv : vecV v.p v.r v.c = true) (us : List Nat) (k : Nat) : v.getVec us k = v.get us ((alN r k).1 : Nat) ((alN r k).2 : Nat) := by
  unfold Vw.getVec
  rw [hv, if_pos rfl]
  unfold Vw.al alN
  rw [er]
  by_cases h1 : r = 1
  · simp [h1]
  · simp [h1]
theorem putVec_al (er : v.r = r) (hv : vecV v.p v.r v.c = true) (us : List Nat) (k x : Nat) : v.putVec us k x = v.put us ((alN r k).1 : Nat) ((alN r k).2 : Nat) x := by
  unfold Vw.putVec
  rw [hv]
  simp only [Bool.not_true, Bool.and_false, Bool.false_eq_true, if_false]
  unfold Vw.al alN
  rw [er]
  by_cases h1 : r = 1
  · simp [h1]
  · simp [h1]
theorem putVec_len8 (v : Vw) (us : List Nat) (k : Int) (x : Nat) : (v.putVec us k x).length = us.length := by
  unfold Vw.putVec
  split
  · rfl
  · exact Vw.put_length v us _ _ x
theorem vec_put (h : OfI v r c) (er : v.r = r) (ec : v.c = c) (hp : vecV v.p v.r v.c = true) (hv : vec8 r c = true) (us : List Nat) (hl : us.length = r * c) {k k' : Nat} (hk : k < r * c) (hk' : k' < r * c) (x : Nat) :
    v.getVec (v.putVec us k x) k' = if k = k' then x else v.getVec us k' := by
  obtain ⟨a1, a2, a3⟩ := alN_spec hv hk
  obtain ⟨b1, b2, b3⟩ := alN_spec hv hk'
  rw [putVec_al er hp, getVec_al er hp, getVec_al er hp, h.get_put er ec us hl a1 a2 b1 b2]
  by_cases e : k = k'
  · subst e
    rw [if_pos ⟨rfl, rfl⟩, if_pos rfl]
  · rw [if_neg e, if_neg (fun h2 => e (by rw [← a3, ← b3, h2.1, h2.2]))]
/-- What a vector shows. -/
theorem vec_rw (er : v.r = r) (ec : v.c = c) (hp : vecV v.p v.r v.c = true) (hv : vec8 r c = true) (us zs : List Nat) (hn : zs.length = r * c) (h : ∀ k, k < r * c → ∃ s, v.getVec us k = raw (atL zs k) s) : Rw (v.list us) zs :=
  list_rw v us r c er ec zs hn fun i j hi hj => by
    have hk := place8 hi hj
    obtain ⟨a1, a2, a3⟩ := alN_spec hv hk
    obtain ⟨e1, e2⟩ := place8_inj a2 hj a3
    obtain ⟨s, hs⟩ := h _ hk
    rw [getVec_al er hp, e1, e2] at hs
    exact ⟨s, hs⟩
theorem Rw.getVec {ws ts : List Nat} (h : Rw ws ts) (v : Vw) (i : Int) : ∃ s, v.getVec ws i = raw (v.getVec ts i) s := by
  unfold Vw.getVec
  split
  · exact h.get v _ _
  · exact ⟨0, (raw_of_not (by kernel_rfl) 0).symm⟩
theorem timesL_spec (h : OfI v r c) (er : v.r = r) (ec : v.c = c) (hp : vecV v.p v.r v.c = true) (hv : vec8 r c = true) (a b : Nat) (g : Nat → Nat → Nat) (X Y : Nat → Nat) (cols : Nat) (ys : List Nat) (hl : ys.length = r * c) :
    ∀ n, n ≤ r * c → (timesL a b g X Y v cols ys n).length = r * c ∧ ∀ k, k < r * c → v.getVec (timesL a b g X Y v cols ys n) k = if k < n then bothW b (Y k) a (sumG (g k) X 0 cols) else v.getVec ys k
  | 0, _ => ⟨by rw [timesL]; exact hl, fun k _ => by rw [timesL, if_neg (Nat.not_lt_zero _)]⟩
  | n + 1, hn => by
    obtain ⟨h1, h2⟩ := timesL_spec h er ec hp hv a b g X Y cols ys hl n (by omega)
    refine ⟨by rw [timesL, putVec_len8]; exact h1, fun k hk => ?_⟩
    rw [timesL, vec_put h er ec hp hv _ h1 (by omega) hk, h2 k hk]
    by_cases e : n = k
    · subst e
      rw [if_pos rfl, if_pos (by omega)]
    · rw [if_neg e]
      by_cases e2 : k < n
      · rw [if_pos e2, if_pos (by omega)]
      · rw [if_neg e2, if_neg (by omega)]
end

/-! ### A matrix times a vector -/
def fitGv (cm rm rx cx ry cy nx ny : Nat) : Bool := vec8 rx cx && (vec8 ry cy && (decide (cm = nx) && decide (rm = ny)))
theorem OfP.vecN {v : Vw} {st r c : Nat} {zs ws : List Nat} (h : OfP v st r c zs ws) (hn : zs.length = r * c) (n : Nat) : vecN v n = (vec8 r c && decide (n = zs.length)) := by
  unfold Go.Proofs.Ytbcdpibcieadlaa.vecN
  rw [h.vec, h.len, hn]
  cases vec8 r c
  · rfl
  · simp only [Bool.true_and, if_true]
    rw [Bool.eq_iff_iff]; simp; omega
theorem gemv_code {m x y : Vw} {sm sx sy rm cm rx cx ry cy : Nat} {zm zx zy ms xs ys : List Nat} (Pm : OfP m sm rm cm zm ms) (Px : OfP x sx rx cx zx xs) (Py : OfP y sy ry cy zy ys) (hnx : zx.length = rx * cx) (hny : zy.length = ry * cy) :
    openE [m, x, y] (fits_Gemv m x y) = if fitGv cm rm rx cx ry cy zx.length zy.length then 0 else 8 := by
  have e : fits_Gemv m x y = fitGv cm rm rx cx ry cy zx.length zy.length := by
    unfold fits_Gemv fitGv
    rw [Px.vecN hnx, Py.vecN hny, Pm.ec, Pm.er]
    cases vec8 rx cx <;> cases vec8 ry cy <;> simp
  unfold openE
  rw [e]
  simp [Pm.ep, Px.ep, Py.ep]
theorem gemv_bad {m x y : Vw} {sm sx sy rm cm rx cx ry cy : Nat} {zm zx zy ms xs ys us : List Nat} {a b : Nat} (Pm : OfP m sm rm cm zm ms) (Px : OfP x sx rx cx zx xs) (Py : OfP y sy ry cy zy ys) (hnx : zx.length = rx * cx) (hny : zy.length = ry * cy)
    (hf : fitGv cm rm rx cx ry cy zx.length zy.length = false) (hR : Rw us (gemvL a b m x y ms xs ys)) : Rw (y.list us) zy := by
  unfold gemvL at hR
  rw [gemv_code Pm Px Py hnx hny, hf] at hR
  exact Py.same hny hR
theorem gemv_good {m x y : Vw} {sm sx sy rm cm rx cx ry cy : Nat} {zm zx zy ms xs ys us : List Nat} {a b : Nat} (Pm : OfP m sm rm cm zm ms) (Px : OfP x sx rx cx zx xs) (Py : OfP y sy ry cy zy ys) (Iy : OfI y ry cy) (hly : ys.length = ry * cy) (hnx : zx.length = rx * cx) (hny : zy.length = ry * cy)
    (hf : fitGv cm rm rx cx ry cy zx.length zy.length = true) (hR : Rw us (gemvL a b m x y ms xs ys)) : Rw (y.list us) (gemvR a zm cm zx b zy rm) := by
  unfold gemvL at hR
  rw [gemv_code Pm Px Py hnx hny, hf] at hR
  simp only [if_true] at hR
  unfold fitGv at hf
  simp only [Bool.and_eq_true, decide_eq_true_eq] at hf
  obtain ⟨vx, vy, hc, hr⟩ := hf
  have hvy : vecV y.p y.r y.c = true := by rw [Py.vec]; exact vy
  refine vec_rw Py.er Py.ec hvy vy us _ (by rw [gemvR_len, hr, hny]) fun k hk => ?_
  obtain ⟨s, hs⟩ := hR.getVec y k
  obtain ⟨_, h2⟩ := timesL_spec Iy Py.er Py.ec hvy vy a b (fun i k => m.get ms i k) (fun k => x.getVec xs k) (fun k => y.getVec ys k) m.c ys hly m.r (Nat.le_of_eq (by rw [Pm.er, hr, hny]))
  rw [h2 k hk, if_pos (by rw [Pm.er, hr, hny]; exact hk)] at hs
  refine ⟨s, ?_⟩
  rw [hs]
  congr 1
  have hkr : k < rm := by rw [hr, hny]; exact hk
  have e1 : atL (gemvR a zm cm zx b zy rm) k = bothW b (atL zy k) a (sumG (atL (rowL zm cm k)) (atL zx) 0 cm) := by
    unfold atL gemvR
    rw [List.getD_eq_getElem?_getD, List.getElem?_map, List.getElem?_range hkr]
    rfl
  rw [e1, Py.at vy k hk, Pm.ec]
  congr 1
  refine sumG_congr _ fun j hj => ⟨?_, ?_⟩
  · rw [Nat.zero_add, rowL_at zm cm k j hj]
    exact Pm.get k j hkr hj
  · rw [Nat.zero_add]
    exact Px.at vx j (by rw [← hnx, ← hc]; exact hj)
theorem gemvR_words (a : Nat) (zs : List Nat) (c : Nat) (xs : List Nat) (b : Nat) (ys : List Nat) (r : Nat) : Words (gemvR a zs c xs b ys r) := fun v hv => by
  unfold gemvR at hv
  obtain ⟨i, _, rfl⟩ := List.mem_map.1 hv
  exact bothW_lt _ _ _ _
end Go.Proofs.Ytbcdpibcieadlaa
