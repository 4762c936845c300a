/- Layer 8: a matrix, told by a function, times a vector. No condition but on lengths. -/
import Derived.Test.YtbcdpibcieadlaaKe
namespace Go.Proofs.Ytbcdpibcieadlaa
open Go Go.RowKit
set_option maxRecDepth 100000

/-! ### Words up to a NaN's bits -/
/-- The words ws are the floats ts. -/
def Rw (ws ts : List Nat) : Prop := ws.length = ts.length ∧ ∀ i, i < ts.length → ∃ s, ws.getD i 0 = raw (ts.getD i 0) s
theorem Rw.self {ws : List Nat} (h : Words ws) : Rw ws ws := ⟨rfl, fun i _ => raw_self (h.at i)⟩
theorem Rw.set {ws ts : List Nat} (h : Rw ws ts) (k x s : Nat) : Rw (ws.set k (raw x s)) (ts.set k x) := by
  refine ⟨by rw [List.length_set, List.length_set]; exact h.1, fun i hi => ?_⟩
  rw [List.length_set] at hi
  obtain ⟨u, hu⟩ := h.2 i hi
  have hw : i < ws.length := by rw [h.1]; exact hi
  by_cases hk : k = i
  · subst hk
    refine ⟨s, ?_⟩
    simp [List.getD_eq_getElem?_getD, hi, hw]
  · refine ⟨u, ?_⟩
    rw [List.getD_eq_getElem?_getD, List.getD_eq_getElem?_getD, List.getElem?_set_ne hk, List.getElem?_set_ne hk, ← List.getD_eq_getElem?_getD, ← List.getD_eq_getElem?_getD]
    exact hu
theorem Rw.put {ws ts : List Nat} (h : Rw ws ts) (v : Vw) (i j : Int) (x s : Nat) : Rw (v.put ws i j (raw x s)) (v.put ts i j x) := by
  unfold Vw.put
  split
  · exact h.set _ _ _
  · exact h
theorem Rw.putVec {ws ts : List Nat} (h : Rw ws ts) (v : Vw) (i : Int) (x s : Nat) : Rw (v.putVec ws i (raw x s)) (v.putVec ts i x) := by
  unfold Vw.putVec
  split
  · exact h
  · exact h.put _ _ _ _ _
theorem words_set {ws : List Nat} (h : Words ws) {k x : Nat} (hx : x < 18446744073709551616) : Words (ws.set k x) := fun v hv => by
  rcases List.mem_or_eq_of_mem_set hv with h1 | h1
  · exact h v h1
  · rw [h1]; exact hx
theorem words_putVec {ws : List Nat} (h : Words ws) (v : Vw) (i : Int) {x : Nat} (hx : x < 18446744073709551616) : Words (v.putVec ws i x) := by
  unfold Vw.putVec Vw.put
  split
  · exact h
  · split
    · exact words_set h hx
    · exact h
/-- (b o) + (a s), each rounded. -/
def bothW (b o a s : Nat) : Nat := fadd (fmul b o) (fmul a s)
theorem both_any (w : World) (b o a s t : Nat) : Calls Try.prog 81 #[.float .f64 b, .float .f64 o, .float .f64 a, .float .f64 (raw s t)] w fun e w' => (∃ u, e = .returned (.float .f64 (raw (bothW b o a s) u))) ∧ Below w.heap.size w w' := by
  unfold bothW
  go_enter Try.func81, Try.ntmps81
  go_wp2_with (first | (fail) | (refine wpList_flt rfl rfl rfl rfl rfl ?_; intro K hK _ _; go_frame; refine hK _ _ ?_; clear hK K))
  simp only [fadd_rawl, fadd_rawr, fmul_rawr]
  go_ret
  exact ⟨⟨_, rfl⟩, below_drewN _ (below_drewN _ (below_drewN _ (Below.refl _ _)))⟩
theorem bothW_lt (b o a s : Nat) : bothW b o a s < 18446744073709551616 := fadd_lt _ _

/-! ### Blocks apart from one that is written -/
theorem Sto.bel {w w' : World} {st sb m : Nat} {ws : List Nat} (h : Sto w (some ⟨st, 0, none⟩) sb ws) (h1 : st ≠ m) (h2 : sb ≠ m) (hb : Bel w.heap.size m w w') : Sto w' (some ⟨st, 0, none⟩) sb ws := by
  obtain ⟨st', e, b1, b2, hl⟩ := h
  obtain rfl : st = st' := by simpa using e
  exact ⟨st, rfl, b1.bel h1 hb, b2.bel h2 hb, hl⟩
/-- A view of a store apart from block m. -/
def Vw.Apart (v : Vw) (w : World) (sb : Nat) (ws : List Nat) (m : Nat) : Prop := v.Ok w sb ws ∧ (v = Vw.none ∨ sb ≠ m ∧ ∀ st, v.p = some ⟨st, 0, Option.none⟩ → st ≠ m)
theorem Vw.Apart.bel {v : Vw} {w w' : World} {sb m : Nat} {ws : List Nat} (h : v.Apart w sb ws m) (hb : Bel w.heap.size m w w') : v.Apart w' sb ws m := by
  obtain ⟨h1, h2⟩ := h
  refine ⟨?_, h2⟩
  rcases h2 with h2 | ⟨h2, h3⟩
  · exact .inl h2
  · rcases h1 with h1 | ⟨h1, h4⟩
    · exact .inl h1
    · obtain ⟨st, e, _⟩ := id h1
      rw [e] at h1
      exact .inr ⟨by rw [e]; exact h1.bel (h3 st e) h2 hb, h4⟩
theorem Vw.Apart.below {v : Vw} {w w' : World} {sb m : Nat} {ws : List Nat} (h : v.Apart w sb ws m) (hb : Below w.heap.size w w') : v.Apart w' sb ws m := ⟨h.1.below hb, h.2⟩
theorem Vw.Apart.of {v : Vw} {w : World} {sb m : Nat} {ws : List Nat} {st : Nat} (h : v.Ok w sb ws) (hp : v.p = Option.none ∨ v.p = some ⟨st, 0, Option.none⟩) (h1 : sb ≠ m) (h2 : st ≠ m) : v.Apart w sb ws m := by
  refine ⟨h, .inr ⟨h1, fun st' e => ?_⟩⟩
  rcases hp with hp | hp
  · rw [hp] at e; cases e
  · rw [hp] at e
    simp only [Option.some.injEq, Addr.mk.injEq, and_true] at e
    omega
theorem list_len8 (v : Vw) (ws : List Nat) : (v.list ws).length = v.r * v.c := by unfold Vw.list plcs; simp
theorem cpy_ok {x : Vw} {w W : World} {sb st sb' : Nat} {ws : List Nat} (h : x.Ok w sb ws) (hp : x.p.isNone = false → Sto W (some ⟨st, 0, none⟩) sb' (x.list ws)) : (cpyV x st).Ok W sb' (x.list ws) := by
  unfold cpyV
  cases hn : x.p.isNone
  · rw [if_neg (by decide)]
    exact newV_ok (hp hn) h.small.1 h.small.2 (list_len8 x ws)
  · rw [if_pos rfl]
    exact .inl rfl
theorem cpy_p (x : Vw) (st : Nat) : (cpyV x st).p = none ∨ (cpyV x st).p = some ⟨st, 0, none⟩ := by
  unfold cpyV
  split
  · exact .inl rfl
  · exact .inr rfl
theorem list_getD8 (v : Vw) (ws : List Nat) {k : Nat} (hk : k < v.r * v.c) : (v.list ws).getD k 0 = v.get ws (k / v.c : Nat) (k % v.c : Nat) := by
  unfold Vw.list plcs
  rw [List.getD_eq_getElem?_getD]
  simp [hk]
theorem vec_cases {p : Option Addr} {r c : Nat} (h : vecV p r c = true) : p.isSome = true ∧ (r = 1 ∨ c = 1 ∨ r = 0 ∧ c = 0) := by
  unfold vecV at h
  simp only [Bool.and_eq_true, Bool.or_eq_true, decide_eq_true_eq] at h
  exact ⟨h.1, by rcases h.2 with (h | h) | h; exact .inl h; exact .inr (.inl h); exact .inr (.inr h)⟩
theorem cpy_getVec (x : Vw) (ws : List Nat) (st k : Nat) (hv : vecV x.p x.r x.c = true) (hk : k < lenV x.p x.r x.c) : (cpyV x st).getVec (x.list ws) k = x.getVec ws k := by
  have hl : lenV x.p x.r x.c = x.r * x.c := by unfold lenV; rw [if_pos hv]
  rw [hl] at hk
  obtain ⟨hs, hc⟩ := vec_cases hv
  have hn : x.p.isNone = false := by cases h : x.p <;> simp_all
  have e : cpyV x st = newV st x.r x.c := by unfold cpyV; rw [hn]; rfl
  have hv2 : vecV (newV st x.r x.c).p (newV st x.r x.c).r (newV st x.r x.c).c = true := by
    unfold vecV at hv ⊢
    simp only [newV, Option.isSome_some, Bool.true_and]
    simp only [Bool.and_eq_true] at hv
    exact hv.2
  rw [e]
  unfold Vw.getVec
  rw [if_pos hv, if_pos hv2]
  unfold Vw.al
  simp only [newV]
  rcases hc with hc | hc | ⟨h1, h2⟩
  · rw [if_pos hc, if_pos hc]
    rw [hc, Nat.one_mul] at hk
    have h3 := list_getD8 x ws (k := k) (by rw [hc, Nat.one_mul]; exact hk)
    rw [Nat.div_eq_of_lt hk, Nat.mod_eq_of_lt hk] at h3
    show Vw.get _ _ _ _ = x.get ws 0 k
    rw [show ((0 : Nat) : Int) = 0 from rfl] at h3
    rw [← h3]
    unfold Vw.get
    rw [if_pos (by unfold inV; simp; omega)]
    simp [hc]
  · rw [hc, Nat.mul_one] at hk
    have h3 := list_getD8 x ws (k := k) (by rw [hc, Nat.mul_one]; exact hk)
    rw [hc, Nat.div_one, Nat.mod_one] at h3
    by_cases h1 : x.r = 1
    · rw [if_pos h1, if_pos h1]
      obtain rfl : k = 0 := by omega
      show Vw.get _ _ _ _ = x.get ws 0 0
      rw [show ((0 : Nat) : Int) = 0 from rfl] at h3
      rw [← h3]
      unfold Vw.get
      rw [if_pos (by unfold inV; simp; omega)]
      simp [h1]
    · rw [if_neg h1, if_neg h1]
      show Vw.get _ _ _ _ = x.get ws k 0
      rw [show ((0 : Nat) : Int) = 0 from rfl] at h3
      rw [← h3]
      unfold Vw.get
      rw [if_pos (by unfold inV; simp; omega)]
      simp [hc, h1]
  · rw [h1, h2] at hk
    omega
end Go.Proofs.Ytbcdpibcieadlaa
