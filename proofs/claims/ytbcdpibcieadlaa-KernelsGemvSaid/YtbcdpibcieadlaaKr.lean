/- Layer 8: what KernelsSums holds on to (printed by gen_kr.py). No condition but on lengths. -/
import Derived.Test.YtbcdpibcieadlaaKq
namespace Go.Proofs.Ytbcdpibcieadlaa
open Go Go.RowKit
set_option maxRecDepth 1000000

theorem mayM_nat {r c : Int} {n : Nat} (h : mayM r c n = true) : ∃ r' c' : Nat, r = r' ∧ c = c' ∧ r' ≤ 512 ∧ c' ≤ 512 ∧ n = r' * c' := by
  unfold mayM okSz at h
  simp only [Bool.and_eq_true, decide_eq_true_eq] at h
  obtain ⟨⟨⟨h1, h2⟩, h3, h4⟩, h5⟩ := h
  obtain ⟨r', rfl⟩ := Int.eq_ofNat_of_zero_le h1
  obtain ⟨c', rfl⟩ := Int.eq_ofNat_of_zero_le h3
  exact ⟨r', c', rfl, rfl, by omega, by omega, by exact_mod_cast h5⟩
/-- What a view of a matrix is. -/
structure OfP (v : Vw) (st r c : Nat) (zs ws : List Nat) : Prop where
  ep : v.p = some ⟨st, 0, none⟩
  er : v.r = r
  ec : v.c = c
  words : Words ws
  get : ∀ i j : Nat, i < r → j < c → v.get ws i j = zs.getD (i * c + j) 0
  ok : ∀ W sb, Sto W (some ⟨st, 0, none⟩) sb ws → v.Ok W sb ws
theorem of8_any (t : Bool) (r c : Nat) (a : Option Addr) (zs : List Nat) (cap : Nat) (w : World) (hr : r ≤ 512) (hc : c ≤ 512) (hn : zs.length = r * c) (hZ : Cel w a zs) (hW : Words zs) :
    Calls Try.prog 17 #[.agg #[.int .i64 r, .int .i64 c, .slice a zs.length cap], .bool t] w fun e w' => ∃ v st sb ws, e = .returned v.val ∧ w.heap.size ≤ st ∧ w.heap.size ≤ sb ∧ Sto w' (some ⟨st, 0, none⟩) sb ws ∧ OfP v st r c zs ws ∧ Below w.heap.size w w' := by
  refine (of_any t r c a zs cap w hr hc hn hZ).mono ?_
  rintro e w' ⟨st, sb, rfl, k1, k2, hS, hb⟩
  exact ⟨ofV t st r c, st, sb, ofL t r c zs, rfl, k1, k2, hS, ⟨ofV_p _ _ _ _, ofV_r _ _ _ _, ofV_c _ _ _ _, ofL_words t r c hW, fun i j hi hj => ofV_at t st r c zs hi hj, fun W sb h => ofV_ok h hr hc hn⟩, hb⟩
structure SuW (w W : World) (b7 b8 : Nat) (v u : Vw) (sbx sby : Nat) (wsx wsy : List Nat) (X Y : List Value) : Prop where
  x7 : Box W b7 [.pointer v.p, .int .i64 v.r, .int .i64 v.c, .int .i64 v.o, .int .i64 v.d, .int .i64 v.u]
  x8 : Box W b8 [.pointer u.p, .int .i64 u.r, .int .i64 u.c, .int .i64 u.o, .int .i64 u.d, .int .i64 u.u]
  ox : v.Ok W sbx wsx
  oy : u.Ok W sby wsy
  x0 : Box W w.heap.size X
  x1 : Box W (w.heap.size + 1) Y
  below : Below w.heap.size w W
theorem SuW.step {w W W' : World} {b7 b8 : Nat} {v u : Vw} {sbx sby : Nat} {wsx wsy : List Nat} {X Y : List Value} (h : SuW w W b7 b8 v u sbx sby wsx wsy X Y) (hb : Below W.heap.size W W') : SuW w W' b7 b8 v u sbx sby wsx wsy X Y :=
  ⟨h.x7.below hb, h.x8.below hb, h.ox.below hb, h.oy.below hb, h.x0.below hb, h.x1.below hb, below_step h.below h.below.size hb⟩
def vec8 (r c : Nat) : Bool := decide (r = 1) || decide (c = 1) || (decide (r = 0) && decide (c = 0))
theorem vecM_nat (r c : Nat) : vecM r c = vec8 r c := by
  unfold vecM vec8
  rw [Bool.eq_iff_iff]; simp; omega
theorem OfP.vec {v : Vw} {st r c : Nat} {zs ws : List Nat} (h : OfP v st r c zs ws) : vecV v.p v.r v.c = vec8 r c := by
  rw [h.ep, h.er, h.ec]; rfl
theorem OfP.len {v : Vw} {st r c : Nat} {zs ws : List Nat} (h : OfP v st r c zs ws) : lenV v.p v.r v.c = if vec8 r c then r * c else 0 := by
  unfold lenV; rw [h.vec, h.er, h.ec]
theorem OfP.at {v : Vw} {st r c : Nat} {zs ws : List Nat} (h : OfP v st r c zs ws) (hv : vec8 r c = true) (k : Nat) (hk : k < r * c) : v.getVec ws k = atL zs k := by
  unfold Vw.getVec
  rw [h.vec, hv, if_pos rfl]
  unfold Vw.al atL
  rw [h.er]
  unfold vec8 at hv
  simp only [Bool.or_eq_true, Bool.and_eq_true, decide_eq_true_eq] at hv
  by_cases h1 : r = 1
  · subst h1
    have := h.get 0 k (by omega) (by omega)
    rw [Nat.zero_mul, Nat.zero_add] at this
    simpa using this
  · rcases hv with (h2 | h2) | h2
    · exact absurd h2 h1
    · subst h2
      have := h.get k 0 (by omega) (by omega)
      rw [Nat.mul_one, Nat.add_zero] at this
      simpa [h1] using this
    · rw [h2.1] at hk; omega
theorem asumG_congr {x y : Nat → Nat} : ∀ n, (∀ k, k < n → x k = y k) → asumG x n = asumG y n
  | 0, _ => rfl
  | n + 1, h => by rw [asumG, asumG, asumG_congr n (fun k hk => h k (by omega)), h n (by omega)]
theorem amaxG_congr {x y : Nat → Nat} : ∀ n, (∀ k, k < n → x k = y k) → amaxG x n = amaxG y n
  | 0, _ => rfl
  | n + 1, h => by rw [amaxG, amaxG, amaxG_congr n (fun k hk => h k (by omega)), h n (by omega)]
theorem OfP.one {v : Vw} {st r c : Nat} {zs ws : List Nat} (h : OfP v st r c zs ws) : openE [v] (vecV v.p v.r v.c) = if vec8 r c then 0 else 8 := by
  unfold openE; rw [h.vec]; simp [h.ep]
theorem OfP.asum {v : Vw} {st r c : Nat} {zs ws : List Nat} (h : OfP v st r c zs ws) (hn : zs.length = r * c) : asumV v ws = if vec8 r c then asumG (atL zs) zs.length else 0 := by
  unfold asumV
  rw [h.one, h.len, hn]
  cases hv : vec8 r c
  · rfl
  · simp only [if_true]
    exact asumG_congr _ (fun k hk => h.at hv k hk)
theorem OfP.amax {v : Vw} {st r c : Nat} {zs ws : List Nat} (h : OfP v st r c zs ws) (hn : zs.length = r * c) (hv : vec8 r c = true) : amaxV v ws = amaxG (atL zs) zs.length := by
  unfold amaxV
  rw [h.len, hn, hv, if_pos rfl]
  exact amaxG_congr _ (fun k hk => h.at hv k hk)
theorem asumG_lt (x : Nat → Nat) : ∀ n, asumG x n < 18446744073709551616
  | 0 => by rw [asumG]; decide
  | n + 1 => fadd_lt _ _
theorem amaxG_lt (x : Nat → Nat) : ∀ n, (amaxG x n).2 < 18446744073709551616
  | 0 => by rw [amaxG]; decide
  | n + 1 => by
    rw [amaxG]
    split
    · show fabs _ < _; unfold fabs; omega
    · exact amaxG_lt x n
theorem f0eq : Value.float .f64 0 = Value.float .f64 (raw 0 0) := by rw [raw_of_not (by kernel_rfl)]
theorem float0 (s : Nat) (w : World) : Calls Try.prog 23 #[.float .f64 (raw 0 s), .float .f64 0] w fun e w' => e = .returned (.bool true) ∧ w = w' := by
  have h := float8_raw 0 s 0 (by decide) w
  rw [raw_of_not (v := 0) (by kernel_rfl) 0] at h
  exact h
def fit8 (r c r' c' n n' : Nat) : Bool := vec8 r c && (vec8 r' c' && decide (n = n'))
theorem OfP.two {v u : Vw} {st st' r c r' c' : Nat} {zs ws ys us : List Nat} (h : OfP v st r c zs ws) (h' : OfP u st' r' c' ys us) (hn : zs.length = r * c) (hn' : ys.length = r' * c') :
    openE [v, u] (fits2 v u) = if fit8 r c r' c' zs.length ys.length then 0 else 8 := by
  have e : fits2 v u = fit8 r c r' c' zs.length ys.length := by
    unfold fits2 fit8
    rw [h.vec, h'.vec, h.len, h'.len, hn, hn']
    cases vec8 r c
    · rfl
    · cases vec8 r' c'
      · rfl
      · simp only [Bool.true_and, if_true]
        rw [Bool.eq_iff_iff]; simp; omega
  unfold openE; rw [e]; simp [h.ep, h'.ep]
theorem OfP.dot {v u : Vw} {st st' r c r' c' : Nat} {zs ws ys us : List Nat} (h : OfP v st r c zs ws) (h' : OfP u st' r' c' ys us) (hn : zs.length = r * c) (hn' : ys.length = r' * c') :
    dotV v ws u us = if fit8 r c r' c' zs.length ys.length then sumG (atL zs) (atL ys) 0 zs.length else 0 := by
  unfold dotV
  rw [h.two h' hn hn']
  cases hf : fit8 r c r' c' zs.length ys.length
  · rfl
  · simp only [if_true]
    unfold fit8 at hf
    simp only [Bool.and_eq_true, decide_eq_true_eq] at hf
    rw [h.len, hf.1, if_pos rfl, ← hn]
    refine sumG_congr _ (fun k hk => ⟨?_, ?_⟩)
    · rw [Nat.zero_add]; exact h.at hf.1 k (by omega)
    · rw [Nat.zero_add]; exact h'.at hf.2.1 k (by omega)
end Go.Proofs.Ytbcdpibcieadlaa
