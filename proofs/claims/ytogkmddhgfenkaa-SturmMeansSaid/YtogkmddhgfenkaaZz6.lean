/- Differences of finite floats, and noughts divided and taken away, on the line of floats. No condition. -/
import Derived.Test.YtogkmddhgfenkaaZz5
import Derived.Test.YtogkmddhgfenkaaZz3
import Derived.OwnWalkIn
import Derived.Test.YtogkmddhgfenkaaZz4
namespace Go.Proofs.Ytogkmddhgfenkaa
open Go Go.RowKit
set_option maxRecDepth 100000

theorem nearest_pos {neg : Bool} {m : Nat} {p : Int} (hm : 0 < m) (hp : -1074 ≤ p) : 0 < Ieee.double.nearest neg m p % 9223372036854775808 := by
  unfold Ieee.Format.nearest
  rw [if_neg (by omega)]
  simp only [least64, binade64, inf64]
  have hfb : (Ieee.double.fractionBits : Int) = 52 := rfl
  rw [hfb]
  have hk : 0 < Ieee.Toward.even.cut neg (m <<< (p - max (p + (m.log2 : Int) - 52) (-1074)).toNat) (max (p + (m.log2 : Int) - 52) (-1074) - p).toNat := by
    obtain ⟨d, hd⟩ : ∃ d, d = (max (p + (m.log2 : Int) - 52) (-1074) - p).toNat := ⟨_, rfl⟩
    rw [← hd, Nat.shiftLeft_eq]
    have hM : 0 < m * 2 ^ (p - max (p + (m.log2 : Int) - 52) (-1074)).toNat := Nat.mul_pos hm (Nat.two_pow_pos _)
    have hlow : 2 ^ min d ((m * 2 ^ (p - max (p + (m.log2 : Int) - 52) (-1074)).toNat).log2 + 2) ≤ m * 2 ^ (p - max (p + (m.log2 : Int) - 52) (-1074)).toNat := by
      by_cases h0 : d = 0
      · rw [h0, Nat.zero_min]; exact hM
      · have e1 : (p - max (p + (m.log2 : Int) - 52) (-1074)).toNat = 0 := by omega
        rw [e1, Nat.pow_zero, Nat.mul_one]
        have hdl : d ≤ m.log2 := by omega
        exact Nat.le_trans (Nat.pow_le_pow_right (by decide) (Nat.le_trans (Nat.min_le_left _ _) hdl)) (Nat.log2_self_le (by omega))
    generalize m * 2 ^ (p - max (p + (m.log2 : Int) - 52) (-1074)).toNat = M at *
    unfold Ieee.Toward.cut
    simp only [Nat.shiftLeft_eq, Nat.one_mul]
    have := Nat.div_pos hlow (Nat.two_pow_pos _)
    omega
  generalize Ieee.Toward.even.cut neg (m <<< (p - max (p + (m.log2 : Int) - 52) (-1074)).toNat) (max (p + (m.log2 : Int) - 52) (-1074) - p).toNat = K at *
  rw [word_val]
  generalize ((max (p + (m.log2 : Int) - 52) (-1074) - -1074).toNat * 4503599627370496) = A
  have h1 : 0 < min (A + K) 9218868437227405312 := by omega
  have h2 : min (A + K) 9218868437227405312 ≤ 9218868437227405312 := Nat.min_le_right _ _
  generalize min (A + K) 9218868437227405312 = R at *
  cases neg <;> simp <;> omega
theorem compare_lt_iff {a b c d : Int} (h : compare a b = compare c d) : (a < b ↔ c < d) ∧ (a = b ↔ c = d) := by
  rcases Int.lt_trichotomy a b with h1 | h1 | h1 <;> rcases Int.lt_trichotomy c d with h2 | h2 | h2
  · omega
  · rw [compare_lt h1, compare_eq h2] at h; cases h
  · rw [compare_lt h1, compare_gt h2] at h; cases h
  · rw [compare_eq h1, compare_lt h2] at h; cases h
  · omega
  · rw [compare_eq h1, compare_gt h2] at h; cases h
  · rw [compare_gt h1, compare_lt h2] at h; cases h
  · rw [compare_gt h1, compare_eq h2] at h; cases h
  · omega
theorem fkey_sgn (x : Nat) : fkey x = if fsgn x = true then -((x % 9223372036854775808 : Nat) : Int) else ((x % 9223372036854775808 : Nat) : Int) := by
  unfold fkey fsgn
  by_cases h : x / 9223372036854775808 % 2 = 1
  · rw [if_pos h, if_pos (by simpa using h)]
  · rw [if_neg h, if_neg (by simpa using h)]
/-- A difference of two finite floats is below nought just if the first is below the second, and nought just if they are one. -/
theorem fsub_key {x y : Nat} (hx : ffin x = true) (hy : ffin y = true) : isnan (fsub x y) = false ∧ (fkey (fsub x y) < 0 ↔ fkey x < fkey y) ∧ (fkey (fsub x y) = 0 ↔ fkey x = fkey y) := by
  unfold ffin at hx hy
  simp only [decide_eq_true_eq] at hx hy
  have hk := order_key (isnan_fin hx) (isnan_fin hy)
  obtain ⟨m, i, e1, hi, _⟩ := read_fin x hx
  obtain ⟨n, j, e2, hj, _⟩ := read_fin y hy
  unfold Ieee.Format.order at hk
  rw [e1, e2] at hk
  unfold fsub Ieee.Format.sub
  rw [e1, e2]
  generalize (x / 9223372036854775808 % 2 == 1) = s at *
  generalize (y / 9223372036854775808 % 2 == 1) = t at *
  simp only [Ieee.Datum.order, Option.some.injEq] at hk
  have e : Ieee.signed (!t) n (j - min i j).toNat = - Ieee.signed t n (j - min i j).toNat := by unfold Ieee.signed; cases t <;> simp
  simp only [Ieee.Datum.opposite, Ieee.Datum.sum, e, Option.map_some, Option.getD_some]
  obtain ⟨k1, k2⟩ := compare_lt_iff hk
  generalize Ieee.signed s m (i - min i j).toNat = A at *
  generalize Ieee.signed t n (j - min i j).toNat = B at *
  rw [← k1, ← k2]
  have hb : -1074 ≤ min i j := by omega
  generalize min i j = p at *
  refine ⟨write_not_nan _ rfl, ?_⟩
  show (fkey (Ieee.double.nearest _ _ _) < 0 ↔ _) ∧ (fkey (Ieee.double.nearest _ _ _) = 0 ↔ _)
  by_cases h0 : A + -B = 0
  · rw [if_pos h0, h0]
    show (fkey (Ieee.double.nearest _ 0 _) < 0 ↔ _) ∧ (fkey (Ieee.double.nearest _ 0 _) = 0 ↔ _)
    rw [nearest_zero, fkey_sgn, word_val]
    have h1 : ¬ A < B := by omega
    have h2 : A = B := by omega
    cases hs : (s && !t)
    · rw [if_neg (by decide)]; simp [h1, h2]
    · rw [if_pos rfl]
      have : fsgn (9223372036854775808 + 0) = true := by decide
      rw [this]
      simp [h1, h2]
  · rw [if_neg h0]
    have hM : 0 < (A + -B).natAbs := by omega
    have hs := nearest_sgn (decide (A + -B < 0)) (A + -B).natAbs p
    have hp := nearest_pos (neg := decide (A + -B < 0)) hM hb
    rw [fkey_sgn, hs.1]
    by_cases hn : A + -B < 0
    · rw [if_pos (by simpa using hn)]
      constructor <;> omega
    · rw [if_neg (by simpa using hn)]
      constructor <;> omega
theorem fsub_nought {z e : Nat} (hz : isnan z = false) (hzl : z < 18446744073709551616) (he : e = 0 ∨ e = 9223372036854775808) : isnan (fsub z e) = false ∧ (fkey (fsub z e) < 0 ↔ fkey z < 0) ∧ (fkey (fsub z e) = 0 ↔ fkey z = 0) := by
  have hk : fkey e = 0 := by rcases he with rfl | rfl <;> decide
  have hf : ffin e = true := by rcases he with rfl | rfl <;> decide
  cases h : ffin z
  · have hi : z % 9223372036854775808 = 9218868437227405312 := by
      unfold ffin at h
      unfold isnan at hz
      simp only [decide_eq_false_iff_not] at h hz
      omega
    have h2 : z = 9218868437227405312 ∨ z = 18442240474082181120 := by omega
    rcases h2 with rfl | rfl <;> rcases he with rfl | rfl
    · have e1 : fsub 9218868437227405312 0 = 9218868437227405312 := by kernel_rfl
      rw [e1]; exact ⟨by kernel_rfl, Iff.rfl, Iff.rfl⟩
    · have e1 : fsub 9218868437227405312 9223372036854775808 = 9218868437227405312 := by kernel_rfl
      rw [e1]; exact ⟨by kernel_rfl, Iff.rfl, Iff.rfl⟩
    · have e1 : fsub 18442240474082181120 0 = 18442240474082181120 := by kernel_rfl
      rw [e1]; exact ⟨by kernel_rfl, Iff.rfl, Iff.rfl⟩
    · have e1 : fsub 18442240474082181120 9223372036854775808 = 18442240474082181120 := by kernel_rfl
      rw [e1]; exact ⟨by kernel_rfl, Iff.rfl, Iff.rfl⟩
  · have := fsub_key h hf
    rw [hk] at this
    exact this
theorem fdiv_nought {y : Nat} (hy : isnan y = false) (h0 : fkey y ≠ 0) : fdiv 0 y = 0 ∨ fdiv 0 y = 9223372036854775808 := by
  have e0 : Ieee.double.read 0 = .number false 0 (-1074) := by kernel_rfl
  have hw : ∀ b, Ieee.double.word b 0 = 0 ∨ Ieee.double.word b 0 = 9223372036854775808 := fun b => by rw [word_val]; cases b <;> simp
  unfold fdiv Ieee.Format.div
  rw [e0]
  by_cases hf : y % 9223372036854775808 < 9218868437227405312
  · obtain ⟨n, j, e1, _, hn⟩ := read_fin y hf
    rw [e1]
    have hn0 : n ≠ 0 := by
      rintro rfl
      rw [Nat.zero_shiftLeft] at hn
      have hy0 : 0 < y % 9223372036854775808 := by
        rcases Nat.eq_zero_or_pos (y % 9223372036854775808) with h | h
        · exact absurd (by rw [fkey_sgn, h]; split <;> rfl) h0
        · exact h
      have := fval_lt hy0
      rw [fval_zero] at this
      omega
    simp only [Ieee.Datum.quotient, if_neg hn0, Nat.zero_shiftLeft, Nat.zero_div, Nat.zero_mod, Option.map_some, Option.getD_some]
    show Ieee.double.nearest _ 0 _ = 0 ∨ Ieee.double.nearest _ 0 _ = 9223372036854775808
    rw [nearest_zero]
    exact hw _
  · have hi : y % 9223372036854775808 = 9218868437227405312 := by
      unfold isnan at hy
      simp only [decide_eq_false_iff_not] at hy
      omega
    rw [read_inf y hi]
    simp only [Ieee.Datum.quotient, Option.map_some, Option.getD_some]
    show Ieee.double.nearest _ 0 _ = 0 ∨ Ieee.double.nearest _ 0 _ = 9223372036854775808
    rw [nearest_zero]
    exact hw _
/-- A finite float, a nought added to it or taken away, is on the same place. -/
theorem fadd_nought {x : Nat} (hx : ffin x = true) : fkey (fadd x 0) = fkey x ∧ ffin (fadd x 0) = true ∧ fkey (fsub x 0) = fkey x ∧ ffin (fsub x 0) = true := by
  have hx' := hx
  unfold ffin at hx
  simp only [decide_eq_true_eq] at hx
  obtain ⟨m, i, e1, hi, hm⟩ := read_fin x hx
  have e0 : Ieee.double.read 0 = .number false 0 (-1074) := by kernel_rfl
  have hs0 : ∀ b u, Ieee.signed b 0 u = 0 := fun b u => by unfold Ieee.signed; cases b <;> simp
  have key : ∀ b, fkey (Ieee.double.nearest (if Ieee.signed (x / 9223372036854775808 % 2 == 1) m (i - min i (-1074)).toNat + 0 = 0 then b else decide (Ieee.signed (x / 9223372036854775808 % 2 == 1) m (i - min i (-1074)).toNat + 0 < 0)) (Ieee.signed (x / 9223372036854775808 % 2 == 1) m (i - min i (-1074)).toNat + 0).natAbs (min i (-1074))) = fkey x ∧ ffin (Ieee.double.nearest (if Ieee.signed (x / 9223372036854775808 % 2 == 1) m (i - min i (-1074)).toNat + 0 = 0 then b else decide (Ieee.signed (x / 9223372036854775808 % 2 == 1) m (i - min i (-1074)).toNat + 0 < 0)) (Ieee.signed (x / 9223372036854775808 % 2 == 1) m (i - min i (-1074)).toNat + 0).natAbs (min i (-1074))) = true := by
    intro b
    have hmin : min i (-1074) = -1074 := by omega
    have hto : (i - -1074).toNat = (i + 1074).toNat := by omega
    rw [hmin, hto, Int.add_zero, fkey_sgn x]
    have hS : fsgn x = (x / 9223372036854775808 % 2 == 1) := rfl
    rw [← hS]
    have hr : x % 9223372036854775808 < 9218868437227405312 := hx
    generalize x % 9223372036854775808 = r at *
    have hsg : Ieee.signed (fsgn x) m (i + 1074).toNat = if fsgn x = true then -((fval r : Nat) : Int) else (fval r : Int) := by
      unfold Ieee.signed; rw [hm]
    rw [hsg]
    rcases Nat.eq_zero_or_pos r with h0 | h0
    · subst h0
      rw [fval_zero]
      have e2 : (if fsgn x = true then -((0 : Nat) : Int) else ((0 : Nat) : Int)) = 0 := by split <;> rfl
      rw [e2, if_pos rfl]
      show fkey (Ieee.double.nearest b 0 _) = _ ∧ ffin (Ieee.double.nearest b 0 _) = true
      rw [nearest_zero, word_val]
      cases b <;> decide
    · have hv := fval_lt h0
      rw [fval_zero] at hv
      have e3 : (if fsgn x = true then -((fval r : Nat) : Int) else (fval r : Int)).natAbs = fval r := by split <;> omega
      have e4 : ¬ (if fsgn x = true then -((fval r : Nat) : Int) else (fval r : Int)) = 0 := by split <;> omega
      rw [if_neg e4, e3]
      have e5 : decide ((if fsgn x = true then -((fval r : Nat) : Int) else (fval r : Int)) < 0) = fsgn x := by
        cases hq : fsgn x
        · rw [if_neg (by decide), decide_eq_false_iff_not]; omega
        · rw [if_pos rfl, decide_eq_true_eq]; omega
      rw [e5, nearest_exact (fsgn x) (fval r) (-1074) r 0 0 hv hr rfl (by decide)]
      have hw := word_parts (fsgn x) (r := r) (by omega)
      refine ⟨?_, ?_⟩
      · rw [fkey_sgn, hw.1, hw.2.1]
      · unfold ffin; rw [hw.1]; exact decide_eq_true hr
  unfold fadd fsub Ieee.Format.add Ieee.Format.sub
  rw [e1, e0]
  simp only [Ieee.Datum.opposite, Ieee.Datum.sum, hs0, Option.map_some, Option.getD_some]
  exact ⟨(key _).1, (key _).2, (key _).1, (key _).2⟩
end Go.Proofs.Ytogkmddhgfenkaa

/- Regions that draw their order, within a fence but no round; floats' operations within a fence. No condition. -/
namespace Go.Proofs.Ytogkmddhgfenkaa
open Go Go.RowKit
section
variable {P : Program} {ops : Array Oper} {Q : Exit → Act → World → Prop} {a : Act} {w : World} {rest : List Oper} {o : Oper} {op : BinOp} {xt yt : TypeId} {ox oy : Operand} {x y v : Nat} {FF : Fence} {nF : Nat}
theorem wpListIn_flt (hg : o.guard = none) (ho : o.op = .binOp op xt ox oy yt) (hx : a.eval ox = .float .f64 x) (hy : a.eval oy = .float .f64 y) (h : fbin op x y = some v)
    (hk : ∀ K : Act → World → Prop, (∀ a w, wpListIn FF nF P ops Q rest a w → K a w) → ∀ s n, K (a.put o.dst (.float .f64 (raw v s))) (w.drewN n)) : wpListIn FF nF P ops Q (o :: rest) a w := by
  refine wpListIn_plain hg fun K' hK' => ?_
  obtain ⟨s, n, hr⟩ := exec_fbin (P := P) w ho hx hy h
  unfold Oper.wpIn
  refine ⟨by simp [Oper.about, ho], ?_⟩
  rw [Oper.semAt_plain FF _ _ (by rw [ho]; intro c hc'; cases hc'), hr]
  exact hk K' hK' s n
end
section
variable {P : Program} {md : Region.Mode} {ops : Array Oper} {C : World → Prop} {F : FuncId → Array Value → Value → Prop} {nf : Nat}
theorem wideW_fn (f : FuncId) : Fence.wide.fn f := trivial
theorem wideW_depth : Fence.wide.depth.isSome = true → 1 ≤ nf := fun h => by cases h

theorem wpOpIn_of_nqOpW {i : Nat} {a : Act} {K : Act → Prop} {K' : Act → World → Prop} {Q' : Exit → Act → World → Prop} {w : World} (hd : ∀ (i : Nat) (o : Oper) c, ops[i]? = some o → o.op ≠ .defer c) (hw : C w) (h : ∀ a w', C w' → K a → K' a w') (hh : nqOp P ops C F i K a) : wpOpIn Fence.wide nf P ops Q' i K' a w := by
  unfold nqOp at hh
  unfold wpOpIn
  split
  · rename_i ho; simp only [ho] at hh; exact h _ _ hw hh
  · rename_i o ho
    simp only [ho] at hh
    split
    · rename_i hwt; simp only [hwt, if_true] at hh
      unfold nq at hh
      have hh := hh w hw
      refine ⟨fun f _ => wideW_fn f, ?_⟩
      have hs : o.semAt Fence.wide.round a.eval = execOp a.eval o := Oper.semAt_plain Fence.wide _ _ (fun c => hd i o c ho)
      rw [hs]
      generalize (execOp a.eval o).run P w = r at *
      cases r with
      | ok n w' =>
        cases n <;> simp only [nqUpon] at hh <;> simp only [Oper.uponIn]
        case value u => exact h _ _ hh.1 hh.2
        case skip => exact h _ _ hh.1 hh.2
        case enter f args =>
          refine ⟨wideW_depth, (callsIn_wide.2 ((hh.2.1 _ hh.1).mono fun e w'' ⟨v, he, hv, hc⟩ => ?_))⟩
          subst he; exact h _ _ hc (hh.2.2 v hv)
      | halt x w' => simp only [nqUpon] at hh
    · rename_i hwt; simp only [hwt] at hh; exact ⟨fun f _ => wideW_fn f, h _ _ hw hh⟩

theorem wpAnyIn_of_nqAnyW {n g : Nat} {L : Array Bool → Act → Prop} {Q' : Exit → Act → World → Prop} (hd : ∀ (i : Nat) (o : Oper) c, ops[i]? = some o → o.op ≠ .defer c) (hL : ∀ listed a w, C w → L listed a → wpAnyIn Fence.wide nf P md ops Q' g listed a w) :
    ∀ (f : Nat) (listed : Array Bool) (a : Act) (w : World), C w → nqAny P md ops C F n L f listed a → wpAnyIn Fence.wide nf P md ops Q' (f + g) listed a w
  | 0, listed, a, w, hw, h => by rw [Nat.zero_add]; exact hL _ _ _ hw h
  | f + 1, listed, a, w, hw, h => by
    rw [show f + 1 + g = (f + g) + 1 by omega]
    exact ⟨fun h0 => absurd h0 h.1, fun i hi => wpOpIn_of_nqOpW hd hw (fun a' w' hw' h' => wpAnyIn_of_nqAnyW hd hL f _ a' w' hw' h') (h.2 i hi).2⟩

theorem wpIn_region_nqW {id : Nat} {Q : Exit → Act → World → Prop} {a : Act} {w : World} {l : List Oper} (n : Nat) (F : FuncId → Array Value → Value → Prop) (C : World → Prop)
    (hm : P.follows .mixedOrders = true) (hB : (nqB l n && noDefer l) = true) (hC : C { w with drawn := w.drawn + 1 })
    (h : nqW P l.toArray C F (fun a' => ∀ w', C w' → wpListIn Fence.wide nf P l.toArray Q (l.drop n) a' w') (l.take n) a) : (Code.region id l.toArray true).wpIn Fence.wide nf P Q a w := by
  rw [Bool.and_eq_true] at hB
  have hd : ∀ (i : Nat) (o : Oper) c, l.toArray[i]? = some o → o.op ≠ .defer c := fun i o c ho => noDefer_at hB.2 ho c
  have hB := hB.1
  simp only [nqB, Bool.and_eq_true, Bool.or_eq_true, decide_eq_true_eq] at hB
  obtain ⟨⟨⟨hsel, hsc⟩, hn⟩, hlex⟩ := hB
  have htl : (l.take n).length = n := by simp; omega
  have hdl : (l.drop n).length = l.toArray.size - n := by simp
  have inv0 : HeadInv .any l.toArray n (Array.replicate l.toArray.size false) :=
    ⟨by simp, fun j oj _ hl => (by rw [getD_replicate_false] at hl; cases hl), fun t _ ht => getD_in (by simpa using ht) (getD_replicate_false _ _)⟩
  have hs : Region.sinkB .any l.toArray n = true ∨ l.toArray.size ≤ n := hsc.elim (fun h => .inr h) (fun h => .inl h.1)
  have hc : Region.chainB .any l.toArray n = true ∨ l.toArray.size ≤ n := hsc.elim (fun h => .inr h) (fun h => .inl h.2)
  have H := nqAny_lex (md := .any) (g := l.toArray.size - n) ⟨_, hC⟩ hsel hs hc (l.take n) 0 _ a (fun j hj => by
    have hj' : j < n := by rw [htl] at hj; exact hj
    simp [hj']) (by simpa using htl) inv0 (by rw [htl]; exact hlex) h
  refine wpIn_region_any hm ?_
  have := wpAnyIn_of_nqAnyW (nf := nf) (Q' := Q) (g := l.toArray.size - n) hd (fun listed a' w' hw' hL => by
    have := wpAnyIn_of_seq (FF := Fence.wide) (nf := nf) (md := .any) (Q' := Q) (l.drop n) n listed a' w' (fun j => by simp [List.getElem?_drop]) (by rw [hdl]; exact hL.1) (hL.2 w' hw')
    rwa [hdl] at this) _ _ _ _ hC H
  rw [htl, show n + (l.toArray.size - n) = l.toArray.size by simp; omega] at this
  exact this

/-- The region that draws, in the class of the worlds that have all that was there. -/
theorem wpIn_region_nqbW {id : Nat} {Q : Exit → Act → World → Prop} {a : Act} {w : World} {l : List Oper} (n : Nat) (F : FuncId → Array Value → Value → Prop)
    (hm : P.follows .mixedOrders = true) (hB : (nqB l n && noDefer l) = true)
    (h : ∀ (C : World → Prop) (R : Act → Prop), (∀ w', Cls C w' → ∀ b o, b < w.heap.size → w'.cell? ⟨b, o, none⟩ = w.cell? ⟨b, o, none⟩) → (∀ w', Cls C w' → Below w.heap.size w w') →
      (∀ w' w'', Cls C w' → Below w'.heap.size w' w'' → Cls C w'') → (∀ w' n, Cls C w' → Cls C (w'.drewN n)) →
      (∀ a', (∀ w', Below w.heap.size w w' → wpListIn Fence.wide nf P l.toArray Q (l.drop n) a' w') → R a') → nqW P l.toArray (Cls C) F R (l.take n) a) : (Code.region id l.toArray true).wpIn Fence.wide nf P Q a w :=
  wpIn_region_nqW n F (Below w.heap.size w) hm hB (below_drewN 1 (Below.refl _ _))
    (h (Below w.heap.size w) (fun a' => ∀ w', Below w.heap.size w w' → wpListIn Fence.wide nf P l.toArray Q (l.drop n) a' w') (fun _ hw' => (below_cells hw').1) (fun _ h => h)
      (fun _ _ h1 h2 => h1.trans (h2.mono h1.size)) (fun _ n h => below_drewN n h) (fun _ h => h))
end
end Go.Proofs.Ytogkmddhgfenkaa

/- Package sturm: the range over the pivots. -/
namespace Go.Proofs.Ytogkmddhgfenkaa
open Go Go.RowKit Go.Shelf
attribute [local go_sem] Oper.semAt_some
set_option maxRecDepth 100000

/-- What is put for a nought. -/
def grd (q : Nat) : Nat := if feq q 0 then 103582791429521408 else q
/-- The pivots; ahead of the first one: nought. -/
def pivQ (ds es : List Nat) (x : Nat) : Nat → Nat
  | 0 => 0
  | 1 => grd (fsub (ds.getD 0 0) x)
  | i + 2 => grd (fsub (fsub (ds.getD (i + 1) 0) x) (fdiv (fmul (es.getD i 0) (es.getD i 0)) (pivQ ds es x (i + 1))))
/-- A pivot's number, and its NaN's bits. -/
def pelV (ds es : List Nat) (x : Nat) (y : Nat × Nat) : Array Value := #[.int .i64 (y.1 : Int), .float .f64 (raw (pivQ ds es x (y.1 + 1)) y.2)]

theorem fls_one (W : World) (T : TypeId) (x sx : Nat) : Fls (W.alloc (.cells #[.float .f64 (raw x sx)] T)) (some ⟨W.heap.size, 0, none⟩) [x] := fun _ => ⟨W.heap.size, 0, rfl, by simp, fun i v hi => by
  have hb : Box (W.alloc (.cells #[.float .f64 (raw x sx)] T)) W.heap.size [.float .f64 (raw x sx)] := Box.newA W [_] T rfl
  cases i with
  | zero => simp at hi; subst hi; exact ⟨sx, by rw [hb.cell]; rfl⟩
  | succ i => simp at hi⟩
/-- What the range holds on to. -/
structure PivR (ds es : List Nat) (x sx : Nat) (da ea : Option Addr) (dc ec Bt Bx : Nat) (R : World → Prop) (Kp : World → World → Prop) : Prop where
  bt : ∀ W, R W → Box W Bt [.slice da ds.length dc, .slice ea es.length ec]
  bx : ∀ W, R W → Box W Bx [.float .f64 (raw x sx)]
  fd : ∀ W, R W → Fls W da ds
  fe : ∀ W, R W → Fls W ea es
  keep : ∀ A B, R A → Kp A B → R B
  below : ∀ A B, R A → Below A.heap.size A B → R B

set_option maxHeartbeats 8000000 in
theorem Piv_stops (n : Nat) (hn : 1 ≤ n) (ds es : List Nat) (x sx : Nat) (da ea : Option Addr) (dc ec Bt Bx : Nat) (R : World → Prop) (Kp : World → World → Prop) (hA : PivR ds es x sx da ea dc ec Bt Bx R Kp) (hl : ds.length ≤ maxLen) (hl' : es.length ≤ maxLen) (w : World) (hw : R w) :
    SeqStopsK Fence.wide n Try.prog 98 #[.pointer (some ⟨Bt, 0, none⟩), .pointer (some ⟨Bx, 0, none⟩)] (pelV ds es x) Kp (fun xs => xs.map Prod.fst = if askS ds es [x] = 0 then List.range ds.length else []) (fun xs => askS ds es [x] = 0 ∧ ∃ k, xs.map Prod.fst = List.range k) ds.length w := by
  obtain ⟨Lr, hLr⟩ : ∃ Lr, Lr = if askS ds es [x] = 0 then List.range ds.length else [] := ⟨_, rfl⟩
  rw [← hLr]
  intro l J Jx W hW hJ hJx hY h0
  have hRW : R W := hA.below _ _ hw hW
  have b := (hA.bt _ hRW).facts
  have b' := (hA.bx _ hRW).facts
  obtain ⟨b1, b2, b3⟩ := b
  obtain ⟨b4, b5, b6⟩ := b'
  have hk := ask13_any (W.alloc (.cells #[.float .f64 (raw x sx)] 35)) da ea (some ⟨W.heap.size, 0, none⟩) ds es [x] dc ec 1 ((hA.fd _ hRW).below ((Below.refl _ _).alloc (Nat.le_refl _) _)) ((hA.fe _ hRW).below ((Below.refl _ _).alloc (Nat.le_refl _) _)) (fls_one _ _ _ _) hl hl' (by unfold maxLen; simp)
  have HK := Lib.hid hk
  clear hk
  refine callsIn_of_wp Try.func98 rfl trivial ?_ rfl
  simp only [Try.ntmps98, List.size_toArray, List.length_cons, List.length_nil, Nat.reduceAdd, Nat.reduceSub, Array.replicate_succ, Array.replicate_zero, List.push_toArray, List.append_toArray, List.nil_append, List.cons_append]
  gi_wp2_with fail
  refine ⟨trivial, (callsIn_wide.2 HK.out).mono ?_⟩
  rintro e w2 ⟨rfl, hb2⟩
  have hA0 : Below W.heap.size W (W.alloc (.cells #[.float .f64 (raw x sx)] 35)) := (Below.refl _ _).alloc (Nat.le_refl _) _
  have hb3 := below_step hA0 hA0.size hb2
  have hR2 := hA.below _ _ hRW hb3
  have hJ2 := hJ _ _ _ none h0 (grown_of_below hb3) (fun r e => by cases e)
  clear HK hA0 b1 b2 b3 b4 b5 b6 h0
  by_cases hz : askS ds es [x] = 0
  case neg =>
    rw [if_neg hz] at hLr
    have t1 : (askS ds es [x] != 0) = true := by simp [hz]
    generalize askS ds es [x] = q at *
    have HLr := Lib.hid hLr
    clear hz hLr
    gi_wp2
    refine bodyPost_ret (results_none rfl _ _ _) rfl ?_
    exact ⟨⟨_, rfl⟩, .inl ⟨[], HLr.out.symm, hJ2⟩⟩
  case pos =>
    rw [if_pos hz] at hLr
    have HZ := Lib.hid hz
    rw [hz]
    have HLr := Lib.hid hLr
    clear hz hLr
    have hlen : es.length = ds.length - 1 := by
      have := HZ.out
      unfold askS at this
      cases hm : mayS ds.length es.length
      · rw [hm] at this; cases this
      · unfold mayS at hm; simp at hm; exact hm.2
    have hl1 : ds.length ≤ 9223372036854775807 := by unfold maxLen at hl; omega
    have HLen := Lib.hid hlen
    clear hl hl' hlen
    obtain ⟨b1, b2, b3⟩ := (hA.bt _ hR2).facts
    gi_wp2
    clear b1 b2 b3 hb2 hb3
    gi_loopw [4, 17] (fun s4 s17 wr => ∃ (i : Nat) (pre : List (Nat × Nat)), i ≤ ds.length ∧ s17 = .int .i64 i ∧ pre.map Prod.fst = List.range i ∧ IsF s4 (pivQ ds es x i) ∧ J pre wr ∧ R wr) (fun _ s17 _ => ds.length - (intOf s17).toNat)
    case atStart => exact ⟨0, [], Nat.zero_le _, rfl, rfl, IsF.const (by kernel_rfl), hJ2, hR2⟩
    case round =>
      obtain ⟨i, pre, hi, rfl, hpre, ⟨sq, rfl⟩, hJs, hRs⟩ := hrel
      by_cases hlt : i < ds.length
      · obtain ⟨db, do', s1, rfl, hdb, c1⟩ := (hA.fd _ hRs).at hlt
        obtain ⟨e1, e2, e3⟩ := (hA.bt _ hRs).facts
        obtain ⟨e4, e5, e6⟩ := (hA.bx _ hRs).facts
        have HPre := Lib.hid hpre
        clear hpre hJ2 hR2
        have hnext : ∀ (W' : World) (s' : Nat), J (pre ++ [(i, s')]) W' → R W' → ∃ (k : Nat) (pre : List (Nat × Nat)), k ≤ ds.length ∧ Value.int .i64 ((i : Int) + 1) = .int .i64 k ∧ pre.map Prod.fst = List.range k ∧ IsF (.float .f64 (raw (pivQ ds es x (i + 1)) s')) (pivQ ds es x k) ∧ J pre W' ∧ R W' := fun W' s' hj hr => ⟨i + 1, _, hlt, rfl, by rw [List.map_append, HPre.out, List.range_succ]; rfl, ⟨s', rfl⟩, hj, hr⟩
        have HNext := Lib.hid hnext
        have HStop : Hid (∀ s' : Nat, ∃ k, (pre ++ [(i, s')]).map Prod.fst = List.range k) := fun s' => ⟨i + 1, by rw [List.map_append, HPre.out, List.range_succ]; rfl⟩
        clear hnext
        rcases Nat.eq_zero_or_pos i with h0 | h0
        · have t0 : decide ((0 : Int) < (i : Int)) = false := by simp; omega
          have t0' : decide (0 < i) = false := by simp; omega
          have hp : pivQ ds es x (i + 1) = grd (fsub (ds.getD i 0) x) := by rw [h0]; rfl
          generalize ds.getD i 0 = d0 at *
          cases hz : feq (fsub d0 x) 0
          · have hp2 : pivQ ds es x (i + 1) = fsub d0 x := by rw [hp]; unfold grd; rw [hz]; rfl
            have HP := Lib.hid hp2
            clear hp hp2 h0
            gi_wp2_with (first | (refine wpListIn_flt (op := .sub) rfl rfl rfl rfl rfl ?_; intro K hK s' n'; go_frame; refine hK _ _ ?_; clear hK K) | (refine wpListIn_flt rfl rfl rfl rfl rfl ?_; intro K hK _ _; go_frame; refine hK _ _ ?_; clear hK K))
            have hB3 : Below wr.heap.size wr (wr.drewN n') := below_drewN n' (Below.refl _ _)
            have hR3 := hA.below _ _ hRs hB3
            have hJ3 := hJ _ _ _ none hJs (grown_of_below hB3) (fun r e => by cases e)
            obtain ⟨fn, tmps, assign, body, hy, hR4⟩ := hY pre (i, s') (wr.drewN n') hJ3 (by have := congrArg List.length HPre.out; simp at this; omega)
            dsimp only [pelV] at hy
            rw [HP.out] at hy
            rw [hy]
            gi_wp2
            refine hR4.mono ?_
            rintro e W3 (⟨rfl, hJ4, hk4⟩ | ⟨rfl, hJx4⟩)
            · gi_wp2
              go_roundw
              case rel =>
                have := HNext.out W3 s' hJ4 (hA.keep _ _ hR3 hk4)
                rw [HP.out] at this
                exact this
              case measure => simp [intOf]; omega
            · gi_wp2
              refine bodyPost_ret (results_none rfl _ _ _) rfl ?_
              exact ⟨⟨_, rfl⟩, .inr ⟨_, ⟨HZ.out, HStop.out _⟩, hJx4⟩⟩
          · have hp2 : pivQ ds es x (i + 1) = 103582791429521408 := by rw [hp]; unfold grd; rw [hz]; rfl
            have HP := Lib.hid hp2
            clear hp hp2 h0
            have s' : Nat := 0
            gi_wp2_with (first | (refine wpListIn_flt (op := .sub) rfl rfl rfl rfl rfl ?_; intro K hK _ n'; go_frame; refine hK _ _ ?_; clear hK K) | (refine wpListIn_flt rfl rfl rfl rfl rfl ?_; intro K hK _ _; go_frame; refine hK _ _ ?_; clear hK K))
            have hB3 : Below wr.heap.size wr (wr.drewN n') := below_drewN n' (Below.refl _ _)
            have hR3 := hA.below _ _ hRs hB3
            have hJ3 := hJ _ _ _ none hJs (grown_of_below hB3) (fun r e => by cases e)
            obtain ⟨fn, tmps, assign, body, hy, hR4⟩ := hY pre (i, s') (wr.drewN n') hJ3 (by have := congrArg List.length HPre.out; simp at this; omega)
            dsimp only [pelV] at hy
            rw [HP.out, raw_of_not (by kernel_rfl)] at hy
            rw [hy]
            gi_wp2
            refine hR4.mono ?_
            rintro e W3 (⟨rfl, hJ4, hk4⟩ | ⟨rfl, hJx4⟩)
            · gi_wp2
              go_roundw
              case rel =>
                have := HNext.out W3 s' hJ4 (hA.keep _ _ hR3 hk4)
                rw [HP.out, raw_of_not (by kernel_rfl)] at this
                exact this
              case measure => simp [intOf]; omega
            · gi_wp2
              refine bodyPost_ret (results_none rfl _ _ _) rfl ?_
              exact ⟨⟨_, rfl⟩, .inr ⟨_, ⟨HZ.out, HStop.out _⟩, hJx4⟩⟩
        · obtain ⟨k, rfl⟩ : ∃ k, i = k + 1 := ⟨i - 1, by omega⟩
          have hl2 : k < es.length := by have := HLen.out; omega
          obtain ⟨eb, eo, s2, rfl, heb, c2⟩ := (hA.fe _ hRs).at hl2
          have hp : pivQ ds es x (k + 1 + 1) = grd (fsub (fsub (ds.getD (k + 1) 0) x) (fdiv (fmul (es.getD k 0) (es.getD k 0)) (pivQ ds es x (k + 1)))) := rfl
          generalize ds.getD (k + 1) 0 = d0 at *
          generalize es.getD k 0 = g0 at *
          generalize pivQ ds es x (k + 1) = q0 at *
          have hbm := lt_more heb
          have hbm2 := lt_more e1
          cases hz : feq (fsub (fsub d0 x) (fdiv (fmul g0 g0) q0)) 0
          · have hp2 : pivQ ds es x (k + 1 + 1) = fsub (fsub d0 x) (fdiv (fmul g0 g0) q0) := by rw [hp]; unfold grd; rw [hz]; rfl
            have HP := Lib.hid hp2
            clear hp hp2 h0
            gi_wp2_with (first | (refine wpListIn_flt (op := .sub) rfl rfl rfl rfl rfl ?_; intro K hK _ n1; go_frame; refine hK _ _ ?_; clear hK K) | (refine wpListIn_flt rfl rfl rfl rfl rfl ?_; intro K hK _ _; go_frame; refine hK _ _ ?_; clear hK K))
            have hb1 : Below wr.heap.size wr (wr.drewN n1) := below_drewN n1 (Below.refl _ _)
            obtain ⟨f1, f2, f3⟩ := ((hA.bt _ hRs).below hb1).facts
            have c3 := ((below_cells hb1).1 _ (eo + k) heb).trans c2
            have heb' : eb < (wr.drewN n1).heap.size := Nat.lt_of_lt_of_le heb hb1.size
            clear e1 e2 e3 e4 e5 e6 c1 c2 heb hbm hbm2
            generalize wr.drewN n1 = W1 at *
            refine wpIn_region_nqbW 13 (fun _ _ _ => False) (by kernel_rfl) (by kernel_rfl) ?_
            intro C R hc hb' hb2 hd hR
            simp only [List.take_succ_cons, List.take_zero]
            repeat (
              first
                | (refine nqW_plain (fun K hK => ?_))
                | (refine nqW_step (fun K hK => ?_); go_simp)
              first
                | (refine nq_move rfl ?_; go_simp; refine hK _ ?_; clear hK K)
                | (refine nq_assign rfl ?_; go_simp; refine hK _ ?_; clear hK K)
                | (refine nq_flt rfl rfl rfl rfl hd ?_; intro _; go_frame; refine hK _ ?_; clear hK K)
                | (refine nq_same ?_; intro w' hw'; go_simp; (try go_bits); refine hK _ ?_; clear hK K hw' w')
                | (refine nq_same ?_; intro w' hw'; go_simp; rw [if_pos (by omega)]; go_simp; (try go_bits); refine hK _ ?_; clear hK K hw' w')
                | (go_simp; refine hK _ ?_; clear hK K))
            refine nqW_nil (hR _ ?_)
            clear hc hb' hb2 hd hR
            intro w' hw'
            simp only [List.drop]
            gi_wp2_with (first | (refine wpListIn_flt (op := .quo) rfl rfl rfl rfl rfl ?_; intro K hK _ n2; go_frame; refine hK _ _ ?_; clear hK K) | (refine wpListIn_flt (op := .sub) rfl rfl rfl rfl rfl ?_; intro K hK s' n'; go_frame; refine hK _ _ ?_; clear hK K) | (refine wpListIn_flt rfl rfl rfl rfl rfl ?_; intro K hK _ _; go_frame; refine hK _ _ ?_; clear hK K))
            have hB3 : Below wr.heap.size wr (w'.drewN (n2 + n')) := below_drewN (n2 + n') (below_step hb1 hb1.size hw')
            have hR3 := hA.below _ _ hRs hB3
            have hJ3 := hJ _ _ _ none hJs (grown_of_below hB3) (fun r e => by cases e)
            obtain ⟨fn, tmps, assign, body, hy, hR4⟩ := hY pre (k + 1, s') (w'.drewN (n2 + n')) hJ3 (by have := congrArg List.length HPre.out; simp at this; omega)
            dsimp only [pelV] at hy
            rw [HP.out] at hy
            simp only [Int.natCast_add, Int.natCast_one] at hy
            rw [hy]
            gi_wp2
            refine hR4.mono ?_
            rintro e W3 (⟨rfl, hJ4, hk4⟩ | ⟨rfl, hJx4⟩)
            · gi_wp2
              go_roundw
              case rel =>
                have := HNext.out W3 s' hJ4 (hA.keep _ _ hR3 hk4)
                rw [HP.out] at this
                exact this
              case measure => simp [intOf]; omega
            · gi_wp2
              refine bodyPost_ret (results_none rfl _ _ _) rfl ?_
              exact ⟨⟨_, rfl⟩, .inr ⟨_, ⟨HZ.out, HStop.out _⟩, hJx4⟩⟩
          · have hp2 : pivQ ds es x (k + 1 + 1) = 103582791429521408 := by rw [hp]; unfold grd; rw [hz]; rfl
            have HP := Lib.hid hp2
            clear hp hp2 h0
            have s' : Nat := 0
            gi_wp2_with (first | (refine wpListIn_flt (op := .sub) rfl rfl rfl rfl rfl ?_; intro K hK _ n1; go_frame; refine hK _ _ ?_; clear hK K) | (refine wpListIn_flt rfl rfl rfl rfl rfl ?_; intro K hK _ _; go_frame; refine hK _ _ ?_; clear hK K))
            have hb1 : Below wr.heap.size wr (wr.drewN n1) := below_drewN n1 (Below.refl _ _)
            obtain ⟨f1, f2, f3⟩ := ((hA.bt _ hRs).below hb1).facts
            have c3 := ((below_cells hb1).1 _ (eo + k) heb).trans c2
            have heb' : eb < (wr.drewN n1).heap.size := Nat.lt_of_lt_of_le heb hb1.size
            clear e1 e2 e3 e4 e5 e6 c1 c2 heb hbm hbm2
            generalize wr.drewN n1 = W1 at *
            refine wpIn_region_nqbW 13 (fun _ _ _ => False) (by kernel_rfl) (by kernel_rfl) ?_
            intro C R hc hb' hb2 hd hR
            simp only [List.take_succ_cons, List.take_zero]
            repeat (
              first
                | (refine nqW_plain (fun K hK => ?_))
                | (refine nqW_step (fun K hK => ?_); go_simp)
              first
                | (refine nq_move rfl ?_; go_simp; refine hK _ ?_; clear hK K)
                | (refine nq_assign rfl ?_; go_simp; refine hK _ ?_; clear hK K)
                | (refine nq_flt rfl rfl rfl rfl hd ?_; intro _; go_frame; refine hK _ ?_; clear hK K)
                | (refine nq_same ?_; intro w' hw'; go_simp; (try go_bits); refine hK _ ?_; clear hK K hw' w')
                | (refine nq_same ?_; intro w' hw'; go_simp; rw [if_pos (by omega)]; go_simp; (try go_bits); refine hK _ ?_; clear hK K hw' w')
                | (go_simp; refine hK _ ?_; clear hK K))
            refine nqW_nil (hR _ ?_)
            clear hc hb' hb2 hd hR
            intro w' hw'
            simp only [List.drop]
            gi_wp2_with (first | (refine wpListIn_flt (op := .quo) rfl rfl rfl rfl rfl ?_; intro K hK _ n2; go_frame; refine hK _ _ ?_; clear hK K) | (refine wpListIn_flt (op := .sub) rfl rfl rfl rfl rfl ?_; intro K hK _ n'; go_frame; refine hK _ _ ?_; clear hK K) | (refine wpListIn_flt rfl rfl rfl rfl rfl ?_; intro K hK _ _; go_frame; refine hK _ _ ?_; clear hK K))
            have hB3 : Below wr.heap.size wr (w'.drewN (n2 + n')) := below_drewN (n2 + n') (below_step hb1 hb1.size hw')
            have hR3 := hA.below _ _ hRs hB3
            have hJ3 := hJ _ _ _ none hJs (grown_of_below hB3) (fun r e => by cases e)
            obtain ⟨fn, tmps, assign, body, hy, hR4⟩ := hY pre (k + 1, s') (w'.drewN (n2 + n')) hJ3 (by have := congrArg List.length HPre.out; simp at this; omega)
            dsimp only [pelV] at hy
            rw [HP.out, raw_of_not (by kernel_rfl)] at hy
            simp only [Int.natCast_add, Int.natCast_one] at hy
            rw [hy]
            gi_wp2
            refine hR4.mono ?_
            rintro e W3 (⟨rfl, hJ4, hk4⟩ | ⟨rfl, hJx4⟩)
            · gi_wp2
              go_roundw
              case rel =>
                have := HNext.out W3 s' hJ4 (hA.keep _ _ hR3 hk4)
                rw [HP.out, raw_of_not (by kernel_rfl)] at this
                exact this
              case measure => simp [intOf]; omega
            · gi_wp2
              refine bodyPost_ret (results_none rfl _ _ _) rfl ?_
              exact ⟨⟨_, rfl⟩, .inr ⟨_, ⟨HZ.out, HStop.out _⟩, hJx4⟩⟩
      · obtain rfl : i = ds.length := by omega
        have HPre := Lib.hid hpre
        clear hpre
        gi_wp2
        go_end0
        exact ⟨⟨_, rfl⟩, .inl ⟨pre, by rw [HPre.out, HLr.out], hJs⟩⟩
end Go.Proofs.Ytogkmddhgfenkaa

/- Package sturm: how many pivots are below nought. -/
namespace Go.Proofs.Ytogkmddhgfenkaa
open Go Go.RowKit Go.Shelf
attribute [local go_sem] Oper.semAt_some
set_option maxRecDepth 100000

theorem piv_loop {g : Operand} {ps : Array Tmp} {assign body : Code} {Q : Exit → Act → World → Prop} {T : Array Value} {dd : List Deferred} {w : World} (n : Nat) (hn : 3 ≤ n) {ds es : List Nat} {x sx : Nat} {da ea : Option Addr} {dc ec Bt Bx : Nat} {R : World → Prop}
    (hA : PivR ds es x sx da ea dc ec Bt Bx R (ImpK R)) (hl : ds.length ≤ maxLen) (hl' : es.length ≤ maxLen) (hRw : R w) (hRs : ∀ A B, R A → StillC w.heap.size A B → R B)
    (hg : (Act.mk T dd).eval g = .func (.func 98) #[] #[.pointer (some ⟨Bt, 0, none⟩), .pointer (some ⟨Bx, 0, none⟩)]) (hps : ps.size = 2)
    (I : List (Nat × Nat) → World → Prop) (Ix : Code → List (Nat × Nat) → World → Prop)
    (hI : ∀ pre A, I pre A → w.heap.size ≤ A.heap.size) (hIs : ∀ pre A B, I pre A → StillC w.heap.size A B → I pre B)
    (hIx : ∀ c pre A, Ix c pre A → w.heap.size ≤ A.heap.size) (hIxs : ∀ c pre A B, Ix c pre A → StillC w.heap.size A B → Ix c pre B) (h0 : I [] w)
    (upd : Array Value → Nat × Nat → Array Value)
    (hassign : ∀ (l : Nat) (y : Nat × Nat) (W : World) (K : Act → World → Prop), K ⟨upd T y, []⟩ W →
      assign.wpIn (Fence.wide.inRound l) (n - 1 - 1) Try.prog (Exit.then K (fun _ _ _ => False)) { tmps := (ps.zip (pelV ds es x y)).foldl (fun t (p, v) => t.setIfInBounds p v) T, defers := [] } W)
    (hbody : ∀ (l : Nat) (pre : List (Nat × Nat)) (y : Nat × Nat) (W : World), I pre W → pre.length < ds.length →
      body.wpIn (Fence.wide.inRound l) (n - 1 - 1) Try.prog (ownPostG w.heap.size (ImpK R) I Ix (pre ++ [y]) W) ⟨upd T y, []⟩ W)
    (hdone : ∀ (D : Nat) (xs : List (Nat × Nat)) (W : World), w.heap.size ≤ D → (xs.map Prod.fst = if askS ds es [x] = 0 then List.range ds.length else []) → I xs W → W.heap[D]? = some (.deferred (some [])) → Q .normal ⟨T, { target := .collected D, args := #[] } :: dd⟩ W)
    (hstop : ∀ (D : Nat) (c : Code) (pre : List (Nat × Nat)) (W : World), w.heap.size ≤ D → (askS ds es [x] = 0 ∧ ∃ k, pre.map Prod.fst = List.range k) → Ix c pre W → W.heap[D]? = some (.deferred (some [])) → c.wpIn Fence.wide n Try.prog Q ⟨T, { target := .collected D, args := #[] } :: dd⟩ W) :
    (Code.rangeFunc g ps assign body).wpIn Fence.wide n Try.prog Q ⟨T, dd⟩ w :=
  wpIn_rangeFunc_ownG rfl (by omega) hg trivial (enters_of Try.func98 (by kernel_rfl) rfl)
    (Piv_stops (n - 1) (by omega) ds es x sx da ea dc ec Bt Bx R (ImpK R) hA hl hl' w hRw) (fun h k => h.t k) (fun W l o o' hl ho hc _ => fun hR => hRs _ _ hR (StillC.put hl ho hc)) (Below.refl _ _) (fun _ => by rw [hps]; rfl)
    I Ix (ownFrom_still hI hIs) (fun c => ownFrom_still (hIx c) (hIxs c)) h0 (fun y => ⟨upd T y, []⟩) hassign hbody hdone hstop

/-- All cells of W1 are as they were, but for one block. -/
structure CR (W1 : World) (nb : Nat) (W : World) : Prop where
  keep : ∀ (k : Nat) (o : Obj), W1.heap[k]? = some o → o.isCells = true → k ≠ nb → W.heap[k]? = some o
  size : W1.heap.size ≤ W.heap.size
section
variable {W1 A B : World} {nb : Nat}
theorem CR.refl : CR W1 nb W1 := ⟨fun _ _ h _ _ => h, Nat.le_refl _⟩
theorem CR.below (h : CR W1 nb A) (hb : Below A.heap.size A B) : CR W1 nb B := ⟨fun k o h1 h2 h3 => by have := h.keep k o h1 h2 h3; rw [hb.block k (Array.getElem?_eq_some_iff.1 this).1]; exact this, Nat.le_trans h.size hb.size⟩
theorem CR.still {b : Nat} (h : CR W1 nb A) (hs : StillC b A B) : CR W1 nb B := ⟨fun k o h1 h2 h3 => hs.2 k o (h.keep k o h1 h2 h3) h2, Nat.le_trans h.size hs.1.size⟩
theorem CR.bel (h : CR W1 nb A) (hb : Bel A.heap.size nb A B) : CR W1 nb B := ⟨fun k o h1 h2 h3 => by have := h.keep k o h1 h2 h3; rw [hb.block k (Array.getElem?_eq_some_iff.1 this).1 h3]; exact this, Nat.le_trans h.size hb.size⟩
theorem CR.box (h : CR W1 nb A) {n : Nat} {cs : List Value} (hb : Box W1 n cs) (hn : n ≠ nb) : Box A n cs := by
  obtain ⟨T, hT⟩ := hb
  exact ⟨T, h.keep _ _ hT rfl hn⟩
theorem CR.cell (h : CR W1 nb A) {b o : Nat} {v : Value} (hc : W1.cell? ⟨b, o, none⟩ = some v) (hn : b ≠ nb) : A.cell? ⟨b, o, none⟩ = some v := by
  unfold World.cell? at hc ⊢
  cases ho : W1.heap[b]? with
  | none => rw [show W1.heap[(⟨b, o, none⟩ : Addr).block]? = W1.heap[b]? from rfl, ho] at hc; cases hc
  | some ob =>
    rw [show W1.heap[(⟨b, o, none⟩ : Addr).block]? = W1.heap[b]? from rfl, ho] at hc
    cases ob with
    | cells cs t fz =>
      rw [show A.heap[(⟨b, o, none⟩ : Addr).block]? = A.heap[b]? from rfl, h.keep b _ ho rfl hn]
      exact hc
    | _ => cases hc
theorem CR.fls (h : CR W1 nb A) {da : Option Addr} {ds : List Nat} (hf : Fls W1 da ds) (hn : ds ≠ [] → ∀ b o, da = some ⟨b, o, none⟩ → b ≠ nb) : Fls A da ds := fun hz => by
  obtain ⟨b, o, e, hb, hc⟩ := hf hz
  refine ⟨b, o, e, Nat.lt_of_lt_of_le hb h.size, fun i v hi => ?_⟩
  obtain ⟨s, h1⟩ := hc i v hi
  exact ⟨s, h.cell h1 (hn hz b o e)⟩
end
end Go.Proofs.Ytogkmddhgfenkaa
