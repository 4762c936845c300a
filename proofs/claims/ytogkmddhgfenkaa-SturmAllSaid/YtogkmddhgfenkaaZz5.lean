/- When a float's operation is exact; the signs of results. -/
import Derived.Test.YtogkmddhgfenkaaZz2
import Derived.Test.YtogkmddhgfenkaaZz4
import Derived.Test.YtogkmddhgfenkaaZz3
import Derived.OwnWalkIn
namespace Go.Proofs.Ytogkmddhgfenkaa
open Go

theorem cut_exact (neg : Bool) (M d : Nat) (hM : 0 < M) : Ieee.Toward.even.cut neg (M * 2 ^ d) d = M := by
  unfold Ieee.Toward.cut
  have hl : (M * 2 ^ d).log2 = M.log2 + d := by
    have h1 : M ≠ 0 := by omega
    have h2 : M * 2 ^ d ≠ 0 := Nat.ne_of_gt (Nat.mul_pos hM (Nat.two_pow_pos _))
    have a1 := (Nat.log2_eq_iff h1).1 rfl
    refine (Nat.log2_eq_iff h2).2 ⟨?_, ?_⟩
    · rw [Nat.pow_add]; exact Nat.mul_le_mul_right _ a1.1
    · rw [show M.log2 + d + 1 = (M.log2 + 1) + d by omega, Nat.pow_add]; exact Nat.mul_lt_mul_of_pos_right a1.2 (Nat.two_pow_pos _)
  have hmin : min d ((M * 2 ^ d).log2 + 2) = d := by rw [hl]; omega
  have hp : 0 < 2 ^ d := Nat.two_pow_pos _
  simp only [hmin, Nat.shiftLeft_eq, Nat.one_mul, Nat.mul_div_cancel _ hp, Nat.mul_mod_left]
  have h1 : decide (2 ^ d < 2 * 0) = false := decide_eq_false (by omega)
  have h2 : (2 ^ d == 2 * 0) = false := by simp
  simp [h1, h2]

/-- The rung of a number that the format has. -/
theorem nearest_exact (neg : Bool) (m : Nat) (place : Int) (r a b : Nat) (hm : 0 < m) (hr : r < 9218868437227405312) (h : m * 2 ^ a = fval r * 2 ^ b) (hab : (a : Int) - b = place + 1074) : Ieee.double.nearest neg m place = Ieee.double.word neg r := by
  obtain ⟨M, E, hv, hMr, hME⟩ : ∃ M E : Nat, fval r = M * 2 ^ E ∧ E * 4503599627370496 + M = r ∧ ((M.log2 = 52) ∨ (E = 0 ∧ M < 4503599627370496)) := by
    unfold fval
    by_cases h1 : r < 4503599627370496
    · exact ⟨r, 0, by rw [if_pos h1]; simp, by omega, .inr ⟨rfl, h1⟩⟩
    · refine ⟨4503599627370496 + r % 4503599627370496, r / 4503599627370496 - 1, by rw [if_neg h1], by omega, .inl ?_⟩
      have hq : r % 4503599627370496 < 4503599627370496 := Nat.mod_lt _ (by decide)
      refine (Nat.log2_eq_iff (by omega)).2 ⟨?_, ?_⟩
      · rw [show (2 : Nat) ^ 52 = 4503599627370496 from by decide]; omega
      · rw [show (2 : Nat) ^ (52 + 1) = 9007199254740992 from by decide]; omega
  have hMpos : 0 < M := by
    rcases Nat.eq_zero_or_pos M with h0 | h0
    · subst h0
      rw [hv] at h
      have : 0 < m * 2 ^ a := Nat.mul_pos hm (Nat.two_pow_pos _)
      simp at h; omega
    · exact h0
  rw [hv, Nat.mul_assoc, ← Nat.pow_add] at h
  have hlog : m.log2 + a = M.log2 + (E + b) := by
    have e : ∀ (x d : Nat), 0 < x → (x * 2 ^ d).log2 = x.log2 + d := by
      intro x d hx
      have h1 : x ≠ 0 := by omega
      have h2 : x * 2 ^ d ≠ 0 := Nat.ne_of_gt (Nat.mul_pos hx (Nat.two_pow_pos _))
      have a1 := (Nat.log2_eq_iff h1).1 rfl
      refine (Nat.log2_eq_iff h2).2 ⟨?_, ?_⟩
      · rw [Nat.pow_add]; exact Nat.mul_le_mul_right _ a1.1
      · rw [show x.log2 + d + 1 = (x.log2 + 1) + d by omega, Nat.pow_add]; exact Nat.mul_lt_mul_of_pos_right a1.2 (Nat.two_pow_pos _)
    rw [← e m a hm, ← e M (E + b) hMpos, h]
  have hlast : max (place + (m.log2 : Int) - 52) (-1074) = (E : Int) - 1074 := by
    rcases hME with hME | ⟨hE, hME⟩
    · omega
    · have : M.log2 < 52 := (Nat.log2_lt (by omega)).2 (by rw [show (2 : Nat) ^ 52 = 4503599627370496 from by decide]; exact hME)
      omega
  unfold Ieee.Format.nearest
  rw [if_neg (by omega)]
  simp only [least64, binade64, inf64]
  have hfb : (Ieee.double.fractionBits : Int) = 52 := rfl
  rw [hfb, hlast]
  have hkept : Ieee.Toward.even.cut neg (m <<< (place - ((E : Int) - 1074)).toNat) ((E : Int) - 1074 - place).toNat = M := by
    rw [Nat.shiftLeft_eq]
    by_cases hd : E + b ≤ a
    · have e1 : (place - ((E : Int) - 1074)).toNat = a - (E + b) := by omega
      have e2 : ((E : Int) - 1074 - place).toNat = 0 := by omega
      rw [e1, e2]
      have e3 : m * 2 ^ (a - (E + b)) = M * 2 ^ 0 := by
        have : m * 2 ^ (a - (E + b)) * 2 ^ (E + b) = M * 2 ^ (E + b) := by rw [Nat.mul_assoc, ← Nat.pow_add, Nat.sub_add_cancel hd]; exact h
        simpa using Nat.eq_of_mul_eq_mul_right (Nat.two_pow_pos _) this
      rw [e3]
      exact cut_exact neg M 0 hMpos
    · have e1 : (place - ((E : Int) - 1074)).toNat = 0 := by omega
      have e2 : ((E : Int) - 1074 - place).toNat = E + b - a := by omega
      rw [e1, e2]
      have e3 : m * 2 ^ 0 = M * 2 ^ (E + b - a) := by
        have : m * 2 ^ a = M * 2 ^ (E + b - a) * 2 ^ a := by rw [Nat.mul_assoc, ← Nat.pow_add, Nat.sub_add_cancel (by omega)]; exact h
        simpa using Nat.eq_of_mul_eq_mul_right (Nat.two_pow_pos _) this
      rw [e3]
      exact cut_exact neg M _ hMpos
  rw [hkept]
  have e4 : ((E : Int) - 1074 - -1074).toNat = E := by omega
  rw [e4, hMr, Nat.min_eq_left (by omega)]

theorem nearest_zero (neg : Bool) (place : Int) : Ieee.double.nearest neg 0 place = Ieee.double.word neg 0 := by unfold Ieee.Format.nearest; rfl
theorem word_val (neg : Bool) (r : Nat) : Ieee.double.word neg r = if neg then 9223372036854775808 + r else r := by unfold Ieee.Format.word; rw [width64]
/-- A word's sign. -/
def fsgn (x : Nat) : Bool := x / 9223372036854775808 % 2 == 1
theorem nearest_sgn (neg : Bool) (m : Nat) (e : Int) : fsgn (Ieee.double.nearest neg m e) = neg ∧ Ieee.double.nearest neg m e % 9223372036854775808 ≤ 9218868437227405312 := by
  have key : ∀ r, r ≤ 9218868437227405312 → fsgn (Ieee.double.word neg r) = neg ∧ Ieee.double.word neg r % 9223372036854775808 ≤ 9218868437227405312 := by
    intro r hr
    rw [word_val]
    unfold fsgn
    cases neg
    · simp; omega
    · simp; omega
  unfold Ieee.Format.nearest
  split
  · exact key 0 (by decide)
  · exact key _ (by rw [inf64]; exact Nat.min_le_right ..)
theorem read_neg (x : Nat) : (Ieee.double.read x).neg = fsgn x := by
  unfold Ieee.Format.read fsgn
  simp only [width64, binade64, inf64]
  split
  · rfl
  · split
    · rfl
    · split <;> rfl
theorem write_sgn (d : Ieee.Datum) (h : d.isNaN = false) : fsgn (Ieee.double.write d) = d.neg := by
  cases d with
  | number s m e => exact (nearest_sgn s m e).1
  | infinity s =>
    show fsgn (Ieee.double.word s _) = s
    rw [word_val, inf64]
    cases s <;> decide
  | nan s t => simp [Ieee.Datum.isNaN] at h

theorem product_neg {x y d : Ieee.Datum} (h : x.product y = some d) : d.neg = (x.neg ^^ y.neg) := by
  cases x <;> cases y <;> simp only [Ieee.Datum.product] at h <;> (try split at h) <;> cases h <;> simp [Ieee.Datum.neg, Bool.xor_comm]
theorem fmul_sgn {x y : Nat} (h : isnan (fmul x y) = false) : fsgn (fmul x y) = (fsgn x ^^ fsgn y) := by
  unfold fmul Ieee.Format.mul at h ⊢
  cases hp : (Ieee.double.read x).product (Ieee.double.read y) with
  | none => rw [hp] at h; simp [isnan_qnan] at h
  | some d =>
    simp only [Option.map_some, Option.getD_some]
    rw [write_sgn d (product_some hp), product_neg hp, read_neg, read_neg]
theorem fadd_sgn {x y : Nat} (hx : fsgn x = false) (hy : fsgn y = false) (h : isnan (fadd x y) = false) : fsgn (fadd x y) = false := by
  unfold fadd Ieee.Format.add at h ⊢
  rw [← read_neg] at hx hy
  cases hp : (Ieee.double.read x).sum (Ieee.double.read y) with
  | none => rw [hp] at h; simp [isnan_qnan] at h
  | some d =>
    simp only [Option.map_some, Option.getD_some]
    rw [write_sgn d (sum_some hp)]
    generalize Ieee.double.read x = a at *
    generalize Ieee.double.read y = b at *
    cases a <;> cases b <;> simp only [Ieee.Datum.sum, Ieee.Datum.neg] at hp hx hy <;> (try subst hx) <;> (try subst hy)
    case number.number m i n j =>
      cases hp
      show (if Ieee.signed false m (i - min i j).toNat + Ieee.signed false n (j - min i j).toNat = 0 then (false && false) else decide (Ieee.signed false m (i - min i j).toNat + Ieee.signed false n (j - min i j).toNat < 0)) = false
      split
      · rfl
      · have e1 : (0 : Int) ≤ Ieee.signed false m (i - min i j).toNat := Int.natCast_nonneg _
        have e2 : (0 : Int) ≤ Ieee.signed false n (j - min i j).toNat := Int.natCast_nonneg _
        rw [decide_eq_false_iff_not]; omega
    all_goals first
      | (cases hp; done)
      | (cases hp; rfl)
      | (split at hp <;> first | (cases hp; done) | (cases hp; rfl))
/-- A difference of which the first is the greater is not below 0. -/
theorem fsub_sgn {x y : Nat} (hlt : flt y x = true) (h : isnan (fsub x y) = false) : fsgn (fsub x y) = false := by
  unfold fsub Ieee.Format.sub at h ⊢
  unfold flt Ieee.Format.order at hlt
  cases hp : (Ieee.double.read x).sum (Ieee.double.read y).opposite with
  | none => rw [hp] at h; simp [isnan_qnan] at h
  | some d =>
    simp only [Option.map_some, Option.getD_some]
    rw [write_sgn d (sum_some hp)]
    generalize Ieee.double.read x = a at *
    generalize Ieee.double.read y = b at *
    cases a <;> cases b <;> simp only [Ieee.Datum.sum, Ieee.Datum.opposite, Ieee.Datum.order] at hp hlt
    case number.number s m i t n j =>
      cases hp
      simp only [Ieee.Datum.neg]
      simp only [beq_iff_eq, Option.some.injEq] at hlt
      rw [Int.min_comm] at hlt
      have hlt' : Ieee.signed t n (j - min i j).toNat < Ieee.signed s m (i - min i j).toNat := by
        rcases Int.lt_trichotomy (Ieee.signed t n (j - min i j).toNat) (Ieee.signed s m (i - min i j).toNat) with h | h | h
        · exact h
        · rw [compare_eq h] at hlt; cases hlt
        · rw [compare_gt h] at hlt; cases hlt
      have e : Ieee.signed (!t) n (j - min i j).toNat = - Ieee.signed t n (j - min i j).toNat := by unfold Ieee.signed; cases t <;> simp
      rw [e, if_neg (by omega), decide_eq_false_iff_not]
      omega
    case number.infinity s m i t => cases t <;> simp at hlt hp; subst hp; rfl
    case infinity.number s t m i => cases s <;> simp at hlt hp; subst hp; rfl
    case infinity.infinity s t => cases s <;> cases t <;> simp at hlt hp <;> first | (exact absurd hlt (by decide)) | (subst hp; rfl)
    all_goals first | (cases hlt; done) | (simp at hlt)

theorem fsgn_lt {x : Nat} (h : x < 18446744073709551616) : fsgn x = false ↔ x < 9223372036854775808 := by
  unfold fsgn
  simp
  omega
/-- Times one. -/
theorem fmul_one {x : Nat} (hx : x < 9218868437227405312) : fmul 4607182418800017408 x = x := by
  unfold fmul Ieee.Format.mul
  have h1 : Ieee.double.read 4607182418800017408 = .number false 4503599627370496 (-52) := by decide
  obtain ⟨m, i, hr, hi, hm⟩ := read_fin x (by omega)
  rw [Nat.mod_eq_of_lt (by omega)] at hm
  have hs : (x / 9223372036854775808 % 2 == 1) = false := by rw [Nat.div_eq_of_lt (by omega)]; rfl
  rw [h1, hr, hs]
  simp only [Ieee.Datum.product, Bool.false_bne, Option.map_some, Option.getD_some]
  show Ieee.double.nearest _ _ _ = x
  rcases Nat.eq_zero_or_pos m with h0 | h0
  · subst h0
    rw [Nat.mul_zero, nearest_zero]
    simp at hm
    have : fval 0 = fval x := by rw [fval_zero]; exact hm
    have := fval_inj.1 this
    subst this
    rfl
  · rw [nearest_exact _ _ _ x (i + 1074).toNat 52 (by omega) hx (by
      rw [← hm, Nat.shiftLeft_eq, Nat.mul_assoc, Nat.mul_comm]) (by omega)]
    rfl
/-- Times minus one. -/
theorem fmul_mone {x : Nat} (hx : x < 9218868437227405312) : fmul 13830554455654793216 x = 9223372036854775808 + x := by
  unfold fmul Ieee.Format.mul
  have h1 : Ieee.double.read 13830554455654793216 = .number true 4503599627370496 (-52) := by decide
  obtain ⟨m, i, hr, hi, hm⟩ := read_fin x (by omega)
  rw [Nat.mod_eq_of_lt (by omega)] at hm
  have hs : (x / 9223372036854775808 % 2 == 1) = false := by rw [Nat.div_eq_of_lt (by omega)]; rfl
  rw [h1, hr, hs]
  simp only [Ieee.Datum.product, Bool.bne_false, Option.map_some, Option.getD_some]
  show Ieee.double.nearest _ _ _ = _
  rcases Nat.eq_zero_or_pos m with h0 | h0
  · subst h0
    rw [Nat.mul_zero, nearest_zero]
    simp at hm
    have : fval 0 = fval x := by rw [fval_zero]; exact hm
    have := fval_inj.1 this
    subst this
    rfl
  · rw [nearest_exact _ _ _ x (i + 1074).toNat 52 (by omega) hx (by
      rw [← hm, Nat.shiftLeft_eq, Nat.mul_assoc, Nat.mul_comm]) (by omega)]
    rw [word_val]; rfl
end Go.Proofs.Ytogkmddhgfenkaa

/- A float's difference to itself is nought just if it is finite. -/
namespace Go.Proofs.Ytogkmddhgfenkaa
open Go Go.RowKit
set_option maxRecDepth 100000
theorem fsub_self_fin {x : Nat} (h : ffin x = true) : fsub x x = 0 := by
  unfold ffin at h
  simp only [decide_eq_true_eq] at h
  obtain ⟨m, i, hr, _, _⟩ := read_fin x h
  unfold fsub Ieee.Format.sub
  rw [hr]
  generalize (x / 9223372036854775808 % 2 == 1) = s
  have e : Ieee.signed (!s) m (i - min i i).toNat = - Ieee.signed s m (i - min i i).toNat := by unfold Ieee.signed; cases s <;> simp
  have hs : (Ieee.Datum.number s m i).sum (Ieee.Datum.number s m i).opposite = some (.number false 0 (min i i)) := by
    show some (Ieee.Datum.number (if Ieee.signed s m (i - min i i).toNat + Ieee.signed (!s) m (i - min i i).toNat = 0 then s && !s else decide (Ieee.signed s m (i - min i i).toNat + Ieee.signed (!s) m (i - min i i).toNat < 0)) (Ieee.signed s m (i - min i i).toNat + Ieee.signed (!s) m (i - min i i).toNat).natAbs (min i i)) = _
    rw [e, Int.add_right_neg, if_pos rfl]
    cases s <;> rfl
  rw [hs]
  show Ieee.double.write (.number false 0 (min i i)) = 0
  show Ieee.double.nearest false 0 (min i i) = 0
  rw [nearest_zero]
  rfl
theorem fnS_ffin (x : Nat) : fnS x = ffin x := by
  cases h : ffin x
  · cases hx : isnan x
    · have hi : x % 9223372036854775808 = 9218868437227405312 := by
        unfold ffin at h
        unfold isnan at hx
        simp only [decide_eq_false_iff_not] at h hx
        omega
      unfold fnS
      have e : fsub x x = qnan := by
        unfold fsub Ieee.Format.sub
        rw [read_inf x hi]
        generalize (x / 9223372036854775808 % 2 == 1) = s
        cases s <;> rfl
      rw [e]
      exact (show feq qnan 0 = false from by kernel_rfl)
    · unfold fnS
      have e : fsub x x = qnan := by
        unfold fsub Ieee.Format.sub
        rw [sum_nan_left _ (by rw [read_nan]; exact hx)]
        rfl
      rw [e]
      exact (show feq qnan 0 = false from by kernel_rfl)
  · unfold fnS
    rw [fsub_self_fin h]
    exact (show feq 0 0 = true from by kernel_rfl)
end Go.Proofs.Ytogkmddhgfenkaa

/- Regions that draw their order, within a fence but no round; floats' operations within a fence. No condition. -/
namespace Go.Proofs.Ytogkmddhgfenkaa
open Go Go.RowKit
section
variable {P : Program} {ops : Array Oper} {Q : Exit → Act → World → Prop} {a : Act} {w : World} {rest : List Oper} {o : Oper} {op : BinOp} {xt yt : TypeId} {ox oy : Operand} {x y v : Nat} {FF : Fence} {nF : Nat}
theorem wpListIn_flt (hg : o.guard = none) (ho : o.op = .binOp op xt ox oy yt) (hx : a.eval ox = .float .f64 x) (hy : a.eval oy = .float .f64 y) (h : fbin op x y = some v)
    (hk : ∀ K : Act → World → Prop, (∀ a w, wpListIn FF nF P ops Q rest a w → K a w) → ∀ s n, K (a.put o.dst (.float .f64 (raw v s))) (w.drewN n)) : wpListIn FF nF P ops Q (o :: rest) a w := by
  refine wpListIn_plain hg fun K' hK' => ?_
  obtain ⟨s, n, hr⟩ := exec_fbin (P := P) w ho hx hy h
  unfold Oper.wpIn
  refine ⟨by simp [Oper.about, ho], ?_⟩
  rw [Oper.semAt_plain FF _ _ (by rw [ho]; intro c hc'; cases hc'), hr]
  exact hk K' hK' s n
end
section
variable {P : Program} {md : Region.Mode} {ops : Array Oper} {C : World → Prop} {F : FuncId → Array Value → Value → Prop} {nf : Nat}
theorem wideW_fn (f : FuncId) : Fence.wide.fn f := trivial
theorem wideW_depth : Fence.wide.depth.isSome = true → 1 ≤ nf := fun h => by cases h

theorem wpOpIn_of_nqOpW {i : Nat} {a : Act} {K : Act → Prop} {K' : Act → World → Prop} {Q' : Exit → Act → World → Prop} {w : World} (hd : ∀ (i : Nat) (o : Oper) c, ops[i]? = some o → o.op ≠ .defer c) (hw : C w) (h : ∀ a w', C w' → K a → K' a w') (hh : nqOp P ops C F i K a) : wpOpIn Fence.wide nf P ops Q' i K' a w := by
  unfold nqOp at hh
  unfold wpOpIn
  split
  · rename_i ho; simp only [ho] at hh; exact h _ _ hw hh
  · rename_i o ho
    simp only [ho] at hh
    split
    · rename_i hwt; simp only [hwt, if_true] at hh
      unfold nq at hh
      have hh := hh w hw
      refine ⟨fun f _ => wideW_fn f, ?_⟩
      have hs : o.semAt Fence.wide.round a.eval = execOp a.eval o := Oper.semAt_plain Fence.wide _ _ (fun c => hd i o c ho)
      rw [hs]
      generalize (execOp a.eval o).run P w = r at *
      cases r with
      | ok n w' =>
        cases n <;> simp only [nqUpon] at hh <;> simp only [Oper.uponIn]
        case value u => exact h _ _ hh.1 hh.2
        case skip => exact h _ _ hh.1 hh.2
        case enter f args =>
          refine ⟨wideW_depth, (callsIn_wide.2 ((hh.2.1 _ hh.1).mono fun e w'' ⟨v, he, hv, hc⟩ => ?_))⟩
          subst he; exact h _ _ hc (hh.2.2 v hv)
      | halt x w' => simp only [nqUpon] at hh
    · rename_i hwt; simp only [hwt] at hh; exact ⟨fun f _ => wideW_fn f, h _ _ hw hh⟩

theorem wpAnyIn_of_nqAnyW {n g : Nat} {L : Array Bool → Act → Prop} {Q' : Exit → Act → World → Prop} (hd : ∀ (i : Nat) (o : Oper) c, ops[i]? = some o → o.op ≠ .defer c) (hL : ∀ listed a w, C w → L listed a → wpAnyIn Fence.wide nf P md ops Q' g listed a w) :
    ∀ (f : Nat) (listed : Array Bool) (a : Act) (w : World), C w → nqAny P md ops C F n L f listed a → wpAnyIn Fence.wide nf P md ops Q' (f + g) listed a w
  | 0, listed, a, w, hw, h => by rw [Nat.zero_add]; exact hL _ _ _ hw h
  | f + 1, listed, a, w, hw, h => by
    rw [show f + 1 + g = (f + g) + 1 by omega]
    exact ⟨fun h0 => absurd h0 h.1, fun i hi => wpOpIn_of_nqOpW hd hw (fun a' w' hw' h' => wpAnyIn_of_nqAnyW hd hL f _ a' w' hw' h') (h.2 i hi).2⟩

theorem wpIn_region_nqW {id : Nat} {Q : Exit → Act → World → Prop} {a : Act} {w : World} {l : List Oper} (n : Nat) (F : FuncId → Array Value → Value → Prop) (C : World → Prop)
    (hm : P.follows .mixedOrders = true) (hB : (nqB l n && noDefer l) = true) (hC : C { w with drawn := w.drawn + 1 })
    (h : nqW P l.toArray C F (fun a' => ∀ w', C w' → wpListIn Fence.wide nf P l.toArray Q (l.drop n) a' w') (l.take n) a) : (Code.region id l.toArray true).wpIn Fence.wide nf P Q a w := by
  rw [Bool.and_eq_true] at hB
  have hd : ∀ (i : Nat) (o : Oper) c, l.toArray[i]? = some o → o.op ≠ .defer c := fun i o c ho => noDefer_at hB.2 ho c
  have hB := hB.1
  simp only [nqB, Bool.and_eq_true, Bool.or_eq_true, decide_eq_true_eq] at hB
  obtain ⟨⟨⟨hsel, hsc⟩, hn⟩, hlex⟩ := hB
  have htl : (l.take n).length = n := by simp; omega
  have hdl : (l.drop n).length = l.toArray.size - n := by simp
  have inv0 : HeadInv .any l.toArray n (Array.replicate l.toArray.size false) :=
    ⟨by simp, fun j oj _ hl => (by rw [getD_replicate_false] at hl; cases hl), fun t _ ht => getD_in (by simpa using ht) (getD_replicate_false _ _)⟩
  have hs : Region.sinkB .any l.toArray n = true ∨ l.toArray.size ≤ n := hsc.elim (fun h => .inr h) (fun h => .inl h.1)
  have hc : Region.chainB .any l.toArray n = true ∨ l.toArray.size ≤ n := hsc.elim (fun h => .inr h) (fun h => .inl h.2)
  have H := nqAny_lex (md := .any) (g := l.toArray.size - n) ⟨_, hC⟩ hsel hs hc (l.take n) 0 _ a (fun j hj => by
    have hj' : j < n := by rw [htl] at hj; exact hj
    simp [hj']) (by simpa using htl) inv0 (by rw [htl]; exact hlex) h
  refine wpIn_region_any hm ?_
  have := wpAnyIn_of_nqAnyW (nf := nf) (Q' := Q) (g := l.toArray.size - n) hd (fun listed a' w' hw' hL => by
    have := wpAnyIn_of_seq (FF := Fence.wide) (nf := nf) (md := .any) (Q' := Q) (l.drop n) n listed a' w' (fun j => by simp [List.getElem?_drop]) (by rw [hdl]; exact hL.1) (hL.2 w' hw')
    rwa [hdl] at this) _ _ _ _ hC H
  rw [htl, show n + (l.toArray.size - n) = l.toArray.size by simp; omega] at this
  exact this

/-- The region that draws, in the class of the worlds that have all that was there. -/
theorem wpIn_region_nqbW {id : Nat} {Q : Exit → Act → World → Prop} {a : Act} {w : World} {l : List Oper} (n : Nat) (F : FuncId → Array Value → Value → Prop)
    (hm : P.follows .mixedOrders = true) (hB : (nqB l n && noDefer l) = true)
    (h : ∀ (C : World → Prop) (R : Act → Prop), (∀ w', Cls C w' → ∀ b o, b < w.heap.size → w'.cell? ⟨b, o, none⟩ = w.cell? ⟨b, o, none⟩) → (∀ w', Cls C w' → Below w.heap.size w w') →
      (∀ w' w'', Cls C w' → Below w'.heap.size w' w'' → Cls C w'') → (∀ w' n, Cls C w' → Cls C (w'.drewN n)) →
      (∀ a', (∀ w', Below w.heap.size w w' → wpListIn Fence.wide nf P l.toArray Q (l.drop n) a' w') → R a') → nqW P l.toArray (Cls C) F R (l.take n) a) : (Code.region id l.toArray true).wpIn Fence.wide nf P Q a w :=
  wpIn_region_nqW n F (Below w.heap.size w) hm hB (below_drewN 1 (Below.refl _ _))
    (h (Below w.heap.size w) (fun a' => ∀ w', Below w.heap.size w w' → wpListIn Fence.wide nf P l.toArray Q (l.drop n) a' w') (fun _ hw' => (below_cells hw').1) (fun _ h => h)
      (fun _ _ h1 h2 => h1.trans (h2.mono h1.size)) (fun _ n h => below_drewN n h) (fun _ h => h))
end
end Go.Proofs.Ytogkmddhgfenkaa

/- Package sturm: the range over the pivots. -/
namespace Go.Proofs.Ytogkmddhgfenkaa
open Go Go.RowKit Go.Shelf
attribute [local go_sem] Oper.semAt_some
set_option maxRecDepth 100000

/-- What is put for a nought. -/
def grd (q : Nat) : Nat := if feq q 0 then 103582791429521408 else q
/-- The pivots; ahead of the first one: nought. -/
def pivQ (ds es : List Nat) (x : Nat) : Nat → Nat
  | 0 => 0
  | 1 => grd (fsub (ds.getD 0 0) x)
  | i + 2 => grd (fsub (fsub (ds.getD (i + 1) 0) x) (fdiv (fmul (es.getD i 0) (es.getD i 0)) (pivQ ds es x (i + 1))))
/-- A pivot's number, and its NaN's bits. -/
def pelV (ds es : List Nat) (x : Nat) (y : Nat × Nat) : Array Value := #[.int .i64 (y.1 : Int), .float .f64 (raw (pivQ ds es x (y.1 + 1)) y.2)]

theorem fls_one (W : World) (T : TypeId) (x sx : Nat) : Fls (W.alloc (.cells #[.float .f64 (raw x sx)] T)) (some ⟨W.heap.size, 0, none⟩) [x] := fun _ => ⟨W.heap.size, 0, rfl, by simp, fun i v hi => by
  have hb : Box (W.alloc (.cells #[.float .f64 (raw x sx)] T)) W.heap.size [.float .f64 (raw x sx)] := Box.newA W [_] T rfl
  cases i with
  | zero => simp at hi; subst hi; exact ⟨sx, by rw [hb.cell]; rfl⟩
  | succ i => simp at hi⟩
/-- What the range holds on to. -/
structure PivR (ds es : List Nat) (x sx : Nat) (da ea : Option Addr) (dc ec Bt Bx : Nat) (R : World → Prop) (Kp : World → World → Prop) : Prop where
  bt : ∀ W, R W → Box W Bt [.slice da ds.length dc, .slice ea es.length ec]
  bx : ∀ W, R W → Box W Bx [.float .f64 (raw x sx)]
  fd : ∀ W, R W → Fls W da ds
  fe : ∀ W, R W → Fls W ea es
  keep : ∀ A B, R A → Kp A B → R B
  below : ∀ A B, R A → Below A.heap.size A B → R B

set_option maxHeartbeats 8000000 in
theorem Piv_stops (n : Nat) (hn : 1 ≤ n) (ds es : List Nat) (x sx : Nat) (da ea : Option Addr) (dc ec Bt Bx : Nat) (R : World → Prop) (Kp : World → World → Prop) (hA : PivR ds es x sx da ea dc ec Bt Bx R Kp) (hl : ds.length ≤ maxLen) (hl' : es.length ≤ maxLen) (w : World) (hw : R w) :
    SeqStopsK Fence.wide n Try.prog 98 #[.pointer (some ⟨Bt, 0, none⟩), .pointer (some ⟨Bx, 0, none⟩)] (pelV ds es x) Kp (fun xs => xs.map Prod.fst = if askS ds es [x] = 0 then List.range ds.length else []) (fun xs => askS ds es [x] = 0 ∧ ∃ k, xs.map Prod.fst = List.range k) ds.length w := by
  obtain ⟨Lr, hLr⟩ : ∃ Lr, Lr = if askS ds es [x] = 0 then List.range ds.length else [] := ⟨_, rfl⟩
  rw [← hLr]
  intro l J Jx W hW hJ hJx hY h0
  have hRW : R W := hA.below _ _ hw hW
  have b := (hA.bt _ hRW).facts
  have b' := (hA.bx _ hRW).facts
  obtain ⟨b1, b2, b3⟩ := b
  obtain ⟨b4, b5, b6⟩ := b'
  have hk := ask13_any (W.alloc (.cells #[.float .f64 (raw x sx)] 35)) da ea (some ⟨W.heap.size, 0, none⟩) ds es [x] dc ec 1 ((hA.fd _ hRW).below ((Below.refl _ _).alloc (Nat.le_refl _) _)) ((hA.fe _ hRW).below ((Below.refl _ _).alloc (Nat.le_refl _) _)) (fls_one _ _ _ _) hl hl' (by unfold maxLen; simp)
  have HK := Lib.hid hk
  clear hk
  refine callsIn_of_wp Try.func98 rfl trivial ?_ rfl
  simp only [Try.ntmps98, List.size_toArray, List.length_cons, List.length_nil, Nat.reduceAdd, Nat.reduceSub, Array.replicate_succ, Array.replicate_zero, List.push_toArray, List.append_toArray, List.nil_append, List.cons_append]
  gi_wp2_with fail
  refine ⟨trivial, (callsIn_wide.2 HK.out).mono ?_⟩
  rintro e w2 ⟨rfl, hb2⟩
  have hA0 : Below W.heap.size W (W.alloc (.cells #[.float .f64 (raw x sx)] 35)) := (Below.refl _ _).alloc (Nat.le_refl _) _
  have hb3 := below_step hA0 hA0.size hb2
  have hR2 := hA.below _ _ hRW hb3
  have hJ2 := hJ _ _ _ none h0 (grown_of_below hb3) (fun r e => by cases e)
  clear HK hA0 b1 b2 b3 b4 b5 b6 h0
  by_cases hz : askS ds es [x] = 0
  case neg =>
    rw [if_neg hz] at hLr
    have t1 : (askS ds es [x] != 0) = true := by simp [hz]
    generalize askS ds es [x] = q at *
    have HLr := Lib.hid hLr
    clear hz hLr
    gi_wp2
    refine bodyPost_ret (results_none rfl _ _ _) rfl ?_
    exact ⟨⟨_, rfl⟩, .inl ⟨[], HLr.out.symm, hJ2⟩⟩
  case pos =>
    rw [if_pos hz] at hLr
    have HZ := Lib.hid hz
    rw [hz]
    have HLr := Lib.hid hLr
    clear hz hLr
    have hlen : es.length = ds.length - 1 := by
      have := HZ.out
      unfold askS at this
      cases hm : mayS ds.length es.length
      · rw [hm] at this; cases this
      · unfold mayS at hm; simp at hm; exact hm.2
    have hl1 : ds.length ≤ 9223372036854775807 := by unfold maxLen at hl; omega
    have HLen := Lib.hid hlen
    clear hl hl' hlen
    obtain ⟨b1, b2, b3⟩ := (hA.bt _ hR2).facts
    gi_wp2
    clear b1 b2 b3 hb2 hb3
    gi_loopw [4, 17] (fun s4 s17 wr => ∃ (i : Nat) (pre : List (Nat × Nat)), i ≤ ds.length ∧ s17 = .int .i64 i ∧ pre.map Prod.fst = List.range i ∧ IsF s4 (pivQ ds es x i) ∧ J pre wr ∧ R wr) (fun _ s17 _ => ds.length - (intOf s17).toNat)
    case atStart => exact ⟨0, [], Nat.zero_le _, rfl, rfl, IsF.const (by kernel_rfl), hJ2, hR2⟩
    case round =>
      obtain ⟨i, pre, hi, rfl, hpre, ⟨sq, rfl⟩, hJs, hRs⟩ := hrel
      by_cases hlt : i < ds.length
      · obtain ⟨db, do', s1, rfl, hdb, c1⟩ := (hA.fd _ hRs).at hlt
        obtain ⟨e1, e2, e3⟩ := (hA.bt _ hRs).facts
        obtain ⟨e4, e5, e6⟩ := (hA.bx _ hRs).facts
        have HPre := Lib.hid hpre
        clear hpre hJ2 hR2
        have hnext : ∀ (W' : World) (s' : Nat), J (pre ++ [(i, s')]) W' → R W' → ∃ (k : Nat) (pre : List (Nat × Nat)), k ≤ ds.length ∧ Value.int .i64 ((i : Int) + 1) = .int .i64 k ∧ pre.map Prod.fst = List.range k ∧ IsF (.float .f64 (raw (pivQ ds es x (i + 1)) s')) (pivQ ds es x k) ∧ J pre W' ∧ R W' := fun W' s' hj hr => ⟨i + 1, _, hlt, rfl, by rw [List.map_append, HPre.out, List.range_succ]; rfl, ⟨s', rfl⟩, hj, hr⟩
        have HNext := Lib.hid hnext
        have HStop : Hid (∀ s' : Nat, ∃ k, (pre ++ [(i, s')]).map Prod.fst = List.range k) := fun s' => ⟨i + 1, by rw [List.map_append, HPre.out, List.range_succ]; rfl⟩
        clear hnext
        rcases Nat.eq_zero_or_pos i with h0 | h0
        · have t0 : decide ((0 : Int) < (i : Int)) = false := by simp; omega
          have t0' : decide (0 < i) = false := by simp; omega
          have hp : pivQ ds es x (i + 1) = grd (fsub (ds.getD i 0) x) := by rw [h0]; rfl
          generalize ds.getD i 0 = d0 at *
          cases hz : feq (fsub d0 x) 0
          · have hp2 : pivQ ds es x (i + 1) = fsub d0 x := by rw [hp]; unfold grd; rw [hz]; rfl
            have HP := Lib.hid hp2
            clear hp hp2 h0
            gi_wp2_with (first | (refine wpListIn_flt (op := .sub) rfl rfl rfl rfl rfl ?_; intro K hK s' n'; go_frame; refine hK _ _ ?_; clear hK K) | (refine wpListIn_flt rfl rfl rfl rfl rfl ?_; intro K hK _ _; go_frame; refine hK _ _ ?_; clear hK K))
            have hB3 : Below wr.heap.size wr (wr.drewN n') := below_drewN n' (Below.refl _ _)
            have hR3 := hA.below _ _ hRs hB3
            have hJ3 := hJ _ _ _ none hJs (grown_of_below hB3) (fun r e => by cases e)
            obtain ⟨fn, tmps, assign, body, hy, hR4⟩ := hY pre (i, s') (wr.drewN n') hJ3 (by have := congrArg List.length HPre.out; simp at this; omega)
            dsimp only [pelV] at hy
            rw [HP.out] at hy
            rw [hy]
            gi_wp2
            refine hR4.mono ?_
            rintro e W3 (⟨rfl, hJ4, hk4⟩ | ⟨rfl, hJx4⟩)
            · gi_wp2
              go_roundw
              case rel =>
                have := HNext.out W3 s' hJ4 (hA.keep _ _ hR3 hk4)
                rw [HP.out] at this
                exact this
              case measure => simp [intOf]; omega
            · gi_wp2
              refine bodyPost_ret (results_none rfl _ _ _) rfl ?_
              exact ⟨⟨_, rfl⟩, .inr ⟨_, ⟨HZ.out, HStop.out _⟩, hJx4⟩⟩
          · have hp2 : pivQ ds es x (i + 1) = 103582791429521408 := by rw [hp]; unfold grd; rw [hz]; rfl
            have HP := Lib.hid hp2
            clear hp hp2 h0
            have s' : Nat := 0
            gi_wp2_with (first | (refine wpListIn_flt (op := .sub) rfl rfl rfl rfl rfl ?_; intro K hK _ n'; go_frame; refine hK _ _ ?_; clear hK K) | (refine wpListIn_flt rfl rfl rfl rfl rfl ?_; intro K hK _ _; go_frame; refine hK _ _ ?_; clear hK K))
            have hB3 : Below wr.heap.size wr (wr.drewN n') := below_drewN n' (Below.refl _ _)
            have hR3 := hA.below _ _ hRs hB3
            have hJ3 := hJ _ _ _ none hJs (grown_of_below hB3) (fun r e => by cases e)
            obtain ⟨fn, tmps, assign, body, hy, hR4⟩ := hY pre (i, s') (wr.drewN n') hJ3 (by have := congrArg List.length HPre.out; simp at this; omega)
            dsimp only [pelV] at hy
            rw [HP.out, raw_of_not (by kernel_rfl)] at hy
            rw [hy]
            gi_wp2
            refine hR4.mono ?_
            rintro e W3 (⟨rfl, hJ4, hk4⟩ | ⟨rfl, hJx4⟩)
            · gi_wp2
              go_roundw
              case rel =>
                have := HNext.out W3 s' hJ4 (hA.keep _ _ hR3 hk4)
                rw [HP.out, raw_of_not (by kernel_rfl)] at this
                exact this
              case measure => simp [intOf]; omega
            · gi_wp2
              refine bodyPost_ret (results_none rfl _ _ _) rfl ?_
              exact ⟨⟨_, rfl⟩, .inr ⟨_, ⟨HZ.out, HStop.out _⟩, hJx4⟩⟩
        · obtain ⟨k, rfl⟩ : ∃ k, i = k + 1 := ⟨i - 1, by omega⟩
          have hl2 : k < es.length := by have := HLen.out; omega
          obtain ⟨eb, eo, s2, rfl, heb, c2⟩ := (hA.fe _ hRs).at hl2
          have hp : pivQ ds es x (k + 1 + 1) = grd (fsub (fsub (ds.getD (k + 1) 0) x) (fdiv (fmul (es.getD k 0) (es.getD k 0)) (pivQ ds es x (k + 1)))) := rfl
          generalize ds.getD (k + 1) 0 = d0 at *
          generalize es.getD k 0 = g0 at *
          generalize pivQ ds es x (k + 1) = q0 at *
          have hbm := lt_more heb
          have hbm2 := lt_more e1
          cases hz : feq (fsub (fsub d0 x) (fdiv (fmul g0 g0) q0)) 0
          · have hp2 : pivQ ds es x (k + 1 + 1) = fsub (fsub d0 x) (fdiv (fmul g0 g0) q0) := by rw [hp]; unfold grd; rw [hz]; rfl
            have HP := Lib.hid hp2
            clear hp hp2 h0
            gi_wp2_with (first | (refine wpListIn_flt (op := .sub) rfl rfl rfl rfl rfl ?_; intro K hK _ n1; go_frame; refine hK _ _ ?_; clear hK K) | (refine wpListIn_flt rfl rfl rfl rfl rfl ?_; intro K hK _ _; go_frame; refine hK _ _ ?_; clear hK K))
            have hb1 : Below wr.heap.size wr (wr.drewN n1) := below_drewN n1 (Below.refl _ _)
            obtain ⟨f1, f2, f3⟩ := ((hA.bt _ hRs).below hb1).facts
            have c3 := ((below_cells hb1).1 _ (eo + k) heb).trans c2
            have heb' : eb < (wr.drewN n1).heap.size := Nat.lt_of_lt_of_le heb hb1.size
            clear e1 e2 e3 e4 e5 e6 c1 c2 heb hbm hbm2
            generalize wr.drewN n1 = W1 at *
            refine wpIn_region_nqbW 13 (fun _ _ _ => False) (by kernel_rfl) (by kernel_rfl) ?_
            intro C R hc hb' hb2 hd hR
            simp only [List.take_succ_cons, List.take_zero]
            repeat (
              first
                | (refine nqW_plain (fun K hK => ?_))
                | (refine nqW_step (fun K hK => ?_); go_simp)
              first
                | (refine nq_move rfl ?_; go_simp; refine hK _ ?_; clear hK K)
                | (refine nq_assign rfl ?_; go_simp; refine hK _ ?_; clear hK K)
                | (refine nq_flt rfl rfl rfl rfl hd ?_; intro _; go_frame; refine hK _ ?_; clear hK K)
                | (refine nq_same ?_; intro w' hw'; go_simp; (try go_bits); refine hK _ ?_; clear hK K hw' w')
                | (refine nq_same ?_; intro w' hw'; go_simp; rw [if_pos (by omega)]; go_simp; (try go_bits); refine hK _ ?_; clear hK K hw' w')
                | (go_simp; refine hK _ ?_; clear hK K))
            refine nqW_nil (hR _ ?_)
            clear hc hb' hb2 hd hR
            intro w' hw'
            simp only [List.drop]
            gi_wp2_with (first | (refine wpListIn_flt (op := .quo) rfl rfl rfl rfl rfl ?_; intro K hK _ n2; go_frame; refine hK _ _ ?_; clear hK K) | (refine wpListIn_flt (op := .sub) rfl rfl rfl rfl rfl ?_; intro K hK s' n'; go_frame; refine hK _ _ ?_; clear hK K) | (refine wpListIn_flt rfl rfl rfl rfl rfl ?_; intro K hK _ _; go_frame; refine hK _ _ ?_; clear hK K))
            have hB3 : Below wr.heap.size wr (w'.drewN (n2 + n')) := below_drewN (n2 + n') (below_step hb1 hb1.size hw')
            have hR3 := hA.below _ _ hRs hB3
            have hJ3 := hJ _ _ _ none hJs (grown_of_below hB3) (fun r e => by cases e)
            obtain ⟨fn, tmps, assign, body, hy, hR4⟩ := hY pre (k + 1, s') (w'.drewN (n2 + n')) hJ3 (by have := congrArg List.length HPre.out; simp at this; omega)
            dsimp only [pelV] at hy
            rw [HP.out] at hy
            simp only [Int.natCast_add, Int.natCast_one] at hy
            rw [hy]
            gi_wp2
            refine hR4.mono ?_
            rintro e W3 (⟨rfl, hJ4, hk4⟩ | ⟨rfl, hJx4⟩)
            · gi_wp2
              go_roundw
              case rel =>
                have := HNext.out W3 s' hJ4 (hA.keep _ _ hR3 hk4)
                rw [HP.out] at this
                exact this
              case measure => simp [intOf]; omega
            · gi_wp2
              refine bodyPost_ret (results_none rfl _ _ _) rfl ?_
              exact ⟨⟨_, rfl⟩, .inr ⟨_, ⟨HZ.out, HStop.out _⟩, hJx4⟩⟩
          · have hp2 : pivQ ds es x (k + 1 + 1) = 103582791429521408 := by rw [hp]; unfold grd; rw [hz]; rfl
            have HP := Lib.hid hp2
            clear hp hp2 h0
            have s' : Nat := 0
            gi_wp2_with (first | (refine wpListIn_flt (op := .sub) rfl rfl rfl rfl rfl ?_; intro K hK _ n1; go_frame; refine hK _ _ ?_; clear hK K) | (refine wpListIn_flt rfl rfl rfl rfl rfl ?_; intro K hK _ _; go_frame; refine hK _ _ ?_; clear hK K))
            have hb1 : Below wr.heap.size wr (wr.drewN n1) := below_drewN n1 (Below.refl _ _)
            obtain ⟨f1, f2, f3⟩ := ((hA.bt _ hRs).below hb1).facts
            have c3 := ((below_cells hb1).1 _ (eo + k) heb).trans c2
            have heb' : eb < (wr.drewN n1).heap.size := Nat.lt_of_lt_of_le heb hb1.size
            clear e1 e2 e3 e4 e5 e6 c1 c2 heb hbm hbm2
            generalize wr.drewN n1 = W1 at *
            refine wpIn_region_nqbW 13 (fun _ _ _ => False) (by kernel_rfl) (by kernel_rfl) ?_
            intro C R hc hb' hb2 hd hR
            simp only [List.take_succ_cons, List.take_zero]
            repeat (
              first
                | (refine nqW_plain (fun K hK => ?_))
                | (refine nqW_step (fun K hK => ?_); go_simp)
              first
                | (refine nq_move rfl ?_; go_simp; refine hK _ ?_; clear hK K)
                | (refine nq_assign rfl ?_; go_simp; refine hK _ ?_; clear hK K)
                | (refine nq_flt rfl rfl rfl rfl hd ?_; intro _; go_frame; refine hK _ ?_; clear hK K)
                | (refine nq_same ?_; intro w' hw'; go_simp; (try go_bits); refine hK _ ?_; clear hK K hw' w')
                | (refine nq_same ?_; intro w' hw'; go_simp; rw [if_pos (by omega)]; go_simp; (try go_bits); refine hK _ ?_; clear hK K hw' w')
                | (go_simp; refine hK _ ?_; clear hK K))
            refine nqW_nil (hR _ ?_)
            clear hc hb' hb2 hd hR
            intro w' hw'
            simp only [List.drop]
            gi_wp2_with (first | (refine wpListIn_flt (op := .quo) rfl rfl rfl rfl rfl ?_; intro K hK _ n2; go_frame; refine hK _ _ ?_; clear hK K) | (refine wpListIn_flt (op := .sub) rfl rfl rfl rfl rfl ?_; intro K hK _ n'; go_frame; refine hK _ _ ?_; clear hK K) | (refine wpListIn_flt rfl rfl rfl rfl rfl ?_; intro K hK _ _; go_frame; refine hK _ _ ?_; clear hK K))
            have hB3 : Below wr.heap.size wr (w'.drewN (n2 + n')) := below_drewN (n2 + n') (below_step hb1 hb1.size hw')
            have hR3 := hA.below _ _ hRs hB3
            have hJ3 := hJ _ _ _ none hJs (grown_of_below hB3) (fun r e => by cases e)
            obtain ⟨fn, tmps, assign, body, hy, hR4⟩ := hY pre (k + 1, s') (w'.drewN (n2 + n')) hJ3 (by have := congrArg List.length HPre.out; simp at this; omega)
            dsimp only [pelV] at hy
            rw [HP.out, raw_of_not (by kernel_rfl)] at hy
            simp only [Int.natCast_add, Int.natCast_one] at hy
            rw [hy]
            gi_wp2
            refine hR4.mono ?_
            rintro e W3 (⟨rfl, hJ4, hk4⟩ | ⟨rfl, hJx4⟩)
            · gi_wp2
              go_roundw
              case rel =>
                have := HNext.out W3 s' hJ4 (hA.keep _ _ hR3 hk4)
                rw [HP.out, raw_of_not (by kernel_rfl)] at this
                exact this
              case measure => simp [intOf]; omega
            · gi_wp2
              refine bodyPost_ret (results_none rfl _ _ _) rfl ?_
              exact ⟨⟨_, rfl⟩, .inr ⟨_, ⟨HZ.out, HStop.out _⟩, hJx4⟩⟩
      · obtain rfl : i = ds.length := by omega
        have HPre := Lib.hid hpre
        clear hpre
        gi_wp2
        go_end0
        exact ⟨⟨_, rfl⟩, .inl ⟨pre, by rw [HPre.out, HLr.out], hJs⟩⟩
end Go.Proofs.Ytogkmddhgfenkaa

/- Package sturm: how many pivots are below nought. -/
namespace Go.Proofs.Ytogkmddhgfenkaa
open Go Go.RowKit Go.Shelf
attribute [local go_sem] Oper.semAt_some
set_option maxRecDepth 100000

theorem piv_loop {g : Operand} {ps : Array Tmp} {assign body : Code} {Q : Exit → Act → World → Prop} {T : Array Value} {dd : List Deferred} {w : World} (n : Nat) (hn : 3 ≤ n) {ds es : List Nat} {x sx : Nat} {da ea : Option Addr} {dc ec Bt Bx : Nat} {R : World → Prop}
    (hA : PivR ds es x sx da ea dc ec Bt Bx R (ImpK R)) (hl : ds.length ≤ maxLen) (hl' : es.length ≤ maxLen) (hRw : R w) (hRs : ∀ A B, R A → StillC w.heap.size A B → R B)
    (hg : (Act.mk T dd).eval g = .func (.func 98) #[] #[.pointer (some ⟨Bt, 0, none⟩), .pointer (some ⟨Bx, 0, none⟩)]) (hps : ps.size = 2)
    (I : List (Nat × Nat) → World → Prop) (Ix : Code → List (Nat × Nat) → World → Prop)
    (hI : ∀ pre A, I pre A → w.heap.size ≤ A.heap.size) (hIs : ∀ pre A B, I pre A → StillC w.heap.size A B → I pre B)
    (hIx : ∀ c pre A, Ix c pre A → w.heap.size ≤ A.heap.size) (hIxs : ∀ c pre A B, Ix c pre A → StillC w.heap.size A B → Ix c pre B) (h0 : I [] w)
    (upd : Array Value → Nat × Nat → Array Value)
    (hassign : ∀ (l : Nat) (y : Nat × Nat) (W : World) (K : Act → World → Prop), K ⟨upd T y, []⟩ W →
      assign.wpIn (Fence.wide.inRound l) (n - 1 - 1) Try.prog (Exit.then K (fun _ _ _ => False)) { tmps := (ps.zip (pelV ds es x y)).foldl (fun t (p, v) => t.setIfInBounds p v) T, defers := [] } W)
    (hbody : ∀ (l : Nat) (pre : List (Nat × Nat)) (y : Nat × Nat) (W : World), I pre W → pre.length < ds.length →
      body.wpIn (Fence.wide.inRound l) (n - 1 - 1) Try.prog (ownPostG w.heap.size (ImpK R) I Ix (pre ++ [y]) W) ⟨upd T y, []⟩ W)
    (hdone : ∀ (D : Nat) (xs : List (Nat × Nat)) (W : World), w.heap.size ≤ D → (xs.map Prod.fst = if askS ds es [x] = 0 then List.range ds.length else []) → I xs W → W.heap[D]? = some (.deferred (some [])) → Q .normal ⟨T, { target := .collected D, args := #[] } :: dd⟩ W)
    (hstop : ∀ (D : Nat) (c : Code) (pre : List (Nat × Nat)) (W : World), w.heap.size ≤ D → (askS ds es [x] = 0 ∧ ∃ k, pre.map Prod.fst = List.range k) → Ix c pre W → W.heap[D]? = some (.deferred (some [])) → c.wpIn Fence.wide n Try.prog Q ⟨T, { target := .collected D, args := #[] } :: dd⟩ W) :
    (Code.rangeFunc g ps assign body).wpIn Fence.wide n Try.prog Q ⟨T, dd⟩ w :=
  wpIn_rangeFunc_ownG rfl (by omega) hg trivial (enters_of Try.func98 (by kernel_rfl) rfl)
    (Piv_stops (n - 1) (by omega) ds es x sx da ea dc ec Bt Bx R (ImpK R) hA hl hl' w hRw) (fun h k => h.t k) (fun W l o o' hl ho hc _ => fun hR => hRs _ _ hR (StillC.put hl ho hc)) (Below.refl _ _) (fun _ => by rw [hps]; rfl)
    I Ix (ownFrom_still hI hIs) (fun c => ownFrom_still (hIx c) (hIxs c)) h0 (fun y => ⟨upd T y, []⟩) hassign hbody hdone hstop

/-- All cells of W1 are as they were, but for one block. -/
structure CR (W1 : World) (nb : Nat) (W : World) : Prop where
  keep : ∀ (k : Nat) (o : Obj), W1.heap[k]? = some o → o.isCells = true → k ≠ nb → W.heap[k]? = some o
  size : W1.heap.size ≤ W.heap.size
section
variable {W1 A B : World} {nb : Nat}
theorem CR.refl : CR W1 nb W1 := ⟨fun _ _ h _ _ => h, Nat.le_refl _⟩
theorem CR.below (h : CR W1 nb A) (hb : Below A.heap.size A B) : CR W1 nb B := ⟨fun k o h1 h2 h3 => by have := h.keep k o h1 h2 h3; rw [hb.block k (Array.getElem?_eq_some_iff.1 this).1]; exact this, Nat.le_trans h.size hb.size⟩
theorem CR.still {b : Nat} (h : CR W1 nb A) (hs : StillC b A B) : CR W1 nb B := ⟨fun k o h1 h2 h3 => hs.2 k o (h.keep k o h1 h2 h3) h2, Nat.le_trans h.size hs.1.size⟩
theorem CR.bel (h : CR W1 nb A) (hb : Bel A.heap.size nb A B) : CR W1 nb B := ⟨fun k o h1 h2 h3 => by have := h.keep k o h1 h2 h3; rw [hb.block k (Array.getElem?_eq_some_iff.1 this).1 h3]; exact this, Nat.le_trans h.size hb.size⟩
theorem CR.box (h : CR W1 nb A) {n : Nat} {cs : List Value} (hb : Box W1 n cs) (hn : n ≠ nb) : Box A n cs := by
  obtain ⟨T, hT⟩ := hb
  exact ⟨T, h.keep _ _ hT rfl hn⟩
theorem CR.cell (h : CR W1 nb A) {b o : Nat} {v : Value} (hc : W1.cell? ⟨b, o, none⟩ = some v) (hn : b ≠ nb) : A.cell? ⟨b, o, none⟩ = some v := by
  unfold World.cell? at hc ⊢
  cases ho : W1.heap[b]? with
  | none => rw [show W1.heap[(⟨b, o, none⟩ : Addr).block]? = W1.heap[b]? from rfl, ho] at hc; cases hc
  | some ob =>
    rw [show W1.heap[(⟨b, o, none⟩ : Addr).block]? = W1.heap[b]? from rfl, ho] at hc
    cases ob with
    | cells cs t fz =>
      rw [show A.heap[(⟨b, o, none⟩ : Addr).block]? = A.heap[b]? from rfl, h.keep b _ ho rfl hn]
      exact hc
    | _ => cases hc
theorem CR.fls (h : CR W1 nb A) {da : Option Addr} {ds : List Nat} (hf : Fls W1 da ds) (hn : ds ≠ [] → ∀ b o, da = some ⟨b, o, none⟩ → b ≠ nb) : Fls A da ds := fun hz => by
  obtain ⟨b, o, e, hb, hc⟩ := hf hz
  refine ⟨b, o, e, Nat.lt_of_lt_of_le hb h.size, fun i v hi => ?_⟩
  obtain ⟨s, h1⟩ := hc i v hi
  exact ⟨s, h.cell h1 (hn hz b o e)⟩
end
end Go.Proofs.Ytogkmddhgfenkaa
