/- Package sturm: places of floats, floats of places; what is asked first. -/
import Derived.Test.YtogkmddhgfenkaaChecked
import Derived.Test.YtogkmddhgfenkaaZz2
import Derived.RangeFuncNested
import Derived.RangeFuncCalls
import Derived.OrdersIn
import Derived.TacticsIn
import Derived.StillTail
namespace Go.Proofs.Ytogkmddhgfenkaa
open Go Go.RowKit
set_option maxRecDepth 100000

/-- A float's place. -/
def plN (x : Nat) : Int := if isnan x then 0 else fkey x
/-- A place's float. -/
def atN (p : Int) : Nat := if 9218868437227405312 < p then 9221120237041090561 else if p < -9218868437227405312 then 9221120237041090561 else if p < 0 then (-p).toNat + 9223372036854775808 else p.toNat

theorem bits_hi {x : Nat} (hx : x < 18446744073709551616) : fkey x = if x < 9223372036854775808 then (x : Int) else -((x - 9223372036854775808 : Nat) : Int) := by
  unfold fkey
  by_cases h : x < 9223372036854775808
  · rw [if_pos h, if_neg (by omega), Nat.mod_eq_of_lt h]
  · have e : x % 9223372036854775808 = x - 9223372036854775808 := by omega
    rw [if_neg h, if_pos (by omega), e]
theorem fabs_hi {x : Nat} (hx : x < 18446744073709551616) (h : ¬x < 9223372036854775808) : fabs x = x - 9223372036854775808 := by unfold fabs; omega
theorem pl_num {x : Nat} (hx : x < 18446744073709551616) (h : isnan x = false) : plN x = if x < 9223372036854775808 then (x : Int) else -((x - 9223372036854775808 : Nat) : Int) := by unfold plN; rw [h]; exact bits_hi hx

set_option maxHeartbeats 1000000 in
theorem Place_any (x : Nat) (hx : x < 18446744073709551616) (w : World) : Calls Try.prog 46 #[.float .f64 x] w fun e w' => e = .returned (.int .i64 (plN x)) ∧ w = w' := by
  cases hn : isnan x
  · have h1 : feq x x = true := by rw [feq_self, hn]; rfl
    rw [pl_num hx hn]
    clear hn
    by_cases h : x < 9223372036854775808
    · rw [if_pos h]
      have h2 : ((x : Int) / 9223372036854775808 == 1) = false := by rw [beq_eq_false_iff_ne]; omega
      go_enter Try.func46, Try.ntmps46
      go_wp2
      go_ret
      exact ⟨rfl, rfl⟩
    · rw [if_neg h]
      have he := bits_clear hx
      have hf := fabs_hi hx h
      have h2 : ((x : Int) / 9223372036854775808 == 1) = true := by rw [beq_iff_eq]; omega
      go_enter Try.func46, Try.ntmps46
      go_wp2
      have e1 : wrap64 (-wrap64 ((x - 9223372036854775808 : Nat) : Int)) = -((x - 9223372036854775808 : Nat) : Int) := by unfold wrap64; omega
      (try rw [hf])
      (try rw [e1])
      go_ret
      exact ⟨rfl, rfl⟩
  · have h1 : feq x x = false := by rw [feq_self, hn]; rfl
    have e0 : plN x = 0 := by unfold plN; rw [hn]; rfl
    rw [e0]
    clear e0 hn
    go_enter Try.func46, Try.ntmps46
    go_wp2
    go_ret
    exact ⟨rfl, rfl⟩

set_option maxHeartbeats 1000000 in
theorem RPlace_any (x : Nat) (hx : x < 18446744073709551616) (w : World) : Calls Try.prog 85 #[.float .f64 x] w fun e w' => e = .returned (.int .i64 (plN x)) ∧ w = w' := by
  have HN := Lib.hid (fun w => IsNaN_any x w)
  cases hn : isnan x
  · rw [hn] at HN
    rw [pl_num hx hn]
    clear hn
    by_cases h : x < 9223372036854775808
    · rw [if_pos h]
      have h2 : decide ((9223372036854775808 : Int) ≤ (x : Int)) = false := by simp; omega
      go_enter Try.func85, Try.ntmps85
      go_wp2_with (go_at_call 78; refine (HN.out _).mono ?_; rintro e w' ⟨rfl, rfl⟩)
      go_ret
      exact ⟨rfl, rfl⟩
    · have e1 : ((x - 9223372036854775808 : Nat) : Int) = (x : Int) - 9223372036854775808 := by omega
      rw [if_neg h, e1]
      have h2 : decide ((9223372036854775808 : Int) ≤ (x : Int)) = true := by simp; omega
      clear e1
      go_enter Try.func85, Try.ntmps85
      go_wp2_with (go_at_call 78; refine (HN.out _).mono ?_; rintro e w' ⟨rfl, rfl⟩)
      go_ret
      exact ⟨rfl, rfl⟩
  · rw [hn] at HN
    have e0 : plN x = 0 := by unfold plN; rw [hn]; rfl
    rw [e0]
    clear e0 hn
    go_enter Try.func85, Try.ntmps85
    go_wp2_with (go_at_call 78; refine (HN.out _).mono ?_; rintro e w' ⟨rfl, rfl⟩)
    go_ret
    exact ⟨rfl, rfl⟩

theorem NaN_any (w : World) : Calls Try.prog 61 #[] w fun e w' => e = .returned (.float .f64 9221120237041090561) ∧ w = w' := by
  go_enter Try.func61, Try.ntmps61
  go_wp2
  go_ret
  exact ⟨rfl, rfl⟩
theorem or_sign {n : Nat} (h : n < 9223372036854775808) : bits .or .u64 (n : Int) 9223372036854775808 = ((n + 9223372036854775808 : Nat) : Int) := by
  rw [show (9223372036854775808 : Int) = ((2 ^ 63 : Nat) : Int) from by decide, u64_or_nat n _ (by omega) (by decide)]
  congr 1
  rw [Nat.or_comm, show (2 ^ 63 : Nat) = 2 ^ 63 * 1 from rfl, ← Nat.two_pow_add_eq_or_of_lt (by simpa using h)]
  omega
theorem at_nan {p : Int} (h : 9218868437227405312 < p ∨ p < -9218868437227405312) : atN p = 9221120237041090561 := by
  unfold atN
  by_cases h1 : 9218868437227405312 < p
  · rw [if_pos h1]
  · rw [if_neg h1, if_pos (h.resolve_left h1)]
theorem at_pos {n : Nat} (h : n ≤ 9218868437227405312) : atN (n : Int) = n := by
  unfold atN
  rw [if_neg (by omega), if_neg (by omega), if_neg (by omega), Int.toNat_natCast]
theorem at_neg {n : Nat} (h : n ≤ 9218868437227405312) (h0 : 0 < n) : atN (-(n : Int)) = n + 9223372036854775808 := by
  unfold atN
  rw [if_neg (by omega), if_neg (by omega), if_pos (by omega), Int.neg_neg, Int.toNat_natCast]
theorem at_case (p : Int) : (9218868437227405312 < p ∨ p < -9218868437227405312) ∨ (∃ n : Nat, p = n ∧ n ≤ 9218868437227405312) ∨ ∃ n : Nat, p = -(n : Int) ∧ n ≤ 9218868437227405312 ∧ 0 < n := by
  by_cases h : 9218868437227405312 < p ∨ p < -9218868437227405312
  · exact .inl h
  · by_cases h1 : 0 ≤ p
    · exact .inr (.inl ⟨p.toNat, by omega, by omega⟩)
    · exact .inr (.inr ⟨(-p).toNat, by omega, by omega, by omega⟩)
set_option maxHeartbeats 4000000 in
theorem At13_hi (p : Int) (w : World) (h1 : decide (9218868437227405312 < p) = true) : Calls Try.prog 45 #[.int .i64 p] w fun e w' => e = .returned (.float .f64 9221120237041090561) ∧ w = w' := by
  go_enter Try.func45, Try.ntmps45
  go_wp2_with (go_at_call 61; refine (NaN_any _).mono ?_; rintro e w' ⟨rfl, rfl⟩)
  go_ret
  exact ⟨rfl, rfl⟩
set_option maxHeartbeats 4000000 in
theorem At13_lo (p : Int) (w : World) (h1 : decide (9218868437227405312 < p) = false) (h2 : decide (p < -9218868437227405312) = true) : Calls Try.prog 45 #[.int .i64 p] w fun e w' => e = .returned (.float .f64 9221120237041090561) ∧ w = w' := by
  go_enter Try.func45, Try.ntmps45
  go_wp2_with (go_at_call 61; refine (NaN_any _).mono ?_; rintro e w' ⟨rfl, rfl⟩)
  go_ret
  exact ⟨rfl, rfl⟩
set_option maxHeartbeats 4000000 in
theorem At13_pos (n : Nat) (w : World) (h : n ≤ 9218868437227405312) : Calls Try.prog 45 #[.int .i64 n] w fun e w' => e = .returned (.float .f64 n) ∧ w = w' := by
  have h1 : decide ((9218868437227405312 : Int) < (n : Int)) = false := by rw [decide_eq_false_iff_not]; omega
  have h2 : decide ((n : Int) < (-9218868437227405312 : Int)) = false := by rw [decide_eq_false_iff_not]; omega
  have h3 : decide ((n : Int) < (0 : Int)) = false := by rw [decide_eq_false_iff_not]; omega
  have h4 : n < 18446744073709551616 := by omega
  clear h
  go_enter Try.func45, Try.ntmps45
  go_wp2_with fail
  go_ret
  exact ⟨rfl, rfl⟩
set_option maxHeartbeats 4000000 in
theorem At13_neg (p : Int) (n : Nat) (w : World) (hp : -p = (n : Int)) (h : n ≤ 9218868437227405312) (h0 : 0 < n) : Calls Try.prog 45 #[.int .i64 p] w fun e w' => e = .returned (.float .f64 (n + 9223372036854775808)) ∧ w = w' := by
  have h1 : decide ((9218868437227405312 : Int) < p) = false := by rw [decide_eq_false_iff_not]; omega
  have h2 : decide (p < (-9218868437227405312 : Int)) = false := by rw [decide_eq_false_iff_not]; omega
  have h3 : decide (p < (0 : Int)) = true := by rw [decide_eq_true_iff]; omega
  have h4 : n < 9223372036854775808 := by omega
  have h5 := or_sign h4
  have h6 : wrap64 (n : Int) = (n : Int) := by unfold wrap64; omega
  clear h h0
  go_enter Try.func45, Try.ntmps45
  go_wp2_with fail
  go_ret
  exact ⟨rfl, rfl⟩
theorem At13_any (p : Int) (w : World) : Calls Try.prog 45 #[.int .i64 p] w fun e w' => e = .returned (.float .f64 (atN p)) ∧ w = w' := by
  rcases at_case p with h | ⟨n, rfl, h⟩ | ⟨n, rfl, h, h0⟩
  · rw [at_nan h]
    by_cases h1 : 9218868437227405312 < p
    · exact At13_hi p w (decide_eq_true h1)
    · exact At13_lo p w (decide_eq_false h1) (decide_eq_true (h.resolve_left h1))
  · rw [at_pos h]
    exact At13_pos n w h
  · rw [at_neg h h0]
    exact At13_neg _ n w (Int.neg_neg _) h h0
set_option maxHeartbeats 4000000 in
theorem RAt13_hi (p : Int) (w : World) (h1 : decide (9218868437227405312 < p) = true) : Calls Try.prog 86 #[.int .i64 p] w fun e w' => e = .returned (.float .f64 9221120237041090561) ∧ w = w' := by
  go_enter Try.func86, Try.ntmps86
  go_wp2_with (go_at_call 61; refine (NaN_any _).mono ?_; rintro e w' ⟨rfl, rfl⟩)
  go_ret
  exact ⟨rfl, rfl⟩
set_option maxHeartbeats 4000000 in
theorem RAt13_lo (p : Int) (w : World) (h1 : decide (9218868437227405312 < p) = false) (h2 : decide (p < -9218868437227405312) = true) : Calls Try.prog 86 #[.int .i64 p] w fun e w' => e = .returned (.float .f64 9221120237041090561) ∧ w = w' := by
  go_enter Try.func86, Try.ntmps86
  go_wp2_with (go_at_call 61; refine (NaN_any _).mono ?_; rintro e w' ⟨rfl, rfl⟩)
  go_ret
  exact ⟨rfl, rfl⟩
set_option maxHeartbeats 4000000 in
theorem RAt13_pos (n : Nat) (w : World) (h : n ≤ 9218868437227405312) : Calls Try.prog 86 #[.int .i64 n] w fun e w' => e = .returned (.float .f64 n) ∧ w = w' := by
  have h1 : decide ((9218868437227405312 : Int) < (n : Int)) = false := by rw [decide_eq_false_iff_not]; omega
  have h2 : decide ((n : Int) < (-9218868437227405312 : Int)) = false := by rw [decide_eq_false_iff_not]; omega
  have h3 : decide ((n : Int) < (0 : Int)) = false := by rw [decide_eq_false_iff_not]; omega
  have h4 : n < 18446744073709551616 := by omega
  clear h
  go_enter Try.func86, Try.ntmps86
  go_wp2_with fail
  go_ret
  exact ⟨rfl, rfl⟩
set_option maxHeartbeats 4000000 in
theorem RAt13_neg (p : Int) (n : Nat) (w : World) (hp : -p = (n : Int)) (h : n ≤ 9218868437227405312) (h0 : 0 < n) : Calls Try.prog 86 #[.int .i64 p] w fun e w' => e = .returned (.float .f64 (n + 9223372036854775808)) ∧ w = w' := by
  have h1 : decide ((9218868437227405312 : Int) < p) = false := by rw [decide_eq_false_iff_not]; omega
  have h2 : decide (p < (-9218868437227405312 : Int)) = false := by rw [decide_eq_false_iff_not]; omega
  have h3 : decide (p < (0 : Int)) = true := by rw [decide_eq_true_iff]; omega
  have h4 : n < 9223372036854775808 := by omega
  have h6 : wrap64 (n : Int) = (n : Int) := by unfold wrap64; omega
  clear h h0
  go_enter Try.func86, Try.ntmps86
  go_wp2_with fail
  go_ret
  exact ⟨rfl, rfl⟩
theorem RAt13_any (p : Int) (w : World) : Calls Try.prog 86 #[.int .i64 p] w fun e w' => e = .returned (.float .f64 (atN p)) ∧ w = w' := by
  rcases at_case p with h | ⟨n, rfl, h⟩ | ⟨n, rfl, h, h0⟩
  · rw [at_nan h]
    by_cases h1 : 9218868437227405312 < p
    · exact RAt13_hi p w (decide_eq_true h1)
    · exact RAt13_lo p w (decide_eq_false h1) (decide_eq_true (h.resolve_left h1))
  · rw [at_pos h]
    exact RAt13_pos n w h
  · rw [at_neg h h0]
    exact RAt13_neg _ n w (Int.neg_neg _) h h0
end Go.Proofs.Ytogkmddhgfenkaa

/- Regions that draw their order, within a round of a range over a function. No condition. -/
namespace Go.Proofs.Ytogkmddhgfenkaa
open Go Go.RowKit
section
variable {P : Program} {md : Region.Mode} {ops : Array Oper} {C : World → Prop} {F : FuncId → Array Value → Value → Prop} {l0 nf : Nat}

def noDefer (l : List Oper) : Bool := l.all fun o => match o.op with | .defer _ => false | _ => true
theorem noDefer_at {l : List Oper} (h : noDefer l = true) {i : Nat} {o : Oper} (ho : l.toArray[i]? = some o) : ∀ c, o.op ≠ .defer c := by
  intro c hc
  unfold noDefer at h
  rw [List.all_eq_true] at h
  have := h o (by have h2 : l[i]? = some o := by simpa using ho
                  exact List.mem_of_getElem? h2)
  rw [hc] at this
  cases this
theorem wide_fn (l0 : Nat) (f : FuncId) : (Fence.wide.inRound l0).fn f := trivial
theorem wide_depth (l0 : Nat) : (Fence.wide.inRound l0).depth.isSome = true → 1 ≤ nf := fun h => by cases h

theorem wpOpIn_of_nqOp {i : Nat} {a : Act} {K : Act → Prop} {K' : Act → World → Prop} {Q' : Exit → Act → World → Prop} {w : World} (hd : ∀ (i : Nat) (o : Oper) c, ops[i]? = some o → o.op ≠ .defer c) (hw : C w) (h : ∀ a w', C w' → K a → K' a w') (hh : nqOp P ops C F i K a) : wpOpIn (Fence.wide.inRound l0) nf P ops Q' i K' a w := by
  unfold nqOp at hh
  unfold wpOpIn
  split
  · rename_i ho; simp only [ho] at hh; exact h _ _ hw hh
  · rename_i o ho
    simp only [ho] at hh
    split
    · rename_i hwt; simp only [hwt, if_true] at hh
      unfold nq at hh
      have hh := hh w hw
      refine ⟨fun f _ => wide_fn l0 f, ?_⟩
      have hs : o.semAt (Fence.wide.inRound l0).round a.eval = execOp a.eval o := Oper.semAt_some _ _ _ (fun c => hd i o c ho)
      rw [hs]
      generalize (execOp a.eval o).run P w = r at *
      cases r with
      | ok n w' =>
        cases n <;> simp only [nqUpon] at hh <;> simp only [Oper.uponIn]
        case value u => exact h _ _ hh.1 hh.2
        case skip => exact h _ _ hh.1 hh.2
        case enter f args =>
          refine ⟨wide_depth l0, CallsIn.inRound l0 (callsIn_wide.2 ((hh.2.1 _ hh.1).mono fun e w'' ⟨v, he, hv, hc⟩ => ?_))⟩
          subst he; exact h _ _ hc (hh.2.2 v hv)
      | halt x w' => simp only [nqUpon] at hh
    · rename_i hwt; simp only [hwt] at hh; exact ⟨fun f _ => wide_fn l0 f, h _ _ hw hh⟩

theorem wpAnyIn_of_nqAny {n g : Nat} {L : Array Bool → Act → Prop} {Q' : Exit → Act → World → Prop} (hd : ∀ (i : Nat) (o : Oper) c, ops[i]? = some o → o.op ≠ .defer c) (hL : ∀ listed a w, C w → L listed a → wpAnyIn (Fence.wide.inRound l0) nf P md ops Q' g listed a w) :
    ∀ (f : Nat) (listed : Array Bool) (a : Act) (w : World), C w → nqAny P md ops C F n L f listed a → wpAnyIn (Fence.wide.inRound l0) nf P md ops Q' (f + g) listed a w
  | 0, listed, a, w, hw, h => by rw [Nat.zero_add]; exact hL _ _ _ hw h
  | f + 1, listed, a, w, hw, h => by
    rw [show f + 1 + g = (f + g) + 1 by omega]
    exact ⟨fun h0 => absurd h0 h.1, fun i hi => wpOpIn_of_nqOp hd hw (fun a' w' hw' h' => wpAnyIn_of_nqAny hd hL f _ a' w' hw' h') (h.2 i hi).2⟩

theorem wpAnyIn_of_seq {FF : Fence} {Q' : Exit → Act → World → Prop} : ∀ (l : List Oper) (k : Nat) (listed : Array Bool) (a : Act) (w : World), (∀ j, l[j]? = ops[k + j]?) →
    Region.seqB md ops l.length k listed = true → wpListIn FF nf P ops Q' l a w → wpAnyIn FF nf P md ops Q' l.length listed a w
  | [], _, _, _, _, _, hB, h => ⟨by simpa [Region.seqB] using hB, h⟩
  | o :: l, k, listed, a, w, hl, hB, h => by
    have h0 : ops[k]? = some o := by simpa using (hl 0).symm
    simp only [List.length_cons, Region.seqB, Bool.and_eq_true, decide_eq_true_eq] at hB
    refine ⟨fun h1 => (by rw [hB.1] at h1; cases h1), fun i hi => ?_⟩
    rw [hB.1] at hi
    have hik : i = k := by simpa using hi
    subst hik
    have hw : wpOpIn FF nf P ops Q' i (wpListIn FF nf P ops Q' l) a w := by unfold wpOpIn; simp only [h0]; exact h
    exact wpOpIn_mono (fun a' w' h' => wpAnyIn_of_seq l (i + 1) _ a' w' (fun j => by have := hl (j + 1); simpa [Nat.add_assoc, Nat.add_comm 1 j] using this) hB.2 h') hw

theorem wpIn_region_nq {id : Nat} {Q : Exit → Act → World → Prop} {a : Act} {w : World} {l : List Oper} (n : Nat) (F : FuncId → Array Value → Value → Prop) (C : World → Prop)
    (hm : P.follows .mixedOrders = true) (hB : (nqB l n && noDefer l) = true) (hC : C { w with drawn := w.drawn + 1 })
    (h : nqW P l.toArray C F (fun a' => ∀ w', C w' → wpListIn (Fence.wide.inRound l0) nf P l.toArray Q (l.drop n) a' w') (l.take n) a) : (Code.region id l.toArray true).wpIn (Fence.wide.inRound l0) nf P Q a w := by
  rw [Bool.and_eq_true] at hB
  have hd : ∀ (i : Nat) (o : Oper) c, l.toArray[i]? = some o → o.op ≠ .defer c := fun i o c ho => noDefer_at hB.2 ho c
  have hB := hB.1
  simp only [nqB, Bool.and_eq_true, Bool.or_eq_true, decide_eq_true_eq] at hB
  obtain ⟨⟨⟨hsel, hsc⟩, hn⟩, hlex⟩ := hB
  have htl : (l.take n).length = n := by simp; omega
  have hdl : (l.drop n).length = l.toArray.size - n := by simp
  have inv0 : HeadInv .any l.toArray n (Array.replicate l.toArray.size false) :=
    ⟨by simp, fun j oj _ hl => (by rw [getD_replicate_false] at hl; cases hl), fun t _ ht => getD_in (by simpa using ht) (getD_replicate_false _ _)⟩
  have hs : Region.sinkB .any l.toArray n = true ∨ l.toArray.size ≤ n := hsc.elim (fun h => .inr h) (fun h => .inl h.1)
  have hc : Region.chainB .any l.toArray n = true ∨ l.toArray.size ≤ n := hsc.elim (fun h => .inr h) (fun h => .inl h.2)
  have H := nqAny_lex (md := .any) (g := l.toArray.size - n) ⟨_, hC⟩ hsel hs hc (l.take n) 0 _ a (fun j hj => by
    have hj' : j < n := by rw [htl] at hj; exact hj
    simp [hj']) (by simpa using htl) inv0 (by rw [htl]; exact hlex) h
  refine wpIn_region_any hm ?_
  have := wpAnyIn_of_nqAny (l0 := l0) (nf := nf) (Q' := Q) (g := l.toArray.size - n) hd (fun listed a' w' hw' hL => by
    have := wpAnyIn_of_seq (FF := Fence.wide.inRound l0) (nf := nf) (md := .any) (Q' := Q) (l.drop n) n listed a' w' (fun j => by simp [List.getElem?_drop]) (by rw [hdl]; exact hL.1) (hL.2 w' hw')
    rwa [hdl] at this) _ _ _ _ hC H
  rw [htl, show n + (l.toArray.size - n) = l.toArray.size by simp; omega] at this
  exact this

/-- The region that draws, in the class of the worlds that have all that was there. -/
theorem wpIn_region_nqb {id : Nat} {Q : Exit → Act → World → Prop} {a : Act} {w : World} {l : List Oper} (n : Nat) (F : FuncId → Array Value → Value → Prop)
    (hm : P.follows .mixedOrders = true) (hB : (nqB l n && noDefer l) = true)
    (h : ∀ (C : World → Prop) (R : Act → Prop), (∀ w', Cls C w' → ∀ b o, b < w.heap.size → w'.cell? ⟨b, o, none⟩ = w.cell? ⟨b, o, none⟩) → (∀ w', Cls C w' → Below w.heap.size w w') →
      (∀ w' w'', Cls C w' → Below w'.heap.size w' w'' → Cls C w'') → (∀ w' n, Cls C w' → Cls C (w'.drewN n)) →
      (∀ a', (∀ w', Below w.heap.size w w' → wpListIn (Fence.wide.inRound l0) nf P l.toArray Q (l.drop n) a' w') → R a') → nqW P l.toArray (Cls C) F R (l.take n) a) : (Code.region id l.toArray true).wpIn (Fence.wide.inRound l0) nf P Q a w :=
  wpIn_region_nq n F (Below w.heap.size w) hm hB (below_drewN 1 (Below.refl _ _))
    (h (Below w.heap.size w) (fun a' => ∀ w', Below w.heap.size w w' → wpListIn (Fence.wide.inRound l0) nf P l.toArray Q (l.drop n) a' w') (fun _ hw' => (below_cells hw').1) (fun _ h => h)
      (fun _ _ h1 h2 => h1.trans (h2.mono h1.size)) (fun _ n h => below_drewN n h) (fun _ h => h))
end
end Go.Proofs.Ytogkmddhgfenkaa
