/- Layer 17, plainly, on lists of words: where a block starts, what is cleared, swept, solved and sorted. No condition. -/
import Derived.Test.YtdljnhdhigbefaaZz2
import Derived.RangeFuncNested
import Derived.RangeFuncCalls
import Derived.OrdersIn
import Derived.TacticsIn
import Derived.StillTail
namespace Go.Proofs.Ytdljnhdhigbefaa
open Go Go.RowKit
set_option maxRecDepth 100000

/-- Is a size nothing beside big? -/
def nthG (f big : Nat) : Bool := feq (fadd (fabs f) big) big
/-- Where the block that ends at l starts; is it to be cleared? -/
def startG (d e : List Nat) (big : Nat) : Nat → Nat × Bool
  | 0 => (0, false)
  | l + 1 => if nthG (e.getD (l + 1) 0) big then (l + 1, false) else if nthG (d.getD l 0) big then (l + 1, true) else startG d e big l
/-- Two columns: what becomes of both is told by two functions. -/
def colsR (z : List Nat) (n i k : Nat) (A B : Nat → Nat → Nat) (r : Nat) : List Nat :=
  (z.set (r * n + i) (A (z.getD (r * n + i) 0) (z.getD (r * n + k) 0))).set (r * n + k) (B (z.getD (r * n + i) 0) (z.getD (r * n + k) 0))
def colsL (z : List Nat) (n i k : Nat) (A B : Nat → Nat → Nat) : Nat → List Nat
  | 0 => z
  | r + 1 => colsR (colsL z n i k A B r) n i k A B r
theorem colsL_len (z : List Nat) (n i k : Nat) (A B : Nat → Nat → Nat) : ∀ r, (colsL z n i k A B r).length = z.length
  | 0 => rfl
  | r + 1 => by rw [colsL, colsR, List.length_set, List.length_set]; exact colsL_len z n i k A B r
def rotA (c s x y : Nat) : Nat := fadd (fmul x c) (fmul y s)
def rotB (c s x y : Nat) : Nat := fsub (fmul y c) (fmul x s)
def rotL (z : List Nat) (n j i c s ru : Nat) : List Nat := colsL z n j i (rotA c s) (rotB c s) ru
def negL (z : List Nat) (n k rv : Nat) : List Nat := colsL z n k k (fun x _ => fneg x) (fun x _ => fneg x) rv
def swcL (z : List Nat) (n i k ru : Nat) : List Nat := colsL z n i k (fun _ y => y) (fun x _ => x) ru
/-- What is solved. -/
structure GkS where
  d : List Nat
  e : List Nat
  u : List Nat
  v : List Nat
/-- Clearing: what is held beside it. -/
structure ClS where
  x : GkS
  c : Nat
  s : Nat
def clF (y : ClS) (i : Nat) : Nat := fmul y.s (y.x.e.getD i 0)
def clE (y : ClS) (i : Nat) : List Nat := y.x.e.set i (fmul y.c (y.x.e.getD i 0))
def clH (y : ClS) (i : Nat) : Nat := hypW (clF y i) (y.x.d.getD i 0)
def clC (y : ClS) (i : Nat) : Nat := fmul (y.x.d.getD i 0) (fdiv 4607182418800017408 (clH y i))
def clZ (y : ClS) (i : Nat) : Nat := fneg (fmul (clF y i) (fdiv 4607182418800017408 (clH y i)))
def clN (n ru l : Nat) (y : ClS) (i : Nat) : ClS := ⟨⟨y.x.d.set i (clH y i), clE y i, rotL y.x.u n (l - 1) i (clC y i) (clZ y i) ru, y.x.v⟩, clC y i, clZ y i⟩
/-- From i on, m steps at most. -/
def clL (n ru big l : Nat) : Nat → Nat → ClS → GkS
  | 0, _, y => y.x
  | m + 1, i, y => if nthG (clF y i) big then { y.x with e := clE y i } else clL n ru big l m (i + 1) (clN n ru l y i)
def clearG (n ru big l k : Nat) (x : GkS) : GkS := clL n ru big l (k + 1 - l) l ⟨x, 0, 4607182418800017408⟩
/-- A sweep: what is held beside it. -/
structure SgS where
  x : GkS
  f : Nat
  a : Nat
  c : Nat
  s : Nat
def sgH (y : SgS) (i : Nat) : Nat := fmul y.s (y.x.e.getD i 0)
def sgG (y : SgS) (i : Nat) : Nat := fmul y.c (y.x.e.getD i 0)
def sgZ (y : SgS) (i : Nat) : Nat := hypW y.f (sgH y i)
def sgC (y : SgS) (i : Nat) : Nat := fdiv y.f (sgZ y i)
def sgS (y : SgS) (i : Nat) : Nat := fdiv (sgH y i) (sgZ y i)
def sgF1 (y : SgS) (i : Nat) : Nat := fadd (fmul y.a (sgC y i)) (fmul (sgG y i) (sgS y i))
def sgG1 (y : SgS) (i : Nat) : Nat := fsub (fmul (sgG y i) (sgC y i)) (fmul y.a (sgS y i))
def sgH1 (y : SgS) (i : Nat) : Nat := fmul (y.x.d.getD i 0) (sgS y i)
def sgY1 (y : SgS) (i : Nat) : Nat := fmul (y.x.d.getD i 0) (sgC y i)
def sgZ2 (y : SgS) (i : Nat) : Nat := hypW (sgF1 y i) (sgH1 y i)
def sgC2 (y : SgS) (i : Nat) : Nat := if feq (sgZ2 y i) 0 then sgC y i else fmul (sgF1 y i) (fdiv 4607182418800017408 (sgZ2 y i))
def sgS2 (y : SgS) (i : Nat) : Nat := if feq (sgZ2 y i) 0 then sgS y i else fmul (sgH1 y i) (fdiv 4607182418800017408 (sgZ2 y i))
def sgF2 (y : SgS) (i : Nat) : Nat := fadd (fmul (sgC2 y i) (sgG1 y i)) (fmul (sgS2 y i) (sgY1 y i))
def sgA2 (y : SgS) (i : Nat) : Nat := fsub (fmul (sgC2 y i) (sgY1 y i)) (fmul (sgS2 y i) (sgG1 y i))
/-- The step from j to j + 1. -/
def sgN (n ru rv : Nat) (y : SgS) (j : Nat) : SgS :=
  ⟨⟨y.x.d.set j (sgZ2 y (j + 1)), y.x.e.set j (sgZ y (j + 1)), rotL y.x.u n j (j + 1) (sgC2 y (j + 1)) (sgS2 y (j + 1)) ru, rotL y.x.v n j (j + 1) (sgC y (j + 1)) (sgS y (j + 1)) rv⟩, sgF2 y (j + 1), sgA2 y (j + 1), sgC2 y (j + 1), sgS2 y (j + 1)⟩
def sgL (n ru rv l : Nat) : Nat → SgS → SgS
  | 0, y => y
  | m + 1, y => sgN n ru rv (sgL n ru rv l m y) (l + m)
def sgP (d e : List Nat) (k : Nat) : Nat :=
  fdiv (fadd (fmul (fsub (d.getD (k - 1) 0) (d.getD k 0)) (fadd (d.getD (k - 1) 0) (d.getD k 0))) (fmul (fsub (e.getD (k - 1) 0) (e.getD k 0)) (fadd (e.getD (k - 1) 0) (e.getD k 0)))) (fmul (fmul 4611686018427387904 (e.getD k 0)) (d.getD (k - 1) 0))
def sgI (d e : List Nat) (l k : Nat) : Nat :=
  fdiv (fadd (fmul (fsub (d.getD l 0) (d.getD k 0)) (fadd (d.getD l 0) (d.getD k 0)))
    (fmul (e.getD k 0) (fsub (fdiv (d.getD (k - 1) 0) (fadd (sgP d e k) (sgnW (hypW (sgP d e k) 4607182418800017408) (sgP d e k)))) (e.getD k 0)))) (d.getD l 0)
def sg0 (x : GkS) (l k : Nat) : SgS := ⟨x, sgI x.d x.e l k, x.d.getD l 0, 4607182418800017408, 4607182418800017408⟩
def sgE (l k : Nat) (y : SgS) : GkS := { y.x with d := y.x.d.set k y.a, e := (y.x.e.set l 0).set k y.f }
def sweepG (n ru rv : Nat) (x : GkS) (l k : Nat) : GkS := sgE l k (sgL n ru rv l (k - l) (sg0 x l k))
/-- A value is found. -/
def finG (n rv : Nat) (x : GkS) (k : Nat) : GkS := if flt (x.d.getD k 0) 0 then { x with d := x.d.set k (fneg (x.d.getD k 0)), v := negL x.v n k rv } else x
def preG (n ru big k : Nat) (x : GkS) : GkS := if (startG x.d x.e big k).2 then clearG n ru big (startG x.d x.e big k).1 k x else x
/-- One value: as many sweeps as it takes, f at most. -/
def valG (n ru rv big k : Nat) : Nat → GkS → GkS × Nat × Bool
  | f, x => if (startG x.d x.e big k).1 = k then (finG n rv (preG n ru big k x) k, 0, true) else
    match f with
    | 0 => (preG n ru big k x, 0, false)
    | f + 1 => let y := valG n ru rv big k f (sweepG n ru rv (preG n ru big k x) (startG x.d x.e big k).1 k); (y.1, y.2.1 + 1, y.2.2)
/-- The values m - 1, m - 2, .. -/
def solG (n ru rv big : Nat) : Nat → GkS → Nat → GkS × Nat × Bool
  | 0, x, s => (x, s, true)
  | m + 1, x, s => let y := valG n ru rv big m 30 x; if y.2.2 then solG n ru rv big m y.1 (s + y.2.1) else (y.1, s + y.2.1, false)
/-- The greatest sum of sizes. -/
def bigG (d e : List Nat) : Nat → Nat
  | 0 => 0
  | i + 1 => let t := fadd (fabs (d.getD i 0)) (fabs (e.getD i 0)); if flt (bigG d e i) t then t else bigG d e i
/-- The greatest one's place, from j on. -/
def maxL (w : List Nat) : Nat → Nat → Nat → Nat
  | 0, _, k => k
  | f + 1, j, k => if j < w.length then maxL w f (j + 1) (if flt (w.getD k 0) (w.getD j 0) then j else k) else k
/-- The first i are sorted; columns along. -/
def sortG (n ru rv : Nat) (w u v : List Nat) : Nat → List Nat × List Nat × List Nat
  | 0 => (w, u, v)
  | i + 1 => let y := sortG n ru rv w u v i; let k := maxL y.1 y.1.length (i + 1) i; (swapL y.1 i k, swcL y.2.1 n i k ru, swcL y.2.2 n i k rv)
theorem kng1 : (let y := solG 2 0 0 (bigG [4607182418800017408, 13837309855095848960] [0, 0] 2) 2 ⟨[4607182418800017408, 13837309855095848960], [0, 0], [], []⟩ 0; (y.1.d == [4607182418800017408, 4613937818241073152] && decide (y.2.1 = 0) && y.2.2)) = true := by kernel_rfl
theorem kng2 : (let y := solG 2 0 0 (bigG [4607182418800017408, 4607182418800017408] [0, 4607182418800017408] 2) 2 ⟨[4607182418800017408, 4607182418800017408], [0, 4607182418800017408], [], []⟩ 0; let w := (sortG 2 0 0 y.1.d [] [] 2).1; (decide (0 < y.2.1) && y.2.2 && flt 4609965643369732375 (w.getD 0 0) && flt (w.getD 0 0) 4609966093729695112 && flt 4603741668684706349 (w.getD 1 0) && flt (w.getD 1 0) 4603742569404631823)) = true := by kernel_rfl
end Go.Proofs.Ytdljnhdhigbefaa

/- Regions that draw their order, within a round of a range over a function. No condition. -/
namespace Go.Proofs.Ytdljnhdhigbefaa
open Go Go.RowKit
section
variable {P : Program} {md : Region.Mode} {ops : Array Oper} {C : World → Prop} {F : FuncId → Array Value → Value → Prop} {l0 nf : Nat}

def noDefer (l : List Oper) : Bool := l.all fun o => match o.op with | .defer _ => false | _ => true
theorem noDefer_at {l : List Oper} (h : noDefer l = true) {i : Nat} {o : Oper} (ho : l.toArray[i]? = some o) : ∀ c, o.op ≠ .defer c := by
  intro c hc
  unfold noDefer at h
  rw [List.all_eq_true] at h
  have := h o (by have h2 : l[i]? = some o := by simpa using ho
                  exact List.mem_of_getElem? h2)
  rw [hc] at this
  cases this
theorem wide_fn (l0 : Nat) (f : FuncId) : (Fence.wide.inRound l0).fn f := trivial
theorem wide_depth (l0 : Nat) : (Fence.wide.inRound l0).depth.isSome = true → 1 ≤ nf := fun h => by cases h

theorem wpOpIn_of_nqOp {i : Nat} {a : Act} {K : Act → Prop} {K' : Act → World → Prop} {Q' : Exit → Act → World → Prop} {w : World} (hd : ∀ (i : Nat) (o : Oper) c, ops[i]? = some o → o.op ≠ .defer c) (hw : C w) (h : ∀ a w', C w' → K a → K' a w') (hh : nqOp P ops C F i K a) : wpOpIn (Fence.wide.inRound l0) nf P ops Q' i K' a w := by
  unfold nqOp at hh
  unfold wpOpIn
  split
  · rename_i ho; simp only [ho] at hh; exact h _ _ hw hh
  · rename_i o ho
    simp only [ho] at hh
    split
    · rename_i hwt; simp only [hwt, if_true] at hh
      unfold nq at hh
      have hh := hh w hw
      refine ⟨fun f _ => wide_fn l0 f, ?_⟩
      have hs : o.semAt (Fence.wide.inRound l0).round a.eval = execOp a.eval o := Oper.semAt_some _ _ _ (fun c => hd i o c ho)
      rw [hs]
      generalize (execOp a.eval o).run P w = r at *
      cases r with
      | ok n w' =>
        cases n <;> simp only [nqUpon] at hh <;> simp only [Oper.uponIn]
        case value u => exact h _ _ hh.1 hh.2
        case skip => exact h _ _ hh.1 hh.2
        case enter f args =>
          refine ⟨wide_depth l0, CallsIn.inRound l0 (callsIn_wide.2 ((hh.2.1 _ hh.1).mono fun e w'' ⟨v, he, hv, hc⟩ => ?_))⟩
          subst he; exact h _ _ hc (hh.2.2 v hv)
      | halt x w' => simp only [nqUpon] at hh
    · rename_i hwt; simp only [hwt] at hh; exact ⟨fun f _ => wide_fn l0 f, h _ _ hw hh⟩

theorem wpAnyIn_of_nqAny {n g : Nat} {L : Array Bool → Act → Prop} {Q' : Exit → Act → World → Prop} (hd : ∀ (i : Nat) (o : Oper) c, ops[i]? = some o → o.op ≠ .defer c) (hL : ∀ listed a w, C w → L listed a → wpAnyIn (Fence.wide.inRound l0) nf P md ops Q' g listed a w) :
    ∀ (f : Nat) (listed : Array Bool) (a : Act) (w : World), C w → nqAny P md ops C F n L f listed a → wpAnyIn (Fence.wide.inRound l0) nf P md ops Q' (f + g) listed a w
  | 0, listed, a, w, hw, h => by rw [Nat.zero_add]; exact hL _ _ _ hw h
  | f + 1, listed, a, w, hw, h => by
    rw [show f + 1 + g = (f + g) + 1 by omega]
    exact ⟨fun h0 => absurd h0 h.1, fun i hi => wpOpIn_of_nqOp hd hw (fun a' w' hw' h' => wpAnyIn_of_nqAny hd hL f _ a' w' hw' h') (h.2 i hi).2⟩

theorem wpAnyIn_of_seq {FF : Fence} {Q' : Exit → Act → World → Prop} : ∀ (l : List Oper) (k : Nat) (listed : Array Bool) (a : Act) (w : World), (∀ j, l[j]? = ops[k + j]?) →
    Region.seqB md ops l.length k listed = true → wpListIn FF nf P ops Q' l a w → wpAnyIn FF nf P md ops Q' l.length listed a w
  | [], _, _, _, _, _, hB, h => ⟨by simpa [Region.seqB] using hB, h⟩
  | o :: l, k, listed, a, w, hl, hB, h => by
    have h0 : ops[k]? = some o := by simpa using (hl 0).symm
    simp only [List.length_cons, Region.seqB, Bool.and_eq_true, decide_eq_true_eq] at hB
    refine ⟨fun h1 => (by rw [hB.1] at h1; cases h1), fun i hi => ?_⟩
    rw [hB.1] at hi
    have hik : i = k := by simpa using hi
    subst hik
    have hw : wpOpIn FF nf P ops Q' i (wpListIn FF nf P ops Q' l) a w := by unfold wpOpIn; simp only [h0]; exact h
    exact wpOpIn_mono (fun a' w' h' => wpAnyIn_of_seq l (i + 1) _ a' w' (fun j => by have := hl (j + 1); simpa [Nat.add_assoc, Nat.add_comm 1 j] using this) hB.2 h') hw

theorem wpIn_region_nq {id : Nat} {Q : Exit → Act → World → Prop} {a : Act} {w : World} {l : List Oper} (n : Nat) (F : FuncId → Array Value → Value → Prop) (C : World → Prop)
    (hm : P.follows .mixedOrders = true) (hB : (nqB l n && noDefer l) = true) (hC : C { w with drawn := w.drawn + 1 })
    (h : nqW P l.toArray C F (fun a' => ∀ w', C w' → wpListIn (Fence.wide.inRound l0) nf P l.toArray Q (l.drop n) a' w') (l.take n) a) : (Code.region id l.toArray true).wpIn (Fence.wide.inRound l0) nf P Q a w := by
  rw [Bool.and_eq_true] at hB
  have hd : ∀ (i : Nat) (o : Oper) c, l.toArray[i]? = some o → o.op ≠ .defer c := fun i o c ho => noDefer_at hB.2 ho c
  have hB := hB.1
  simp only [nqB, Bool.and_eq_true, Bool.or_eq_true, decide_eq_true_eq] at hB
  obtain ⟨⟨⟨hsel, hsc⟩, hn⟩, hlex⟩ := hB
  have htl : (l.take n).length = n := by simp; omega
  have hdl : (l.drop n).length = l.toArray.size - n := by simp
  have inv0 : HeadInv .any l.toArray n (Array.replicate l.toArray.size false) :=
    ⟨by simp, fun j oj _ hl => (by rw [getD_replicate_false] at hl; cases hl), fun t _ ht => getD_in (by simpa using ht) (getD_replicate_false _ _)⟩
  have hs : Region.sinkB .any l.toArray n = true ∨ l.toArray.size ≤ n := hsc.elim (fun h => .inr h) (fun h => .inl h.1)
  have hc : Region.chainB .any l.toArray n = true ∨ l.toArray.size ≤ n := hsc.elim (fun h => .inr h) (fun h => .inl h.2)
  have H := nqAny_lex (md := .any) (g := l.toArray.size - n) ⟨_, hC⟩ hsel hs hc (l.take n) 0 _ a (fun j hj => by
    have hj' : j < n := by rw [htl] at hj; exact hj
    simp [hj']) (by simpa using htl) inv0 (by rw [htl]; exact hlex) h
  refine wpIn_region_any hm ?_
  have := wpAnyIn_of_nqAny (l0 := l0) (nf := nf) (Q' := Q) (g := l.toArray.size - n) hd (fun listed a' w' hw' hL => by
    have := wpAnyIn_of_seq (FF := Fence.wide.inRound l0) (nf := nf) (md := .any) (Q' := Q) (l.drop n) n listed a' w' (fun j => by simp [List.getElem?_drop]) (by rw [hdl]; exact hL.1) (hL.2 w' hw')
    rwa [hdl] at this) _ _ _ _ hC H
  rw [htl, show n + (l.toArray.size - n) = l.toArray.size by simp; omega] at this
  exact this

/-- The region that draws, in the class of the worlds that have all that was there. -/
theorem wpIn_region_nqb {id : Nat} {Q : Exit → Act → World → Prop} {a : Act} {w : World} {l : List Oper} (n : Nat) (F : FuncId → Array Value → Value → Prop)
    (hm : P.follows .mixedOrders = true) (hB : (nqB l n && noDefer l) = true)
    (h : ∀ (C : World → Prop) (R : Act → Prop), (∀ w', Cls C w' → ∀ b o, b < w.heap.size → w'.cell? ⟨b, o, none⟩ = w.cell? ⟨b, o, none⟩) → (∀ w', Cls C w' → Below w.heap.size w w') →
      (∀ w' w'', Cls C w' → Below w'.heap.size w' w'' → Cls C w'') → (∀ w' n, Cls C w' → Cls C (w'.drewN n)) →
      (∀ a', (∀ w', Below w.heap.size w w' → wpListIn (Fence.wide.inRound l0) nf P l.toArray Q (l.drop n) a' w') → R a') → nqW P l.toArray (Cls C) F R (l.take n) a) : (Code.region id l.toArray true).wpIn (Fence.wide.inRound l0) nf P Q a w :=
  wpIn_region_nq n F (Below w.heap.size w) hm hB (below_drewN 1 (Below.refl _ _))
    (h (Below w.heap.size w) (fun a' => ∀ w', Below w.heap.size w w' → wpListIn (Fence.wide.inRound l0) nf P l.toArray Q (l.drop n) a' w') (fun _ hw' => (below_cells hw').1) (fun _ h => h)
      (fun _ _ h1 h2 => h1.trans (h2.mono h1.size)) (fun _ n h => below_drewN n h) (fun _ h => h))
end
end Go.Proofs.Ytdljnhdhigbefaa
