/- Layer 12, plainly, on lists of words: what is turned, swept, solved and sorted. No condition. -/
import Derived.Test.YtbmnlohaidbmdaaMath
namespace Go.Proofs.Ytbmnlohaidbmdaa
open Go Go.RowKit
set_option maxRecDepth 100000

/-- 1 and 2, as words. -/
def w1q : Nat := 4607182418800017408
def w2q : Nat := 4611686018427387904
/-- A length of two. -/
def hypP (p q : Nat) : Nat := if feq p 0 then p else fmul p (fsqrt (fadd 4607182418800017408 (fmul (fdiv q p) (fdiv q p))))
def hypW (x y : Nat) : Nat := if flt (fabs x) (fabs y) then hypP (fabs y) (fabs x) else hypP (fabs x) (fabs y)
/-- A size with another one's sign, where a NaN is met by a NaN. -/
def sgnW (x y : Nat) : Nat := if isnan x then qnan else x % 9223372036854775808 + y / 9223372036854775808 * 9223372036854775808
/-- A row's two columns, turned. -/
def turnR (z : List Nat) (n i c s r : Nat) : List Nat :=
  (z.set (r * n + i) (fsub (fmul c (z.getD (r * n + i) 0)) (fmul s (z.getD (r * n + i + 1) 0)))).set (r * n + i + 1) (fadd (fmul s (z.getD (r * n + i) 0)) (fmul c (z.getD (r * n + i + 1) 0)))
def turnL (z : List Nat) (n i c s : Nat) : Nat → List Nat
  | 0 => z
  | r + 1 => turnR (turnL z n i c s r) n i c s r
/-- Where the block ends. -/
def endB (d e : List Nat) (m : Nat) : Bool := feq (fadd (fabs (e.getD m 0)) (fadd (fabs (d.getD m 0)) (fabs (d.getD (m + 1) 0)))) (fadd (fabs (d.getD m 0)) (fabs (d.getD (m + 1) 0)))
def endL (d e : List Nat) : Nat → Nat → Nat
  | 0, m => m
  | f + 1, m => if m + 1 < d.length then (if endB d e m then m else endL d e f (m + 1)) else m
/-- What a sweep holds. -/
structure SwS where
  d : List Nat
  e : List Nat
  z : List Nat
  g : Nat
  s : Nat
  c : Nat
  p : Nat
def swF (x : SwS) (i : Nat) : Nat := fmul x.s (x.e.getD i 0)
def swB (x : SwS) (i : Nat) : Nat := fmul x.c (x.e.getD i 0)
def swR (x : SwS) (i : Nat) : Nat := hypW (swF x i) x.g
/-- A sweep's step that goes on. -/
def swN (n rows : Nat) (x : SwS) (i : Nat) : SwS :=
  let b := swB x i
  let r := swR x i
  let s := fdiv (swF x i) r
  let c := fdiv x.g r
  let g := fsub (x.d.getD (i + 1) 0) x.p
  let q := fadd (fmul (fsub (x.d.getD i 0) g) s) (fmul (fmul 4611686018427387904 c) b)
  let p := fmul s q
  ⟨x.d.set (i + 1) (fadd g p), x.e.set (i + 1) r, turnL x.z n i c s rows, fsub (fmul c q) b, s, c, p⟩
/-- One that ends it. -/
def swX (m : Nat) (x : SwS) (i : Nat) : SwS := { x with d := x.d.set (i + 1) (fsub (x.d.getD (i + 1) 0) x.p), e := (x.e.set (i + 1) (swR x i)).set m 0 }
/-- k steps from l + k - 1 down to l; true: it has ended early. -/
def swL (n rows l m : Nat) : Nat → SwS → SwS × Bool
  | 0, x => (x, false)
  | k + 1, x => if feq (swR x (l + k)) 0 then (swX m x (l + k), true) else swL n rows l m k (swN n rows x (l + k))
def swG (d e : List Nat) (l m : Nat) : Nat :=
  let g := fdiv (fsub (d.getD (l + 1) 0) (d.getD l 0)) (fmul 4611686018427387904 (e.getD l 0))
  fadd (fsub (d.getD m 0) (d.getD l 0)) (fdiv (e.getD l 0) (fadd g (sgnW (hypW g 4607182418800017408) g)))
def sw0 (d e z : List Nat) (l m : Nat) : SwS := ⟨d, e, z, swG d e l m, 4607182418800017408, 4607182418800017408, 0⟩
structure QlS where
  d : List Nat
  e : List Nat
  z : List Nat
def swE (l m : Nat) (y : SwS × Bool) : QlS := if y.2 then ⟨y.1.d, y.1.e, y.1.z⟩ else ⟨y.1.d.set l (fsub (y.1.d.getD l 0) y.1.p), (y.1.e.set l y.1.g).set m 0, y.1.z⟩
/-- A sweep from m up to l. -/
def sweepL (n rows : Nat) (x : QlS) (l m : Nat) : QlS := swE l m (swL n rows l m (m - l) (sw0 x.d x.e x.z l m))
/-- One value: as many sweeps as it takes, f at most. -/
def valQ (n rows l : Nat) : Nat → QlS → QlS × Nat × Bool
  | f, x => if endL x.d x.e x.d.length l = l then (x, 0, true) else
    match f with
    | 0 => (x, 0, false)
    | f + 1 => let y := valQ n rows l f (sweepL n rows x l (endL x.d x.e x.d.length l)); (y.1, y.2.1 + 1, y.2.2)
/-- The values l, l + 1, .. of n. -/
def solQ (n rows : Nat) : Nat → QlS → Nat → QlS × Nat × Bool
  | 0, x, s => (x, s, true)
  | k + 1, x, s => let y := valQ n rows (n - (k + 1)) 30 x; if y.2.2 then solQ n rows k y.1 (s + y.2.1) else (y.1, s + y.2.1, false)
/-- The least one's place, from i on. -/
def minL (w : List Nat) : Nat → Nat → Nat → Nat
  | 0, _, k => k
  | f + 1, j, k => if j < w.length then minL w f (j + 1) (if flt (w.getD j 0) (w.getD k 0) then j else k) else k
def swapL (l : List Nat) (i k : Nat) : List Nat := (l.set i (l.getD k 0)).set k (l.getD i 0)
def swapC (z : List Nat) (n i k : Nat) : Nat → List Nat
  | 0 => z
  | r + 1 => swapL (swapC z n i k r) (r * n + i) (r * n + k)
/-- The first i are sorted; columns along. -/
def sortQ (n rows : Nat) (w z : List Nat) : Nat → List Nat × List Nat
  | 0 => (w, z)
  | i + 1 => let y := sortQ n rows w z i; let k := minL y.1 y.1.length (i + 1) i; (swapL y.1 i k, swapC y.2 n i k rows)
theorem knq1 : sortQ 3 0 [4613937818241073152, 4607182418800017408, 4611686018427387904] [] 3 = ([4607182418800017408, 4611686018427387904, 4613937818241073152], []) := by kernel_rfl
theorem knq2 : (solQ 3 0 3 ⟨[4613937818241073152, 4607182418800017408, 4611686018427387904], [0, 0, 0], []⟩ 0) = (⟨[4613937818241073152, 4607182418800017408, 4611686018427387904], [0, 0, 0], []⟩, 0, true) := by kernel_rfl
theorem knq3 : (let y := solQ 2 0 2 ⟨[0, 0], [4607182418800017408, 0], []⟩ 0; let w := (sortQ 2 0 y.1.d y.1.z 2).1; decide (0 < y.2.1) && y.2.2 && flt 13830554906015530189 (w.getD 0 0) && true) = true := by kernel_rfl
end Go.Proofs.Ytbmnlohaidbmdaa
