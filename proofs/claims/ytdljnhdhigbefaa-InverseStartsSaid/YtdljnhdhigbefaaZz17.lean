/- Layer 14, plainly: sizes, lengths, units, starts, factors, clusters, vectors, as functions of words. No condition. -/
import Derived.Test.YtdljnhdhigbefaaZz16
import Derived.Lib.AppendZerosOnto
import Derived.Lib.SliceRun
namespace Go.Proofs.Ytdljnhdhigbefaa
open Go Go.RowKit
set_option maxRecDepth 1000000

/-- The greater of two. -/
def mxW (x y : Nat) : Nat := if flt x y then y else x
def szL (l : List Nat) : Nat → Nat
  | 0 => 0
  | i + 1 => mxW (szL l i) (fabs (l.getD i 0))
/-- A tridiagonal's size, and the floor of it. -/
def sizI (ds es : List Nat) : Nat := szL (ds ++ es) (ds ++ es).length
def lowI (ds es : List Nat) : Nat := mxW (fmul (sizI ds es) 4372995238176751616) 103582791429521408
/-- A length of several: the scale and the sum. -/
def nrmS (l : List Nat) : Nat → Nat × Nat
  | 0 => (0, 4607182418800017408)
  | i + 1 => let x := nrmS l i
    if feq (l.getD i 0) 0 then x
    else if flt x.1 (fabs (l.getD i 0)) then (fabs (l.getD i 0), fadd 4607182418800017408 (fmul (fmul x.2 (fdiv x.1 (fabs (l.getD i 0)))) (fdiv x.1 (fabs (l.getD i 0)))))
    else (x.1, fadd x.2 (fmul (fdiv (fabs (l.getD i 0)) x.1) (fdiv (fabs (l.getD i 0)) x.1)))
def nrmI (l : List Nat) : Nat := fmul (nrmS l l.length).1 (fsqrt (nrmS l l.length).2)
/-- May it be divided by this length? -/
def okI (n : Nat) : Bool := flt 0 n && feq (fsub n n) 0
/-- A list whose entries are put anew, one after another. -/
def stL (f : Nat → Nat → Nat) (y : List Nat) : Nat → List Nat
  | 0 => y
  | i + 1 => let z := stL f y i
    z.set i (f i (z.getD i 0))
theorem stL_len (f : Nat → Nat → Nat) (y : List Nat) : ∀ i, (stL f y i).length = y.length
  | 0 => rfl
  | i + 1 => by rw [stL, List.length_set]; exact stL_len f y i
theorem stL_getD (f : Nat → Nat → Nat) (y : List Nat) : ∀ i j, i ≤ j → (stL f y i).getD j 0 = y.getD j 0
  | 0, _, _ => rfl
  | i + 1, j, h => by
    rw [stL]
    simp only [List.getD_eq_getElem?_getD]
    rw [List.getElem?_set_ne (by omega), ← List.getD_eq_getElem?_getD, ← List.getD_eq_getElem?_getD]
    exact stL_getD f y i j (by omega)
theorem stL_take (f : Nat → Nat → Nat) (y : List Nat) (i : Nat) (h : i < y.length) : (stL f y (i + 1)).take (i + 1) = (stL f y i).take i ++ [f i (y.getD i 0)] := by
  have hl : i < (stL f y i).length := by rw [stL_len]; exact h
  rw [stL, List.take_add_one, List.getElem?_set_self hl, List.take_set_of_le (Nat.le_refl _), stL_getD f y i i (Nat.le_refl _)]
  rfl
theorem stL_succ (f : Nat → Nat → Nat) (y : List Nat) (i : Nat) : stL f y (i + 1) = (stL f y i).set i (f i (y.getD i 0)) := by rw [stL, stL_getD f y i i (Nat.le_refl _)]
def unitI (y : List Nat) : List Nat := stL (fun _ v => fdiv v (nrmI y)) y y.length
/-- A part of one along another one; less that. -/
def lesS (y v : List Nat) : Nat → Nat
  | 0 => 0
  | i + 1 => fadd (lesS y v i) (fmul (v.getD i 0) (y.getD i 0))
def lesI (y v : List Nat) : List Nat := stL (fun i u => fsub u (fmul (lesS y v y.length) (v.getD i 0))) y y.length
/-- A start vector. -/
def stH (j : Nat) : Nat → Nat
  | 0 => (j + 1) * 6364136223846793005 % 18446744073709551616
  | i + 1 => (stH j i * 6364136223846793005 + 1442695040888963407) % 18446744073709551616
def srtV (j i : Nat) : Nat := fmul (floatOfInt .f64 (((stH j (i + 1) / 2048 : Nat) : Int) - 4503599627370496)) 4372995238176751616
def srtI (j : Nat) : Nat → List Nat
  | 0 => []
  | n + 1 => srtI j n ++ [srtV j n]
theorem srtI_len (j : Nat) : ∀ n, (srtI j n).length = n
  | 0 => rfl
  | n + 1 => by rw [srtI, List.length_append, srtI_len j n]; rfl
/-- What a tridiagonal is factored to. -/
structure FaS where
  a : List Nat
  b : List Nat
  c : List Nat
  l : List Nat
  s : List Bool
def liftF (low : Nat) (a : List Nat) (i : Nat) : List Nat := if flt (fabs (a.getD i 0)) low then a.set i low else a
def fa0 (ds es : List Nat) (x : Nat) : FaS := ⟨stL (fun _ v => fsub v x) ds ds.length, es ++ List.replicate (ds.length - es.length) 0, List.replicate ds.length 0, List.replicate es.length 0, List.replicate es.length false⟩
def faN (low bl : Nat) (f : FaS) (i : Nat) : FaS :=
  if flt (fabs (f.a.getD i 0)) (fabs bl) then
    ⟨(f.a.set i bl).set (i + 1) (fsub (f.b.getD i 0) (fmul (fdiv (f.a.getD i 0) bl) (f.a.getD (i + 1) 0))), (f.b.set i (f.a.getD (i + 1) 0)).set (i + 1) (fneg (fmul (fdiv (f.a.getD i 0) bl) (f.b.getD (i + 1) 0))), f.c.set i (f.b.getD (i + 1) 0), f.l.set i (fdiv (f.a.getD i 0) bl), f.s.set i true⟩
  else let a := liftF low f.a i
    ⟨a.set (i + 1) (fsub (a.getD (i + 1) 0) (fmul (fdiv bl (a.getD i 0)) (f.b.getD i 0))), f.b, f.c, f.l.set i (fdiv bl (a.getD i 0)), f.s⟩
def faL (ds es : List Nat) (x low : Nat) : Nat → FaS
  | 0 => fa0 ds es x
  | i + 1 => faN low (es.getD i 0) (faL ds es x low i) i
def facI (ds es : List Nat) (x : Nat) : FaS := let f := faL ds es x (lowI ds es) es.length
  if 0 < ds.length then { f with a := liftF (lowI ds es) f.a (ds.length - 1) } else f
/-- Clusters. -/
def cluL (gap : Nat) (ws : List Nat) : Nat → List Nat
  | 0 => []
  | j + 1 => let l := cluL gap ws j
    l ++ [if 0 < j && fle (fsub (ws.getD j 0) (ws.getD (j - 1) 0)) gap then l.getD (j - 1) 0 else j]
def cluI (ds es ws : List Nat) : List Nat := cluL (fmul (sizI ds es) 4562146422526312448) ws ws.length
theorem cluL_len (gap : Nat) (ws : List Nat) : ∀ j, (cluL gap ws j).length = j
  | 0 => rfl
  | j + 1 => by rw [cluL, List.length_append, cluL_len gap ws j]; rfl
theorem cluL_le (gap : Nat) (ws : List Nat) : ∀ j i, i < j → (cluL gap ws j).getD i 0 ≤ i
  | 0, _, h => absurd h (Nat.not_lt_zero _)
  | j + 1, i, h => by
    rw [cluL, List.getD_eq_getElem?_getD]
    by_cases hij : i < j
    · rw [List.getElem?_append_left (by rw [cluL_len]; exact hij), ← List.getD_eq_getElem?_getD]
      exact cluL_le gap ws j i hij
    · obtain rfl : i = j := by omega
      rw [List.getElem?_append_right (by rw [cluL_len]; exact Nat.le_refl _), cluL_len, Nat.sub_self]
      simp only [List.getElem?_cons_zero, Option.getD_some]
      split
      · rename_i hc
        have h0 : 0 < i := by simp at hc; exact hc.1
        have := cluL_le gap ws i (i - 1) (by omega)
        omega
      · exact Nat.le_refl _
/-- A vector: less its parts along those of its cluster; a round; all rounds. -/
def lesA (y : List Nat) (cl : List (List Nat)) : Nat → List Nat
  | 0 => y
  | k + 1 => lesI (lesA y cl k) (cl.getD k [])
def rndI (f : FaS) (cl : List (List Nat)) (y : List Nat) : List Nat × Bool :=
  let y1 := solI f.a f.b f.c f.l f.s y
  if okI (nrmI y1) then
    let y3 := lesA (lesA (unitI y1) cl cl.length) cl cl.length
    if okI (nrmI y3) then (unitI y3, true) else (y3, false)
  else (y1, false)
def vecL (f : FaS) (cl : List (List Nat)) (y : List Nat) : Nat → List Nat × Nat × Bool
  | 0 => if okI (nrmI y) then (unitI y, 0, true) else (y, 0, false)
  | r + 1 => let v := vecL f cl y r
    if v.2.2 then let z := rndI f cl v.1
      (z.1, v.2.1 + 1, z.2) else v
def vecI (ds es : List Nat) (x j : Nat) (cl : List (List Nat)) : List Nat × Nat × Bool := vecL (facI ds es x) cl (srtI j ds.length) 3
/-- All vectors. -/
structure VcS where
  made : List (List Nat)
  steps : Nat
  x : Nat
  ok : Bool
def nxtX (ds es ws c : List Nat) (j x : Nat) : Nat := if decide (c.getD j 0 < j) && fle (ws.getD j 0) x then fadd x (fmul (sizI ds es) 4382002437431492608) else ws.getD j 0
def vcsL (ds es ws c : List Nat) : Nat → VcS
  | 0 => ⟨[], 0, 0, true⟩
  | j + 1 => let v := vcsL ds es ws c j
    if v.ok then
      let x := nxtX ds es ws c j v.x
      let z := vecI ds es x j (v.made.drop (c.getD j 0))
      ⟨if z.2.2 then v.made ++ [z.1] else v.made, v.steps + z.2.1, x, z.2.2⟩
    else v
/-- The law's known rows. -/
theorem kni1 : cluI [0, 0] [4607182418800017408] [13830554455654793216, 4607182418800017408] = [0, 1] := by kernel_rfl
theorem kni2 : cluI [4607182418800017408, 4607182418800017408] [0] [4607182418800017408, 4607182418800017408] = [0, 0] := by kernel_rfl
theorem kni0 : cluI [4611686018427387904, 4607182418800017408] [0] [4607182418800017408, 4611686018427387904] = [0, 1] := by kernel_rfl
theorem kni3 : (let v := vcsL [4611686018427387904, 4607182418800017408] [0] [4607182418800017408, 4611686018427387904] [0, 1] 2; let e : Nat → Nat → Nat := fun j i => (v.made.getD j []).getD i 0; (v.ok && decide (v.steps = 6) && flt (fabs (e 0 0)) 4472406533629990549 && flt (fabs (fsub (fabs (e 1 0)) 4607182418800017408)) 4472406533629990549 && flt (fabs (fsub (fabs (e 0 1)) 4607182418800017408)) 4472406533629990549 && flt (fabs (e 1 1)) 4472406533629990549)) = true := by kernel_rfl
end Go.Proofs.Ytdljnhdhigbefaa

/- Layers 6 and 14: a length of several, on floats up to a NaN's bits (printed by gen_if.py). No condition but on lengths. -/
namespace Go.Proofs.Ytdljnhdhigbefaa
open Go Go.RowKit
set_option maxRecDepth 1000000
set_option linter.unusedSimpArgs false

set_option maxHeartbeats 8000000 in
theorem Norm_any (w : World) (a : Option Addr) (l : List Nat) (cap : Nat) (hZ : Fls w a l) (hW : Words l) (hl : l.length ≤ 262144) :
    Calls Try.prog 100 #[.slice a l.length cap] w fun e w' => FR e (nrmI l) ∧ Below w.heap.size w w' := by
  have HS := Lib.hid (fun x s w => SqrtF x s w)
  have HZ := Lib.hid hZ
  have HW := Lib.hid hW
  clear hZ hW
  go_enter Try.func100, Try.ntmps100
  go_wp2_with fail
  go_loopw [3, 4, 13] (fun s3 s4 s13 wr => ∃ i s t : Nat, s3 = .float .f64 (raw (nrmS l i).1 s) ∧ s4 = .float .f64 (raw (nrmS l i).2 t) ∧ s13 = .int .i64 i ∧ i ≤ l.length ∧ Below w.heap.size w wr) (fun _ _ s13 _ => l.length - (intOf s13).toNat)
  case atStart => exact ⟨0, 0, 0, (show Value.float .f64 0 = .float .f64 (raw 0 0) from by kernel_rfl), (show Value.float .f64 4607182418800017408 = .float .f64 (raw 4607182418800017408 0) from by kernel_rfl), rfl, Nat.zero_le _, Below.refl _ _⟩
  case round =>
    obtain ⟨i, s, t, rfl, rfl, rfl, hi, hB⟩ := hrel
    have HB := Lib.hid hB
    clear hB
    obtain ⟨u, hu⟩ : ∃ u, u = (nrmS l i).1 := ⟨_, rfl⟩
    obtain ⟨v, hv⟩ : ∃ v, v = (nrmS l i).2 := ⟨_, rfl⟩
    rw [← hu, ← hv]
    have HU := Lib.hid (And.intro hu hv)
    clear hu hv
    by_cases hlt : i < l.length
    case pos =>
      obtain ⟨b, o, s1, rfl, hb, hc1⟩ := (HZ.out.below HB.out).at hlt
      obtain ⟨x, hx⟩ : ∃ x, x = l.getD i 0 := ⟨_, rfl⟩
      have hxl : x < 18446744073709551616 := hx ▸ HW.out.at i
      rw [← hx] at hc1
      have HN := Lib.hid (show nrmS l (i + 1) = if feq x 0 then (u, v) else if flt u (fabs x) then (fabs x, fadd 4607182418800017408 (fmul (fmul v (fdiv u (fabs x))) (fdiv u (fabs x)))) else (u, fadd v (fmul (fdiv (fabs x) u) (fdiv (fabs x) u))) by rw [hx, HU.out.1, HU.out.2]; rfl)
      have HA := Lib.hid (fun W => AbsF x s1 hxl W)
      clear hx hxl hi
      have hln : i + 1 ≤ l.length := hlt
      have HL := Lib.hid hln
      clear hln
      cases hz : feq x 0
      case true =>
        go_wp2_with (first | (refine wpList_flt rfl rfl rfl rfl rfl ?_; intro K hK sz nz; go_frame; refine hK _ _ ?_; clear hK K))
        go_roundw
        case rel => exact ⟨i + 1, s, t, by rw [HN.out, hz]; rfl, by rw [HN.out, hz]; rfl, by go_num, HL.out, HB.out⟩
        case measure => simp [intOf]; omega
      case false =>
        go_wp2_with fail
        refine (HA.out _).mono ?_
        rintro e w' ⟨⟨s2, rfl⟩, rfl⟩
        obtain ⟨y, hy⟩ : ∃ y, y = fabs x := ⟨_, rfl⟩
        rw [← hy]
        rw [← hy] at HN
        clear hy HA
        dsimp only
        cases hq : flt u y
        case false =>
          go_wp2_with (first | (refine wpList_flt rfl rfl rfl rfl rfl ?_; intro K hK sq nq; go_frame; refine hK _ _ ?_; clear hK K))
          (try simp only [fadd_rawl, fadd_rawr, fsub_rawl, fsub_rawr, fmul_rawl, fmul_rawr, fdiv_rawl, fdiv_rawr])
          go_roundw
          case rel => exact ⟨i + 1, _, _, by rw [HN.out, hz, hq]; rfl, by rw [HN.out, hz, hq]; rfl, by go_num, HL.out, by first | exact below_drewN _ HB.out | exact HB.out | exact below_drewN _ (below_drewN _ HB.out) | exact below_drewN _ (below_drewN _ (below_drewN _ HB.out)) | exact below_drewN _ (below_drewN _ (below_drewN _ (below_drewN _ HB.out)))⟩
          case measure => simp [intOf]; omega
        case true =>
          go_wp2_with (first | (refine wpList_flt rfl rfl rfl rfl rfl ?_; intro K hK sq nq; go_frame; refine hK _ _ ?_; clear hK K))
          (try simp only [fadd_rawl, fadd_rawr, fsub_rawl, fsub_rawr, fmul_rawl, fmul_rawr, fdiv_rawl, fdiv_rawr])
          go_roundw
          case rel => exact ⟨i + 1, _, _, by rw [HN.out, hz, hq]; rfl, by rw [HN.out, hz, hq]; rfl, by go_num, HL.out, by first | exact below_drewN _ HB.out | exact HB.out | exact below_drewN _ (below_drewN _ HB.out) | exact below_drewN _ (below_drewN _ (below_drewN _ HB.out)) | exact below_drewN _ (below_drewN _ (below_drewN _ (below_drewN _ HB.out)))⟩
          case measure => simp [intOf]; omega
    case neg =>
      have hil : i = l.length := by omega
      have HE := Lib.hid (show nrmI l = fmul u (fsqrt v) by rw [HU.out.1, HU.out.2, hil]; rfl)
      clear hil HU hi
      go_wp2_with (first | (go_at_call 95; refine (HS.out _ _ _).mono ?_; rintro e w2 ⟨⟨s5, rfl⟩, hb5⟩) | (refine wpList_flt rfl rfl rfl rfl rfl ?_; intro K hK sq nq; go_frame; refine hK _ _ ?_; clear hK K))
      (try simp only [fadd_rawl, fadd_rawr, fsub_rawl, fsub_rawr, fmul_rawl, fmul_rawr, fdiv_rawl, fdiv_rawr])
      go_ret
      exact ⟨FR.eq (by rw [HE.out]), below_drewN _ (HB.out.trans (hb5.mono HB.out.size))⟩
set_option maxHeartbeats 8000000 in
theorem RNorm_any (w : World) (a : Option Addr) (l : List Nat) (cap : Nat) (hZ : Fls w a l) (hW : Words l) (hl : l.length ≤ 262144) :
    Calls Try.prog 105 #[.slice a l.length cap] w fun e w' => FR e (nrmI l) ∧ Below w.heap.size w w' := by
  have HS := Lib.hid (fun x s w => SqrtF x s w)
  have HZ := Lib.hid hZ
  have HW := Lib.hid hW
  clear hZ hW
  go_enter Try.func105, Try.ntmps105
  go_wp2_with fail
  go_loopw [3, 4, 5] (fun s3 s4 s13 wr => ∃ i s t : Nat, s3 = .float .f64 (raw (nrmS l i).1 s) ∧ s4 = .float .f64 (raw (nrmS l i).2 t) ∧ s13 = .int .i64 i ∧ i ≤ l.length ∧ Below w.heap.size w wr) (fun _ _ s13 _ => l.length - (intOf s13).toNat)
  case atStart => exact ⟨0, 0, 0, (show Value.float .f64 0 = .float .f64 (raw 0 0) from by kernel_rfl), (show Value.float .f64 4607182418800017408 = .float .f64 (raw 4607182418800017408 0) from by kernel_rfl), rfl, Nat.zero_le _, Below.refl _ _⟩
  case round =>
    obtain ⟨i, s, t, rfl, rfl, rfl, hi, hB⟩ := hrel
    have HB := Lib.hid hB
    clear hB
    obtain ⟨u, hu⟩ : ∃ u, u = (nrmS l i).1 := ⟨_, rfl⟩
    obtain ⟨v, hv⟩ : ∃ v, v = (nrmS l i).2 := ⟨_, rfl⟩
    rw [← hu, ← hv]
    have HU := Lib.hid (And.intro hu hv)
    clear hu hv
    by_cases hlt : i < l.length
    case pos =>
      obtain ⟨b, o, s1, rfl, hb, hc1⟩ := (HZ.out.below HB.out).at hlt
      obtain ⟨x, hx⟩ : ∃ x, x = l.getD i 0 := ⟨_, rfl⟩
      have hxl : x < 18446744073709551616 := hx ▸ HW.out.at i
      rw [← hx] at hc1
      have HN := Lib.hid (show nrmS l (i + 1) = if feq x 0 then (u, v) else if flt u (fabs x) then (fabs x, fadd 4607182418800017408 (fmul (fmul v (fdiv u (fabs x))) (fdiv u (fabs x)))) else (u, fadd v (fmul (fdiv (fabs x) u) (fdiv (fabs x) u))) by rw [hx, HU.out.1, HU.out.2]; rfl)
      have HA := Lib.hid (fun W => RAbsF x s1 hxl W)
      clear hx hxl hi
      have hln : i + 1 ≤ l.length := hlt
      have HL := Lib.hid hln
      clear hln
      cases hz : feq x 0
      case true =>
        go_wp2_with (first | (refine wpList_flt rfl rfl rfl rfl rfl ?_; intro K hK sz nz; go_frame; refine hK _ _ ?_; clear hK K))
        go_roundw
        case rel => exact ⟨i + 1, s, t, by rw [HN.out, hz]; rfl, by rw [HN.out, hz]; rfl, by go_num, HL.out, HB.out⟩
        case measure => simp [intOf]; omega
      case false =>
        go_wp2_with fail
        refine (HA.out _).mono ?_
        rintro e w' ⟨⟨s2, rfl⟩, rfl⟩
        obtain ⟨y, hy⟩ : ∃ y, y = fabs x := ⟨_, rfl⟩
        rw [← hy]
        rw [← hy] at HN
        clear hy HA
        dsimp only
        cases hq : flt u y
        case false =>
          go_wp2_with (first | (refine wpList_flt rfl rfl rfl rfl rfl ?_; intro K hK sq nq; go_frame; refine hK _ _ ?_; clear hK K))
          (try simp only [fadd_rawl, fadd_rawr, fsub_rawl, fsub_rawr, fmul_rawl, fmul_rawr, fdiv_rawl, fdiv_rawr])
          go_roundw
          case rel => exact ⟨i + 1, _, _, by rw [HN.out, hz, hq]; rfl, by rw [HN.out, hz, hq]; rfl, by go_num, HL.out, by first | exact below_drewN _ HB.out | exact HB.out | exact below_drewN _ (below_drewN _ HB.out) | exact below_drewN _ (below_drewN _ (below_drewN _ HB.out)) | exact below_drewN _ (below_drewN _ (below_drewN _ (below_drewN _ HB.out)))⟩
          case measure => simp [intOf]; omega
        case true =>
          go_wp2_with (first | (refine wpList_flt rfl rfl rfl rfl rfl ?_; intro K hK sq nq; go_frame; refine hK _ _ ?_; clear hK K))
          (try simp only [fadd_rawl, fadd_rawr, fsub_rawl, fsub_rawr, fmul_rawl, fmul_rawr, fdiv_rawl, fdiv_rawr])
          go_roundw
          case rel => exact ⟨i + 1, _, _, by rw [HN.out, hz, hq]; rfl, by rw [HN.out, hz, hq]; rfl, by go_num, HL.out, by first | exact below_drewN _ HB.out | exact HB.out | exact below_drewN _ (below_drewN _ HB.out) | exact below_drewN _ (below_drewN _ (below_drewN _ HB.out)) | exact below_drewN _ (below_drewN _ (below_drewN _ (below_drewN _ HB.out)))⟩
          case measure => simp [intOf]; omega
    case neg =>
      have hil : i = l.length := by omega
      have HE := Lib.hid (show nrmI l = fmul u (fsqrt v) by rw [HU.out.1, HU.out.2, hil]; rfl)
      clear hil HU hi
      go_wp2_with (first | (go_at_call 95; refine (HS.out _ _ _).mono ?_; rintro e w2 ⟨⟨s5, rfl⟩, hb5⟩) | (refine wpList_flt rfl rfl rfl rfl rfl ?_; intro K hK sq nq; go_frame; refine hK _ _ ?_; clear hK K))
      (try simp only [fadd_rawl, fadd_rawr, fsub_rawl, fsub_rawr, fmul_rawl, fmul_rawr, fdiv_rawl, fdiv_rawr])
      go_ret
      exact ⟨FR.eq (by rw [HE.out]), below_drewN _ (HB.out.trans (hb5.mono HB.out.size))⟩
end Go.Proofs.Ytdljnhdhigbefaa

/- Layer 14: a vector less its part along another one; made of length 1 (printed by gen_ig.py). No condition but on lengths. -/
namespace Go.Proofs.Ytdljnhdhigbefaa
open Go Go.RowKit
set_option maxRecDepth 1000000
set_option linter.unusedSimpArgs false
set_option linter.unusedVariables false

/-- A vector in a block of its own, while all else stays. -/
structure InP (w W : World) (ay : Option Addr) (yb : Nat) (y : List Nat) : Prop where
  f : FS W ay yb y
  wd : Words y
  bel : Bel w.heap.size yb w W
section
variable {w W W' : World} {yb : Nat} {ay : Option Addr} {y : List Nat}
theorem InP.step (h : InP w W ay yb y) (hb : Below W.heap.size W W') : InP w W' ay yb y := ⟨h.f.below hb, h.wd, bel_step h.bel h.bel.size (Bel.of hb)⟩
theorem InP.addr (h : InP w W ay yb y) (h0 : 0 < y.length) : ay = some ⟨yb, 0, none⟩ ∧ Flb W yb y := h.f.resolve_left (fun e => by rw [e] at h0; simp at h0)
theorem InP.at (h : InP w W ay yb y) {i : Nat} (hi : i < y.length) : ∃ s, W.cell? ⟨yb, i, none⟩ = some (.float .f64 (raw (y.getD i 0) s)) := (h.addr (by omega)).2.at hi
theorem InP.set (h : InP w W ay yb y) (i x s : Nat) (hx : x < 18446744073709551616) : InP w (W.setCell ⟨yb, i, none⟩ (.float .f64 (raw x s))) ay yb (y.set i x) := by
  refine ⟨?_, words_setG h.wd hx, h.bel.set _ _⟩
  rcases h.f with h1 | ⟨h1, h2⟩
  · exact .inl (by rw [h1]; rfl)
  · exact .inr ⟨h1, h2.set i x s⟩
end
/-- A list made of another one's entries, one after another. -/
def mpL (f : Nat → Nat → Nat) (y : List Nat) : Nat → List Nat
  | 0 => []
  | i + 1 => mpL f y i ++ [f i (y.getD i 0)]
theorem mpL_len (f : Nat → Nat → Nat) (y : List Nat) : ∀ i, (mpL f y i).length = i
  | 0 => rfl
  | i + 1 => by rw [mpL, List.length_append, mpL_len f y i]; rfl
theorem mpL_st (f : Nat → Nat → Nat) (y : List Nat) : ∀ i, i ≤ y.length → mpL f y i = (stL f y i).take i
  | 0, _ => rfl
  | i + 1, h => by rw [mpL, mpL_st f y i (by omega), stL_take f y i (by omega)]
theorem mpL_all (f : Nat → Nat → Nat) (y : List Nat) : mpL f y y.length = stL f y y.length := by
  rw [mpL_st f y _ (Nat.le_refl _), List.take_of_length_le (by rw [stL_len]; exact Nat.le_refl _)]
theorem stL_words (f : Nat → Nat → Nat) (y : List Nat) (hf : ∀ i v, f i v < 18446744073709551616) (hy : Words y) : ∀ i, Words (stL f y i)
  | 0 => hy
  | i + 1 => by rw [stL]; exact words_setG (stL_words f y hf hy i) (hf _ _)
theorem unitI_len (y : List Nat) : (unitI y).length = y.length := stL_len _ _ _
theorem lesI_len (y v : List Nat) : (lesI y v).length = y.length := stL_len _ _ _
theorem unitI_words {y : List Nat} (h : Words y) : Words (unitI y) := stL_words _ _ (fun _ _ => fdiv_lt _ _) h _
theorem lesI_words {y v : List Nat} (h : Words y) : Words (lesI y v) := stL_words _ _ (fun _ _ => fsub_lt _ _) h _
/-- One float, appended to a slice of the call's own; it lies in a block made for it. -/
theorem wpList_append_oneG {w : World} {ops : Array Oper} {rest : List Oper} {o : Oper} {a : Act} {Q : Exit → Act → World → Prop} (hgd : o.guard = none) (s x : Operand)
    (ho : o.op = .call { callee := .builtin .append, args := #[s, x], argTypes := #[22, 22] })
    (B : Nat) (sv : Value) (l1 : List Nat) (hs : a.eval s = sv) (hO : OwnF w B sv l1) (T : TypeId) (v k : Nat) (hx : a.eval x = .slice (some ⟨w.heap.size, 0, none⟩) 1 1) (hl : l1.length + 1 ≤ 262144) (hB : B ≤ w.heap.size)
    (h : ∀ v' w', OwnF w' B v' (l1 ++ [v]) → Below B w w' → wpList Try.prog ops Q rest (a.put o.dst v') w') : wpList Try.prog ops Q (o :: rest) a (w.alloc (.cells #[.float .f64 (raw v k)] T)) := by
  have hb0 : Below w.heap.size w (w.alloc (.cells #[.float .f64 (raw v k)] T)) := (Below.refl _ _).alloc (Nat.le_refl _) _
  refine wpList_append_ownF hgd s x ho B sv l1 hs (hO.below hb0) ⟨w.heap.size, 0, none⟩ [v] 1 hx (fun _ => ⟨w.heap.size, 0, rfl, by simp, fun i u hi => ?_⟩) (by simpa using hl) (by simp; omega) fun v' w' h1 h2 => h v' w' h1 ?_
  · cases i with
    | zero =>
      simp only [List.getElem?_cons_zero, Option.some.injEq] at hi
      subst hi
      exact ⟨k, (Box.newA w [.float .f64 (raw v k)] T rfl).cell 0⟩
    | succ i => simp at hi
  · exact (Below.mono hb0 hB).trans h2

set_option maxHeartbeats 8000000 in
theorem less_any (w0 w : World) (ay av : Option Addr) (y v : List Nat) (yb cy cv : Nat) (h0 : Below w0.heap.size w0 w) (hyb : w0.heap.size ≤ yb) (hY : FS w ay yb y) (hW : Words y) (hV : Fls w0 av v) (hl : v.length = y.length) (hn : y.length ≤ 1000) :
    Calls Try.prog 101 #[.slice ay y.length cy, .slice av y.length cv] w fun e w' => e = .returned (.tuple #[]) ∧ InP w w' ay yb (lesI y v) := by
  have HV := Lib.hid (fun W (h : Bel w.heap.size yb w W) => hV.below ((Below.mono (Below.refl w0.heap.size w0) (Nat.le_refl _)).trans (h0.trans ((h.mono h0.size).below hyb))))
  have G := Lib.hid (show InP w w ay yb y from ⟨hY, hW, Bel.refl _ _ _⟩)
  have HVL := Lib.hid hl
  clear hY hV hW h0 hyb hl
  go_enter Try.func101, Try.ntmps101
  go_wp2_with fail
  go_loopw [4, 11] (fun s4 s11 wr => ∃ i s : Nat, s4 = .float .f64 (raw (lesS y v i) s) ∧ s11 = .int .i64 i ∧ i ≤ y.length ∧ InP w wr ay yb y) (fun _ s11 _ => y.length - (intOf s11).toNat)
  case atStart => exact ⟨0, 0, (show Value.float .f64 0 = .float .f64 (raw 0 0) from by kernel_rfl), rfl, Nat.zero_le _, G.out⟩
  case round =>
    obtain ⟨i, s, rfl, rfl, hi, hG⟩ := hrel
    replace G := Lib.hid hG
    clear hG
    by_cases hlt : i < y.length
    case pos =>
      obtain ⟨e1, _⟩ := G.out.addr (by omega)
      subst e1
      obtain ⟨bv, ov, sv, e2, hbv, cv0⟩ := FlsI.at (HV.out _ G.out.bel) (show i < v.length by rw [HVL.out]; exact hlt)
      subst e2
      obtain ⟨u, hu⟩ : ∃ u, u = lesS y v i := ⟨_, rfl⟩
      rw [← hu]
      have HU := Lib.hid hu
      clear hu cv0 hbv
      have hi9 : i < 1000 := by omega
      go_upto_region 4 with (fail)
      have hdr := below_drewN 1 (Below.refl wr.heap.size wr)
      replace G := Lib.hid (show InP w wr.drew _ _ y from G.out.step hdr)
      clear hdr
      obtain ⟨s5, c5⟩ := G.out.at hlt
      obtain ⟨bv', ov', sv', e3, _, c6⟩ := FlsI.at (HV.out _ G.out.bel) (show i < v.length by rw [HVL.out]; exact hlt)
      obtain ⟨rfl, rfl⟩ : bv = bv' ∧ ov = ov' := by injection e3 with e3; injection e3 with e4 e5; exact ⟨e4, e5⟩
      clear e3
      obtain ⟨xv, hxv⟩ : ∃ x, x = v.getD i 0 := ⟨_, rfl⟩
      obtain ⟨yv, hyv⟩ : ∃ x, x = y.getD i 0 := ⟨_, rfl⟩
      rw [← hyv] at c5
      rw [← hxv] at c6
      have HN := Lib.hid (show lesS y v (i + 1) = fadd u (fmul xv yv) by rw [HU.out, hxv, hyv]; rfl)
      clear hxv hyv
      refine wp_region_items 8 [(true, 0), (true, 1), (true, 2), (true, 3), (true, 4), (true, 5), (true, 6), (true, 7)] (fun W => W.cell? ⟨yb, i, none⟩ = some (.float .f64 (raw yv s5)) ∧ W.cell? ⟨bv, ov + i, none⟩ = some (.float .f64 (raw xv sv'))) (by kernel_rfl) (by kernel_rfl) ⟨c5, c6⟩ ?_
      generalize wr.drew = q0 at *
      clear c5 c6
      iterate 8 (refine iW_take (v := ?_) rfl rfl ?_ ?_; rotate_left; (next => (intro w' hSw; (try dsimp only at hSw); go_simp; (try (rw [if_pos (by omega)]; go_simp)); (try with_reducible rfl))); (simp only [Act.put, List.setIfInBounds_toArray, List.set_cons_zero, List.set_cons_succ]))
      refine iW_nil ?_
      go_simp
      go_wp2_with (first | (refine wpList_flt rfl rfl rfl rfl rfl ?_; intro K hK s6 n6; go_frame; refine hK _ _ ?_; clear hK K))
      refine NoPanic.normal ?_
      (try simp only [fadd_rawl, fadd_rawr, fsub_rawl, fsub_rawr, fmul_rawl, fmul_rawr, fdiv_rawl, fdiv_rawr])
      go_wp2_with (first | (refine wpList_flt rfl rfl rfl rfl rfl ?_; intro K hK s7 n7; go_frame; refine hK _ _ ?_; clear hK K))
      (try simp only [fadd_rawl, fadd_rawr, fsub_rawl, fsub_rawr, fmul_rawl, fmul_rawr, fdiv_rawl, fdiv_rawr])
      go_roundw
      case rel => exact ⟨i + 1, _, by rw [HN.out], by go_num, hlt, G.out.step (below_drewN _ (Below.refl _ _))⟩
      case measure => simp [intOf]; omega
    case neg =>
      have hil : i = y.length := by omega
      subst hil
      obtain ⟨S, hS⟩ : ∃ S, S = lesS y v y.length := ⟨_, rfl⟩
      rw [← hS]
      have HE := Lib.hid (show lesI y v = stL (fun i u => fsub u (fmul S (v.getD i 0))) y y.length by rw [hS]; rfl)
      clear hS hi hlt
      obtain ⟨f, hf⟩ : ∃ f : Nat → Nat → Nat, f = fun i u => fsub u (fmul S (v.getD i 0)) := ⟨_, rfl⟩
      have HF := Lib.hid hf
      clear hf
      go_wp2_with fail
      go_loopw [29] (fun s29 wr => ∃ i : Nat, s29 = .int .i64 i ∧ i ≤ y.length ∧ InP w wr ay yb (stL f y i)) (fun s29 _ => y.length - (intOf s29).toNat)
      case atStart => exact ⟨0, rfl, Nat.zero_le _, G.out⟩
      case round =>
        obtain ⟨i, rfl, hi, hG⟩ := hrel
        replace G := Lib.hid hG
        clear hG
        by_cases hlt : i < y.length
        case pos =>
          obtain ⟨e1, _⟩ := G.out.addr (by rw [stL_len]; omega)
          subst e1
          obtain ⟨bv, ov, sv, e2, hbv, c6⟩ := FlsI.at (HV.out _ G.out.bel) (show i < v.length by rw [HVL.out]; exact hlt)
          subst e2
          obtain ⟨xv, hxv⟩ : ∃ x, x = v.getD i 0 := ⟨_, rfl⟩
          rw [← hxv] at c6
          have HF2 := Lib.hid (show ∀ u, f i u = fsub u (fmul S xv) from fun u => by rw [HF.out, hxv])
          clear hxv hbv
          have hi9 : i < 1000 := by omega
          go_upto_region 11 with (first | (refine wpList_flt rfl rfl rfl rfl rfl ?_; intro K hK s8 n8; go_frame; refine hK _ _ ?_; clear hK K))
          (try simp only [fadd_rawl, fadd_rawr, fsub_rawl, fsub_rawr, fmul_rawl, fmul_rawr, fdiv_rawl, fdiv_rawr])
          replace G := Lib.hid (G.out.step (below_drewN n8 (Below.refl _ _)))
          generalize wr.drewN n8 = q1 at *
          clear c6
          obtain ⟨s9, c9⟩ := G.out.at (show i < (stL f y i).length by rw [stL_len]; exact hlt)
          rw [stL_getD f y i i (Nat.le_refl _)] at c9
          have g1 := (G.out.addr (by rw [stL_len]; omega)).2.lt
          have g2 := (G.out.addr (by rw [stL_len]; omega)).2.frozen
          obtain ⟨yv, hyv⟩ : ∃ x, x = y.getD i 0 := ⟨_, rfl⟩
          rw [← hyv] at c9
          have HN := Lib.hid (show stL f y (i + 1) = (stL f y i).set i (fsub yv (fmul S xv)) by rw [stL_succ, HF2.out, hyv])
          clear hyv
          go_wp2_with (first | (refine wpList_flt rfl rfl rfl rfl rfl ?_; intro K hK sa na; go_frame; refine hK _ _ ?_; clear hK K))
          (try simp only [fadd_rawl, fadd_rawr, fsub_rawl, fsub_rawr, fmul_rawl, fmul_rawr, fdiv_rawl, fdiv_rawr])
          go_roundw
          case rel => exact ⟨i + 1, by go_num, hlt, by rw [HN.out]; exact (G.out.step (below_drewN na (Below.refl _ _))).set i _ sa (fsub_lt _ _)⟩
          case measure => simp [intOf]; omega
        case neg =>
          have hil : i = y.length := by omega
          subst hil
          have HG := Lib.hid (show InP w wr ay yb (lesI y v) by rw [HE.out, ← HF.out]; exact G.out)
          clear hi hlt
          go_wp2_with fail
          exact bodyPost_end (results_none rfl _ _ _) rfl ⟨rfl, HG.out⟩
set_option maxHeartbeats 8000000 in
theorem unit_any (w : World) (X yb cy : Nat) (ay : Option Addr) (y : List Nat) (hX : Box w X [.slice ay y.length cy]) (hne : X ≠ yb) (hY : FS w ay yb y) (hW : Words y) (hn : y.length ≤ 1000) :
    Calls Try.prog 99 #[.pointer (some ⟨X, 0, none⟩)] w fun e w' => e = .returned (.bool (okI (nrmI y))) ∧ InP w w' ay yb (if okI (nrmI y) then unitI y else y) := by
  have HN := Lib.hid (Norm_any w ay y cy hY.fls hW (by omega))
  have HX := Lib.hid (fun W (h : Bel w.heap.size yb w W) => hX.bel hne h)
  have G := Lib.hid (show InP w w ay yb y from ⟨hY, hW, Bel.refl _ _ _⟩)
  clear hX hne hY hW
  have HD := Lib.hid (show unitI y = stL (fun _ v => fdiv v (nrmI y)) y y.length from rfl)
  obtain ⟨N, hN⟩ : ∃ N, N = nrmI y := ⟨_, rfl⟩
  rw [← hN] at HD HN ⊢
  clear hN
  obtain ⟨B, hB⟩ : ∃ B, B = okI N := ⟨_, rfl⟩
  rw [← hB]
  have hok : B = (flt 0 N && feq (fsub N N) 0) := hB
  have HO := Lib.hid hok
  obtain ⟨R, hR⟩ : ∃ R, R = (if B then unitI y else y) := ⟨_, rfl⟩
  rw [← hR]
  have HR := Lib.hid hR
  clear hok hB hR
  obtain ⟨f1, f2, f3⟩ := (HX.out w (Bel.refl _ _ _)).facts
  go_enter Try.func99, Try.ntmps99
  go_wp2_with fail
  refine HN.out.mono ?_
  rintro e w1 ⟨⟨s0, rfl⟩, hb⟩
  replace G := Lib.hid (G.out.step hb)
  clear hb f1 f2 f3 HN
  dsimp only
  cases h1 : flt 0 N
  case false =>
    have hb : B = false := by rw [HO.out, h1]; rfl
    subst hb
    have hr : R = y := HR.out
    subst hr
    clear HO HR
    go_wp2_with (first | (refine wpList_flt rfl rfl rfl rfl rfl ?_; intro K hK sq nq; go_frame; refine hK _ _ ?_; clear hK K))
    go_ret
    exact ⟨rfl, G.out⟩
  case true =>
    cases h2 : feq (fsub N N) 0
    case false =>
      have hb : B = false := by rw [HO.out, h1, h2]; rfl
      subst hb
      have hr : R = y := HR.out
      subst hr
      clear HO HR
      go_wp2_with (first | (refine wpList_flt rfl rfl rfl rfl rfl ?_; intro K hK sq nq; go_frame; refine hK _ _ ?_; clear hK K))
      (try simp only [fadd_rawl, fadd_rawr, fsub_rawl, fsub_rawr, fmul_rawl, fmul_rawr, fdiv_rawl, fdiv_rawr])
      go_ret
      exact ⟨rfl, G.out.step (below_drewN _ (Below.refl _ _))⟩
    case true =>
      have hb : B = true := by rw [HO.out, h1, h2]; rfl
      subst hb
      have hr : R = unitI y := HR.out
      subst hr
      clear HO HR
      go_upto_region 4 with (first | (refine wpList_flt rfl rfl rfl rfl rfl ?_; intro K hK sq nq; go_frame; refine hK _ _ ?_; clear hK K))
      (try simp only [fadd_rawl, fadd_rawr, fsub_rawl, fsub_rawr, fmul_rawl, fmul_rawr, fdiv_rawl, fdiv_rawr])
      replace G := Lib.hid (G.out.step (below_drewN nq (Below.refl _ _)))
      generalize w1.drewN nq = w2 at *
      clear h1 h2
      obtain ⟨f1, f2, f3⟩ := (HX.out _ G.out.bel).facts
      go_wp2_with fail
      clear f1 f2 f3
      obtain ⟨f, hf⟩ : ∃ f : Nat → Nat → Nat, f = fun _ v => fdiv v N := ⟨_, rfl⟩
      rw [← hf] at HD
      have HF := Lib.hid hf
      clear hf
      go_loopw [17] (fun s17 wr => ∃ i : Nat, s17 = .int .i64 i ∧ i ≤ y.length ∧ InP w wr ay yb (stL f y i)) (fun s17 _ => y.length - (intOf s17).toNat)
      case atStart => exact ⟨0, rfl, Nat.zero_le _, G.out⟩
      case round =>
        obtain ⟨i, rfl, hi, hG⟩ := hrel
        replace G := Lib.hid hG
        clear hG
        by_cases hlt : i < y.length
        case pos =>
          obtain ⟨f1, f2, f3⟩ := (HX.out _ G.out.bel).facts
          obtain ⟨e1, _⟩ := G.out.addr (by rw [stL_len]; omega)
          subst e1
          have hi9 : i < 1000 := by omega
          obtain ⟨s9, c9⟩ := G.out.at (show i < (stL f y i).length by rw [stL_len]; exact hlt)
          rw [stL_getD f y i i (Nat.le_refl _)] at c9
          have g1 := (G.out.addr (by rw [stL_len]; omega)).2.lt
          have g2 := (G.out.addr (by rw [stL_len]; omega)).2.frozen
          obtain ⟨yv, hyv⟩ : ∃ x, x = y.getD i 0 := ⟨_, rfl⟩
          rw [← hyv] at c9
          have HN := Lib.hid (show stL f y (i + 1) = (stL f y i).set i (fdiv yv N) by rw [stL_succ, HF.out, hyv])
          clear hyv
          go_wp2_with (first | (refine wpList_flt rfl rfl rfl rfl rfl ?_; intro K hK sa na; go_frame; refine hK _ _ ?_; clear hK K))
          (try simp only [fadd_rawl, fadd_rawr, fsub_rawl, fsub_rawr, fmul_rawl, fmul_rawr, fdiv_rawl, fdiv_rawr])
          go_roundw
          case rel => exact ⟨i + 1, by go_num, hlt, by rw [HN.out]; exact (G.out.step (below_drewN na (Below.refl _ _))).set i _ sa (fdiv_lt _ _)⟩
          case measure => simp [intOf]; omega
        case neg =>
          have hil : i = y.length := by omega
          subst hil
          have HG := Lib.hid (show InP w wr ay yb (unitI y) by rw [HD.out]; exact G.out)
          clear hi hlt
          go_wp2_with fail
          go_ret
          exact ⟨rfl, HG.out⟩
end Go.Proofs.Ytdljnhdhigbefaa

/- Layer 14: start vectors. No condition. -/
namespace Go.Proofs.Ytdljnhdhigbefaa
open Go Go.RowKit
set_option maxRecDepth 1000000
set_option linter.unusedSimpArgs false
set_option linter.unusedVariables false

set_option maxHeartbeats 8000000 in
theorem Start_ok (w : World) (n j : Nat) (hn : n ≤ 512) (hj : j ≤ 9223372036854775807) :
    Calls Try.prog 32 #[.int .i64 n, .int .i64 j] w fun e w' => (∃ v, e = .returned (.tuple #[v, .int .i64 0]) ∧ OwnF w' w.heap.size v (srtI j n)) ∧ Below w.heap.size w w' := by
  have h1 : ¬ (n : Int) < 0 := by omega
  have h2 : ¬ (512 : Int) < (n : Int) := by omega
  have h3 : ¬ (j : Int) < 0 := by omega
  go_enter Try.func32, Try.ntmps32
  go_wp2_with fail
  clear h1 h2 h3
  go_loopw [6, 7, 23] (fun s6 s7 s23 wr => ∃ k : Nat, s6 = .int .u64 (stH j k) ∧ OwnF wr w.heap.size s7 (srtI j k) ∧ s23 = .int .i64 k ∧ k ≤ n ∧ Below w.heap.size w wr) (fun _ _ s23 _ => n - (intOf s23).toNat)
  case atStart =>
    have hw0 : IntKind.u64.wrap (IntKind.u64.wrap (wrap64 ((j : Int) + 1)) * 6364136223846793005) = ((stH j 0 : Nat) : Int) := by
      unfold stH
      rw [IntKind.wrap_u64, IntKind.wrap_u64]
      unfold wrap64
      omega
    exact ⟨0, by rw [hw0], OwnF.nil _ _, rfl, Nat.zero_le _, Below.refl _ _⟩
  case round =>
    obtain ⟨k, rfl, hO, rfl, hk, hB⟩ := hrel
    by_cases hlt : k < n
    case pos =>
      have HO := Lib.hid (fun m => hO.below (below_drewN m (Below.refl _ wr)))
      have HB := Lib.hid (fun m => below_step hB hB.size (below_drewN m (Below.refl _ wr)))
      go_upto_region 8 with fail
      have hw1 : IntKind.u64.wrap (IntKind.u64.wrap (((stH j k : Nat) : Int) * 6364136223846793005) + 1442695040888963407) = ((stH j (k + 1) : Nat) : Int) := by
        rw [stH, IntKind.wrap_u64, IntKind.wrap_u64]
        omega
      have hw2 : stH j (k + 1) < 18446744073709551616 := Nat.mod_lt _ (by decide)
      rw [hw1]
      obtain ⟨h, hh⟩ : ∃ h, h = stH j (k + 1) := ⟨_, rfl⟩
      have HN := Lib.hid (show srtI j (k + 1) = srtI j k ++ [fmul (floatOfInt .f64 (((h / 2048 : Nat) : Int) - 4503599627370496)) 4372995238176751616] by rw [hh]; rfl)
      rw [← hh] at hw1 hw2 ⊢
      have HH := Lib.hid hh
      clear hh hO hB hw1
      have hcv : ((h / 2048 : Nat) : Int) = (h : Int) / 2048 := by omega
      have hF : ∀ s, fmul (floatOfInt .f64 ((h : Int) / 2048 - 4503599627370496)) s = fmul (floatOfInt .f64 (((h / 2048 : Nat) : Int) - 4503599627370496)) s := fun s => by rw [hcv]
      have HF := Lib.hid hF
      clear hcv hF
      go_wp2_with (first | (refine wpList_flt rfl rfl rfl rfl rfl ?_; intro K hK sq nq; go_frame; refine hK _ _ ?_; clear hK K; rw [HF.out]) | (at_builtin; refine wpList_append_oneG rfl _ _ rfl w.heap.size _ (srtI j k) rfl (HO.out _) _ _ _ rfl (by rw [srtI_len]; omega) (HB.out _).size ?_; intro v' w6 hO6 hb6))
      go_roundw
      case rel => exact ⟨k + 1, by rw [HH.out], by rw [HN.out, ← HF.out]; exact hO6, by go_num, hlt, (HB.out _).trans hb6⟩
      case measure => simp [intOf]; omega
    case neg =>
      obtain rfl : k = n := by omega
      have HB := Lib.hid (show _ ∧ _ from ⟨hO, hB⟩)
      clear hB hk hO
      go_wp2_with fail
      exact bodyPost_ret (results_two rfl (rv_tmp rfl) (rv_tmp rfl)) rfl ⟨⟨_, rfl, HB.out.1⟩, HB.out.2⟩
end Go.Proofs.Ytdljnhdhigbefaa

/- slices.Grow of nothing, slices.Concat of two. No condition but on lengths. -/
namespace Go.Proofs.Ytdljnhdhigbefaa
open Go Go.RowKit
set_option maxRecDepth 1000000
set_option linter.unusedSimpArgs false
set_option linter.unusedVariables false

theorem OwnF.monoG {W : World} {B B' : Nat} {v : Value} {l : List Nat} (h : OwnF W B v l) (hB : B' ≤ B) : OwnF W B' v l := by
  obtain ⟨ws, h1, h2, h3, h4⟩ := h
  refine ⟨ws, h1, h2, h3, ?_⟩
  rcases h4 with h4 | ⟨g, cap, cur, e, hb, rest⟩
  · exact .inl h4
  · exact .inr ⟨g, cap, cur, e, Nat.le_trans hB hb, rest⟩
set_option maxHeartbeats 4000000 in
theorem Grow_any (w : World) (n : Nat) (hn : n ≤ 262144) :
    Calls Try.prog 119 #[.slice none 0 0, .int .i64 n] w fun e w' => (∃ v, e = .returned v ∧ OwnF w' w.heap.size v []) ∧ Below w.heap.size w w' := by
  cases n with
  | zero =>
    go_enter Try.func119, Try.ntmps119
    go_wp2
    go_ret
    exact ⟨⟨_, rfl, OwnF.nil _ _⟩, Below.refl _ _⟩
  | succ k =>
    obtain ⟨n, hk⟩ : ∃ n, n = k + 1 := ⟨_, rfl⟩
    rw [← hk] at hn ⊢
    have h1 : ¬ ((n : Int) < 0) := by omega
    have h4 : (0 : Int) < n := by omega
    obtain ⟨i0, hi, hz0, hz1, hz2⟩ := info_parts info_f64
    have hrz : ∀ ty, (Builtin.append_ #[22, 3] ty #[.slice none 0 0, .int .i64 (n : Int)]).run Try.prog w =
        .ok (.slice (some ⟨w.heap.size, 0, none⟩) n (grownCap w n 0 40)) (w.drew.alloc (.cells (([] : List Value).toArray ++ Builtin.zeroCells (Value.float .f64 0).cells n ++ Builtin.zeroCells (Value.float .f64 0).cells (grownCap w n 0 40 - n)) 40)) := fun ty => by
      have h := Lib.run_append_grow_zeros (P := Try.prog) w 22 3 ty 40 i0 (.float .f64 0) .i64 .i64 Try.underlying22 Try.underlying3 hi hz0 none 0 0 [] (run_firstCells_none w.drew i0.size 0 0 0) n (by omega) (by omega) (by omega) (by omega) (by rw [hz2]; omega)
        (growslice_fits (by omega) (by rw [hz2]; omega))
      rw [Nat.zero_add] at h
      exact h
    have hGn : n ≤ grownCap w n 0 40 := grownCap_ge w _ _ _
    have hGm := grownCap_le_maxLen w n 0 40 (by unfold maxLen; omega)
    obtain ⟨G, hG⟩ : ∃ G, G = grownCap w n 0 40 := ⟨_, rfl⟩
    rw [← hG] at hrz hGn hGm
    have hcs : (([] : List Value).toArray ++ Builtin.zeroCells (Value.float .f64 0).cells n ++ Builtin.zeroCells (Value.float .f64 0).cells (G - n)).size = G := by
      rw [Array.size_append, Array.size_append]
      unfold Builtin.zeroCells
      simp [Value.cells]
      omega
    obtain ⟨cs, hc⟩ : ∃ cs, cs = (([] : List Value).toArray ++ Builtin.zeroCells (Value.float .f64 0).cells n ++ Builtin.zeroCells (Value.float .f64 0).cells (G - n)) := ⟨_, rfl⟩
    rw [← hc] at hrz hcs
    have hB : Below w.heap.size w (w.drew.alloc (.cells cs 40)) := (below_drewN 1 (Below.refl _ _)).alloc (by exact Nat.le_refl _) _
    have hO : OwnF (w.drew.alloc (.cells cs 40)) w.heap.size (.slice (some ⟨w.heap.size, 0, none⟩) 0 G) [] :=
      ⟨[], rfl, fun i u hi => by simp at hi, by simp, .inr ⟨w.heap.size, G, cs, rfl, Nat.le_refl _, by show (w.drew.heap.push _)[w.drew.heap.size]? = _; exact Array.getElem?_push_size, Nat.zero_le _, hGm, by rw [hcs, Nat.mul_one], by simp⟩⟩
    have HH := Lib.hid (And.intro hO hB)
    unfold maxLen at hGm
    clear hG hc hcs hO hB hi hz0 hz1 hz2 hk
    go_enter Try.func119, Try.ntmps119
    go_wp2_with (at_builtin; refine Lib.wpList_append_run _ rfl _ _ _ _ rfl _ _ rfl rfl _ _ (hrz _) ?_)
    go_ret
    exact ⟨⟨_, rfl, HH.out.1⟩, HH.out.2⟩
set_option maxHeartbeats 8000000 in
theorem Concat_any (w : World) (g : Nat) (da ea : Option Addr) (ds es : List Nat) (dc ec : Nat) (hX : Box w g [.slice da ds.length dc, .slice ea es.length ec]) (hD : Fls w da ds) (hE : Fls w ea es) (hda : da = none → ds = [] ∧ dc = 0) (hea : ea = none → es = [] ∧ ec = 0) (hl : ds.length ≤ 1000) (hm : es.length ≤ 1000) :
    Calls Try.prog 98 #[.slice (some ⟨g, 0, none⟩) 2 2] w fun e w' => (∃ v, e = .returned v ∧ OwnF w' w.heap.size v (ds ++ es)) ∧ Below w.heap.size w w' := by
  have HX := Lib.hid (And.intro hX (And.intro hD hE))
  have HN := Lib.hid (And.intro hda hea)
  have HG := Lib.hid (fun W => Grow_any W (ds.length + es.length) (by omega))
  clear hX hD hE hda hea
  go_enter Try.func98, Try.ntmps98
  go_wp2_with fail
  go_loopw [3, 11] (fun s3 s11 wr => ∃ k n : Nat, s3 = .int .i64 n ∧ s11 = .int .i64 k ∧ n ≤ 2000 ∧ (k = 0 ∧ n = 0 ∨ k = 1 ∧ n = ds.length ∨ k = 2 ∧ n = ds.length + es.length) ∧ Below w.heap.size w wr) (fun _ s11 _ => 2 - (intOf s11).toNat)
  case atStart => exact ⟨0, 0, rfl, rfl, by omega, .inl ⟨rfl, rfl⟩, Below.refl _ _⟩
  case round =>
    obtain ⟨k, n, rfl, rfl, hn, hk, hB⟩ := hrel
    obtain ⟨f1, f2, f3⟩ := (HX.out.1.below hB).facts
    rcases hk with ⟨rfl, rfl⟩ | ⟨rfl, rfl⟩ | ⟨rfl, rfl⟩
    · go_wp2_with fail
      go_roundw
      case rel => exact ⟨1, ds.length, by go_num, by go_num, by omega, .inr (.inl ⟨rfl, rfl⟩), hB⟩
      case measure => simp [intOf]
    · go_wp2_with fail
      go_roundw
      case rel => exact ⟨2, ds.length + es.length, by go_num, by go_num, by omega, .inr (.inr ⟨rfl, rfl⟩), hB⟩
      case measure => simp [intOf]
    · clear f1 f2 f3
      go_wp2_with fail
      refine (HG.out _).mono ?_
      rintro e w1 ⟨⟨v, rfl, hO⟩, hb⟩
      have HO := Lib.hid (hO.monoG hB.size)
      have HB := Lib.hid (below_step hB hB.size hb)
      clear hB hO hb
      go_wp2_with fail
      go_loopw [6, 27] (fun s6 s27 wr => ∃ k : Nat, s27 = .int .i64 k ∧ (k = 0 ∧ OwnF wr w.heap.size s6 [] ∨ k = 1 ∧ OwnF wr w.heap.size s6 ds ∨ k = 2 ∧ OwnF wr w.heap.size s6 (ds ++ es)) ∧ Below w.heap.size w wr) (fun _ s27 _ => 2 - (intOf s27).toNat)
      case atStart => exact ⟨0, rfl, .inl ⟨rfl, HO.out⟩, HB.out⟩
      case round =>
        clear HO HB
        obtain ⟨k, rfl, hk, hB⟩ := hrel
        obtain ⟨f1, f2, f3⟩ := (HX.out.1.below hB).facts
        have HB := Lib.hid hB
        clear hB
        rcases hk with ⟨rfl, hO⟩ | ⟨rfl, hO⟩ | ⟨rfl, hO⟩
        · have HO := Lib.hid hO
          clear hO
          go_wp2_with (at_builtin; refine wpList_append_anyF rfl _ _ rfl w.heap.size _ [] rfl HO.out da ds dc rfl (HX.out.2.1.below HB.out) HN.out.1 (by simp; omega) HB.out.size ?_; intro v' w6 hO6 hb6)
          go_roundw
          case rel => exact ⟨1, by go_num, .inr (.inl ⟨rfl, by simpa using hO6⟩), HB.out.trans hb6⟩
          case measure => simp [intOf]
        · have HO := Lib.hid hO
          clear hO
          go_wp2_with (at_builtin; refine wpList_append_anyF rfl _ _ rfl w.heap.size _ ds rfl HO.out ea es ec rfl (HX.out.2.2.below HB.out) HN.out.2 (by omega) HB.out.size ?_; intro v' w6 hO6 hb6)
          go_roundw
          case rel => exact ⟨2, by go_num, .inr (.inr ⟨rfl, hO6⟩), HB.out.trans hb6⟩
          case measure => simp [intOf]
        · have HO := Lib.hid hO
          clear hO f1 f2 f3
          go_wp2_with fail
          go_ret
          exact ⟨⟨_, rfl, HO.out⟩, HB.out⟩
end Go.Proofs.Ytdljnhdhigbefaa
