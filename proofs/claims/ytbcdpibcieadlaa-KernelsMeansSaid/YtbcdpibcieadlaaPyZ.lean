/- 'plumblinelaw08.KernelsMeans' (printed by gen_py.py). No condition but on lengths. -/
import Derived.Test.YtbcdpibcieadlaaZz27
import Derived.Test.YtbcdpibcieadlaaZz24
import Derived.Test.YtbcdpibcieadlaaZz20
import Derived.Test.YtbcdpibcieadlaaZz30
import Derived.Test.YtbcdpibcieadlaaZz21
import Derived.Test.YtbcdpibcieadlaaZz26
namespace Go.Proofs.Ytbcdpibcieadlaa
open Go Go.RowKit
set_option maxRecDepth 1000000

theorem cel_below9 {w w' : World} {a : Option Addr} {l : List Nat} (h : Cel w a l) (hb : Below w.heap.size w w') : Cel w' a l := h.below hb
theorem cell_lt9 {W : World} {b o : Nat} {v : Value} (h : W.cell? ⟨b, o, none⟩ = some v) : b < W.heap.size := by
  unfold World.cell? at h
  cases hh : W.heap[b]? with
  | none => rw [hh] at h; cases h
  | some x => exact (Array.getElem?_eq_some_iff.1 hh).1
theorem floatOfInt_lt9 (n : Int) : floatOfInt .f64 n < 18446744073709551616 := by
  have h := floatOfInt_wf .f64 n
  unfold Lit.wf at h
  simpa using h
def md (z : Int) : Int := z.tmod 1048576
def flI (l : List Int) (i : Nat) : List Nat := (List.range i).map fun j => floatOfInt .f64 (md (l.getD j 0))
def sumI (l k : List Int) : Nat → Int
  | 0 => 0
  | i + 1 => sumI l k i + md (l.getD i 0) * md (k.getD i 0)
theorem flI_len (l : List Int) (i : Nat) : (flI l i).length = i := by unfold flI; simp
theorem flI_succ (l : List Int) (i : Nat) : flI l (i + 1) = flI l i ++ [floatOfInt .f64 (md (l.getD i 0))] := by unfold flI; simp [List.range_succ]
theorem flI_at (l : List Int) {n i : Nat} (h : i < n) : (flI l n).getD i 0 = floatOfInt .f64 (md (l.getD i 0)) := by unfold flI; rw [getD_map_range _ h]
theorem md_le (z : Int) : -1048576 < md z ∧ md z < 1048576 := by
  unfold md
  have h1 := Int.tmod_lt_of_pos z (show (0 : Int) < 1048576 by decide)
  have h2 := Int.lt_tmod_of_pos z (show (0 : Int) < 1048576 by decide)
  omega
theorem md_mul (a b : Int) : -1099511627776 ≤ md a * md b ∧ md a * md b ≤ 1099511627776 := by
  have ha := md_le a
  have hb := md_le b
  have h1 : (md a * md b).natAbs ≤ 1048576 * 1048576 := by
    rw [Int.natAbs_mul]
    exact Nat.mul_le_mul (by omega) (by omega)
  omega
theorem sumI_le (l k : List Int) : ∀ n : Nat, -(1099511627776 * (n : Int)) ≤ sumI l k n ∧ sumI l k n ≤ 1099511627776 * (n : Int)
  | 0 => by simp [sumI]
  | n + 1 => by
    have h1 := sumI_le l k n
    have h2 := md_mul (l.getD n 0) (k.getD n 0)
    rw [sumI]
    push_cast
    omega
theorem isI_md (z : Int) : isI (floatOfInt .f64 (md z)) (md z) := isI_of _ (by have := md_le z; omega)
theorem isI_zero : isI 0 0 := ⟨by decide, by rw [Int.natAbs_zero]; generalize 2 ^ 1074 = P; rw [Nat.zero_mul]; exact fval_zero, fun h => absurd rfl h⟩
/-- A sum of products of whole numbers. -/
theorem isI_sum (x y : Nat → Nat) (X Y : Nat → Int) (S : Nat → Int) (h0 : S 0 = 0) (n : Nat) (hn : n ≤ 40) (hS : ∀ i, i < n → S (i + 1) = S i + X i * Y i) (hx : ∀ i, i < n → isI (x i) (X i)) (hy : ∀ i, i < n → isI (y i) (Y i)) (hb : ∀ i, i < n → (X i * Y i).natAbs ≤ 1099511627776) :
    isI (sumG x y 0 n) (S n) ∧ (S n).natAbs ≤ 1099511627776 * n := by
  induction n with
  | zero => rw [sumG, h0]; exact ⟨isI_zero, by simp⟩
  | succ n ih =>
    obtain ⟨h1, h2⟩ := ih (by omega) (fun i hi => hS i (by omega)) (fun i hi => hx i (by omega)) (fun i hi => hy i (by omega)) (fun i hi => hb i (by omega))
    have h3 := hb n (by omega)
    rw [sumG, hS n (by omega), Nat.zero_add]
    exact ⟨isI_add h1 (isI_mul (hx n (by omega)) (hy n (by omega)) (by omega)) (by omega), by omega⟩
theorem vec_n (W : World) (a : Option Addr) (l : List Nat) (n cap : Nat) (hZ : Cel W a l) (hn : l.length = n) (hl : n ≤ 512) :
    Calls Try.prog 36 #[.slice a n cap] W fun e w' => ∃ st sb, e = .returned (newV st n 1).val ∧ W.heap.size ≤ st ∧ W.heap.size ≤ sb ∧ Sto w' (some ⟨st, 0, none⟩) sb l ∧ Below W.heap.size W w' := by
  subst hn
  exact vec_any W a l cap hZ hl
theorem flI_words (l : List Int) (n : Nat) : Words (flI l n) := fun x hx => by
  unfold flI at hx
  obtain ⟨j, _, rfl⟩ := List.mem_map.1 hx
  exact floatOfInt_lt9 _
theorem dot_vecs (W : World) {st st' sb sb' n : Nat} {a b : List Nat} (hS : Sto W (some ⟨st, 0, none⟩) sb a) (hS' : Sto W (some ⟨st', 0, none⟩) sb' b) (ha : a.length = n) (hb : b.length = n) (hn : n ≤ 512) (wa : Words a) (wb : Words b) :
    Calls Try.prog 18 #[(newV st n 1).val, (newV st' n 1).val] W fun e w' => (∃ s, e = .returned (.tuple #[.float .f64 (raw (sumG (atL a) (atL b) 0 n) s), .int .i64 0])) ∧ Below W.heap.size W w' := by
  have P := newV_of (st := st) wa hn (by decide) (show a.length = n * 1 by omega)
  have P' := newV_of (st := st') wb hn (by decide) (show b.length = n * 1 by omega)
  have h := Dot_any W (newV st n 1) (newV st' n 1) sb sb' a b (P.ok _ _ hS) (P'.ok _ _ hS') wa wb
  have hf : fit8 n 1 n 1 a.length b.length = true := by unfold fit8 vec8; simp; omega
  rw [P.two P' (by omega) (by omega), P.dot P' (by omega) (by omega), hf, if_pos rfl, if_pos rfl, ha] at h
  exact h
theorem rw_words {a b zs : List Nat} (ha : Rw a zs) (hb : Rw b zs) {k : Nat} (hk : k < zs.length) : nm (a.getD k 0) = nm (b.getD k 0) := by
  obtain ⟨s, hs⟩ := ha.2 k hk
  obtain ⟨t, ht⟩ := hb.2 k hk
  rw [hs, ht, nm_raw, nm_raw]
theorem sameL_of9 {a b : Vw} {wa wb L : List Nat} {r c : Nat} (ra : a.r = r) (rb : b.r = r) (ca : a.c = c) (cb : b.c = c) (ha : Rw (a.list wa) L) (hb : Rw (b.list wb) L) (hl : L.length = r * c) : sameL a b wa wb (plcs c (r * c)) = true := by
  unfold sameL
  rw [List.all_eq_true]
  intro x hx
  unfold plcs at hx
  obtain ⟨k, hk, rfl⟩ := List.mem_map.1 hx
  have hk := List.mem_range.1 hk
  have h := rw_words ha hb (k := k) (by omega)
  rw [list_getD8 a wa (by rw [ra, ca]; exact hk), list_getD8 b wb (by rw [rb, cb]; exact hk), ca, cb] at h
  exact (nm_same _ _).1 h
/-- A product with one column is the product with that vector. -/
theorem same_means {V3 V7 : Vw} {st3 st7 r c : Nat} {zm zx m3 m7 ws3 ws7 : List Nat} {one : Nat} (P3 : OfP V3 st3 r 1 (List.replicate r 0) ws3) (P7 : OfP V7 st7 r 1 (List.replicate r 0) ws7) (hn : zm.length = r * c) (hx : zx.length = c)
    (R3 : Rw (V3.list m3) (gemvR one zm c zx 0 (List.replicate r 0) r)) (R7 : Rw (V7.list m7) (fillL (gemmD one 0 zm c zx 1 c (List.replicate r 0) 1) 1 (List.replicate r 0) (r * 1))) : sameV V3 V7 m3 m7 = true := by
  have e : gemvR one zm c zx 0 (List.replicate r 0) r = fillL (gemmD one 0 zm c zx 1 c (List.replicate r 0) 1) 1 (List.replicate r 0) (r * 1) := by
    refine List.ext_getElem (by rw [gemvR_len, fillL_len]; simp) fun k h1 h2 => ?_
    rw [gemvR_len] at h1
    have e1 : (gemvR one zm c zx 0 (List.replicate r 0) r)[k] = (gemvR one zm c zx 0 (List.replicate r 0) r).getD k 0 := by simp [List.getD_eq_getElem?_getD, gemvR_len, h1]
    have e2 : (fillL (gemmD one 0 zm c zx 1 c (List.replicate r 0) 1) 1 (List.replicate r 0) (r * 1))[k] = (fillL (gemmD one 0 zm c zx 1 c (List.replicate r 0) 1) 1 (List.replicate r 0) (r * 1)).getD k 0 := by simp [List.getD_eq_getElem?_getD, fillL_len, h1]
    rw [e1, e2, fillL_get _ _ _ _ _ (by simp; exact h1), if_pos (by omega), Nat.div_one, Nat.mod_one]
    unfold gemvR
    rw [getD_map_range _ h1]
    unfold gemmD
    rw [Nat.mul_one, Nat.add_zero]
    congr 1
    refine sumG_congr _ fun j hj => ⟨rfl, ?_⟩
    rw [Nat.zero_add]
    unfold atL colL
    rw [getD_map_range _ hj, Nat.mul_one, Nat.add_zero]
  rw [e] at R3
  generalize fillL (gemmD one 0 zm c zx 1 c (List.replicate r 0) 1) 1 (List.replicate r 0) (r * 1) = L at R3 R7
  have hl : L.length = r * 1 := by rw [← R3.1, list_len8, P3.er, P3.ec]
  unfold sameV
  rw [P3.ep, P7.ep, P3.er, P7.er, P3.ec, P7.ec]
  simp only [Option.isNone_some, beq_self_eq_true, decide_true, Bool.and_self, Bool.true_and]
  exact sameL_of9 P3.er P7.er P3.ec P7.ec R3 R7 hl
/-- The list backwards. -/
def rvI (l : List Int) (n j : Nat) : List Nat := (List.range j).map fun q => floatOfInt .f64 (md (l.getD (n - 1 - q) 0))
theorem rvI_len (l : List Int) (n i : Nat) : (rvI l n i).length = i := by unfold rvI; simp
theorem rvI_succ (l : List Int) (n i : Nat) : rvI l n (i + 1) = rvI l n i ++ [floatOfInt .f64 (md (l.getD (n - 1 - i) 0))] := by unfold rvI; simp [List.range_succ]
theorem rvI_at (l : List Int) (n : Nat) {m i : Nat} (h : i < m) : (rvI l n m).getD i 0 = floatOfInt .f64 (md (l.getD (n - 1 - i) 0)) := by unfold rvI; rw [getD_map_range _ h]
theorem rvI_words (l : List Int) (n m : Nat) : Words (rvI l n m) := fun x hx => by
  unfold rvI at hx
  obtain ⟨j, _, rfl⟩ := List.mem_map.1 hx
  exact floatOfInt_lt9 _
def sumR (l k : List Int) (n i : Nat) : Int := sumI l k n - sumI l k (n - i)
theorem dot_fwd (l k : List Int) (n : Nat) (hn : n ≤ 40) : isI (sumG (atL (flI l n)) (atL (flI k n)) 0 n) (sumI l k n) :=
  (isI_sum _ _ (fun i => md (l.getD i 0)) (fun i => md (k.getD i 0)) (sumI l k) rfl n hn (fun i _ => rfl) (fun i hi => by show isI ((flI l n).getD i 0) _; rw [flI_at l hi]; exact isI_md _) (fun i hi => by show isI ((flI k n).getD i 0) _; rw [flI_at k hi]; exact isI_md _) (fun i _ => by have := md_mul (l.getD i 0) (k.getD i 0); omega)).1
theorem dot_back (l k : List Int) (n : Nat) (hn : n ≤ 40) : isI (sumG (atL (rvI l n n)) (atL (rvI k n n)) 0 n) (sumI l k n) := by
  have h := (isI_sum (atL (rvI l n n)) (atL (rvI k n n)) (fun i => md (l.getD (n - 1 - i) 0)) (fun i => md (k.getD (n - 1 - i) 0)) (sumR l k n) (by simp [sumR]) n hn (fun i hi => by
    unfold sumR
    have e : n - i = (n - 1 - i) + 1 := by omega
    have e2 : n - (i + 1) = n - 1 - i := by omega
    rw [e2, e, sumI]
    omega) (fun i hi => by show isI ((rvI l n n).getD i 0) _; rw [rvI_at l n hi]; exact isI_md _) (fun i hi => by show isI ((rvI k n n).getD i 0) _; rw [rvI_at k n hi]; exact isI_md _) (fun i _ => by have := md_mul (l.getD (n - 1 - i) 0) (k.getD (n - 1 - i) 0); omega)).1
  have e : sumR l k n n = sumI l k n := by unfold sumR; rw [Nat.sub_self]; simp [sumI]
  rw [e] at h
  exact h

set_option maxHeartbeats 16000000 in
theorem means8_core (w : World) (r c : Int) (am ax al ak : Option Addr) (zm zx : List Nat) (l k : List Int) (pm px pl pk : Nat) (q : Bool) (hq : q = false → ∃ r' c' : Nat, r = r' ∧ c = c' ∧ MatP w r' c' am zm pm) (hX : Cel w ax zx) (hWx : Words zx) (hlx : zx.length ≤ maxLen) (hL : I32 w al l) (hK : I32 w ak k) (hbl : ∀ z ∈ l, -2147483648 ≤ z ∧ z ≤ 2147483647) (hbk : ∀ z ∈ k, -2147483648 ≤ z ∧ z ≤ 2147483647) (hll : l.length ≤ maxLen) (hlk : k.length ≤ maxLen)
    (Bm : ∀ W, Calls Try.prog 15 #[.agg #[.int .i64 r, .int .i64 c, .slice am zm.length pm]] W fun e w' => e = .returned (.bool q) ∧ Below W.heap.size W w') :
    Calls Try.prog 7 #[.agg #[.int .i64 r, .int .i64 c, .slice am zm.length pm], .slice ax zx.length px, .slice al l.length pl, .slice ak k.length pk] w fun e w' => e = .returned (.bool true) ∧ Below w.heap.size w w' := by
  have HBm := Lib.hid (Bm)
  have HQ := Lib.hid (hq)
  have HX := Lib.hid (And.intro hX hWx)
  have HL := Lib.hid (hL)
  have HK := Lib.hid (hK)
  have HBl := Lib.hid (And.intro hbl hbk)
  have HLn := Lib.hid (And.intro hll hlk)
  have HLx := Lib.hid (hlx)
  clear Bm hq hX hWx hL hK hbl hbk hll hlk hlx
  obtain ⟨W0, hW0⟩ : ∃ W0, W0 = (w.alloc (.cells #[.int .i64 r, .int .i64 c, .slice am zm.length pm] 24)) := ⟨_, rfl⟩
  have hB0 : Below w.heap.size w W0 := hW0 ▸ (Below.refl _ _).alloc (Nat.le_refl _) _
  have x0 : Box W0 w.heap.size [.int .i64 r, .int .i64 c, .slice am zm.length pm] := hW0 ▸ (Box.newA w [.int .i64 r, .int .i64 c, .slice am zm.length pm] _ rfl)
  have S0 := Lib.hid (show BoxS w W0 [(w.heap.size, [.int .i64 r, .int .i64 c, .slice am zm.length pm])] from ⟨fun p hp => by
    simp only [List.mem_cons, List.not_mem_nil, or_false] at hp
    subst hp
    exact x0
    , hB0⟩)
  clear hB0 x0
  go_enter Try.func7, Try.ntmps7
  go_upto_region 1 with (fail)
  rw [← hW0]
  clear hW0
  go_wp2_with fail
  refine (known08_any _).mono ?_
  rintro e w1 ⟨rfl, hb⟩
  have S1 := Lib.hid (S0.out.step hb)
  clear hb S0
  dsimp only
  go_upto_region 3 with (fail)
  go_cut [37] from 28 to 36 (fun s37 wx => BoxS w wx [(w.heap.size, [.int .i64 r, .int .i64 c, .slice am zm.length pm])] ∧ ∃ b : Bool, s37 = .bool b ∧ (b = true → q = false ∧ (zx.length : Int) = c))
  case first =>
    obtain ⟨f01, f02, f03⟩ := (S1.out.get 0 rfl).facts
    go_wp2_with fail
    refine (HBm.out _).mono ?_
    rintro e w2 ⟨rfl, hb⟩
    have S2 := Lib.hid (S1.out.step hb)
    clear hb f01 f02 f03
    dsimp only
    cases q
    case true =>
      go_wp2_with fail
      go_meet
      case rel => exact ⟨S2.out, false, rfl, fun h => by cases h⟩
    case false =>
      obtain ⟨f01, f02, f03⟩ := (S2.out.get 0 rfl).facts
      go_wp2_with fail
      go_meet
      case rel => exact ⟨S2.out, ((zx.length : Int) == c), rfl, fun h => ⟨by first | rfl | trivial, by simpa using h⟩⟩
  case rest =>
    obtain ⟨hS, b, rfl, hbq⟩ := hcut
    have S3 := Lib.hid hS
    have HBQ := Lib.hid hbq
    clear hS hbq S1 HBm
    go_upto_if 37 with (fail)
    go_cut [9, 10, 11, 12] from 38 to 69 (fun s9 s10 s11 s12 wx => Below w.heap.size w wx)
    case first =>
      cases b
      case false =>
        go_wp2_with fail
        go_meet
        case rel => exact S3.out.below
      case true =>
        obtain ⟨hq2, hc2⟩ := HBQ.out rfl
        obtain ⟨r', c', rfl, rfl, hM⟩ := HQ.out hq2
        have hzc : zx.length = c' := by omega
        have HM := Lib.hid hM
        have HZC := Lib.hid hzc
        clear hq2 hc2 hM hzc HBQ HQ
        go_upto_region 4 with (fail)
        go_cut [9, 10] from 38 to 45 (fun s9 s10 wx => ∃ k8 k9 st3 st7 sb3 sb7 : Nat, s9 = .pointer (some ⟨k8, 0, none⟩) ∧ s10 = .pointer (some ⟨k9, 0, none⟩) ∧ AhW w wx [(w.heap.size, [.int .i64 r', .int .i64 c', .slice am zm.length pm]), (k8, [.pointer (newV st3 r' 1).p, .int .i64 (newV st3 r' 1).r, .int .i64 (newV st3 r' 1).c, .int .i64 (newV st3 r' 1).o, .int .i64 (newV st3 r' 1).d, .int .i64 (newV st3 r' 1).u]), (k9, [.pointer (newV st7 r' 1).p, .int .i64 (newV st7 r' 1).r, .int .i64 (newV st7 r' 1).c, .int .i64 (newV st7 r' 1).o, .int .i64 (newV st7 r' 1).d, .int .i64 (newV st7 r' 1).u])] [(newV st3 r' 1, sb3, List.replicate r' 0), (newV st7 r' 1, sb7, List.replicate r' 0)] [])
        case first =>
          have hdr : Below wc.heap.size wc wc.drew := below_drewN 1 (Below.refl _ wc)
          have S4 := Lib.hid (S3.out.step hdr)
          clear hdr S3
          obtain ⟨D, hD⟩ : ∃ D, D = wc.drew := ⟨_, rfl⟩
          rw [← hD] at S4
          obtain ⟨J, hJ⟩ : ∃ J : List Nat → List Nat → Act → World → Prop, J = (fun rc pd A W => ∃ (s : Nat → Value) (K0 K1 : Nat → Nat), FamJ D W (MnF r') [2, 3, 6, 7, 8, 9] rc pd s K0 K1 ∧ Box W w.heap.size [.int .i64 r', .int .i64 c', .slice am zm.length pm] ∧ A = { tmps := #[.agg #[.int .i64 r', .int .i64 c', .slice am zm.length pm], .slice ax zx.length px, .slice al l.length pl, .slice ak k.length pk, .pointer (some ⟨w.heap.size, 0, none⟩), undef, undef, undef, .bool false, s 8, s 9, undef, undef, undef, undef, undef, undef, undef, undef, undef, undef, undef, undef, undef, undef, undef, .bool true, .bool false, u28, u29, u30, u31, u32, u33, u34, u35, u36, .bool true, .pointer (some ⟨w.heap.size, 0, none⟩), .int .i64 r', s 2, s 3, .pointer (some ⟨w.heap.size, 0, none⟩), .int .i64 r', s 6, s 7, undef, undef, undef, undef, undef, undef, undef, undef, undef, undef, undef, undef, undef, undef, undef, undef, undef, undef, undef, undef, undef, undef, undef, undef, undef, undef, undef, undef, undef, undef, undef, undef, undef, undef, undef, undef, undef, undef, undef, undef, undef, undef, undef, undef, undef, undef, undef, undef, undef, undef, undef, undef, undef, undef, undef, undef, undef, undef, undef, undef, undef, undef, undef, undef, undef, undef, undef, undef, undef, undef, undef, undef, undef, undef, undef, undef, undef, undef, undef, undef, undef, undef, undef, undef, undef, undef, undef, undef, undef, undef, undef, undef, undef, undef, undef, undef, undef, undef, undef, undef, undef, undef, undef, undef, undef, undef, undef, undef, undef, undef, undef, undef, undef, undef, undef, undef, undef, undef, undef, undef, undef, undef], defers := [] }) := ⟨_, rfl⟩
          have HJ := Lib.hid hJ
          clear hJ
          have hmk := make_n r' HM.out.hr
          refine wp_region_invN 10 [(true, 0), (true, 1), (true, 4), (true, 5)] [2, 3, 7] [6, 8, 9] [(7, 6)] (fun W => (∀ i, W.cell? ⟨w.heap.size, i, none⟩ = ([.int .i64 r', .int .i64 c', .slice am zm.length pm] : List Value)[i]?) ∧ Box W w.heap.size [.int .i64 r', .int .i64 c', .slice am zm.length pm]) J (by kernel_rfl) (by kernel_rfl) (hD ▸ ⟨(S4.out.get 0 rfl).cell, S4.out.get 0 rfl⟩) ?_ ?_ ?_ ?_
          · skip
            iterate 4 (refine iW_take (v := ?_) rfl rfl ?_ ?_; rotate_left; (next => (intro w' hSw; (try dsimp only at hSw); go_simp; (try (rw [if_pos (by omega)]; go_simp)); (try with_reducible rfl))); (simp only [Act.put, List.setIfInBounds_toArray, List.set_cons_zero, List.set_cons_succ]))
            refine iW_nil ?_
            rw [HJ.out, ← hD]
            exact ⟨fun _ => undef, fun _ => 0, fun _ => 0, FamJ.start D _ (by decide) _ _ _, S4.out.get 0 rfl, rfl⟩
          · intro c rc pd A W hsuf hsub hwt hSW hJ'
            rw [HJ.out] at hJ'
            obtain ⟨s, K0, K1, hA, _, rfl⟩ := hJ'
            have HA := Lib.hid hA
            have HBx := Lib.hid hSW.2
            have HCP := Lib.hid (show ∀ x ∈ [2, 3, 7], x ∉ pd from fun x hx h => absurd ((subsL_sub _ _ hsub).subset h) (by clear h; revert x; decide))
            have HWT := Lib.hid hwt
            simp only [sufs, List.mem_cons, List.cons.injEq, List.not_mem_nil, or_false, reduceCtorEq] at hsuf
            clear hA hSW hsub hwt
            rcases hsuf with ⟨rfl, rfl⟩ | ⟨rfl, rfl⟩ | ⟨rfl, rfl⟩
            · refine opW_take rfl rfl ?_
              go_simp
              have hb : Below W.heap.size W (W.alloc (.cells (List.replicate r' (Value.float .f64 0)).toArray 31)) := (Below.refl _ _).alloc (Nat.le_refl _) _
              have hz : Box (W.alloc (.cells (List.replicate r' (Value.float .f64 0)).toArray 31)) W.heap.size ((List.replicate r' 0).map (Value.float .f64)) := by rw [List.map_replicate]; exact Box.newA W (List.replicate r' (Value.float .f64 0)) _ rfl
              refine ⟨⟨(HBx.out.below hb).cell, HBx.out.below hb⟩, ?_⟩
              rw [HJ.out]
              exact ⟨_, _, _, HA.out.step (MnF.below r') (fun i _ e h1 h2 => ⟨fun h => (List.mem_cons.1 h).elim e h1, h2⟩) (c := 2) (v := .slice (some ⟨W.heap.size, 0, none⟩) r' r') (Nat.le_refl _) (Nat.le_refl _) (by simp) (by simp) (by unfold MnF; rw [if_pos (by simp)]; exact ⟨rfl, hz, rfl⟩) hb, HBx.out.below hb, rfl⟩
            · refine opW_take rfl rfl ?_
              have f2 : MnF r' 2 W (s 2) (K0 2) (K1 2) := HA.out.fact 2 (by simp) (by simp) (HCP.out 2 (by simp))
              unfold MnF at f2
              rw [if_pos (by simp)] at f2
              obtain ⟨e2, z2, _⟩ := f2
              rw [e2]
              have HZ2 := Lib.hid z2
              have HE2 := Lib.hid e2
              clear z2 e2
              go_simp
              refine (vec_n _ (some ⟨K0 2, 0, none⟩) (List.replicate r' 0) r' r' (Cel.ofBox HZ2.out) (by simp) HM.out.hr).mono ?_
              rintro e W' ⟨st, sb, rfl, k1, k2, hS, hb⟩
              refine ⟨⟨(HBx.out.below hb).cell, HBx.out.below hb⟩, ?_⟩
              rw [HJ.out]
              have A1 := HA.out.step (MnF.below r') (rc' := _) (pd' := pd) (fun i _ e h1 h2 => ⟨fun h => (List.mem_cons.1 h).elim e h1, h2⟩) (c := 3) (v := (newV st r' 1).val) k1 k2 (sto_lts hS).1 (sto_lts hS).2 (by unfold MnF; rw [if_neg (by simp), if_pos (by simp)]; exact ⟨rfl, hS⟩) hb
              refine ⟨_, _, _, A1, HBx.out.below hb, ?_⟩
              rw [show upd s 3 (newV st r' 1).val 2 = Value.slice (some ⟨K0 2, 0, none⟩) r' r' from HE2.out]
              rfl
            · refine opW_take rfl rfl ?_
              have f2 : MnF r' 6 W (s 6) (K0 6) (K1 6) := HA.out.fact 6 (by simp) (by simp) (fun h => by have := HWT.out; simp [waitB, h] at this)
              unfold MnF at f2
              rw [if_pos (by simp)] at f2
              obtain ⟨e2, z2, _⟩ := f2
              rw [e2]
              have HZ2 := Lib.hid z2
              have HE2 := Lib.hid e2
              clear z2 e2
              go_simp
              refine (vec_n _ (some ⟨K0 6, 0, none⟩) (List.replicate r' 0) r' r' (Cel.ofBox HZ2.out) (by simp) HM.out.hr).mono ?_
              rintro e W' ⟨st, sb, rfl, k1, k2, hS, hb⟩
              refine ⟨⟨(HBx.out.below hb).cell, HBx.out.below hb⟩, ?_⟩
              rw [HJ.out]
              have A1 := HA.out.step (MnF.below r') (rc' := _) (pd' := pd) (fun i _ e h1 h2 => ⟨fun h => (List.mem_cons.1 h).elim e h1, h2⟩) (c := 7) (v := (newV st r' 1).val) k1 k2 (sto_lts hS).1 (sto_lts hS).2 (by unfold MnF; rw [if_neg (by simp), if_pos (by simp)]; exact ⟨rfl, hS⟩) hb
              refine ⟨_, _, _, A1, HBx.out.below hb, ?_⟩
              rw [show upd s 7 (newV st r' 1).val 6 = Value.slice (some ⟨K0 6, 0, none⟩) r' r' from HE2.out]
              rfl
          · intro q rc pd A W hsuf hsub hq hSW hJ'
            rw [HJ.out] at hJ'
            obtain ⟨s, K0, K1, hA, _, rfl⟩ := hJ'
            have HA := Lib.hid hA
            have HBx := Lib.hid hSW.2
            have hq8 := (subsL_sub _ _ hsub).subset hq
            have hq8 := (subsL_sub _ _ hsub).subset hq
            clear hA hSW hsuf hsub hq
            simp only [List.mem_cons, List.not_mem_nil, or_false] at hq8
            rcases hq8 with rfl | rfl | rfl
            · refine opW_take rfl rfl ?_
              go_simp
              have hb : Below W.heap.size W (W.alloc (.cells (List.replicate r' (Value.float .f64 0)).toArray 31)) := (Below.refl _ _).alloc (Nat.le_refl _) _
              have hz : Box (W.alloc (.cells (List.replicate r' (Value.float .f64 0)).toArray 31)) W.heap.size ((List.replicate r' 0).map (Value.float .f64)) := by rw [List.map_replicate]; exact Box.newA W (List.replicate r' (Value.float .f64 0)) _ rfl
              refine ⟨⟨(HBx.out.below hb).cell, HBx.out.below hb⟩, ?_⟩
              rw [HJ.out]
              exact ⟨_, _, _, HA.out.step (MnF.below r') (fun i _ e h1 h2 => ⟨h1, fun h => h2 ((List.mem_erase_of_ne e).2 h)⟩) (c := 6) (v := .slice (some ⟨W.heap.size, 0, none⟩) r' r') (Nat.le_refl _) (Nat.le_refl _) (by simp) (by simp) (by unfold MnF; rw [if_pos (by simp)]; exact ⟨rfl, hz, rfl⟩) hb, HBx.out.below hb, rfl⟩
            · refine opW_take rfl rfl ?_
              go_simp
              have hb : Below W.heap.size W (W.alloc (.cells #[.pointer none, .int .i64 0, .int .i64 0, .int .i64 0, .int .i64 0, .int .i64 0] 29)) := (Below.refl _ _).alloc (Nat.le_refl _) _
              have hz : Box (W.alloc (.cells #[.pointer none, .int .i64 0, .int .i64 0, .int .i64 0, .int .i64 0, .int .i64 0] 29)) W.heap.size [.pointer none, .int .i64 0, .int .i64 0, .int .i64 0, .int .i64 0, .int .i64 0] := Box.newA W [.pointer none, .int .i64 0, .int .i64 0, .int .i64 0, .int .i64 0, .int .i64 0] _ rfl
              refine ⟨⟨(HBx.out.below hb).cell, HBx.out.below hb⟩, ?_⟩
              rw [HJ.out]
              exact ⟨_, _, _, HA.out.step (MnF.below r') (fun i _ e h1 h2 => ⟨h1, fun h => h2 ((List.mem_erase_of_ne e).2 h)⟩) (c := 8) (v := .pointer (some ⟨W.heap.size, 0, none⟩)) (Nat.le_refl _) (Nat.le_refl _) (by simp) (by simp) (by unfold MnF; rw [if_neg (by simp), if_neg (by simp)]; exact ⟨rfl, hz, rfl⟩) hb, HBx.out.below hb, rfl⟩
            · refine opW_take rfl rfl ?_
              go_simp
              have hb : Below W.heap.size W (W.alloc (.cells #[.pointer none, .int .i64 0, .int .i64 0, .int .i64 0, .int .i64 0, .int .i64 0] 29)) := (Below.refl _ _).alloc (Nat.le_refl _) _
              have hz : Box (W.alloc (.cells #[.pointer none, .int .i64 0, .int .i64 0, .int .i64 0, .int .i64 0, .int .i64 0] 29)) W.heap.size [.pointer none, .int .i64 0, .int .i64 0, .int .i64 0, .int .i64 0, .int .i64 0] := Box.newA W [.pointer none, .int .i64 0, .int .i64 0, .int .i64 0, .int .i64 0, .int .i64 0] _ rfl
              refine ⟨⟨(HBx.out.below hb).cell, HBx.out.below hb⟩, ?_⟩
              rw [HJ.out]
              exact ⟨_, _, _, HA.out.step (MnF.below r') (fun i _ e h1 h2 => ⟨h1, fun h => h2 ((List.mem_erase_of_ne e).2 h)⟩) (c := 9) (v := .pointer (some ⟨W.heap.size, 0, none⟩)) (Nat.le_refl _) (Nat.le_refl _) (by simp) (by simp) (by unfold MnF; rw [if_neg (by simp), if_neg (by simp)]; exact ⟨rfl, hz, rfl⟩) hb, HBx.out.below hb, rfl⟩
          · intro A W hJ'
            rw [HJ.out] at hJ'
            obtain ⟨s, K0, K1, hA, x0, rfl⟩ := hJ'
            have HD := Lib.hid (MnF.done HM.out.hr hA S4.out.below (S4.out.get 0 rfl).lt x0)
            have f3 : MnF r' 3 W (s 3) (K0 3) (K1 3) := hA.fact 3 (by simp) (by simp) (by simp)
            unfold MnF at f3
            rw [if_neg (by simp), if_pos (by simp)] at f3
            have f7 : MnF r' 7 W (s 7) (K0 7) (K1 7) := hA.fact 7 (by simp) (by simp) (by simp)
            unfold MnF at f7
            rw [if_neg (by simp), if_pos (by simp)] at f7
            have f8 : MnF r' 8 W (s 8) (K0 8) (K1 8) := hA.fact 8 (by simp) (by simp) (by simp)
            unfold MnF at f8
            rw [if_neg (by simp), if_neg (by simp)] at f8
            have f9 : MnF r' 9 W (s 9) (K0 9) (K1 9) := hA.fact 9 (by simp) (by simp) (by simp)
            unfold MnF at f9
            rw [if_neg (by simp), if_neg (by simp)] at f9
            have n89 := (hA.ne 8 (by simp) 9 (by simp) (by simp) (by simp) (by simp) (by simp) (by decide)).1
            have n98 := fun h => n89 (Eq.symm h)
            rw [f3.1, f7.1, f8.1, f9.1]
            obtain ⟨c8, d8, g8⟩ := f8.2.1.facts
            obtain ⟨c9, d9, g9⟩ := f9.2.1.facts
            clear f3 f7 f8 f9 hA x0 hmk
            obtain ⟨V3, hV3⟩ : ∃ V, V = newV (K0 3) r' 1 := ⟨_, rfl⟩
            obtain ⟨V7, hV7⟩ : ∃ V, V = newV (K0 7) r' 1 := ⟨_, rfl⟩
            rw [← hV3, ← hV7] at HD ⊢
            have HV := Lib.hid (And.intro hV3 hV7)
            clear hV3 hV7
            unfold Vw.val
            go_simp
            go_wp2
            refine NoPanic.normal ?_
            go_wp2_with fail
            go_meet
            case rel => exact ⟨K0 8, K0 9, K0 3, K0 7, K1 3, K1 7, rfl, rfl, by rw [← HV.out.1, ← HV.out.2]; exact HD.out⟩
        case rest =>
          obtain ⟨k8, k9, st3, st7, sb3, sb7, rfl, rfl, hA⟩ := hcut
          clear S3
          have P3 := Lib.hid (newV_of (st := st3) (zeros_words r') HM.out.hr (show 1 ≤ 512 by decide) (show (List.replicate r' 0).length = r' * 1 by simp))
          have P7 := Lib.hid (newV_of (st := st7) (zeros_words r') HM.out.hr (show 1 ≤ 512 by decide) (show (List.replicate r' 0).length = r' * 1 by simp))
          have I3 := Lib.hid (show OfI (newV st3 r' 1) r' 1 from ofV_i false st3 r' 1)
          have I7 := Lib.hid (show OfI (newV st7 r' 1) r' 1 from ofV_i false st7 r' 1)
          generalize newV st3 r' 1 = V3 at *
          generalize newV st7 r' 1 = V7 at *
          have T0 := Lib.hid hA
          clear hA
          go_upto_region 5 with (fail)
          have hdr : Below wc.heap.size wc wc.drew := below_drewN 1 (Below.refl _ wc)
          have T1 := Lib.hid (T0.out.step hdr)
          clear hdr
          refine wp_region_items 12 [(true, 0), (true, 2), (true, 4), (true, 6), (true, 8), (true, 10), (false, 1), (false, 3), (false, 5), (false, 7), (false, 9), (false, 11)] (fun W => (∀ i, W.cell? ⟨w.heap.size, i, none⟩ = ([.int .i64 r', .int .i64 c', .slice am zm.length pm] : List Value)[i]?) ∧ (∀ i, W.cell? ⟨k8, i, none⟩ = ([.pointer V3.p, .int .i64 V3.r, .int .i64 V3.c, .int .i64 V3.o, .int .i64 V3.d, .int .i64 V3.u] : List Value)[i]?) ∧ (∀ i, W.cell? ⟨k9, i, none⟩ = ([.pointer V7.p, .int .i64 V7.r, .int .i64 V7.c, .int .i64 V7.o, .int .i64 V7.d, .int .i64 V7.u] : List Value)[i]?)) (by kernel_rfl) (by kernel_rfl) ⟨(T1.out.get 0 rfl).cell, (T1.out.get 1 rfl).cell, (T1.out.get 2 rfl).cell⟩ ?_
          generalize wc.drew = y0 at *
          iterate 6 (refine iW_take (v := ?_) rfl rfl ?_ ?_; rotate_left; (next => (intro w' hSw; (try dsimp only at hSw); go_simp; (try (rw [if_pos (by omega)]; go_simp)); (try with_reducible rfl))); (simp only [Act.put, List.setIfInBounds_toArray, List.set_cons_zero, List.set_cons_succ]))
          refine iW_mid rfl rfl ?_
          go_simp
          refine (HM.out.of false _ T1.out.below).mono ?_
          rintro e y2 ⟨⟨va, sta, sba, wsa, rfl, k1, k2, hSt, hP, hI, hl⟩, hb⟩
          have Oa := Lib.hid (hP.ok _ _ hSt)
          have Qa := Lib.hid hP
          have T2 := Lib.hid (T1.out.step hb)
          refine ⟨⟨(T2.out.get 0 rfl).cell, (T2.out.get 1 rfl).cell, (T2.out.get 2 rfl).cell⟩, ?_⟩
          clear hb k1 k2 hSt hP hI hl
          refine iW_mid rfl rfl ?_
          go_simp
          refine (vec_any _ ax zx px (cel_below9 HX.out.1 T2.out.below) (by rw [HZC.out]; exact HM.out.hc)).mono ?_
          rintro e y3 ⟨stb, sbb, rfl, k1, k2, hS, hb⟩
          have Ub := Lib.hid hS
          have Oa := Lib.hid (Oa.out.below hb)
          have T3 := Lib.hid (T2.out.step hb)
          refine ⟨⟨(T3.out.get 0 rfl).cell, (T3.out.get 1 rfl).cell, (T3.out.get 2 rfl).cell⟩, ?_⟩
          clear hb k1 k2 hS
          refine iW_mid rfl rfl ?_
          go_simp
          refine (Gemv_any _ 4607182418800017408 0 va (newV stb zx.length 1) V3 sba sbb sb3 wsa zx (List.replicate r' 0) Oa.out ((newV_of (st := stb) HX.out.2 (show zx.length ≤ 512 by rw [HZC.out]; exact HM.out.hc) (show 1 ≤ 512 by decide) (show zx.length = zx.length * 1 by rw [Nat.mul_one])).ok _ _ Ub.out) (T3.out.vw 0 rfl).1 Qa.out.words HX.out.2 (zeros_words r')).mono ?_
          rintro e y4 ⟨he, m3, hok, hR, hW, hb⟩
          rw [gemv_code Qa.out (newV_of (st := stb) HX.out.2 (show zx.length ≤ 512 by rw [HZC.out]; exact HM.out.hc) (show 1 ≤ 512 by decide) (show zx.length = zx.length * 1 by rw [Nat.mul_one])) P3.out (show zx.length = zx.length * 1 by rw [Nat.mul_one]) (show (List.replicate r' 0).length = r' * 1 by simp), (show fitGv c' r' zx.length 1 r' 1 zx.length (List.replicate r' 0).length = true by unfold fitGv vec8; rw [HZC.out]; simp), if_pos rfl] at he
          obtain rfl := he
          have R3 := Lib.hid (gemv_good Qa.out (newV_of (st := stb) HX.out.2 (show zx.length ≤ 512 by rw [HZC.out]; exact HM.out.hc) (show 1 ≤ 512 by decide) (show zx.length = zx.length * 1 by rw [Nat.mul_one])) P3.out I3.out (show (List.replicate r' 0).length = r' * 1 by simp) (show zx.length = zx.length * 1 by rw [Nat.mul_one]) (show (List.replicate r' 0).length = r' * 1 by simp) (show fitGv c' r' zx.length 1 r' 1 zx.length (List.replicate r' 0).length = true by unfold fitGv vec8; rw [HZC.out]; simp) hR)
          have T4 := Lib.hid (AhW.put (ls := []) T3.out hok hW hb)
          refine ⟨⟨(T4.out.get 0 rfl).cell, (T4.out.get 1 rfl).cell, (T4.out.get 2 rfl).cell⟩, ?_⟩
          clear hok hR hW hb
          refine iW_mid rfl rfl ?_
          go_simp
          refine (HM.out.of false _ T4.out.below).mono ?_
          rintro e y5 ⟨⟨vc, stc, sbc, wsc, rfl, k1, k2, hSt, hP, hI, hl⟩, hb⟩
          have Oc := Lib.hid (hP.ok _ _ hSt)
          have Qc := Lib.hid hP
          have T5 := Lib.hid (T4.out.step hb)
          refine ⟨⟨(T5.out.get 0 rfl).cell, (T5.out.get 1 rfl).cell, (T5.out.get 2 rfl).cell⟩, ?_⟩
          clear hb k1 k2 hSt hP hI hl
          refine iW_mid rfl rfl ?_
          go_simp
          refine (vec_any _ ax zx px (cel_below9 HX.out.1 T5.out.below) (by rw [HZC.out]; exact HM.out.hc)).mono ?_
          rintro e y6 ⟨std, sbd, rfl, k1, k2, hS, hb⟩
          have Ud := Lib.hid hS
          have Oc := Lib.hid (Oc.out.below hb)
          have T6 := Lib.hid (T5.out.step hb)
          refine ⟨⟨(T6.out.get 0 rfl).cell, (T6.out.get 1 rfl).cell, (T6.out.get 2 rfl).cell⟩, ?_⟩
          clear hb k1 k2 hS
          refine iW_mid rfl rfl ?_
          go_simp
          refine (Gemm_any _ 4607182418800017408 0 vc (newV std zx.length 1) V7 sbc sbd sb7 wsc zx (List.replicate r' 0) Oc.out ((newV_of (st := std) HX.out.2 (show zx.length ≤ 512 by rw [HZC.out]; exact HM.out.hc) (show 1 ≤ 512 by decide) (show zx.length = zx.length * 1 by rw [Nat.mul_one])).ok _ _ Ud.out) (T6.out.vw 1 rfl).1 Qc.out.words HX.out.2 (zeros_words r')).mono ?_
          rintro e y7 ⟨he, m7, hok, hR, hW, hb⟩
          rw [gemm_code Qc.out (newV_of (st := std) HX.out.2 (show zx.length ≤ 512 by rw [HZC.out]; exact HM.out.hc) (show 1 ≤ 512 by decide) (show zx.length = zx.length * 1 by rw [Nat.mul_one])) P7.out, (show fitGm c' zx.length r' r' 1 1 = true by rw [HZC.out]; simp [fitGm]), if_pos rfl] at he
          obtain rfl := he
          have R7 := Lib.hid (gemm_good Qc.out (newV_of (st := std) HX.out.2 (show zx.length ≤ 512 by rw [HZC.out]; exact HM.out.hc) (show 1 ≤ 512 by decide) (show zx.length = zx.length * 1 by rw [Nat.mul_one])) P7.out I7.out (show (List.replicate r' 0).length = r' * 1 by simp) (show (List.replicate r' 0).length = r' * 1 by simp) (show fitGm c' zx.length r' r' 1 1 = true by rw [HZC.out]; simp [fitGm]) hR)
          have T7 := Lib.hid (AhW.put (ls := [(V3, sb3, m3)]) T6.out hok hW hb)
          refine ⟨⟨(T7.out.get 0 rfl).cell, (T7.out.get 1 rfl).cell, (T7.out.get 2 rfl).cell⟩, ?_⟩
          clear hok hR hW hb
          refine iW_nil ?_
          go_simp
          go_wp2_with fail
          refine NoPanic.normal ?_
          have HSame := Lib.hid (same_means P3.out P7.out HM.out.hn HZC.out R3.out (by rw [HZC.out] at R7; exact R7.out))
          go_upto_region 6 with (fail)
          go_wp2_with fail
          refine (num8_any 0 _).mono ?_
          rintro e w' ⟨rfl, rfl⟩
          dsimp only
          go_wp2_with fail
          refine (num8_any 0 _).mono ?_
          rintro e w' ⟨rfl, rfl⟩
          dsimp only
          obtain ⟨f11, f12, f13⟩ := (T7.out.get 1 rfl).facts
          obtain ⟨f21, f22, f23⟩ := (T7.out.get 2 rfl).facts
          go_wp2_with fail
          refine (Same_any _ V3 V7 sb3 sb7 m3 m7 (T7.out.vw 0 rfl).1 (T7.out.vw 1 rfl).1).mono ?_
          rintro e w9 ⟨rfl, hb⟩
          rw [HSame.out]
          have T9 := Lib.hid (T7.out.step hb)
          clear hb f11 f12 f13 f21 f22 f23
          dsimp only
          go_wp2_with fail
          go_meet
          case rel => exact T9.out.below
    case rest =>
      have HW := Lib.hid hcut
      clear hcut S3 HBQ HQ HX
      by_cases hn : l.length ≤ 40 ∧ k.length = l.length
      case neg =>
        have hz := HLn.out
        unfold maxLen at hz
        by_cases h40 : l.length ≤ 40
        · have h2 : k.length ≠ l.length := fun h => hn ⟨h40, h⟩
          have h3 : ((k.length : Int) != (l.length : Int)) = true := by simp; omega
          clear hn hz h2
          go_wp2_with fail
          go_ret
          exact ⟨rfl, HW.out⟩
        · clear hn hz
          go_wp2_with fail
          go_ret
          exact ⟨rfl, HW.out⟩
      case pos =>
        obtain ⟨h40, hkl⟩ := hn
        obtain ⟨n, hn⟩ : ∃ n, l.length = n := ⟨_, rfl⟩
        have hkn : k.length = n := hkl.trans hn
        rw [hn] at h40
        simp only [hn, hkn]
        have HN := Lib.hid (And.intro hn hkn)
        clear hn hkn hkl
        have h41 : ¬ (40 : Int) < (n : Int) := by omega
        go_upto_region 12 with (fail)
        have H40 := Lib.hid h40
        go_wp2_with fail
        go_loopw [13, 14, 17, 18] (fun sa sb ss si wr => ∃ i : Nat, i ≤ n ∧ si = .int .i64 i ∧ ss = .int .i64 (sumI l k i) ∧ Two wr w.heap.size sa sb (flI l i) (flI k i) ∧ Below w.heap.size w wr) (fun _ _ _ si _ => n - (intOf si).toNat)
        case atStart => exact ⟨0, Nat.zero_le _, rfl, rfl, Two.nil _ _, HW.out⟩
        case round =>
          obtain ⟨i, hi, rfl, rfl, hT, hB⟩ := hrel
          have T1 := Lib.hid hT
          have B1 := Lib.hid hB
          clear hT hB
          by_cases hin : i < n
          case pos =>
            have HI := Lib.hid hin
            go_upto_region 15 with (fail)
            have hdr : Below wr.heap.size wr wr.drew := below_drewN 1 (Below.refl _ wr)
            have T2 := Lib.hid (T1.out.below hdr)
            have B2 := Lib.hid (below_step B1.out B1.out.size hdr)
            clear T1 B1 hdr
            obtain ⟨lb, lo, hle, hlc⟩ := (HL.out.below B2.out).at (i := i) (by rw [HN.out.1]; exact hin)
            obtain ⟨kb, ko, hke, hkc⟩ := (HK.out.below B2.out).at (i := i) (by rw [HN.out.2]; exact hin)
            subst hle hke
            obtain ⟨zl, hzl⟩ : ∃ z, z = l.getD i 0 := ⟨_, rfl⟩
            obtain ⟨zk, hzk⟩ : ∃ z, z = k.getD i 0 := ⟨_, rfl⟩
            rw [← hzl] at hlc
            rw [← hzk] at hkc
            have HZ := Lib.hid (And.intro hzl hzk)
            clear hzl hzk
            refine wp_region_items 13 [(true, 0), (true, 1), (true, 2), (true, 3), (true, 4), (true, 6), (true, 7), (true, 8), (true, 9), (true, 10), (true, 5), (true, 11), (true, 12)] (fun W => W.cell? ⟨lb, lo + i, none⟩ = some (.int .i32 zl) ∧ W.cell? ⟨kb, ko + i, none⟩ = some (.int .i32 zk)) (by kernel_rfl) (by kernel_rfl) ⟨hlc, hkc⟩ ?_
            clear hlc hkc
            generalize wr.drew = w2 at *
            have hw1 : IntKind.i64.wrap (zl.tmod 1048576) = md zl := by show IntKind.i64.wrap (md zl) = md zl; have := md_le zl; rw [IntKind.wrap_i64]; omega
            have hw2 : IntKind.i64.wrap (zk.tmod 1048576) = md zk := by show IntKind.i64.wrap (md zk) = md zk; have := md_le zk; rw [IntKind.wrap_i64]; omega
            iterate 13 (refine iW_take (v := ?_) rfl rfl ?_ ?_; rotate_left; (next => (intro w' hSw; (try dsimp only at hSw); go_simp; (try (rw [if_pos (by omega)]; go_simp)); (try with_reducible rfl))); (simp only [Act.put, List.setIfInBounds_toArray, List.set_cons_zero, List.set_cons_succ]))
            refine iW_nil ?_
            go_simp
            go_wp2_with fail
            refine NoPanic.normal ?_
            clear hw1 hw2
            go_upto_region 16 with (fail)
            have HM := Lib.hid (show sumI l k (i + 1) = sumI l k i + md zl * md zk by rw [sumI, ← HZ.out.1, ← HZ.out.2])
            have hm := md_mul zl zk
            have hs := sumI_le l k i
            have h40 := H40.out
            obtain ⟨Z, hZ⟩ : ∃ Z, Z = md zl * md zk := ⟨_, rfl⟩
            rw [← hZ] at HM hm
            have w1 : wrap64 (md zl * md zk) = Z := by rw [← hZ]; unfold wrap64; omega
            clear hZ
            have w2' : wrap64 (sumI l k i + Z) = sumI l k i + Z := by unfold wrap64; omega
            clear hm hs
            go_wp2_with (first | (at_builtin; refine wpList_append_two rfl _ _ rfl w.heap.size _ _ (flI l i) (flI k i) rfl T2.out _ _ rfl (by rw [flI_len]; have := H40.out; have := HI.out; omega) B2.out.size ?_; intro va w3 hT3 hB3; have T3 := Lib.hid hT3.swap; have B3 := Lib.hid (B2.out.trans hB3); clear hT3 hB3 T2 B2) | (at_builtin; refine wpList_append_two rfl _ _ rfl w.heap.size _ _ (flI k i) _ rfl T3.out _ _ rfl (by rw [flI_len]; have := H40.out; have := HI.out; omega) B3.out.size ?_; intro vb w4 hT4 hB4; have T4 := Lib.hid (show Two w4 w.heap.size va vb (flI l (i + 1)) (flI k (i + 1)) by rw [flI_succ, flI_succ, ← HZ.out.1, ← HZ.out.2]; exact hT4.swap); have B4 := Lib.hid (B3.out.trans hB4); clear hT4 hB4 T3 B3))
            go_roundw
            case rel => exact ⟨i + 1, HI.out, by go_num, by rw [HM.out, w2'], T4.out, B4.out⟩
            case measure => simp [intOf]; omega
          case neg =>
            have hin2 : n = i := by omega
            subst hin2
            clear hin hi
            obtain ⟨aa, pa, rfl, hCa⟩ := cel_of_row T1.out.a
            obtain ⟨ab, pb, rfl, hCb⟩ := cel_of_row T1.out.b
            simp only [flI_len]
            have HC := Lib.hid (And.intro hCa hCb)
            clear hCa hCb T1
            go_upto_region 18 with (fail)
            go_wp2_with fail
            generalize wr = W1 at *
            go_loopw [15, 16, 21] (fun sc sd si wq => ∃ j : Nat, j ≤ n ∧ si = .int .i64 ((n : Int) - 1 - j) ∧ Tw2 W1 wq sc sd (rvI l n j) (rvI k n j) []) (fun _ _ si _ => (intOf si + 1).toNat)
            case atStart => exact ⟨0, Nat.zero_le _, by first | rfl | go_num | (have := H40.out; simp; unfold wrap64; omega), ⟨Two.nil _ _, fun p hp => (by cases hp), Below.refl _ _⟩⟩
            case round =>
              obtain ⟨j, hj, rfl, hA⟩ := hrel
              have A1 := Lib.hid hA
              clear hA
              by_cases hjn : j < n
              case pos =>
                have HJ := Lib.hid hjn
                obtain ⟨d, hd⟩ : ∃ d : Nat, d = n - 1 - j := ⟨_, rfl⟩
                have hd2 : (n : Int) - 1 - j = (d : Int) := by omega
                have hdn : d < n := by omega
                simp only [hd2]
                have HD := Lib.hid (And.intro hd hd2)
                clear hd hd2
                obtain ⟨b1, o1, hae, _, hac⟩ := HC.out.1 (fun e => by have h := flI_len l n; rw [e] at h; simp at h; omega)
                obtain ⟨b2, o2, hbe, _, hbc⟩ := HC.out.2 (fun e => by have h := flI_len k n; rw [e] at h; simp at h; omega)
                subst hae hbe
                obtain ⟨xa, hxa⟩ : ∃ x, x = floatOfInt .f64 (md (l.getD d 0)) := ⟨_, rfl⟩
                obtain ⟨xb, hxb⟩ : ∃ x, x = floatOfInt .f64 (md (k.getD d 0)) := ⟨_, rfl⟩
                have ca := hac d xa (by rw [hxa, ← flI_at l hdn, List.getD_eq_getElem?_getD, List.getElem?_eq_getElem (by rw [flI_len]; exact hdn)]; rfl)
                have cb := hbc d xb (by rw [hxb, ← flI_at k hdn, List.getD_eq_getElem?_getD, List.getElem?_eq_getElem (by rw [flI_len]; exact hdn)]; rfl)
                have HXX := Lib.hid (And.intro hxa hxb)
                clear hxa hxb hac hbc
                have hb1 : b1 < W1.heap.size := cell_lt9 ca
                have hb2 : b2 < W1.heap.size := cell_lt9 cb
                have HS := Lib.hid (show ∀ W, Below W1.heap.size W1 W → (fun W => W.cell? ⟨b1, o1 + d, none⟩ = some (.float .f64 xa) ∧ W.cell? ⟨b2, o2 + d, none⟩ = some (.float .f64 xb)) W from fun W h => ⟨by rw [(below_cells h).1 _ _ hb1]; exact ca, by rw [(below_cells h).1 _ _ hb2]; exact cb⟩)
                clear ca cb hb1 hb2
                go_upto_region 21 with (fail)
                have hdr : Below wr.heap.size wr wr.drew := below_drewN 1 (Below.refl _ wr)
                have A2 := Lib.hid (A1.out.step hdr)
                clear A1 hdr
                refine wp_region_many 14 60 [(0, 0), (0, 1), (0, 2), (0, 3), (0, 4), (0, 7), (0, 8), (0, 9), (0, 10), (0, 11), (3, 12), (1, 5), (1, 6), (2, 12), (1, 13)] (fun W => W.cell? ⟨b1, o1 + d, none⟩ = some (.float .f64 xa) ∧ W.cell? ⟨b2, o2 + d, none⟩ = some (.float .f64 xb)) (by kernel_rfl) (by kernel_rfl) (HS.out _ A2.out.b) ?_
                generalize wr.drew = v0 at *
                iterate 10 (refine fm_take (v := ?_) rfl rfl ?_ ?_; rotate_left; (next => (intro w' hSw; (try dsimp only at hSw); go_simp; (try (rw [if_pos (by omega)]; go_simp)); (try with_reducible rfl))); (simp only [Act.put, List.setIfInBounds_toArray, List.set_cons_zero, List.set_cons_succ]))
                refine fm_from ?_
                refine fm_one1 ?_ ?_
                · skip
                  refine opW_take rfl rfl ?_
                  go_simp
                  have A11 := Lib.hid (A2.out.alloc xa 31)
                  refine ⟨HS.out _ A11.out.b, ?_⟩
                  obtain ⟨k1, hk1⟩ : ∃ x, x = v0.heap.size := ⟨_, rfl⟩
                  simp only [← hk1] at A11 ⊢
                  generalize v0.alloc (.cells #[.float .f64 xa] 31) = v1 at *
                  clear hk1
                  refine fm_one1 ?_ ?_
                  · skip
                    refine opW_take rfl rfl ?_
                    refine wp_append_tw _ _ rfl rfl A11.out 0 rfl _ rfl (by rw [rvI_len]; have := H40.out; have := HJ.out; omega) ?_
                    intro s6 v2 hA
                    have A12 := Lib.hid hA
                    clear hA
                    refine ⟨HS.out _ A12.out.b, ?_⟩
                    (simp only [Act.put, List.setIfInBounds_toArray, List.set_cons_zero, List.set_cons_succ])
                    refine fm_now ?_
                    refine opW_take rfl rfl ?_
                    go_simp
                    have A13 := Lib.hid (A12.out.alloc xb 31)
                    refine ⟨HS.out _ A13.out.b, ?_⟩
                    obtain ⟨k3, hk3⟩ : ∃ x, x = v2.heap.size := ⟨_, rfl⟩
                    simp only [← hk3] at A13 ⊢
                    generalize v2.alloc (.cells #[.float .f64 xb] 31) = v3 at *
                    clear hk3
                    refine fm_skip rfl ?_
                    refine fm_one ?_
                    refine opW_take rfl rfl ?_
                    refine wp_append_tw _ _ rfl rfl A13.out.swap 1 rfl _ rfl (by rw [rvI_len]; have := H40.out; have := HJ.out; omega) ?_
                    intro s13 v4 hA
                    have A14 := Lib.hid hA.swap
                    clear hA
                    refine ⟨HS.out _ A14.out.b, ?_⟩
                    (simp only [Act.put, List.setIfInBounds_toArray, List.set_cons_zero, List.set_cons_succ])
                    refine fm_nil ?_
                    go_simp
                    have E1 := Lib.hid (show rvI l n j ++ [xa] = rvI l n (j + 1) by rw [rvI_succ, HXX.out.1, HD.out.1])
                    have E2 := Lib.hid (show rvI k n j ++ [xb] = rvI k n (j + 1) by rw [rvI_succ, HXX.out.2, HD.out.1])
                    have A9 := Lib.hid (show Tw2 W1 v4 s6 s13 (rvI l n (j + 1)) (rvI k n (j + 1)) [] from ⟨by rw [← E1.out, ← E2.out]; exact A14.out.t, fun p hp => (by cases hp), A14.out.b⟩)
                    have h40 := H40.out
                    have hd3 : (d : Int) = (n : Int) - 1 - j := HD.out.2.symm
                    have hj3 := HJ.out
                    have HE3 := Lib.hid hd3
                    clear hd3
                    go_wp2_with fail
                    refine NoPanic.normal ?_
                    go_wp2_with fail
                    go_roundw
                    case rel => exact ⟨j + 1, HJ.out, congrArg (Value.int .i64) (by have := HE3.out; omega), A9.out⟩
                    case measure => have := HE3.out; first | (simp [intOf]; done) | (simp [intOf]; omega)
                  · skip
                    refine opW_take rfl rfl ?_
                    go_simp
                    have A15 := Lib.hid (A11.out.alloc xb 31)
                    refine ⟨HS.out _ A15.out.b, ?_⟩
                    obtain ⟨k5, hk5⟩ : ∃ x, x = v1.heap.size := ⟨_, rfl⟩
                    simp only [← hk5] at A15 ⊢
                    generalize v1.alloc (.cells #[.float .f64 xb] 31) = v5 at *
                    clear hk5
                    refine fm_one ?_
                    refine opW_take rfl rfl ?_
                    refine wp_append_tw _ _ rfl rfl A15.out 0 rfl _ rfl (by rw [rvI_len]; have := H40.out; have := HJ.out; omega) ?_
                    intro s6 v6 hA
                    have A16 := Lib.hid hA
                    clear hA
                    refine ⟨HS.out _ A16.out.b, ?_⟩
                    (simp only [Act.put, List.setIfInBounds_toArray, List.set_cons_zero, List.set_cons_succ])
                    refine fm_skip rfl ?_
                    refine fm_one ?_
                    refine opW_take rfl rfl ?_
                    refine wp_append_tw _ _ rfl rfl A16.out.swap 1 rfl _ rfl (by rw [rvI_len]; have := H40.out; have := HJ.out; omega) ?_
                    intro s13 v7 hA
                    have A17 := Lib.hid hA.swap
                    clear hA
                    refine ⟨HS.out _ A17.out.b, ?_⟩
                    (simp only [Act.put, List.setIfInBounds_toArray, List.set_cons_zero, List.set_cons_succ])
                    refine fm_nil ?_
                    go_simp
                    have E1 := Lib.hid (show rvI l n j ++ [xa] = rvI l n (j + 1) by rw [rvI_succ, HXX.out.1, HD.out.1])
                    have E2 := Lib.hid (show rvI k n j ++ [xb] = rvI k n (j + 1) by rw [rvI_succ, HXX.out.2, HD.out.1])
                    have A9 := Lib.hid (show Tw2 W1 v7 s6 s13 (rvI l n (j + 1)) (rvI k n (j + 1)) [] from ⟨by rw [← E1.out, ← E2.out]; exact A17.out.t, fun p hp => (by cases hp), A17.out.b⟩)
                    have h40 := H40.out
                    have hd3 : (d : Int) = (n : Int) - 1 - j := HD.out.2.symm
                    have hj3 := HJ.out
                    have HE3 := Lib.hid hd3
                    clear hd3
                    go_wp2_with fail
                    refine NoPanic.normal ?_
                    go_wp2_with fail
                    go_roundw
                    case rel => exact ⟨j + 1, HJ.out, congrArg (Value.int .i64) (by have := HE3.out; omega), A9.out⟩
                    case measure => have := HE3.out; first | (simp [intOf]; done) | (simp [intOf]; omega)
                · skip
                  refine opW_take rfl rfl ?_
                  go_simp
                  have A18 := Lib.hid (A2.out.alloc xb 31)
                  refine ⟨HS.out _ A18.out.b, ?_⟩
                  obtain ⟨k8, hk8⟩ : ∃ x, x = v0.heap.size := ⟨_, rfl⟩
                  simp only [← hk8] at A18 ⊢
                  generalize v0.alloc (.cells #[.float .f64 xb] 31) = v8 at *
                  clear hk8
                  refine fm_one ?_
                  refine opW_take rfl rfl ?_
                  go_simp
                  have A19 := Lib.hid (A18.out.alloc xa 31)
                  refine ⟨HS.out _ A19.out.b, ?_⟩
                  obtain ⟨k9, hk9⟩ : ∃ x, x = v8.heap.size := ⟨_, rfl⟩
                  simp only [← hk9] at A19 ⊢
                  generalize v8.alloc (.cells #[.float .f64 xa] 31) = v9 at *
                  clear hk9
                  refine fm_one ?_
                  refine opW_take rfl rfl ?_
                  refine wp_append_tw _ _ rfl rfl A19.out 1 rfl _ rfl (by rw [rvI_len]; have := H40.out; have := HJ.out; omega) ?_
                  intro s6 v10 hA
                  have A20 := Lib.hid hA
                  clear hA
                  refine ⟨HS.out _ A20.out.b, ?_⟩
                  (simp only [Act.put, List.setIfInBounds_toArray, List.set_cons_zero, List.set_cons_succ])
                  refine fm_skip rfl ?_
                  refine fm_one ?_
                  refine opW_take rfl rfl ?_
                  refine wp_append_tw _ _ rfl rfl A20.out.swap 0 rfl _ rfl (by rw [rvI_len]; have := H40.out; have := HJ.out; omega) ?_
                  intro s13 v11 hA
                  have A21 := Lib.hid hA.swap
                  clear hA
                  refine ⟨HS.out _ A21.out.b, ?_⟩
                  (simp only [Act.put, List.setIfInBounds_toArray, List.set_cons_zero, List.set_cons_succ])
                  refine fm_nil ?_
                  go_simp
                  have E1 := Lib.hid (show rvI l n j ++ [xa] = rvI l n (j + 1) by rw [rvI_succ, HXX.out.1, HD.out.1])
                  have E2 := Lib.hid (show rvI k n j ++ [xb] = rvI k n (j + 1) by rw [rvI_succ, HXX.out.2, HD.out.1])
                  have A9 := Lib.hid (show Tw2 W1 v11 s6 s13 (rvI l n (j + 1)) (rvI k n (j + 1)) [] from ⟨by rw [← E1.out, ← E2.out]; exact A21.out.t, fun p hp => (by cases hp), A21.out.b⟩)
                  have h40 := H40.out
                  have hd3 : (d : Int) = (n : Int) - 1 - j := HD.out.2.symm
                  have hj3 := HJ.out
                  have HE3 := Lib.hid hd3
                  clear hd3
                  go_wp2_with fail
                  refine NoPanic.normal ?_
                  go_wp2_with fail
                  go_roundw
                  case rel => exact ⟨j + 1, HJ.out, congrArg (Value.int .i64) (by have := HE3.out; omega), A9.out⟩
                  case measure => have := HE3.out; first | (simp [intOf]; done) | (simp [intOf]; omega)
              case neg =>
                have hjn2 : n = j := by omega
                subst hjn2
                clear hjn hj
                obtain ⟨ac, pc, rfl, hCc⟩ := cel_of_row A1.out.t.a
                obtain ⟨ad, pd, rfl, hCd⟩ := cel_of_row A1.out.t.b
                simp only [rvI_len]
                have D1 := Lib.hid (show Cel wr aa (flI l n) ∧ Cel wr ab (flI k n) ∧ Cel wr ac (rvI l n n) ∧ Cel wr ad (rvI k n n) ∧ Below w.heap.size w wr from ⟨cel_below9 HC.out.1 A1.out.b, cel_below9 HC.out.2 A1.out.b, hCc, hCd, B1.out.trans (Below.mono A1.out.b B1.out.size)⟩)
                clear hCc hCd A1 B1 HC
                have h52 : n ≤ 512 := by omega
                have H52 := Lib.hid h52
                clear h52
                go_upto_region 22 with (fail)
                go_wp2_with fail
                refine (vec_n _ aa (flI l n) n pa D1.out.1 (flI_len l n) H52.out).mono ?_
                rintro e y1 ⟨st0, sb0, rfl, _, _, hS, hb⟩
                have D2 := Lib.hid (show _ ∧ _ ∧ _ ∧ _ ∧ _ from ⟨cel_below9 D1.out.1 hb, cel_below9 D1.out.2.1 hb, cel_below9 D1.out.2.2.1 hb, cel_below9 D1.out.2.2.2.1 hb, below_step D1.out.2.2.2.2 D1.out.2.2.2.2.size hb⟩)
                have V0 := Lib.hid hS
                clear hb hS D1
                dsimp only
                go_wp2_with fail
                refine (vec_n _ ab (flI k n) n pb D2.out.2.1 (flI_len k n) H52.out).mono ?_
                rintro e y2 ⟨st1, sb1, rfl, _, _, hS, hb⟩
                have D3 := Lib.hid (show _ ∧ _ ∧ _ ∧ _ ∧ _ from ⟨cel_below9 D2.out.1 hb, cel_below9 D2.out.2.1 hb, cel_below9 D2.out.2.2.1 hb, cel_below9 D2.out.2.2.2.1 hb, below_step D2.out.2.2.2.2 D2.out.2.2.2.2.size hb⟩)
                have V1 := Lib.hid hS
                have V0 := Lib.hid (V0.out.below hb)
                clear hb hS D2
                dsimp only
                go_wp2_with fail
                refine (dot_vecs _ V0.out V1.out (flI_len l n) (flI_len k n) H52.out (flI_words l n) (flI_words k n)).mono ?_
                rintro e y3 ⟨⟨sx, rfl⟩, hb⟩
                have D4 := Lib.hid (show _ ∧ _ ∧ _ ∧ _ ∧ _ from ⟨cel_below9 D3.out.1 hb, cel_below9 D3.out.2.1 hb, cel_below9 D3.out.2.2.1 hb, cel_below9 D3.out.2.2.2.1 hb, below_step D3.out.2.2.2.2 D3.out.2.2.2.2.size hb⟩)
                clear hb D3 V0 V1
                dsimp only
                go_upto_region 23 with (fail)
                go_wp2_with fail
                refine (vec_n _ ac (rvI l n n) n pc D4.out.2.2.1 (rvI_len l n n) H52.out).mono ?_
                rintro e y4 ⟨st2, sb2, rfl, _, _, hS, hb⟩
                have D5 := Lib.hid (show _ ∧ _ ∧ _ ∧ _ ∧ _ from ⟨cel_below9 D4.out.1 hb, cel_below9 D4.out.2.1 hb, cel_below9 D4.out.2.2.1 hb, cel_below9 D4.out.2.2.2.1 hb, below_step D4.out.2.2.2.2 D4.out.2.2.2.2.size hb⟩)
                have V2 := Lib.hid hS
                clear hb hS D4
                dsimp only
                go_wp2_with fail
                refine (vec_n _ ad (rvI k n n) n pd D5.out.2.2.2.1 (rvI_len k n n) H52.out).mono ?_
                rintro e y5 ⟨st3, sb3, rfl, _, _, hS, hb⟩
                have D6 := Lib.hid (show _ ∧ _ ∧ _ ∧ _ ∧ _ from ⟨cel_below9 D5.out.1 hb, cel_below9 D5.out.2.1 hb, cel_below9 D5.out.2.2.1 hb, cel_below9 D5.out.2.2.2.1 hb, below_step D5.out.2.2.2.2 D5.out.2.2.2.2.size hb⟩)
                have V3 := Lib.hid hS
                have V2 := Lib.hid (V2.out.below hb)
                clear hb hS D5
                dsimp only
                go_wp2_with fail
                refine (dot_vecs _ V2.out V3.out (rvI_len l n n) (rvI_len k n n) H52.out (rvI_words l n n) (rvI_words k n n)).mono ?_
                rintro e y6 ⟨⟨sy, rfl⟩, hb⟩
                have D7 := Lib.hid (show _ ∧ _ ∧ _ ∧ _ ∧ _ from ⟨cel_below9 D6.out.1 hb, cel_below9 D6.out.2.1 hb, cel_below9 D6.out.2.2.1 hb, cel_below9 D6.out.2.2.2.1 hb, below_step D6.out.2.2.2.2 D6.out.2.2.2.2.size hb⟩)
                clear hb D6 V2 V3
                dsimp only
                go_upto_region 24 with (fail)
                have hsum : (sumI l k n).natAbs < 9007199254740992 := by have := sumI_le l k n; omega
                have g1 : feq (raw (sumG (atL (flI l n)) (atL (flI k n)) 0 n) sx) (floatOfInt .f64 (sumI l k n)) = true := by have h := isI_eq (dot_fwd l k n H40.out) (isI_of _ hsum); unfold feq at h ⊢; rw [order_raw]; exact h
                have g2 : feq (raw (sumG (atL (rvI l n n)) (atL (rvI k n n)) 0 n) sy) (floatOfInt .f64 (sumI l k n)) = true := by have h := isI_eq (dot_back l k n H40.out) (isI_of _ hsum); unfold feq at h ⊢; rw [order_raw]; exact h
                generalize raw (sumG (atL (flI l n)) (atL (flI k n)) 0 n) sx = X1 at *
                generalize raw (sumG (atL (rvI l n n)) (atL (rvI k n n)) 0 n) sy = X2 at *
                clear hsum
                go_wp2_with fail
                refine (num8_any 0 _).mono ?_
                rintro e w' ⟨rfl, rfl⟩
                dsimp only
                go_wp2_with fail
                refine (num8_any 0 _).mono ?_
                rintro e w' ⟨rfl, rfl⟩
                dsimp only
                go_wp2_with fail
                go_ret
                exact ⟨rfl, D7.out.2.2.2.2⟩
end Go.Proofs.Ytbcdpibcieadlaa
