/- The law's known rows of layer 17 hold. No condition. -/
import Derived.Test.YtdljnhdhigbefaaZz16
import Derived.Test.YtdljnhdhigbefaaZz13
import Derived.Test.YtdljnhdhigbefaaZz9
import Derived.Test.YtdljnhdhigbefaaZz11
namespace Go.Proofs.Ytdljnhdhigbefaa
open Go Go.RowKit
set_option maxRecDepth 1000000

set_option maxHeartbeats 16000000 in
theorem known17_any (w : World) : Calls Try.prog 14 #[] w fun e w' => e = .returned (.bool true) ∧ Below w.heap.size w w' := by
  go_enter Try.func14, Try.ntmps14
  go_wp2_with fail
  have hd0 := (FlsU.lit w 40 [4607182418800017408, 13837309855095848960] (by kernel_rfl)).alloc (.cells #[.float .f64 0] 40)
  have he0 := FlsU.lit (w.alloc (.cells #[.float .f64 4607182418800017408, .float .f64 13837309855095848960] 40)) 40 [0] (by kernel_rfl)
  simp only [List.map_cons, List.map_nil, World.size_alloc] at hd0 he0
  have hA0 : Below w.heap.size w ((w.alloc (.cells #[.float .f64 4607182418800017408, .float .f64 13837309855095848960] 40)).alloc (.cells #[.float .f64 0] 40)) := ((Below.refl _ _).alloc (Nat.le_refl _) _).alloc (by simp) _
  refine (One10 _ 2 (by decide)).mono ?_
  rintro r w1 ⟨a1, b1, c1, rfl, hz1, hn1, hb1⟩
  have HA := Lib.hid (show _ ∧ _ ∧ _ ∧ _ ∧ _ from ⟨below_step hA0 hA0.size hb1, hd0.below hb1, he0.below hb1, hz1.fls, hn1⟩)
  clear hd0 he0 hA0 hz1 hn1 hb1
  dsimp only
  go_wp2_with fail
  refine (One10 _ 2 (by decide)).mono ?_
  rintro r w2 ⟨a2, b2, c2, rfl, hz2, hn2, hb2⟩
  have HB := Lib.hid (show _ ∧ _ ∧ _ ∧ _ ∧ _ ∧ _ ∧ _ from ⟨below_step HA.out.1 HA.out.1.size hb2, HA.out.2.1.below hb2, HA.out.2.2.1.below hb2, HA.out.2.2.2.1.below hb2, hz2.fls, HA.out.2.2.2.2, hn2⟩)
  clear hz2 hn2 hb2 HA
  dsimp only
  go_wp2_with fail
  refine (gs_a _ _ _ _ _ _ _ HB.out.2.1 HB.out.2.2.1 HB.out.2.2.2.1 HB.out.2.2.2.2.1 HB.out.2.2.2.2.2.1 HB.out.2.2.2.2.2.2).mono ?_
  rintro r w3 ⟨⟨a, cap, a3, c3, a4, c4, k, v, rfl, hF, hG, hlen, f1, f2⟩, hb⟩
  have HC := Lib.hid (show _ ∧ _ ∧ _ ∧ _ from ⟨below_step HB.out.1 HB.out.1.size hb, hF, hG, hlen⟩)
  have HQ := Lib.hid (And.intro f1 f2)
  clear HB hF hG hlen f1 f2 hb
  dsimp only
  go_wp2_with fail
  have hx4 : Box ((w3.alloc (.cells #[.int .i64 2, .int .i64 2, .slice a3 4 c3] 26)).alloc (.cells #[.int .i64 2, .int .i64 2, .slice a4 4 c4] 26)) (w3.heap.size + 1) [.int .i64 2, .int .i64 2, .slice a4 4 c4] := Box.newA _ [_, _, _] _ (by simp)
  have h34 : Below w3.heap.size w3 ((w3.alloc (.cells #[.int .i64 2, .int .i64 2, .slice a3 4 c3] 26)).alloc (.cells #[.int .i64 2, .int .i64 2, .slice a4 4 c4] 26)) := ((Below.refl _ _).alloc (Nat.le_refl _) _).alloc (by simp) _
  refine (gs_b _).mono ?_
  rintro r w5 ⟨⟨a5, c5, a6, c6, a7, c7, rfl⟩, hb⟩
  have h35 : Below w3.heap.size w3 w5 := below_step h34 h34.size hb
  have HD := Lib.hid (show _ ∧ _ ∧ _ ∧ _ from ⟨below_step HC.out.1 HC.out.1.size h35, HC.out.2.1.below h35, HC.out.2.2.1.below h35, hx4.below hb⟩)
  have HV4 := Lib.hid HC.out.2.2.2
  clear hx4 h34 h35 hb HC
  dsimp only
  go_wp2_with fail
  have hd0 := (FlsU.lit ((w5.alloc (.cells #[.int .i64 0, .int .i64 0, .slice a6 0 c6] 26)).alloc (.cells #[.int .i64 0, .int .i64 0, .slice a7 0 c7] 26)) 40 [4607182418800017408, 4607182418800017408] (by kernel_rfl)).alloc (.cells #[.float .f64 4607182418800017408] 40)
  have he0 := FlsU.lit (((w5.alloc (.cells #[.int .i64 0, .int .i64 0, .slice a6 0 c6] 26)).alloc (.cells #[.int .i64 0, .int .i64 0, .slice a7 0 c7] 26)).alloc (.cells #[.float .f64 4607182418800017408, .float .f64 4607182418800017408] 40)) 40 [4607182418800017408] (by kernel_rfl)
  simp only [List.map_cons, List.map_nil, World.size_alloc] at hd0 he0
  have hA0 : Below w5.heap.size w5 ((((w5.alloc (.cells #[.int .i64 0, .int .i64 0, .slice a6 0 c6] 26)).alloc (.cells #[.int .i64 0, .int .i64 0, .slice a7 0 c7] 26)).alloc (.cells #[.float .f64 4607182418800017408, .float .f64 4607182418800017408] 40)).alloc (.cells #[.float .f64 4607182418800017408] 40)) := ((((Below.refl _ _).alloc (Nat.le_refl _) _).alloc (by simp) _).alloc (by simp; omega) _).alloc (by simp; omega) _
  refine (One10 _ 2 (by decide)).mono ?_
  rintro r w8 ⟨a8, b8, c8, rfl, hz1, hn1, hb1⟩
  have hA1 := below_step hA0 hA0.size hb1
  have HE := Lib.hid (show _ ∧ _ ∧ _ ∧ _ ∧ _ from ⟨hA1, hd0.below hb1, he0.below hb1, hz1.fls, hn1⟩)
  clear hd0 he0 hA0 hz1 hn1 hb1 hA1
  dsimp only
  go_wp2_with fail
  refine (One10 _ 2 (by decide)).mono ?_
  rintro r w9 ⟨a9, b9, c9, rfl, hz2, hn2, hb2⟩
  have HF := Lib.hid (show _ ∧ _ ∧ _ ∧ _ ∧ _ ∧ _ ∧ _ from ⟨below_step HE.out.1 HE.out.1.size hb2, HE.out.2.1.below hb2, HE.out.2.2.1.below hb2, HE.out.2.2.2.1.below hb2, hz2.fls, HE.out.2.2.2.2, hn2⟩)
  clear hz2 hn2 hb2 HE
  dsimp only
  go_wp2_with fail
  refine (gs_c _ _ _ _ _ _ _ HF.out.2.1 HF.out.2.2.1 HF.out.2.2.2.1 HF.out.2.2.2.2.1 HF.out.2.2.2.2.2.1 HF.out.2.2.2.2.2.2).mono ?_
  rintro r w10 ⟨⟨a10, c10, a11, c11, a12, c12, kk, x, y, rfl, k1, k2, hF, g1, g2, g3, g4⟩, hb⟩
  have h510 : Below w5.heap.size w5 w10 := below_step HF.out.1 HF.out.1.size hb
  have HG := Lib.hid (show _ ∧ _ ∧ _ ∧ _ ∧ _ from ⟨below_step HD.out.1 HD.out.1.size h510, HD.out.2.1.below h510, HD.out.2.2.1.below h510, HD.out.2.2.2.below h510, hF⟩)
  have HQ3 := Lib.hid (show _ ∧ _ ∧ _ ∧ _ from ⟨g1, g2, g3, g4⟩)
  have hk : decide (0 < (kk : Int)) = true := decide_eq_true (by omega)
  clear HF hF g1 g2 g3 g4 hb h510 HD
  dsimp only
  go_wp2_with fail
  have h1 : Below w10.heap.size w10 (((w10.alloc (.cells #[.int .i64 2, .int .i64 2, .slice a11 4 c11] 26)).alloc (.cells #[.int .i64 2, .int .i64 2, .slice a12 4 c12] 26)).alloc (.cells #[.float .f64 4613937818241073152, .float .f64 4607182418800017408] 40)) := (((Below.refl _ _).alloc (Nat.le_refl _) _).alloc (by simp) _).alloc (by simp; omega) _
  have hL0 := FlsU.lit ((w10.alloc (.cells #[.int .i64 2, .int .i64 2, .slice a11 4 c11] 26)).alloc (.cells #[.int .i64 2, .int .i64 2, .slice a12 4 c12] 26)) 40 [4613937818241073152, 4607182418800017408] (by kernel_rfl)
  simp only [List.map_cons, List.map_nil, World.size_alloc] at hL0
  have HS := Lib.hid (SameAllF _ a _ _ cap 2 (HG.out.2.1.below h1) hL0 (by simp))
  have H1 := Lib.hid h1
  clear h1 hL0
  refine HS.out.mono ?_
  rintro r w11 ⟨rfl, hb⟩
  have h011 : Below w10.heap.size w10 w11 := below_step H1.out H1.out.size hb
  have HH := Lib.hid (show _ ∧ _ ∧ _ ∧ _ from ⟨below_step HG.out.1 HG.out.1.size h011, HG.out.2.2.1.below h011, HG.out.2.2.2.1.below h011, HG.out.2.2.2.2.below h011⟩)
  clear HS hb h011 H1 HG
  dsimp only
  obtain ⟨p1, p2, p3⟩ := HH.out.2.2.1.facts
  obtain ⟨bb, off, e2, hlt2, hc2⟩ := HH.out.2.1 (by have := HV4.out; intro h; rw [h] at this; simp at this)
  subst e2
  obtain ⟨x2, hx2⟩ : ∃ x, x = v.getD 2 0 := ⟨_, rfl⟩
  obtain ⟨x1, hx1⟩ : ∃ x, x = v.getD 1 0 := ⟨_, rfl⟩
  obtain ⟨t2, h2⟩ := hc2 2 x2 (by rw [hx2, List.getD_eq_getElem?_getD, List.getElem?_eq_getElem (by rw [HV4.out]; decide)]; rfl)
  obtain ⟨t1, h1⟩ := hc2 1 x1 (by rw [hx1, List.getD_eq_getElem?_getD, List.getElem?_eq_getElem (by rw [HV4.out]; decide)]; rfl)
  have f1 := HQ.out.1
  have f2 := HQ.out.2
  rw [← hx2] at f1
  rw [← hx1] at f2
  clear hc2 hx1 hx2
  go_upto_region 5 with (fail)
  clear p1 p2 p3 h1 h2 f1 f2 hlt2
  obtain ⟨bb, off, e2, hlt2, hc2⟩ := HH.out.2.2.2 (by simp)
  subst e2
  obtain ⟨t1, h1⟩ := hc2 0 x rfl
  obtain ⟨t2, h2⟩ := hc2 1 y rfl
  rw [Nat.add_zero] at h1
  obtain ⟨g1, g2, g3, g4⟩ := HQ3.out
  clear hc2
  go_wp2_with fail
  go_ret
  exact ⟨rfl, HH.out.1⟩
end Go.Proofs.Ytdljnhdhigbefaa

/- Layer 17, plainly: nothing above the diagonal: no sweep; the values are the diagonal's sizes. -/
namespace Go.Proofs.Ytdljnhdhigbefaa
open Go Go.RowKit
set_option maxRecDepth 100000

/-- A value's size, as it is told. -/
def absN (y : Nat) : Nat := if flt y 0 then fneg y else y
theorem fkey_fabs (y : Nat) : fkey (fabs y) = ((y % 9223372036854775808 : Nat) : Int) := by
  unfold fkey fabs
  rw [if_neg (by omega)]
  omega
theorem xor_mod63 (x : Nat) : (x ^^^ 9223372036854775808) % 9223372036854775808 = x % 9223372036854775808 := by
  have h := Nat.xor_mod_two_pow (a := x) (b := 9223372036854775808) (n := 63)
  rw [show (2 : Nat) ^ 63 = 9223372036854775808 by decide] at h
  rw [h, show 9223372036854775808 % 9223372036854775808 = 0 by decide, Nat.xor_zero]
theorem fneg_of {x : Nat} (h : isnan x = false) : fneg x = x ^^^ 9223372036854775808 := by
  unfold fneg
  refine nm_of_not ?_
  unfold isnan at h ⊢
  rw [xor_mod63]
  exact h
theorem absN_key {y : Nat} (h : ffin y = true) : ffin (absN y) = true ∧ fkey (absN y) = ((y % 9223372036854775808 : Nat) : Int) := by
  have hn := isnan_ffinq h
  have h0 : isnan 0 = false := by kernel_rfl
  have hk0 : fkey 0 = 0 := by decide
  unfold absN
  cases hq : flt y 0
  · rw [if_neg (by decide)]
    refine ⟨h, ?_⟩
    rw [flt_key hn h0, hk0, decide_eq_false_iff_not] at hq
    unfold fkey at hq ⊢
    by_cases hs : y / 9223372036854775808 % 2 = 1
    · rw [if_pos hs] at hq ⊢; omega
    · rw [if_neg hs]
  · rw [if_pos rfl]
    have hu := neg_not_below hq
    have hf : ffin (fneg y) = true := by
      rw [fneg_of hn]
      unfold ffin at h ⊢
      rw [xor_mod63]
      exact h
    refine ⟨hf, ?_⟩
    rw [flt_key (isnan_ffinq hf) h0, hk0, decide_eq_false_iff_not] at hu
    have hm : fneg y % 9223372036854775808 = y % 9223372036854775808 := by rw [fneg_of hn, xor_mod63]
    unfold fkey at hu ⊢
    by_cases hs : fneg y / 9223372036854775808 % 2 = 1
    · rw [if_pos hs] at hu ⊢; omega
    · rw [if_neg hs, hm]
theorem absN_feq {y : Nat} (h : ffin y = true) : feq (fabs y) (absN y) = true := by
  obtain ⟨h1, h2⟩ := absN_key h
  have hn : isnan (fabs y) = false := by
    have := isnan_ffinq h
    unfold isnan fabs at *
    rw [Nat.mod_mod]
    exact this
  rw [feq_key hn (isnan_ffinq h1), decide_eq_true_eq, h2, fkey_fabs]
/-- The greatest size, where nothing stands above. -/
theorem bigG_num {d e : List Nat} (hd : ∀ i, ffin (d.getD i 0) = true) (he : ∀ i, e.getD i 0 = 0) : ∀ i, isnan (bigG d e i) = false ∧ bigG d e i < 9223372036854775808
  | 0 => ⟨show isnan 0 = false by kernel_rfl, show 0 < 9223372036854775808 by decide⟩
  | i + 1 => by
    have h1 := bigG_num hd he i
    have h2 := both_num (hd i) (show ffin (e.getD i 0) = true by rw [he]; rfl)
    unfold bigG
    dsimp only
    split
    · exact h2
    · exact h1
theorem nth_zero {d e : List Nat} (hd : ∀ i, ffin (d.getD i 0) = true) (he : ∀ i, e.getD i 0 = 0) (i : Nat) : nthG 0 (bigG d e i) = true := by
  obtain ⟨h1, h2⟩ := bigG_num hd he i
  unfold nthG
  rw [show fabs 0 = 0 by unfold fabs; rfl]
  exact fadd_zero_abs h2 h1
theorem startG_zero {d e : List Nat} {big : Nat} (he : ∀ i, e.getD i 0 = 0) (hb : nthG 0 big = true) : ∀ k, startG d e big k = (k, false)
  | 0 => rfl
  | k + 1 => by unfold startG; rw [he, hb, if_pos rfl]
theorem valG_zero {n ru rv big k : Nat} (f : Nat) {x : GkS} (he : ∀ i, x.e.getD i 0 = 0) (hb : nthG 0 big = true) : valG n ru rv big k f x = (finG n rv x k, 0, true) := by
  have hs := startG_zero (d := x.d) he hb k
  have hp : preG n ru big k x = x := by unfold preG; rw [hs]; exact if_neg (by simp)
  cases f <;> (unfold valG; rw [hs, if_pos rfl, hp])
theorem finG_abs (n rv : Nat) (x : GkS) (k : Nat) : (finG n rv x k).e = x.e ∧ (finG n rv x k).d.length = x.d.length ∧ ∀ j, (finG n rv x k).d.getD j 0 = if j = k then absN (x.d.getD j 0) else x.d.getD j 0 := by
  unfold finG
  cases hq : flt (x.d.getD k 0) 0
  · rw [if_neg (by decide)]
    refine ⟨rfl, rfl, fun j => ?_⟩
    split
    · rename_i h; subst h; unfold absN; rw [hq, if_neg (by decide)]
    · rfl
  · rw [if_pos rfl]
    refine ⟨rfl, by simp, fun j => ?_⟩
    split
    · rename_i h; subst h
      by_cases hk : j < x.d.length
      · show (x.d.set j (fneg (x.d.getD j 0))).getD j 0 = _
        rw [List.getD_eq_getElem?_getD, List.getElem?_set_self hk]
        unfold absN
        rw [hq, if_pos rfl]
        rfl
      · rw [List.getD_eq_getElem?_getD, List.getElem?_eq_none (by omega), show (none : Option Nat).getD 0 = 0 from rfl, flt_zero_zero] at hq
        cases hq
    · exact set_keep _ _ (by omega)
/-- **Nothing above the diagonal**: no sweep, and sizes. -/
theorem solG_zero {n ru rv big : Nat} (hb : nthG 0 big = true) : ∀ (m : Nat) (x : GkS) (s : Nat), (∀ i, x.e.getD i 0 = 0) →
    (solG n ru rv big m x s).2 = (s, true) ∧ (solG n ru rv big m x s).1.d.length = x.d.length ∧ ∀ j, (solG n ru rv big m x s).1.d.getD j 0 = if j < m then absN (x.d.getD j 0) else x.d.getD j 0
  | 0, x, s, _ => ⟨rfl, rfl, fun j => by rw [if_neg (by omega)]; rfl⟩
  | m + 1, x, s, he => by
    obtain ⟨f1, f2, f3⟩ := finG_abs n rv x m
    obtain ⟨h1, h2, h3⟩ := solG_zero (n := n) (ru := ru) (rv := rv) hb m (finG n rv x m) s (fun i => by rw [f1]; exact he i)
    have e : solG n ru rv big (m + 1) x s = solG n ru rv big m (finG n rv x m) s := by
      rw [solG]
      show (if (valG n ru rv big m 30 x).2.2 = true then solG n ru rv big m (valG n ru rv big m 30 x).1 (s + (valG n ru rv big m 30 x).2.1) else _) = _
      rw [valG_zero 30 he hb, if_pos rfl]
      rfl
    rw [e]
    refine ⟨h1, h2.trans f2, fun j => ?_⟩
    rw [h3, f3]
    by_cases hj : j = m
    · subst hj; rw [if_neg (by omega), if_pos rfl, if_pos (by omega)]
    · by_cases hl : j < m
      · rw [if_pos hl, if_neg hj, if_pos (by omega)]
      · rw [if_neg hl, if_neg hj, if_neg (by omega)]
end Go.Proofs.Ytdljnhdhigbefaa

/- Layer 17, plainly: what is sorted holds the same values; each size is found among what is left. -/
namespace Go.Proofs.Ytdljnhdhigbefaa
open Go Go.RowKit
set_option maxRecDepth 100000

theorem getD_get (l : List Nat) {i : Nat} (h : i < l.length) : l.getD i 0 = l[i] := by
  rw [List.getD_eq_getElem?_getD, List.getElem?_eq_getElem h]; rfl
theorem swapL_perm (l : List Nat) {i k : Nat} (hi : i < l.length) (hk : k < l.length) : (swapL l i k).Perm l := by
  rw [List.perm_iff_count]
  intro b
  unfold swapL
  rw [List.count_set (h := by simpa using hk), List.count_set (h := hi)]
  have e : (l.set i (l.getD k 0))[k]'(by simpa using hk) = l[k] := by
    rw [List.getElem_set]
    split
    · exact getD_get l hk
    · rfl
  rw [e, getD_get l hk, getD_get l hi]
  have h1 : (if l[i] == b then 1 else 0) ≤ l.count b := by
    split
    · rename_i h
      exact List.count_pos_iff.2 (by rw [← eq_of_beq h]; exact List.getElem_mem hi)
    · exact Nat.zero_le _
  have h2 : (if l[k] == b then 1 else 0) ≤ l.count b - (if l[i] == b then 1 else 0) + (if l[k] == b then 1 else 0) := Nat.le_add_left _ _
  omega
theorem sortG_perm (n ru rv : Nat) (w u v : List Nat) : ∀ i, i ≤ w.length → (sortG n ru rv w u v i).1.Perm w
  | 0, _ => List.Perm.refl _
  | i + 1, h => by
    have ih := sortG_perm n ru rv w u v i (by omega)
    have l1 := sortG_len n ru rv w u v i
    rw [sortG]
    dsimp only
    exact (swapL_perm _ (by omega) (maxL_lt _ _ _ _ (by omega))).trans ih
/-- The first of l that has the size s is taken out. -/
def takeD (s : Nat) : List Nat → Option (List Nat)
  | [] => none
  | y :: l => if feq (fabs y) s then some l else (takeD s l).map (y :: ·)
/-- A size as a number. -/
def sz63 (y : Nat) : Nat := y % 9223372036854775808
theorem takeD_spec {s : Nat} (hs : isnan s = false) (hp : fkey s = ((sz63 s : Nat) : Int)) : ∀ (l : List Nat), (∀ y ∈ l, ffin y = true) →
    (sz63 s ∈ l.map sz63 → ∃ l', takeD s l = some l' ∧ l'.map sz63 = (l.map sz63).erase (sz63 s) ∧ ∀ y ∈ l', ffin y = true)
  | [], _ => fun h => by cases h
  | y :: l, hl => fun h => by
    have hy := hl y (List.mem_cons_self ..)
    have hn : isnan (fabs y) = false := by
      have := isnan_ffinq hy
      unfold isnan fabs at *
      rw [Nat.mod_mod]
      exact this
    have hq : feq (fabs y) s = decide (sz63 y = sz63 s) := by
      rw [feq_key hn hs, fkey_fabs, hp, Bool.eq_iff_iff, decide_eq_true_eq, decide_eq_true_eq]
      unfold sz63
      omega
    unfold takeD
    rw [hq]
    by_cases he : sz63 y = sz63 s
    · rw [decide_eq_true he, if_pos rfl]
      refine ⟨l, rfl, ?_, fun z hz => hl z (List.mem_cons_of_mem _ hz)⟩
      rw [List.map_cons, he, List.erase_cons_head]
    · rw [decide_eq_false he, if_neg (by decide)]
      have hm : sz63 s ∈ l.map sz63 := by
        rw [List.map_cons] at h
        rcases List.mem_cons.1 h with h1 | h1
        · exact absurd h1.symm he
        · exact h1
      obtain ⟨l', e1, e2, e3⟩ := takeD_spec hs hp l (fun z hz => hl z (List.mem_cons_of_mem _ hz)) hm
      refine ⟨y :: l', by rw [e1]; rfl, ?_, fun z hz => ?_⟩
      · rw [List.map_cons, List.map_cons, e2, List.erase_cons_tail (by simpa using he)]
      · rcases List.mem_cons.1 hz with rfl | h1
        · exact hy
        · exact e3 z h1
/-- One after the other. -/
def takeAll : List Nat → List Nat → Option (List Nat)
  | [], l => some l
  | s :: ss, l => (takeD s l).bind (takeAll ss)
theorem takeAll_spec : ∀ (ss l : List Nat), (∀ s ∈ ss, isnan s = false ∧ fkey s = ((sz63 s : Nat) : Int)) → (∀ y ∈ l, ffin y = true) → (ss.map sz63).Perm (l.map sz63) → ∃ l', takeAll ss l = some l'
  | [], l, _, _, _ => ⟨l, rfl⟩
  | s :: ss, l, hs, hl, hp => by
    obtain ⟨h1, h2⟩ := hs s (List.mem_cons_self ..)
    rw [List.map_cons] at hp
    obtain ⟨hm, hp'⟩ := List.cons_perm_iff_perm_erase.1 hp
    obtain ⟨l', e1, e2, e3⟩ := takeD_spec h1 h2 l hl hm
    rw [← e2] at hp'
    unfold takeAll
    rw [e1]
    exact takeAll_spec ss l' (fun z hz => hs z (List.mem_cons_of_mem _ hz)) e3 hp'
end Go.Proofs.Ytdljnhdhigbefaa

/- Layer 17, plainly: what GkDiagonal and GkFalls ask of what is told. -/
namespace Go.Proofs.Ytdljnhdhigbefaa
open Go Go.RowKit
set_option maxRecDepth 100000

theorem sz63_absN {y : Nat} (h : ffin y = true) : sz63 (absN y) = sz63 y := by
  unfold absN sz63
  split
  · rw [fneg_of (isnan_ffinq h), xor_mod63]
  · rfl
theorem getD_fin {d : List Nat} (hd : ∀ y ∈ d, ffin y = true) (i : Nat) : ffin (d.getD i 0) = true := by
  by_cases h : i < d.length
  · rw [getD_get d h]; exact hd _ (List.getElem_mem h)
  · rw [List.getD_eq_getElem?_getD, List.getElem?_eq_none (by omega)]; kernel_rfl
/-- **What GkDiagonal asks**: no sweep; finite values; each one is a size of the diagonal's, and they fall. -/
theorem diag_spec {n ru rv : Nat} {d e u v : List Nat} (hn : d.length = n) (hd : ∀ y ∈ d, ffin y = true) (he : ∀ i, e.getD i 0 = 0) :
    (solG n ru rv (bigG d e n) n ⟨d, e, u, v⟩ 0).2 = (0, true) ∧ (solG n ru rv (bigG d e n) n ⟨d, e, u, v⟩ 0).1.d = d.map absN := by
  obtain ⟨h1, h2, h3⟩ := solG_zero (n := n) (ru := ru) (rv := rv) (nth_zero (getD_fin hd) he n) n ⟨d, e, u, v⟩ 0 he
  refine ⟨h1, ?_⟩
  refine List.ext_getElem (by rw [h2, List.length_map]) fun j hj hj' => ?_
  have hjn : j < n := by rw [List.length_map] at hj'; omega
  have := h3 j
  rw [if_pos hjn, getD_get _ hj] at this
  rw [this, List.getElem_map]
  show absN (d.getD j 0) = _
  rw [getD_get d (by omega)]
theorem diag_found {n ru rv : Nat} {d u v : List Nat} (hn : d.length = n) (hd : ∀ y ∈ d, ffin y = true) :
    (∀ y ∈ d.map absN, ffin y = true) ∧ (∃ l', takeAll (sortG n ru rv (d.map absN) u v n).1 d = some l') ∧ ∀ k, 0 < k → k < n → flt ((sortG n ru rv (d.map absN) u v n).1.getD (k - 1) 0) ((sortG n ru rv (d.map absN) u v n).1.getD k 0) = false := by
  have hf : ∀ y ∈ d.map absN, ffin y = true := fun y hy => by
    obtain ⟨x, hx, rfl⟩ := List.mem_map.1 hy
    exact (absN_key (hd x hx)).1
  have hl : (d.map absN).length = n := by rw [List.length_map, hn]
  have hp := sortG_perm n ru rv (d.map absN) u v n (by omega)
  refine ⟨hf, takeAll_spec _ _ (fun s hs => ?_) hd ?_, fun k h1 h2 => sortG_fall hl (fun j _ => getD_fin hf j) h1 h2⟩
  · obtain ⟨x, hx, rfl⟩ := List.mem_map.1 (hp.mem_iff.1 hs)
    obtain ⟨k1, k2⟩ := absN_key (hd x hx)
    refine ⟨isnan_ffinq k1, ?_⟩
    rw [k2, sz63_absN (hd x hx)]
    rfl
  · refine (hp.map sz63).trans ?_
    rw [List.map_map]
    rw [List.map_congr_left (f := sz63 ∘ absN) (g := sz63) (fun x hx => sz63_absN (hd x hx))]
/-- **What GkFalls asks**: values fall, and none is below nought. -/
theorem falls_spec {n ru rv big : Nat} {x : GkS} {u v : List Nat} {s : Nat} (hn : (solG n ru rv big n x s).1.d.length = n) (hx : x.d.length = n) (hok : (solG n ru rv big n x s).2.2 = true) (hf : ∀ y ∈ (solG n ru rv big n x s).1.d, ffin y = true) :
    (∀ k, k < n → flt ((sortG n ru rv (solG n ru rv big n x s).1.d u v n).1.getD k 0) 0 = false) ∧ ∀ k, 0 < k → k < n → flt ((sortG n ru rv (solG n ru rv big n x s).1.d u v n).1.getD (k - 1) 0) ((sortG n ru rv (solG n ru rv big n x s).1.d u v n).1.getD k 0) = false := by
  have hup := solG_up n ru rv big n x s (fun j hj => by rw [List.getD_eq_getElem?_getD, List.getElem?_eq_none (by omega)]; exact flt_zero_zero) hok
  generalize (solG n ru rv big n x s).1.d = D at *
  obtain ⟨⟨σ, s1, _, s3⟩, _⟩ := sortG_spec (n := n) (ru := ru) (rv := rv) (u := u) (v := v) hn (fun j _ => isnan_ffinq (getD_fin hf j)) n (Nat.le_refl _)
  refine ⟨fun k hk => ?_, fun k h1 h2 => sortG_fall hn (fun j _ => getD_fin hf j) h1 h2⟩
  rw [s3 k hk]
  exact hup _
end Go.Proofs.Ytdljnhdhigbefaa

/- Layer 17, the document: two columns turned (printed by gen_ur.py). No condition but on lengths. -/
namespace Go.Proofs.Ytdljnhdhigbefaa
open Go Go.RowKit
set_option maxRecDepth 1000000

theorem idx17 {r n j N PP : Nat} (hP : PP = r * n) (hlt : PP + j < N) (hN : N ≤ 262144) : IntKind.i64.wrap ((PP : Int) + (j : Int)) = (PP : Int) + j ∧ 0 ≤ (PP : Int) + j ∧ (PP : Int) + (j : Int) < (N : Int) ∧ ((PP : Int) + (j : Int)).toNat = PP + j := ⟨by rw [IntKind.wrap_i64]; omega, by omega, by omega, by omega⟩
set_option maxHeartbeats 8000000 in
theorem RTurn17 (w : World) (rows cols j i zb zc c sc s ss : Nat) (z : List Nat) (hF : Flb w zb z) (hl : z.length = rows * cols) (hlc : z.length ≤ zc) (hcap : zc ≤ maxLen) (hj : j < cols) (hi : i < cols) (hr : rows ≤ 512) (hc : cols ≤ 512) :
    Calls Try.prog 63 #[.agg #[.int .i64 rows, .int .i64 cols, .slice (some ⟨zb, 0, none⟩) z.length zc], .int .i64 j, .int .i64 i, .float .f64 (raw c sc), .float .f64 (raw s ss)] w fun e w' => e = .returned (.tuple #[]) ∧ Flb w' zb (rotL z cols j i c s rows) ∧ Bel w.heap.size zb w w' := by
  have hszb : z.length ≤ 262144 := by rw [hl]; exact Nat.le_trans (Nat.mul_le_mul hr hc) (by decide)
  have HZ := Lib.hid (show _ ∧ _ ∧ _ ∧ _ ∧ _ ∧ _ ∧ _ from ⟨hl, hj, hi, hr, hc, hszb, hlc⟩)
  clear hl hj hi hr hc hlc hszb hcap
  obtain ⟨W0, hW0⟩ : ∃ W0, W0 = (w.alloc (.cells #[.int .i64 rows, .int .i64 cols, .slice (some ⟨zb, 0, none⟩) z.length zc] 26)) := ⟨_, rfl⟩
  have hB0 : Below w.heap.size w W0 := hW0 ▸ (Below.refl _ _).alloc (Nat.le_refl _) _
  have x0 : Box W0 w.heap.size [.int .i64 rows, .int .i64 cols, .slice (some ⟨zb, 0, none⟩) z.length zc] := hW0 ▸ (Box.newA w [.int .i64 rows, .int .i64 cols, .slice (some ⟨zb, 0, none⟩) z.length zc] _ rfl)
  have hne : w.heap.size ≠ zb := by have := hF.lt; omega
  have X0 := Lib.hid (show _ ∧ _ ∧ _ ∧ _ from ⟨x0, hF.below hB0, (Bel.of hB0 : Bel w.heap.size zb w W0), hne⟩)
  clear hB0 x0 hF hne
  go_enter Try.func63, Try.ntmps63
  go_upto_region 1 with (fail)
  rw [← hW0]
  clear hW0
  go_wp2_with fail
  go_loopw [10] (fun si wr => ∃ r : Nat, r ≤ rows ∧ si = .int .i64 r ∧ Box wr w.heap.size [.int .i64 rows, .int .i64 cols, .slice (some ⟨zb, 0, none⟩) z.length zc] ∧ Flb wr zb (rotL z cols j i c s r) ∧ Bel w.heap.size zb w wr) (fun si _ => rows - (intOf si).toNat)
  case atStart => exact ⟨0, Nat.zero_le _, rfl, X0.out.1, X0.out.2.1, X0.out.2.2.1⟩
  case round =>
    obtain ⟨r, hrr, rfl, hX, hF, hB⟩ := hrel
    have R1 := Lib.hid (show _ ∧ _ ∧ _ from ⟨hX, hF, hB⟩)
    clear hX hF hB
    by_cases hlt : r < rows
    case pos =>
      have HLT := Lib.hid hlt
      have hr9 : r < 1000 := by have := HZ.out.2.2.2.1; omega
      obtain ⟨L, hL⟩ : ∃ L, L = rotL z cols j i c s r := ⟨_, rfl⟩
      have hlen : L.length = z.length := by rw [hL, rotL, colsL_len]
      rw [← hL] at R1
      have HL := Lib.hid hL
      clear hL
      have hp1 := place_ltq hlt HZ.out.2.1
      have hp2 := place_ltq hlt HZ.out.2.2.1
      rw [← HZ.out.1] at hp1 hp2
      obtain ⟨w1, w2⟩ := idxU hp1 HZ.out.2.2.2.2.2.1
      obtain ⟨P, hP⟩ : ∃ P, P = r * cols := ⟨_, rfl⟩
      rw [← hP] at hp1 hp2 w1 w2
      obtain ⟨w3, q1, q2, q3⟩ := idx17 hP hp1 HZ.out.2.2.2.2.2.1
      obtain ⟨w5, q4, q5, q6⟩ := idx17 hP hp2 HZ.out.2.2.2.2.2.1
      have HP := Lib.hid hP
      clear hP
      obtain ⟨sx, cx⟩ := R1.out.2.1.at (i := P + j) (by rw [hlen]; exact hp1)
      obtain ⟨sy, cy⟩ := R1.out.2.1.at (i := P + i) (by rw [hlen]; exact hp2)
      obtain ⟨x, hx⟩ : ∃ x, x = L.getD (P + j) 0 := ⟨_, rfl⟩
      obtain ⟨y, hy⟩ : ∃ y, y = L.getD (P + i) 0 := ⟨_, rfl⟩
      rw [← hx] at cx
      rw [← hy] at cy
      have HXY := Lib.hid (And.intro hx hy)
      have HLen := Lib.hid hlen
      have HPB := Lib.hid (And.intro hp1 hp2)
      clear hx hy hlen
      obtain ⟨f01, f02, f03⟩ := R1.out.1.facts
      go_upto_region 4 with (fail)
      have hdr : Below wr.heap.size wr wr.drew := below_drewN 1 (Below.refl _ wr)
      have R2 := Lib.hid (show _ ∧ _ ∧ _ from ⟨R1.out.1.below hdr, R1.out.2.1.below hdr, bel_step R1.out.2.2 R1.out.2.2.size (Bel.of hdr)⟩)
      rw [← (below_cells hdr).1 _ _ R1.out.2.1.lt] at cx cy
      clear R1 f01 f02 f03
      refine wp_region_items 21 [(true, 0), (true, 1), (true, 2), (true, 3), (true, 4), (true, 5), (true, 6), (true, 7), (true, 8), (true, 9), (true, 10), (true, 11), (true, 12), (true, 13), (true, 14), (true, 15), (true, 16), (true, 17), (true, 18), (true, 19), (true, 20)] (fun W => (∀ i, W.cell? ⟨w.heap.size, i, none⟩ = ([.int .i64 rows, .int .i64 cols, .slice (some ⟨zb, 0, none⟩) z.length zc] : List Value)[i]?) ∧ W.cell? ⟨zb, P + j, none⟩ = some (.float .f64 (raw x sx)) ∧ W.cell? ⟨zb, P + i, none⟩ = some (.float .f64 (raw y sy))) (by kernel_rfl) (by kernel_rfl) ⟨R2.out.1.cell, cx, cy⟩ ?_
      generalize wr.drew = y0 at *
      clear hdr cx cy
      iterate 21 (refine iW_take (v := ?_) rfl rfl ?_ ?_; rotate_left; (next => (intro w' hSw; (try dsimp only at hSw); go_simp; (try (rw [if_pos (by omega)]; go_simp)); (try with_reducible rfl))); (simp only [Act.put, List.setIfInBounds_toArray, List.set_cons_zero, List.set_cons_succ]))
      refine iW_nil ?_
      go_simp
      go_wp2_with fail
      refine NoPanic.normal ?_
      go_upto_region 7 with (first | (refine wpList_flt rfl rfl rfl rfl rfl ?_; intro K hK _ _; go_frame; refine hK _ _ ?_; clear hK K))
      rename_i s1 n1 s2 n2 s3 n3 s4 n4 KK AA
      (try simp only [fadd_rawl, fadd_rawr, fsub_rawl, fsub_rawr, fmul_rawl, fmul_rawr, fdiv_rawl, fdiv_rawr])
      obtain ⟨f01, f02, f03⟩ := R2.out.1.facts
      have g1 := R2.out.2.1.lt
      have g2 := R2.out.2.1.frozen
      obtain ⟨sp, g3⟩ := R2.out.2.1.at (i := P + j) (by rw [HLen.out]; exact HPB.out.1)
      go_upto_region 8 with (first | (refine wpList_flt rfl rfl rfl rfl rfl ?_; intro K hK _ _; go_frame; refine hK _ _ ?_; clear hK K))
      clear f01 f02 f03 g1 g2 g3
      (try simp only [fadd_rawl, fadd_rawr, fsub_rawl, fsub_rawr, fmul_rawl, fmul_rawr, fdiv_rawl, fdiv_rawr])
      rename_i sp n5
      have hd5 : Below y0.heap.size y0 (y0.drewN (n1 + n2 + n3 + n4 + n5)) := below_drewN _ (Below.refl _ _)
      obtain ⟨y2, hy2⟩ : ∃ y2, y2 = (y0.drewN (n1 + n2 + n3 + n4 + n5)).setCell ⟨zb, P + j, none⟩ (.float .f64 (raw (fadd (fmul x c) (fmul y s)) sp)) := ⟨_, rfl⟩
      rw [← hy2]
      have R4 := Lib.hid (show Box y2 w.heap.size [.int .i64 rows, .int .i64 cols, .slice (some ⟨zb, 0, none⟩) z.length zc] ∧ Flb y2 zb (L.set (P + j) (fadd (fmul x c) (fmul y s))) ∧ Bel w.heap.size zb w y2 from hy2 ▸ ⟨(R2.out.1.below hd5).set_other X0.out.2.2.2 _ _, (R2.out.2.1.below hd5).set _ _ _, (bel_step R2.out.2.2 R2.out.2.2.size (Bel.of hd5)).set _ _⟩)
      clear R2 hd5 hy2
      obtain ⟨f01, f02, f03⟩ := R4.out.1.facts
      have g1 := R4.out.2.1.lt
      have g2 := R4.out.2.1.frozen
      obtain ⟨sq, g3⟩ := R4.out.2.1.at (i := P + i) (by rw [List.length_set, HLen.out]; exact HPB.out.2)
      go_upto_region 9 with (first | (refine wpList_flt rfl rfl rfl rfl rfl ?_; intro K hK _ _; go_frame; refine hK _ _ ?_; clear hK K))
      clear f01 f02 f03 g1 g2 g3
      (try simp only [fadd_rawl, fadd_rawr, fsub_rawl, fsub_rawr, fmul_rawl, fmul_rawr, fdiv_rawl, fdiv_rawr])
      rename_i sq n6
      have hd6 : Below y2.heap.size y2 (y2.drewN n6) := below_drewN _ (Below.refl _ _)
      go_roundw
      case rel => exact ⟨r + 1, HLT.out, by go_num, (R4.out.1.below hd6).set_other X0.out.2.2.2 _ _, by rw [rotL, colsL, colsR, ← rotL, ← HL.out, ← HP.out, ← HXY.out.1, ← HXY.out.2, rotA, rotB]; exact (R4.out.2.1.below hd6).set _ _ _, (bel_step R4.out.2.2 R4.out.2.2.size (Bel.of hd6)).set _ _⟩
      case measure => simp [intOf]; omega
    case neg =>
      obtain rfl : rows = r := by omega
      obtain ⟨f01, f02, f03⟩ := R1.out.1.facts
      go_wp2_with fail
      exact bodyPost_end (results_none rfl _ _ _) rfl ⟨rfl, R1.out.2.1, R1.out.2.2⟩
end Go.Proofs.Ytdljnhdhigbefaa

/- Layer 17, the document: two columns exchanged (printed by gen_us.py). No condition but on lengths. -/
namespace Go.Proofs.Ytdljnhdhigbefaa
open Go Go.RowKit
set_option maxRecDepth 1000000

set_option maxHeartbeats 8000000 in
theorem RExch17 (w : World) (rows cols i k zb zc : Nat) (z : List Nat) (hF : Flb w zb z) (hl : z.length = rows * cols) (hlc : z.length ≤ zc) (hcap : zc ≤ maxLen) (hj : i < cols) (hi : k < cols) (hr : rows ≤ 512) (hc : cols ≤ 512) :
    Calls Try.prog 96 #[.agg #[.int .i64 rows, .int .i64 cols, .slice (some ⟨zb, 0, none⟩) z.length zc], .int .i64 i, .int .i64 k] w fun e w' => e = .returned (.tuple #[]) ∧ Flb w' zb (swcL z cols i k rows) ∧ Bel w.heap.size zb w w' := by
  have hszb : z.length ≤ 262144 := by rw [hl]; exact Nat.le_trans (Nat.mul_le_mul hr hc) (by decide)
  have HZ := Lib.hid (show _ ∧ _ ∧ _ ∧ _ ∧ _ ∧ _ ∧ _ from ⟨hl, hj, hi, hr, hc, hszb, hlc⟩)
  clear hl hj hi hr hc hlc hszb hcap
  obtain ⟨W0, hW0⟩ : ∃ W0, W0 = (w.alloc (.cells #[.int .i64 rows, .int .i64 cols, .slice (some ⟨zb, 0, none⟩) z.length zc] 26)) := ⟨_, rfl⟩
  have hB0 : Below w.heap.size w W0 := hW0 ▸ (Below.refl _ _).alloc (Nat.le_refl _) _
  have x0 : Box W0 w.heap.size [.int .i64 rows, .int .i64 cols, .slice (some ⟨zb, 0, none⟩) z.length zc] := hW0 ▸ (Box.newA w [.int .i64 rows, .int .i64 cols, .slice (some ⟨zb, 0, none⟩) z.length zc] _ rfl)
  have hne : w.heap.size ≠ zb := by have := hF.lt; omega
  have X0 := Lib.hid (show _ ∧ _ ∧ _ ∧ _ from ⟨x0, hF.below hB0, (Bel.of hB0 : Bel w.heap.size zb w W0), hne⟩)
  clear hB0 x0 hF hne
  go_enter Try.func96, Try.ntmps96
  go_upto_region 1 with (fail)
  rw [← hW0]
  clear hW0
  go_wp2_with fail
  go_loopw [6] (fun si wr => ∃ r : Nat, r ≤ rows ∧ si = .int .i64 r ∧ Box wr w.heap.size [.int .i64 rows, .int .i64 cols, .slice (some ⟨zb, 0, none⟩) z.length zc] ∧ Flb wr zb (swcL z cols i k r) ∧ Bel w.heap.size zb w wr) (fun si _ => rows - (intOf si).toNat)
  case atStart => exact ⟨0, Nat.zero_le _, rfl, X0.out.1, X0.out.2.1, X0.out.2.2.1⟩
  case round =>
    obtain ⟨r, hrr, rfl, hX, hF, hB⟩ := hrel
    have R1 := Lib.hid (show _ ∧ _ ∧ _ from ⟨hX, hF, hB⟩)
    clear hX hF hB
    by_cases hlt : r < rows
    case pos =>
      have HLT := Lib.hid hlt
      have hr9 : r < 1000 := by have := HZ.out.2.2.2.1; omega
      obtain ⟨L, hL⟩ : ∃ L, L = swcL z cols i k r := ⟨_, rfl⟩
      have hlen : L.length = z.length := by rw [hL, swcL, colsL_len]
      rw [← hL] at R1
      have HL := Lib.hid hL
      clear hL
      have hp1 := place_ltq hlt HZ.out.2.1
      have hp2 := place_ltq hlt HZ.out.2.2.1
      rw [← HZ.out.1] at hp1 hp2
      obtain ⟨w1, w2⟩ := idxU hp1 HZ.out.2.2.2.2.2.1
      obtain ⟨P, hP⟩ : ∃ P, P = r * cols := ⟨_, rfl⟩
      rw [← hP] at hp1 hp2 w1 w2
      obtain ⟨w3, q1, q2, q3⟩ := idx17 hP hp1 HZ.out.2.2.2.2.2.1
      obtain ⟨w5, q4, q5, q6⟩ := idx17 hP hp2 HZ.out.2.2.2.2.2.1
      have HP := Lib.hid hP
      clear hP
      obtain ⟨sx, cx⟩ := R1.out.2.1.at (i := P + i) (by rw [hlen]; exact hp1)
      obtain ⟨sy, cy⟩ := R1.out.2.1.at (i := P + k) (by rw [hlen]; exact hp2)
      obtain ⟨x, hx⟩ : ∃ x, x = L.getD (P + i) 0 := ⟨_, rfl⟩
      obtain ⟨y, hy⟩ : ∃ y, y = L.getD (P + k) 0 := ⟨_, rfl⟩
      rw [← hx] at cx
      rw [← hy] at cy
      have HXY := Lib.hid (And.intro hx hy)
      have HLen := Lib.hid hlen
      have HPB := Lib.hid (And.intro hp1 hp2)
      clear hx hy hlen
      obtain ⟨f01, f02, f03⟩ := R1.out.1.facts
      have g1 := R1.out.2.1.lt
      have g2 := R1.out.2.1.frozen
      go_upto_region 5 with (fail)
      have hdr : Below wr.heap.size wr wr.drew := below_drewN 1 (Below.refl _ wr)
      have R2 := Lib.hid (show _ ∧ _ ∧ _ from ⟨R1.out.1.below hdr, R1.out.2.1.below hdr, bel_step R1.out.2.2 R1.out.2.2.size (Bel.of hdr)⟩)
      rw [← (below_cells hdr).1 _ _ R1.out.2.1.lt] at cx cy
      clear R1 f01 f02 f03 g1 g2
      refine wp_region_items 19 [(true, 0), (true, 1), (true, 2), (true, 3), (true, 4), (true, 5), (true, 6), (true, 7), (true, 8), (true, 9), (true, 10), (true, 11), (true, 12), (true, 13), (true, 14), (true, 15), (true, 16), (true, 17), (true, 18)] (fun W => (∀ i, W.cell? ⟨w.heap.size, i, none⟩ = ([.int .i64 rows, .int .i64 cols, .slice (some ⟨zb, 0, none⟩) z.length zc] : List Value)[i]?) ∧ W.cell? ⟨zb, P + i, none⟩ = some (.float .f64 (raw x sx)) ∧ W.cell? ⟨zb, P + k, none⟩ = some (.float .f64 (raw y sy))) (by kernel_rfl) (by kernel_rfl) ⟨R2.out.1.cell, cx, cy⟩ ?_
      generalize wr.drew = y0 at *
      clear hdr cy
      iterate 19 (refine iW_take (v := ?_) rfl rfl ?_ ?_; rotate_left; (next => (intro w' hSw; (try dsimp only at hSw); go_simp; (try (rw [if_pos (by omega)]; go_simp)); (try with_reducible rfl))); (simp only [Act.put, List.setIfInBounds_toArray, List.set_cons_zero, List.set_cons_succ]))
      refine iW_nil ?_
      have g1 := R2.out.2.1.lt
      have g2 := R2.out.2.1.frozen
      go_simp
      go_wp2_with fail
      clear g1 g2 cx
      refine NoPanic.normal ?_
      obtain ⟨y2, hy2⟩ : ∃ y2, y2 = y0.setCell ⟨zb, P + i, none⟩ (.float .f64 (raw y sy)) := ⟨_, rfl⟩
      try rw [← hy2]
      have R4 := Lib.hid (show Box y2 w.heap.size [.int .i64 rows, .int .i64 cols, .slice (some ⟨zb, 0, none⟩) z.length zc] ∧ Flb y2 zb (L.set (P + i) y) ∧ Bel w.heap.size zb w y2 from hy2 ▸ ⟨R2.out.1.set_other X0.out.2.2.2 _ _, R2.out.2.1.set _ _ _, R2.out.2.2.set _ _⟩)
      clear R2 hy2
      obtain ⟨f01, f02, f03⟩ := R4.out.1.facts
      have g1 := R4.out.2.1.lt
      have g2 := R4.out.2.1.frozen
      obtain ⟨sq, g3⟩ := R4.out.2.1.at (i := P + k) (by rw [List.length_set, HLen.out]; exact HPB.out.2)
      go_wp2_with fail
      clear f01 f02 f03 g1 g2 g3
      go_roundw
      case rel => exact ⟨r + 1, HLT.out, by go_num, R4.out.1.set_other X0.out.2.2.2 _ _, by rw [swcL, colsL, colsR, ← swcL, ← HL.out, ← HP.out, ← HXY.out.1, ← HXY.out.2]; exact R4.out.2.1.set _ _ _, R4.out.2.2.set _ _⟩
      case measure => simp [intOf]; omega
    case neg =>
      obtain rfl : rows = r := by omega
      obtain ⟨f01, f02, f03⟩ := R1.out.1.facts
      go_wp2_with fail
      exact bodyPost_end (results_none rfl _ _ _) rfl ⟨rfl, R1.out.2.1, R1.out.2.2⟩
end Go.Proofs.Ytdljnhdhigbefaa

/- Layer 17, the document: two columns of a matrix that may have no rows, turned or exchanged. No condition but on lengths. -/
namespace Go.Proofs.Ytdljnhdhigbefaa
open Go Go.RowKit
set_option maxRecDepth 1000000

set_option maxHeartbeats 4000000 in
theorem turn17_none (w : World) (cols : Nat) (sv a b c d : Value) :
    Calls Try.prog 63 #[.agg #[.int .i64 (0 : Nat), .int .i64 cols, sv], a, b, c, d] w fun e w' => e = .returned (.tuple #[]) ∧ Below w.heap.size w w' := by
  obtain ⟨W0, hW0⟩ : ∃ W0, W0 = (w.alloc (.cells #[.int .i64 0, .int .i64 cols, sv] 26)) := ⟨_, rfl⟩
  have hb : Below w.heap.size w W0 := hW0 ▸ (Below.refl _ _).alloc (Nat.le_refl _) _
  have x0 : Box W0 w.heap.size [.int .i64 0, .int .i64 cols, sv] := hW0 ▸ (Box.newA w [.int .i64 0, .int .i64 cols, sv] _ rfl)
  go_enter Try.func63, Try.ntmps63
  go_upto_region 1 with (fail)
  rw [← hW0]
  clear hW0
  go_wp2_with fail
  go_loopw [10] (fun si wr => si = .int .i64 0 ∧ Box wr w.heap.size [.int .i64 0, .int .i64 cols, sv] ∧ Below w.heap.size w wr) (fun si _ => 0)
  case atStart => exact ⟨rfl, x0, hb⟩
  case round =>
    obtain ⟨rfl, hX, hB⟩ := hrel
    obtain ⟨f01, f02, f03⟩ := hX.facts
    go_wp2_with fail
    exact bodyPost_end (results_none rfl _ _ _) rfl ⟨rfl, hB⟩
set_option maxHeartbeats 4000000 in
theorem exch17_none (w : World) (cols : Nat) (sv a b : Value) :
    Calls Try.prog 96 #[.agg #[.int .i64 (0 : Nat), .int .i64 cols, sv], a, b] w fun e w' => e = .returned (.tuple #[]) ∧ Below w.heap.size w w' := by
  obtain ⟨W0, hW0⟩ : ∃ W0, W0 = (w.alloc (.cells #[.int .i64 0, .int .i64 cols, sv] 26)) := ⟨_, rfl⟩
  have hb : Below w.heap.size w W0 := hW0 ▸ (Below.refl _ _).alloc (Nat.le_refl _) _
  have x0 : Box W0 w.heap.size [.int .i64 0, .int .i64 cols, sv] := hW0 ▸ (Box.newA w [.int .i64 0, .int .i64 cols, sv] _ rfl)
  go_enter Try.func96, Try.ntmps96
  go_upto_region 1 with (fail)
  rw [← hW0]
  clear hW0
  go_wp2_with fail
  go_loopw [6] (fun si wr => si = .int .i64 0 ∧ Box wr w.heap.size [.int .i64 0, .int .i64 cols, sv] ∧ Below w.heap.size w wr) (fun si _ => 0)
  case atStart => exact ⟨rfl, x0, hb⟩
  case round =>
    obtain ⟨rfl, hX, hB⟩ := hrel
    obtain ⟨f01, f02, f03⟩ := hX.facts
    go_wp2_with fail
    exact bodyPost_end (results_none rfl _ _ _) rfl ⟨rfl, hB⟩
section
variable {rows cols zc zb : Nat} {za : Option Addr} {z : List Nat}
theorem turn17_any (w : World) (j i c sc s ss : Nat) (h : MxF w rows cols za zc zb z) (hj : j < cols) (hi : i < cols) (hr : rows ≤ 512) (hc : cols ≤ 512) :
    Calls Try.prog 63 #[.agg #[.int .i64 rows, .int .i64 cols, .slice za z.length zc], .int .i64 j, .int .i64 i, .float .f64 (raw c sc), .float .f64 (raw s ss)] w fun e w' => e = .returned (.tuple #[]) ∧ MxF w' rows cols za zc zb (rotL z cols j i c s rows) ∧ Bel w.heap.size zb w w' := by
  have hlen : (rotL z cols j i c s rows).length = z.length := colsL_len _ _ _ _ _ _ _
  have hww : Words (rotL z cols j i c s rows) := colsL_words h.words (rotAB c s) rows
  by_cases h0 : z = []
  · have hr0 : rows = 0 := by
      have := h.len
      rw [h0] at this
      rcases Nat.mul_eq_zero.1 this.symm with h1 | h1
      · exact h1
      · omega
    subst hr0
    refine (turn17_none w cols (.slice za z.length zc) (.int .i64 j) (.int .i64 i) (.float .f64 (raw c sc)) (.float .f64 (raw s ss))).mono ?_
    rintro e w' ⟨rfl, hb⟩
    exact ⟨rfl, ⟨.inl h0, h.len, h.cap, h.words⟩, Bel.of hb⟩
  · rcases h.fs with h1 | ⟨rfl, h2⟩
    · exact absurd h1 h0
    · refine (RTurn17 w rows cols j i zb zc c sc s ss z h2 h.len h.cap.1 h.cap.2 hj hi hr hc).mono ?_
      rintro e w' ⟨rfl, hF, hb⟩
      exact ⟨rfl, ⟨.inr ⟨rfl, hF⟩, by rw [hlen]; exact h.len, by rw [hlen]; exact h.cap, hww⟩, hb⟩
theorem exch17_any (w : World) (i k : Nat) (h : MxF w rows cols za zc zb z) (hj : i < cols) (hi : k < cols) (hr : rows ≤ 512) (hc : cols ≤ 512) :
    Calls Try.prog 96 #[.agg #[.int .i64 rows, .int .i64 cols, .slice za z.length zc], .int .i64 i, .int .i64 k] w fun e w' => e = .returned (.tuple #[]) ∧ MxF w' rows cols za zc zb (swcL z cols i k rows) ∧ Bel w.heap.size zb w w' := by
  have hlen : (swcL z cols i k rows).length = z.length := colsL_len _ _ _ _ _ _ _
  have hww : Words (swcL z cols i k rows) := colsL_words h.words swapAB rows
  by_cases h0 : z = []
  · have hr0 : rows = 0 := by
      have := h.len
      rw [h0] at this
      rcases Nat.mul_eq_zero.1 this.symm with h1 | h1
      · exact h1
      · omega
    subst hr0
    refine (exch17_none w cols (.slice za z.length zc) (.int .i64 i) (.int .i64 k)).mono ?_
    rintro e w' ⟨rfl, hb⟩
    exact ⟨rfl, ⟨.inl h0, h.len, h.cap, h.words⟩, Bel.of hb⟩
  · rcases h.fs with h1 | ⟨rfl, h2⟩
    · exact absurd h1 h0
    · refine (RExch17 w rows cols i k zb zc z h2 h.len h.cap.1 h.cap.2 hj hi hr hc).mono ?_
      rintro e w' ⟨rfl, hF, hb⟩
      exact ⟨rfl, ⟨.inr ⟨rfl, hF⟩, by rw [hlen]; exact h.len, by rw [hlen]; exact h.cap, hww⟩, hb⟩
end
end Go.Proofs.Ytdljnhdhigbefaa
