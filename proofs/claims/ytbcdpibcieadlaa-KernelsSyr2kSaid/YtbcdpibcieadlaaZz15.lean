/- Layer 8: the law's helpers; the document's sums. No condition but on lengths. -/
import Derived.Test.YtbcdpibcieadlaaKkZ
namespace Go.Proofs.Ytbcdpibcieadlaa
open Go Go.RowKit
set_option maxRecDepth 1000000

theorem num8_any (n : Int) (w : World) : Calls Try.prog 22 #[.int .i64 n] w fun e w' => e = .returned (.int .i64 n) ∧ w = w' := by
  go_enter Try.func22, Try.ntmps22
  go_wp2
  go_ret
  exact ⟨rfl, rfl⟩
set_option maxHeartbeats 1000000 in
theorem float8_raw (x s t : Nat) (hx : x < 18446744073709551616) (w : World) : Calls Try.prog 23 #[.float .f64 (raw x s), .float .f64 (raw x t)] w fun e w' => e = .returned (.bool true) ∧ w = w' := by
  have H1 := Lib.hid (fun W => nm_raw x s ▸ Bits_any (raw x s) (raw_lt hx s) W)
  have H2 := Lib.hid (fun W => nm_raw x t ▸ Bits_any (raw x t) (raw_lt hx t) W)
  have t0 : ((nm x : Int) == (nm x : Int)) = true := beq_self_eq_true _
  generalize nm x = z at *
  go_enter Try.func23, Try.ntmps23
  go_wp2_with fail
  refine (H1.out _).mono ?_
  rintro e w1 ⟨rfl, rfl⟩
  go_wp2_with fail
  refine (H2.out _).mono ?_
  rintro e w2 ⟨rfl, rfl⟩
  go_wp2
  go_ret
  exact ⟨rfl, rfl⟩
theorem float8_zero (w : World) : Calls Try.prog 23 #[.float .f64 0, .float .f64 0] w fun e w' => e = .returned (.bool true) ∧ w = w' := by
  have := float8_raw 0 0 0 (by decide) w
  rw [raw_of_not (by kernel_rfl)] at this
  exact this
set_option maxHeartbeats 2000000 in
theorem vec_any (w : World) (a : Option Addr) (l : List Nat) (cap : Nat) (hZ : Cel w a l) (hl : l.length ≤ 512) :
    Calls Try.prog 36 #[.slice a l.length cap] w fun e w' => ∃ st sb, e = .returned (newV st l.length 1).val ∧ w.heap.size ≤ st ∧ w.heap.size ≤ sb ∧ Sto w' (some ⟨st, 0, none⟩) sb l ∧ Below w.heap.size w w' := by
  have hbA : Below w.heap.size w (w.alloc (.cells #[.pointer none, .int .i64 0, .int .i64 0, .int .i64 0, .int .i64 0, .int .i64 0] 29)) := (Below.refl _ _).alloc (Nat.le_refl _) _
  have x2 := Box.newA w [.pointer none, .int .i64 0, .int .i64 0, .int .i64 0, .int .i64 0, .int .i64 0] 29 rfl
  have HO := Lib.hid (Of_yes l.length 1 a l cap _ hl (by decide) (by simp) (hZ.below hbA))
  have HX := Lib.hid (And.intro hbA x2)
  clear hZ hbA x2
  go_enter Try.func36, Try.ntmps36
  go_wp2_with fail
  refine HO.out.mono ?_
  rintro e w1 ⟨st, sb, rfl, k1, k2, hS, hb1⟩
  have hB1 := below_step HX.out.1 HX.out.1.size hb1
  have x2 := HX.out.2.below hb1
  have hbB : Below w1.heap.size w1 (w1.alloc (.cells #[.pointer (some ⟨st, 0, none⟩), .int .i64 l.length, .int .i64 1, .int .i64 0, .int .i64 1, .int .i64 1] 29)) := (Below.refl _ _).alloc (Nat.le_refl _) _
  have x3 : Box (w1.alloc (.cells #[.pointer (some ⟨st, 0, none⟩), .int .i64 l.length, .int .i64 1, .int .i64 0, .int .i64 1, .int .i64 1] 29)) w1.heap.size [.pointer (some ⟨st, 0, none⟩), .int .i64 l.length, .int .i64 (1 : Nat), .int .i64 (0 : Nat), .int .i64 (1 : Nat), .int .i64 (1 : Nat)] := Box.newA _ _ _ rfl
  replace x2 := x2.below hbB
  have hB2 := below_step hB1 hB1.size hbB
  have hlt := sto_lts hS
  have hS2 := hS.below hbB
  have hx := HX.out.1.size
  simp only [World.size_alloc] at k1 k2 hx
  unfold newV Vw.val
  dsimp only
  obtain ⟨p1, p2, p3⟩ := x2.facts
  have x2' := six_box (u := ⟨none, 0, 0, 0, 0, 0⟩) x2 (newV st l.length 1)
  have hB3 := six_below hB2 (Nat.le_refl _) (newV st l.length 1)
  have hS3 := Sto.bel hS2 (by omega) (by omega) (six_bel _ _ w.heap.size (newV st l.length 1))
  have HE := Lib.hid (show _ ∧ _ ∧ _ ∧ _ ∧ _ from ⟨x2', hB3, hS3, k1, k2⟩)
  clear hB1 x2 hbB x3 hB2 hS hlt hS2 hx x2' hB3 hS3 hb1 HX HO k1 k2
  go_wp2
  exact bodyPost_ret (results_one rfl (rv_cell (g := w.heap.size) rfl HE.out.1 rfl Try.underlying29 (by kernel_rfl))) rfl ⟨st, sb, rfl, by have := HE.out.2.2.2.1; omega, by have := HE.out.2.2.2.2; omega, HE.out.2.2.1, HE.out.2.1⟩
set_option maxHeartbeats 2000000 in
theorem two_any (w : World) (a : Option Addr) (l : List Nat) (cap : Nat) (hZ : Cel w a l) (hl : l.length = 4) :
    Calls Try.prog 58 #[.slice a l.length cap] w fun e w' => ∃ st sb, e = .returned (newV st 2 2).val ∧ w.heap.size ≤ st ∧ w.heap.size ≤ sb ∧ Sto w' (some ⟨st, 0, none⟩) sb l ∧ Below w.heap.size w w' := by
  have hbA : Below w.heap.size w (w.alloc (.cells #[.pointer none, .int .i64 0, .int .i64 0, .int .i64 0, .int .i64 0, .int .i64 0] 29)) := (Below.refl _ _).alloc (Nat.le_refl _) _
  have x2 := Box.newA w [.pointer none, .int .i64 0, .int .i64 0, .int .i64 0, .int .i64 0, .int .i64 0] 29 rfl
  have HO := Lib.hid (Of_yes 2 2 a l cap _ (by decide) (by decide) (by simpa using hl) (hZ.below hbA))
  have HX := Lib.hid (And.intro hbA x2)
  clear hZ hbA x2 hl
  go_enter Try.func58, Try.ntmps58
  go_wp2_with fail
  refine HO.out.mono ?_
  rintro e w1 ⟨st, sb, rfl, k1, k2, hS, hb1⟩
  have hB1 := below_step HX.out.1 HX.out.1.size hb1
  have x2 := HX.out.2.below hb1
  have hbB : Below w1.heap.size w1 (w1.alloc (.cells #[.pointer (some ⟨st, 0, none⟩), .int .i64 2, .int .i64 2, .int .i64 0, .int .i64 2, .int .i64 1] 29)) := (Below.refl _ _).alloc (Nat.le_refl _) _
  have x3 : Box (w1.alloc (.cells #[.pointer (some ⟨st, 0, none⟩), .int .i64 2, .int .i64 2, .int .i64 0, .int .i64 2, .int .i64 1] 29)) w1.heap.size [.pointer (some ⟨st, 0, none⟩), .int .i64 (2 : Nat), .int .i64 (2 : Nat), .int .i64 (0 : Nat), .int .i64 (2 : Nat), .int .i64 (1 : Nat)] := Box.newA _ _ _ rfl
  replace x2 := x2.below hbB
  have hB2 := below_step hB1 hB1.size hbB
  have hlt := sto_lts hS
  have hS2 := hS.below hbB
  have hx := HX.out.1.size
  simp only [World.size_alloc] at k1 k2 hx
  unfold newV Vw.val
  dsimp only
  obtain ⟨p1, p2, p3⟩ := x2.facts
  have x2' := six_box (u := ⟨none, 0, 0, 0, 0, 0⟩) x2 (newV st 2 2)
  have hB3 := six_below hB2 (Nat.le_refl _) (newV st 2 2)
  have hS3 := Sto.bel hS2 (by omega) (by omega) (six_bel _ _ w.heap.size (newV st 2 2))
  have HE := Lib.hid (show _ ∧ _ ∧ _ ∧ _ ∧ _ from ⟨x2', hB3, hS3, k1, k2⟩)
  clear hB1 x2 hbB x3 hB2 hS hlt hS2 hx x2' hB3 hS3 hb1 HX HO k1 k2
  go_wp2
  exact bodyPost_ret (results_one rfl (rv_cell (g := w.heap.size) rfl HE.out.1 rfl Try.underlying29 (by kernel_rfl))) rfl ⟨st, sb, rfl, by have := HE.out.2.2.2.1; omega, by have := HE.out.2.2.2.2; omega, HE.out.2.2.1, HE.out.2.1⟩
set_option maxHeartbeats 2000000 in
theorem big8_any (r c : Int) (a : Option Addr) (n cap : Nat) (w : World) (hn : n ≤ maxLen) : Calls Try.prog 15 #[.agg #[.int .i64 r, .int .i64 c, .slice a n cap]] w fun e w' => e = .returned (.bool (!mayM r c n || decide (150 < n))) ∧ Below w.heap.size w w' := by
  have hB0 : Below w.heap.size w (w.alloc (.cells #[.int .i64 r, .int .i64 c, .slice a n cap] 24)) := (Below.refl _ _).alloc (Nat.le_refl _) _
  have x0 := Box.newA w [.int .i64 r, .int .i64 c, .slice a n cap] 24 rfl
  have HM := Lib.hid (May07_any r c a n cap (w.alloc (.cells #[.int .i64 r, .int .i64 c, .slice a n cap] 24)) hn)
  have t1 : decide ((150 : Int) < (n : Int)) = decide (150 < n) := by rw [Bool.eq_iff_iff]; simp; omega
  generalize mayM r c n = q at *
  generalize decide (150 < n) = q2 at *
  have HX := Lib.hid (And.intro hB0 x0)
  clear hB0 x0 hn
  go_enter Try.func15, Try.ntmps15
  go_wp2_with fail
  refine HM.out.mono ?_
  rintro e w1 ⟨rfl, hb1⟩
  have x1 := HX.out.2.below hb1
  obtain ⟨p1, p2, p3⟩ := x1.facts
  have HB := Lib.hid (below_step HX.out.1 HX.out.1.size hb1)
  clear x1 hb1 HX HM
  dsimp only
  cases q
  · go_wp2_with fail
    go_ret
    exact ⟨rfl, HB.out⟩
  · go_wp2_with fail
    go_ret
    exact ⟨rfl, HB.out⟩
def vecM (r c : Int) : Bool := decide (r = 1) || decide (c = 1) || (decide (r = 0) && decide (c = 0))
set_option maxHeartbeats 2000000 in
theorem RVector_any (r c : Int) (a : Option Addr) (n cap : Nat) (w : World) : Calls Try.prog 21 #[.agg #[.int .i64 r, .int .i64 c, .slice a n cap]] w fun e w' => e = .returned (.bool (vecM r c)) ∧ Below w.heap.size w w' := by
  have hB0 : Below w.heap.size w (w.alloc (.cells #[.int .i64 r, .int .i64 c, .slice a n cap] 24)) := (Below.refl _ _).alloc (Nat.le_refl _) _
  have HX := Lib.hid hB0
  have t1 : (r == 1) = decide (r = 1) := by rw [Bool.eq_iff_iff]; simp
  have t2 : (c == 1) = decide (c = 1) := by rw [Bool.eq_iff_iff]; simp
  have t3 : (r == 0) = decide (r = 0) := by rw [Bool.eq_iff_iff]; simp
  have t4 : (c == 0) = decide (c = 0) := by rw [Bool.eq_iff_iff]; simp
  unfold vecM
  generalize decide (r = 1) = q1 at *
  generalize decide (c = 1) = q2 at *
  generalize decide (r = 0) = q3 at *
  generalize decide (c = 0) = q4 at *
  clear hB0
  cases q1 <;> cases q2 <;> cases q3
  all_goals
    go_enter Try.func21, Try.ntmps21
    go_wp2
    go_ret
    exact ⟨rfl, HX.out⟩
end Go.Proofs.Ytbcdpibcieadlaa

/- Layer 8: a matrix's view, or the turned one of its turned one. No condition but on lengths. -/
namespace Go.Proofs.Ytbcdpibcieadlaa
open Go Go.RowKit
set_option maxRecDepth 1000000

def ofV (t : Bool) (st r c : Nat) : Vw := if t then (newV st c r).T else newV st r c
def ofL (t : Bool) (r c : Nat) (zs : List Nat) : List Nat := if t then (newV 0 r c).T.list zs else zs
theorem ofV_p (t : Bool) (st r c : Nat) : (ofV t st r c).p = some ⟨st, 0, none⟩ := by unfold ofV; cases t <;> rfl
theorem ofV_r (t : Bool) (st r c : Nat) : (ofV t st r c).r = r := by unfold ofV; cases t <;> rfl
theorem ofV_c (t : Bool) (st r c : Nat) : (ofV t st r c).c = c := by unfold ofV; cases t <;> rfl
theorem ofL_length (t : Bool) (r c : Nat) (zs : List Nat) (hn : zs.length = r * c) : (ofL t r c zs).length = r * c := by
  unfold ofL
  cases t
  · exact hn
  · rw [if_pos rfl, list_len8]
    exact Nat.mul_comm c r
theorem ofL_words (t : Bool) (r c : Nat) {zs : List Nat} (h : Words zs) : Words (ofL t r c zs) := by
  unfold ofL
  cases t
  · exact h
  · exact list_words8 h
theorem ofV_ok {w : World} {t : Bool} {st sb r c : Nat} {zs : List Nat} (h : Sto w (some ⟨st, 0, none⟩) sb (ofL t r c zs)) (hr : r ≤ 512) (hc : c ≤ 512) (hn : zs.length = r * c) : (ofV t st r c).Ok w sb (ofL t r c zs) := by
  have hl := ofL_length t r c zs hn
  unfold ofV
  cases t
  · exact newV_ok h hr hc hl
  · exact T_ok (newV_ok h hc hr (by rw [hl]; exact Nat.mul_comm r c))
theorem ofV_bnd {t : Bool} {st r c : Nat} (hr : r ≤ 512) (hc : c ≤ 512) : (ofV t st r c).Bnd 0 := by
  unfold ofV
  cases t
  · exact newV_bnd hr hc
  · exact T_bnd (newV_bnd hc hr)
theorem newV_at (st r c : Nat) (zs : List Nat) {i j : Nat} (hi : i < r) (hj : j < c) : (newV st r c).get zs i j = zs.getD (i * c + j) 0 := by
  unfold Vw.get
  have h1 : inV (newV st r c).r (newV st r c).c i j = true := by unfold inV newV; simp; omega
  rw [h1, if_pos rfl]
  show zs.getD (0 + (i : Int).toNat * c + (j : Int).toNat * 1) 0 = _
  congr 1
  simp
theorem T_at (v : Vw) (zs : List Nat) (i j : Nat) : v.T.get zs i j = v.get zs j i := by
  unfold Vw.get Vw.T
  have h1 : inV v.c v.r i j = inV v.r v.c j i := by rw [Bool.eq_iff_iff]; unfold inV; simp; omega
  dsimp only
  rw [h1, show v.o + (i : Int).toNat * v.u + (j : Int).toNat * v.d = v.o + (j : Int).toNat * v.d + (i : Int).toNat * v.u by omega]
theorem ofV_at (t : Bool) (st r c : Nat) (zs : List Nat) {i j : Nat} (hi : i < r) (hj : j < c) : (ofV t st r c).get (ofL t r c zs) i j = zs.getD (i * c + j) 0 := by
  unfold ofV ofL
  cases t
  · exact newV_at st r c zs hi hj
  · simp only [if_true]
    rw [T_at]
    have h := newV_get st (newV 0 r c).T zs (i := j) (j := i) hj hi
    have h2 := T_at (newV 0 r c) zs j i
    rw [newV_at 0 r c zs hi hj] at h2
    exact h.trans h2
theorem Matrix_cel (w : World) (v : Vw) (sb : Nat) (ws : List Nat) (h : v.Ok w sb ws) :
    Calls Try.prog 48 #[v.val] w fun e w' => ∃ a cap, e = .returned (.agg #[.int .i64 v.r, .int .i64 v.c, .slice a (v.list ws).length cap]) ∧ Cel w' a (v.list ws) ∧ Below w.heap.size w w' :=
  (Matrix_any w v sb ws h).mono (by
    rintro e w' ⟨sv, rfl, hrow, hb⟩
    obtain ⟨a, cap, rfl, hcel⟩ := cel_of_row hrow
    exact ⟨a, cap, rfl, hcel, hb⟩)
set_option maxHeartbeats 4000000 in
theorem of_any (t : Bool) (r c : Nat) (a : Option Addr) (zs : List Nat) (cap : Nat) (w : World) (hr : r ≤ 512) (hc : c ≤ 512) (hn : zs.length = r * c) (hZ : Cel w a zs) :
    Calls Try.prog 17 #[.agg #[.int .i64 r, .int .i64 c, .slice a zs.length cap], .bool t] w fun e w' => ∃ st sb, e = .returned (ofV t st r c).val ∧ w.heap.size ≤ st ∧ w.heap.size ≤ sb ∧ Sto w' (some ⟨st, 0, none⟩) sb (ofL t r c zs) ∧ Below w.heap.size w w' := by
  have hbA : Below w.heap.size w ((w.alloc (.cells #[.int .i64 r, .int .i64 c, .slice a zs.length cap] 24)).alloc (.cells #[.pointer none, .int .i64 0, .int .i64 0, .int .i64 0, .int .i64 0, .int .i64 0] 29)) := ((Below.refl _ _).alloc (Nat.le_refl _) _).alloc (by simp) _
  have x0 : Box ((w.alloc (.cells #[.int .i64 r, .int .i64 c, .slice a zs.length cap] 24)).alloc (.cells #[.pointer none, .int .i64 0, .int .i64 0, .int .i64 0, .int .i64 0, .int .i64 0] 29)) w.heap.size [.int .i64 r, .int .i64 c, .slice a zs.length cap] := (Box.newA w [_, _, _] _ rfl).alloc _
  have x2 : Box ((w.alloc (.cells #[.int .i64 r, .int .i64 c, .slice a zs.length cap] 24)).alloc (.cells #[.pointer none, .int .i64 0, .int .i64 0, .int .i64 0, .int .i64 0, .int .i64 0] 29)) (w.heap.size + 1) [.pointer none, .int .i64 0, .int .i64 0, .int .i64 0, .int .i64 0, .int .i64 0] := Box.newA _ _ _ (by simp)
  have HO := Lib.hid (fun W hZ => Of_yes r c a zs cap W hr hc hn hZ)
  have HX := Lib.hid (show _ ∧ _ ∧ _ from ⟨hbA, x2, hZ.below hbA⟩)
  have HR := Lib.hid (show _ ∧ _ ∧ _ from ⟨hr, hc, hn⟩)
  obtain ⟨p1, p2, p3⟩ := x0.facts
  clear hZ hbA x2 x0 hr hc hn
  cases t
  case false =>
    simp only [show ∀ st, ofV false st r c = newV st r c from fun _ => rfl, show ofL false r c zs = zs from rfl]
    go_enter Try.func17, Try.ntmps17
    go_wp2_with fail
    refine (HO.out _ HX.out.2.2).mono ?_
    rintro e w1 ⟨st, sb, rfl, k1, k2, hS, hb1⟩
    have hB1 := below_step HX.out.1 HX.out.1.size hb1
    have x2 := HX.out.2.1.below hb1
    have hbB : Below w1.heap.size w1 (w1.alloc (.cells #[.pointer (some ⟨st, 0, none⟩), .int .i64 r, .int .i64 c, .int .i64 0, .int .i64 c, .int .i64 1] 29)) := (Below.refl _ _).alloc (Nat.le_refl _) _
    have x3 : Box (w1.alloc (.cells #[.pointer (some ⟨st, 0, none⟩), .int .i64 r, .int .i64 c, .int .i64 0, .int .i64 c, .int .i64 1] 29)) w1.heap.size [.pointer (some ⟨st, 0, none⟩), .int .i64 r, .int .i64 c, .int .i64 (0 : Nat), .int .i64 c, .int .i64 (1 : Nat)] := Box.newA _ _ _ rfl
    replace x2 := x2.below hbB
    have hB2 := below_step hB1 hB1.size hbB
    have hlt := sto_lts hS
    have hS2 := hS.below hbB
    have hx := HX.out.1.size
    simp only [World.size_alloc] at k1 k2 hx
    unfold newV Vw.val
    dsimp only
    obtain ⟨p1, p2, p3⟩ := x2.facts
    have HE := Lib.hid (show _ ∧ _ ∧ _ ∧ _ ∧ _ ∧ _ from ⟨x2, hB2, hS2, k1, k2, hlt⟩)
    clear hB1 x2 hbB x3 hB2 hS hlt hS2 hx hb1 HX HO k1 k2
    go_wp2
    obtain ⟨x2, hB2, hS2, k1, k2, hlt⟩ := HE.out
    refine bodyPost_ret (results_one rfl (rv_cell (g := w.heap.size + 1) rfl (x2.put6 _ _ _ _ _ _) rfl Try.underlying29 (by kernel_rfl))) rfl ⟨st, sb, rfl, by omega, by omega, ?_, ?_⟩
    · exact hS2.other6 (by omega) (by omega) _ _ _ _ _ _
    · exact below_put6 hB2 (by omega) _ _ _ _ _ _
  case true =>
    simp only [show ∀ st, ofV true st r c = (newV st c r).T from fun _ => rfl, show ofL true r c zs = (newV 0 r c).T.list zs from rfl]
    go_enter Try.func17, Try.ntmps17
    go_wp2_with fail
    refine (HO.out _ HX.out.2.2).mono ?_
    rintro e w1 ⟨st, sb, rfl, k1, k2, hS, hb1⟩
    have hB1 := below_step HX.out.1 HX.out.1.size hb1
    have x2 := HX.out.2.1.below hb1
    have hbB : Below w1.heap.size w1 (w1.alloc (.cells #[.pointer (some ⟨st, 0, none⟩), .int .i64 r, .int .i64 c, .int .i64 0, .int .i64 c, .int .i64 1] 29)) := (Below.refl _ _).alloc (Nat.le_refl _) _
    have x3 : Box (w1.alloc (.cells #[.pointer (some ⟨st, 0, none⟩), .int .i64 r, .int .i64 c, .int .i64 0, .int .i64 c, .int .i64 1] 29)) w1.heap.size [.pointer (some ⟨st, 0, none⟩), .int .i64 r, .int .i64 c, .int .i64 (0 : Nat), .int .i64 c, .int .i64 (1 : Nat)] := Box.newA _ _ _ rfl
    replace x2 := x2.below hbB
    have hB2 := below_step hB1 hB1.size hbB
    have hS2 := hS.below hbB
    have hx := HX.out.1.size
    simp only [World.size_alloc] at k1 k2 hx
    obtain ⟨L, hL⟩ : ∃ L, L = (newV 0 r c).T.list zs := ⟨_, rfl⟩
    have hLl : L.length = c * r := by rw [hL]; exact list_len8 _ _
    have HT := Lib.hid (show ∀ W, Calls Try.prog 46 #[(.agg #[.pointer (some ⟨st, 0, none⟩), .int .i64 r, .int .i64 c, .int .i64 (0 : Nat), .int .i64 c, .int .i64 (1 : Nat)])] W _ from fun W => T_any (newV st r c) W)
    have HM := Lib.hid (show ∀ W, Sto W (some ⟨st, 0, none⟩) sb zs → Calls Try.prog 48 #[(.agg #[.pointer (some ⟨st, 0, none⟩), .int .i64 c, .int .i64 r, .int .i64 (0 : Nat), .int .i64 (1 : Nat), .int .i64 c])] W fun e w' => ∃ a cap, e = .returned (.agg #[.int .i64 c, .int .i64 r, .slice a L.length cap]) ∧ Cel w' a L ∧ Below W.heap.size W w' from fun W hS => hL ▸ Matrix_cel W (newV st r c).T sb zs (T_ok (newV_ok hS HR.out.1 HR.out.2.1 HR.out.2.2)))
    have HO2 := Lib.hid (fun a cap W hZ => Of_yes c r a L cap W HR.out.2.1 HR.out.1 hLl hZ)
    have HT2 := Lib.hid (show ∀ st W, Calls Try.prog 46 #[(.agg #[.pointer (some ⟨st, 0, none⟩), .int .i64 c, .int .i64 r, .int .i64 (0 : Nat), .int .i64 r, .int .i64 (1 : Nat)])] W _ from fun st W => T_any (newV st c r) W)
    have HE := Lib.hid (show _ ∧ _ ∧ _ from ⟨x2, hB2, hS2⟩)
    clear hB1 x2 hbB hB2 hS hS2 hb1 HX k1 k2 p1 p2 p3 HO hx
    have HL := Lib.hid hL
    clear hL hLl
    unfold newV Vw.T Vw.val at HT HT2
    unfold newV Vw.val at HO2 ⊢
    dsimp only at HT HT2 HO2 ⊢
    obtain ⟨q1, q2, q3⟩ := x3.facts
    clear x3
    go_wp2_with fail
    refine (HT.out _).mono ?_
    rintro e w2 ⟨rfl, hb2⟩
    have hB3 := below_step HE.out.2.1 HE.out.2.1.size hb2
    have x3 := HE.out.1.below hb2
    have hS3 := HE.out.2.2.below hb2
    have HE3 := Lib.hid (show _ ∧ _ ∧ _ from ⟨x3, hB3, hS3⟩)
    clear q1 q2 q3 hB3 x3 hS3 HE hb2 HT
    go_wp2_with fail
    refine (HM.out _ HE3.out.2.2).mono ?_
    rintro e w3 ⟨a3, cap3, rfl, hcel, hb3⟩
    have hB4 := below_step HE3.out.2.1 HE3.out.2.1.size hb3
    have x4 := HE3.out.1.below hb3
    have HE4 := Lib.hid (show _ ∧ _ ∧ _ from ⟨x4, hB4, hcel⟩)
    clear hB4 x4 hcel HE3 hb3 HM
    go_wp2_with fail
    refine (HO2.out _ _ _ HE4.out.2.2).mono ?_
    rintro e w4 ⟨st2, sb2, rfl, k1, k2, hS4, hb4⟩
    have hB5 := below_step HE4.out.2.1 HE4.out.2.1.size hb4
    have x5 := HE4.out.1.below hb4
    have s4 := HE4.out.2.1.size
    have l5 := HE4.out.1.lt
    have hbB : Below w4.heap.size w4 (w4.alloc (.cells #[.pointer (some ⟨st2, 0, none⟩), .int .i64 c, .int .i64 r, .int .i64 0, .int .i64 r, .int .i64 1] 29)) := (Below.refl _ _).alloc (Nat.le_refl _) _
    have x6 : Box (w4.alloc (.cells #[.pointer (some ⟨st2, 0, none⟩), .int .i64 c, .int .i64 r, .int .i64 0, .int .i64 r, .int .i64 1] 29)) w4.heap.size [.pointer (some ⟨st2, 0, none⟩), .int .i64 c, .int .i64 r, .int .i64 (0 : Nat), .int .i64 r, .int .i64 (1 : Nat)] := Box.newA _ _ _ rfl
    have hS5 := hS4.below hbB
    have hB6 := below_step hB5 hB5.size hbB
    have x7 := x5.below hbB
    have HE5 := Lib.hid (show _ ∧ _ ∧ _ ∧ _ ∧ _ ∧ _ ∧ _ from ⟨x7, hB6, hS5, k1, k2, s4, l5⟩)
    obtain ⟨q1, q2, q3⟩ := x6.facts
    clear hB5 x5 hS4 hbB x6 hS5 hB6 x7 HE4 hb4 HO2 k1 k2 s4 l5
    go_wp2_with fail
    refine (HT2.out _ _).mono ?_
    rintro e w5 ⟨rfl, hb5⟩
    obtain ⟨x7, hB6, hS5, k1, k2, s4, l5⟩ := HE5.out
    have x8 := x7.below hb5
    have hB7 := below_step hB6 hB6.size hb5
    have hS6 := hS5.below hb5
    obtain ⟨p1, p2, p3⟩ := x8.facts
    have HE6 := Lib.hid (show _ ∧ _ ∧ _ ∧ _ ∧ _ ∧ _ ∧ _ from ⟨x8, hB7, hS6, k1, k2, s4, l5⟩)
    clear HT2 HE5 x7 hB6 hS5 x8 hB7 hS6 hb5 q1 q2 q3 k1 k2 s4 l5
    go_wp2
    obtain ⟨x8, hB7, hS6, k1, k2, s4, l5⟩ := HE6.out
    refine bodyPost_ret (results_one rfl (rv_cell (g := w.heap.size + 1) rfl (x8.put6 _ _ _ _ _ _) rfl Try.underlying29 (by kernel_rfl))) rfl ⟨st2, sb2, rfl, by omega, by omega, ?_, ?_⟩
    · rw [← HL.out]
      exact hS6.other6 (by omega) (by omega) _ _ _ _ _ _
    · exact below_put6 hB7 (by omega) _ _ _ _ _ _
end Go.Proofs.Ytbcdpibcieadlaa

/- Layer 8: the document's sums. No condition but on lengths. -/
namespace Go.Proofs.Ytbcdpibcieadlaa
open Go Go.RowKit
set_option maxRecDepth 1000000

theorem Cel.at8 {w : World} {a : Option Addr} {zs : List Nat} (h : Cel w a zs) {i : Nat} (hi : i < zs.length) : ∃ b off, a = some ⟨b, off, none⟩ ∧ b < w.heap.size ∧ w.cell? ⟨b, off + i, none⟩ = some (.float .f64 (zs.getD i 0)) := by
  obtain ⟨b, off, k1, k2, k3⟩ := h (by intro e; rw [e] at hi; exact absurd hi (Nat.not_lt_zero _))
  exact ⟨b, off, k1, k2, k3 i _ (by rw [List.getD_eq_getElem?_getD, List.getElem?_eq_getElem hi]; rfl)⟩
def atL (zs : List Nat) (k : Nat) : Nat := zs.getD k 0
set_option maxHeartbeats 4000000 in
theorem RDot_any (w : World) (za ya : Option Addr) (zs ys : List Nat) (zc yc : Nat) (hZ : Cel w za zs) (hY : Cel w ya ys) (hl : zs.length ≤ 262144) (he : ys.length = zs.length) :
    Calls Try.prog 26 #[.slice za zs.length zc, .slice ya ys.length yc] w fun e w' => (∃ s, e = .returned (.float .f64 (raw (sumG (atL zs) (atL ys) 0 zs.length) s))) ∧ Below w.heap.size w w' := by
  rw [he]
  obtain ⟨n, hn⟩ : ∃ n, n = zs.length := ⟨_, rfl⟩
  have HZ := Lib.hid (show ∀ W k, Below w.heap.size w W → k < n → ∃ b off, za = some ⟨b, off, none⟩ ∧ b < W.heap.size ∧ W.cell? ⟨b, off + k, none⟩ = some (.float .f64 (atL zs k)) from fun W k h hk => (hZ.below h).at8 (by omega))
  have HY := Lib.hid (show ∀ W k, Below w.heap.size w W → k < n → ∃ b off, ya = some ⟨b, off, none⟩ ∧ b < W.heap.size ∧ W.cell? ⟨b, off + k, none⟩ = some (.float .f64 (atL ys k)) from fun W k h hk => (hY.below h).at8 (by omega))
  rw [← hn] at hl ⊢
  generalize atL zs = x at *
  generalize atL ys = y at *
  clear hZ hY he hn
  go_enter Try.func26, Try.ntmps26
  go_wp2_with fail
  go_loopw [5, 6] (fun s5 s6 wr => ∃ k s : Nat, k ≤ n ∧ s5 = .float .f64 (raw (sumG x y 0 k) s) ∧ s6 = .int .i64 k ∧ Below w.heap.size w wr) (fun _ s6 _ => n - (intOf s6).toNat)
  case atStart => exact ⟨0, 0, Nat.zero_le _, by rw [sumG, raw_of_not (by kernel_rfl)], rfl, Below.refl _ _⟩
  case round =>
    obtain ⟨k, s, hk, rfl, rfl, hB⟩ := hrel
    by_cases hlt : k < n
    · obtain ⟨b1, o1, e1, c1, d1⟩ := HZ.out wr k hB hlt
      obtain ⟨b2, o2, e2, c2, d2⟩ := HY.out wr k hB hlt
      subst e1 e2
      have HB := Lib.hid (show _ ∧ _ from ⟨hB, hlt⟩)
      have hdr : Below wr.heap.size wr wr.drew := below_drewN 1 (Below.refl _ wr)
      have HS := Lib.hid (show wr.drew.cell? ⟨b1, o1 + k, none⟩ = some (.float .f64 (x k)) ∧ wr.drew.cell? ⟨b2, o2 + k, none⟩ = some (.float .f64 (y k)) from ⟨cells_of_below hdr _ _ _ d1, cells_of_below hdr _ _ _ d2⟩)
      have HB2 := Lib.hid (below_step hB hB.size hdr)
      clear hB hk HZ HY hdr d1 d2
      go_upto_region 5 with (fail)
      refine wp_region_items 8 [(true, 0), (true, 1), (true, 2), (true, 3), (true, 4), (true, 5), (true, 6), (true, 7)] (fun W => W.cell? ⟨b1, o1 + k, none⟩ = some (.float .f64 (x k)) ∧ W.cell? ⟨b2, o2 + k, none⟩ = some (.float .f64 (y k))) (by kernel_rfl) (by kernel_rfl) HS.out ?_
      generalize wr.drew = w2 at *
      iterate 8 (refine iW_take (v := ?_) rfl rfl ?_ ?_; rotate_left; (next => (intro w' hSw; (try dsimp only at hSw); go_simp; (try (rw [if_pos (by omega)]; go_simp)); (try with_reducible rfl))); (simp only [Act.put, List.setIfInBounds_toArray, List.set_cons_zero, List.set_cons_succ]))
      refine iW_nil ?_
      go_simp
      go_wp2_with (first | (fail) | (refine wpList_flt rfl rfl rfl rfl rfl ?_; intro K hK _ _; go_frame; refine hK _ _ ?_; clear hK K))
      refine NoPanic.normal ?_
      go_wp2_with (first | (fail) | (refine wpList_flt rfl rfl rfl rfl rfl ?_; intro K hK _ _; go_frame; refine hK _ _ ?_; clear hK K))
      go_roundw
      case rel => exact ⟨k + 1, _, HB.out.2, by rw [sumG, Nat.zero_add]; simp only [fadd_rawl, fadd_rawr, fmul_rawl, fmul_rawr]; rfl, by go_num, below_drewN _ HB2.out⟩
      case measure => have := HB.out.2; simp [intOf]; omega
    · obtain rfl : k = n := by omega
      have HB := Lib.hid hB
      clear hB hk
      go_wp2_with fail
      go_ret
      exact ⟨⟨s, rfl⟩, HB.out⟩
set_option maxHeartbeats 4000000 in
theorem RAsum_any (w : World) (za : Option Addr) (zs : List Nat) (zc : Nat) (hZ : Cel w za zs) (hW : Words zs) (hl : zs.length ≤ 262144) :
    Calls Try.prog 25 #[.slice za zs.length zc] w fun e w' => (∃ s, e = .returned (.float .f64 (raw (asumG (atL zs) zs.length) s))) ∧ Below w.heap.size w w' := by
  obtain ⟨n, hn⟩ : ∃ n, n = zs.length := ⟨_, rfl⟩
  have HZ := Lib.hid (show ∀ W k, Below w.heap.size w W → k < n → ∃ b off, za = some ⟨b, off, none⟩ ∧ b < W.heap.size ∧ W.cell? ⟨b, off + k, none⟩ = some (.float .f64 (atL zs k)) from fun W k h hk => (hZ.below h).at8 (by omega))
  have HWx := Lib.hid (show ∀ k, atL zs k < 18446744073709551616 from fun k => hW.at k)
  rw [← hn] at hl ⊢
  generalize atL zs = x at *
  clear hZ hn hW
  go_enter Try.func25, Try.ntmps25
  go_wp2_with fail
  go_loopw [3, 4] (fun s3 s4 wr => ∃ k s : Nat, k ≤ n ∧ s3 = .float .f64 (raw (asumG x k) s) ∧ s4 = .int .i64 k ∧ Below w.heap.size w wr) (fun _ s4 _ => n - (intOf s4).toNat)
  case atStart => exact ⟨0, 0, Nat.zero_le _, by rw [asumG, raw_of_not (by kernel_rfl)], rfl, Below.refl _ _⟩
  case round =>
    obtain ⟨k, s, hk, rfl, rfl, hB⟩ := hrel
    by_cases hlt : k < n
    · obtain ⟨b1, o1, e1, c1, d1⟩ := HZ.out wr k hB hlt
      subst e1
      have HB := Lib.hid (show _ ∧ _ from ⟨hB, hlt⟩)
      have hlt64 := HWx.out k
      clear hB hk HZ
      go_wp2_with fail
      refine (Abs_any _ hlt64 wr).mono ?_
      rintro e w5 ⟨rfl, rfl⟩
      clear hlt64
      dsimp only
      go_wp2_with (first | (fail) | (refine wpList_flt rfl rfl rfl rfl rfl ?_; intro K hK _ _; go_frame; refine hK _ _ ?_; clear hK K))
      go_roundw
      case rel => exact ⟨k + 1, _, HB.out.2, by rw [asumG]; simp only [fadd_rawl]; rfl, by go_num, below_drewN _ HB.out.1⟩
      case measure => have := HB.out.2; simp [intOf]; omega
    · obtain rfl : k = n := by omega
      have HB := Lib.hid hB
      clear hB hk
      go_wp2_with fail
      go_ret
      exact ⟨⟨s, rfl⟩, HB.out⟩
theorem amax_step (x : Nat → Nat) (n : Nat) : amaxG x (n + 1) = if feq (fabs (x n)) (fabs (x n)) && ((amaxG x n).1 == 0 || flt (amaxG x n).2 (fabs (x n))) then (n + 1, fabs (x n)) else amaxG x n := by
  rw [amaxG]
  generalize amaxG x n = g
  generalize fabs (x n) = v
  have h : (flt g.2 v || (g.1 == 0 && feq v v)) = (feq v v && (g.1 == 0 || flt g.2 v)) := by
    cases hv : isnan v
    · rw [feq_self, hv]
      cases flt g.2 v <;> cases (g.1 == 0) <;> rfl
    · rw [flt_nan (.inr hv), feq_nan (.inr hv)]
      cases (g.1 == 0) <;> rfl
  rw [h]
set_option maxHeartbeats 4000000 in
theorem RAmax_any (w : World) (za : Option Addr) (zs : List Nat) (zc : Nat) (hZ : Cel w za zs) (hW : Words zs) (hl : zs.length ≤ 262144) :
    Calls Try.prog 24 #[.slice za zs.length zc] w fun e w' => (∃ s, e = .returned (.tuple #[.int .i64 ((amaxG (atL zs) zs.length).1 - 1 : Int), .float .f64 (raw (amaxG (atL zs) zs.length).2 s)])) ∧ Below w.heap.size w w' := by
  obtain ⟨n, hn⟩ : ∃ n, n = zs.length := ⟨_, rfl⟩
  have HZ := Lib.hid (show ∀ W k, Below w.heap.size w W → k < n → ∃ b off, za = some ⟨b, off, none⟩ ∧ b < W.heap.size ∧ W.cell? ⟨b, off + k, none⟩ = some (.float .f64 (atL zs k)) from fun W k h hk => (hZ.below h).at8 (by omega))
  have HWx := Lib.hid (show ∀ k, atL zs k < 18446744073709551616 from fun k => hW.at k)
  rw [← hn] at hl ⊢
  generalize atL zs = x at *
  clear hZ hn hW
  go_enter Try.func24, Try.ntmps24
  go_wp2_with fail
  go_loopw [4, 5, 6] (fun s4 s5 s6 wr => ∃ k s : Nat, k ≤ n ∧ s4 = .int .i64 ((amaxG x k).1 - 1 : Int) ∧ s5 = .float .f64 (raw (amaxG x k).2 s) ∧ s6 = .int .i64 k ∧ Below w.heap.size w wr ∧ (amaxG x k).1 ≤ k) (fun _ _ s6 _ => n - (intOf s6).toNat)
  case atStart => exact ⟨0, 0, Nat.zero_le _, rfl, by rw [amaxG, raw_of_not (by kernel_rfl)], rfl, Below.refl _ _, Nat.le_refl _⟩
  case round =>
    obtain ⟨k, s, hk, rfl, rfl, rfl, hB, hle⟩ := hrel
    by_cases hlt : k < n
    · obtain ⟨b1, o1, e1, c1, d1⟩ := HZ.out wr k hB hlt
      subst e1
      have hlt64 := HWx.out k
      have hnx := amax_step x k
      obtain ⟨ga, hga⟩ : ∃ g, g = amaxG x k := ⟨_, rfl⟩
      rw [← hga] at hle hnx ⊢
      have HB := Lib.hid (show _ ∧ _ ∧ _ from ⟨hB, hlt, hle⟩)
      have HNX0 := Lib.hid hnx
      have hg0 : decide ((ga.1 : Int) - 1 < 0) = (ga.1 == 0) := by rw [Bool.eq_iff_iff]; simp; omega
      clear hB hk hga hnx hle HZ HWx
      generalize x k = v at *
      obtain ⟨g1, g2⟩ := ga
      dsimp only at *
      go_wp2_with fail
      refine (Abs_any _ hlt64 wr).mono ?_
      rintro e w5 ⟨rfl, rfl⟩
      clear hlt64
      dsimp only
      obtain ⟨s', hs'⟩ := raw_self (b := fabs v) (by unfold fabs; omega)
      have HS' := Lib.hid hs'
      clear hs'
      have hnx := HNX0.out
      cases h3 : feq (fabs v) (fabs v)
      · rw [h3, Bool.false_and, if_neg (by decide)] at hnx
        have HNX := Lib.hid hnx
        clear hnx
        go_wp2_with fail
        go_roundw
        case rel => exact ⟨k + 1, s, HB.out.2.1, by rw [HNX.out], by rw [HNX.out], by go_num, HB.out.1, by rw [HNX.out]; have := HB.out.2.2; omega⟩
        case measure => have := HB.out.2.1; simp [intOf]; omega
      · cases h2 : (g1 == 0)
        · rw [h2] at hg0
          cases h1 : flt g2 (fabs v)
          · rw [h3, h2, h1, Bool.true_and, Bool.false_or, if_neg (by decide)] at hnx
            have HNX := Lib.hid hnx
            clear hnx
            go_wp2_with fail
            go_roundw
            case rel => exact ⟨k + 1, s, HB.out.2.1, by rw [HNX.out], by rw [HNX.out], by go_num, HB.out.1, by rw [HNX.out]; have := HB.out.2.2; omega⟩
            case measure => have := HB.out.2.1; simp [intOf]; omega
          · rw [h3, h2, h1, Bool.true_and, Bool.false_or, if_pos rfl] at hnx
            have HNX := Lib.hid hnx
            clear hnx
            go_wp2_with fail
            go_roundw
            case rel => exact ⟨k + 1, s', HB.out.2.1, by rw [HNX.out]; congr 1; simp, by rw [HNX.out]; exact congrArg _ HS'.out, by go_num, HB.out.1, by rw [HNX.out]; exact Nat.le_refl _⟩
            case measure => have := HB.out.2.1; simp [intOf]; omega
        · rw [h2] at hg0
          rw [h3, h2, Bool.true_and, Bool.true_or, if_pos rfl] at hnx
          have HNX := Lib.hid hnx
          clear hnx
          go_wp2_with fail
          go_roundw
          case rel => exact ⟨k + 1, s', HB.out.2.1, by rw [HNX.out]; congr 1; simp, by rw [HNX.out]; exact congrArg _ HS'.out, by go_num, HB.out.1, by rw [HNX.out]; exact Nat.le_refl _⟩
          case measure => have := HB.out.2.1; simp [intOf]; omega
    · obtain rfl : k = n := by omega
      have HB := Lib.hid hB
      clear hB hk hle
      go_wp2_with fail
      exact bodyPost_ret (results_two rfl (rv_tmp rfl) (rv_tmp rfl)) rfl ⟨⟨s, rfl⟩, HB.out⟩
end Go.Proofs.Ytbcdpibcieadlaa
