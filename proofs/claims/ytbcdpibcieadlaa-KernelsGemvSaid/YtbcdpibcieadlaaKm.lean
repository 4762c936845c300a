/- Layer 8: a matrix's view, or the turned one of its turned one. No condition but on lengths. -/
import Derived.Test.YtbcdpibcieadlaaKl
namespace Go.Proofs.Ytbcdpibcieadlaa
open Go Go.RowKit
set_option maxRecDepth 1000000

def ofV (t : Bool) (st r c : Nat) : Vw := if t then (newV st c r).T else newV st r c
def ofL (t : Bool) (r c : Nat) (zs : List Nat) : List Nat := if t then (newV 0 r c).T.list zs else zs
theorem ofV_p (t : Bool) (st r c : Nat) : (ofV t st r c).p = some ⟨st, 0, none⟩ := by unfold ofV; cases t <;> rfl
theorem ofV_r (t : Bool) (st r c : Nat) : (ofV t st r c).r = r := by unfold ofV; cases t <;> rfl
theorem ofV_c (t : Bool) (st r c : Nat) : (ofV t st r c).c = c := by unfold ofV; cases t <;> rfl
theorem ofL_length (t : Bool) (r c : Nat) (zs : List Nat) (hn : zs.length = r * c) : (ofL t r c zs).length = r * c := by
  unfold ofL
  cases t
  · exact hn
  · rw [if_pos rfl, list_len8]
    exact Nat.mul_comm c r
theorem ofL_words (t : Bool) (r c : Nat) {zs : List Nat} (h : Words zs) : Words (ofL t r c zs) := by
  unfold ofL
  cases t
  · exact h
  · exact list_words8 h
theorem ofV_ok {w : World} {t : Bool} {st sb r c : Nat} {zs : List Nat} (h : Sto w (some ⟨st, 0, none⟩) sb (ofL t r c zs)) (hr : r ≤ 512) (hc : c ≤ 512) (hn : zs.length = r * c) : (ofV t st r c).Ok w sb (ofL t r c zs) := by
  have hl := ofL_length t r c zs hn
  unfold ofV
  cases t
  · exact newV_ok h hr hc hl
  · exact T_ok (newV_ok h hc hr (by rw [hl]; exact Nat.mul_comm r c))
theorem ofV_bnd {t : Bool} {st r c : Nat} (hr : r ≤ 512) (hc : c ≤ 512) : (ofV t st r c).Bnd 0 := by
  unfold ofV
  cases t
  · exact newV_bnd hr hc
  · exact T_bnd (newV_bnd hc hr)
theorem newV_at (st r c : Nat) (zs : List Nat) {i j : Nat} (hi : i < r) (hj : j < c) : (newV st r c).get zs i j = zs.getD (i * c + j) 0 := by
  unfold Vw.get
  have h1 : inV (newV st r c).r (newV st r c).c i j = true := by unfold inV newV; simp; omega
  rw [h1, if_pos rfl]
  show zs.getD (0 + (i : Int).toNat * c + (j : Int).toNat * 1) 0 = _
  congr 1
  simp
theorem T_at (v : Vw) (zs : List Nat) (i j : Nat) : v.T.get zs i j = v.get zs j i := by
  unfold Vw.get Vw.T
  have h1 : inV v.c v.r i j = inV v.r v.c j i := by rw [Bool.eq_iff_iff]; unfold inV; simp; omega
  dsimp only
  rw [h1, show v.o + (i : Int).toNat * v.u + (j : Int).toNat * v.d = v.o + (j : Int).toNat * v.d + (i : Int).toNat * v.u by omega]
theorem ofV_at (t : Bool) (st r c : Nat) (zs : List Nat) {i j : Nat} (hi : i < r) (hj : j < c) : (ofV t st r c).get (ofL t r c zs) i j = zs.getD (i * c + j) 0 := by
  unfold ofV ofL
  cases t
  · exact newV_at st r c zs hi hj
  · simp only [if_true]
    rw [T_at]
    have h := newV_get st (newV 0 r c).T zs (i := j) (j := i) hj hi
    have h2 := T_at (newV 0 r c) zs j i
    rw [newV_at 0 r c zs hi hj] at h2
    exact h.trans h2
theorem Matrix_cel (w : World) (v : Vw) (sb : Nat) (ws : List Nat) (h : v.Ok w sb ws) :
    Calls Try.prog 48 #[v.val] w fun e w' => ∃ a cap, e = .returned (.agg #[.int .i64 v.r, .int .i64 v.c, .slice a (v.list ws).length cap]) ∧ Cel w' a (v.list ws) ∧ Below w.heap.size w w' :=
  (Matrix_any w v sb ws h).mono (by
    rintro e w' ⟨sv, rfl, hrow, hb⟩
    obtain ⟨a, cap, rfl, hcel⟩ := cel_of_row hrow
    exact ⟨a, cap, rfl, hcel, hb⟩)
set_option maxHeartbeats 4000000 in
theorem of_any (t : Bool) (r c : Nat) (a : Option Addr) (zs : List Nat) (cap : Nat) (w : World) (hr : r ≤ 512) (hc : c ≤ 512) (hn : zs.length = r * c) (hZ : Cel w a zs) :
    Calls Try.prog 17 #[.agg #[.int .i64 r, .int .i64 c, .slice a zs.length cap], .bool t] w fun e w' => ∃ st sb, e = .returned (ofV t st r c).val ∧ w.heap.size ≤ st ∧ w.heap.size ≤ sb ∧ Sto w' (some ⟨st, 0, none⟩) sb (ofL t r c zs) ∧ Below w.heap.size w w' := by
  have hbA : Below w.heap.size w ((w.alloc (.cells #[.int .i64 r, .int .i64 c, .slice a zs.length cap] 24)).alloc (.cells #[.pointer none, .int .i64 0, .int .i64 0, .int .i64 0, .int .i64 0, .int .i64 0] 29)) := ((Below.refl _ _).alloc (Nat.le_refl _) _).alloc (by simp) _
  have x0 : Box ((w.alloc (.cells #[.int .i64 r, .int .i64 c, .slice a zs.length cap] 24)).alloc (.cells #[.pointer none, .int .i64 0, .int .i64 0, .int .i64 0, .int .i64 0, .int .i64 0] 29)) w.heap.size [.int .i64 r, .int .i64 c, .slice a zs.length cap] := (Box.newA w [_, _, _] _ rfl).alloc _
  have x2 : Box ((w.alloc (.cells #[.int .i64 r, .int .i64 c, .slice a zs.length cap] 24)).alloc (.cells #[.pointer none, .int .i64 0, .int .i64 0, .int .i64 0, .int .i64 0, .int .i64 0] 29)) (w.heap.size + 1) [.pointer none, .int .i64 0, .int .i64 0, .int .i64 0, .int .i64 0, .int .i64 0] := Box.newA _ _ _ (by simp)
  have HO := Lib.hid (fun W hZ => Of_yes r c a zs cap W hr hc hn hZ)
  have HX := Lib.hid (show _ ∧ _ ∧ _ from ⟨hbA, x2, hZ.below hbA⟩)
  have HR := Lib.hid (show _ ∧ _ ∧ _ from ⟨hr, hc, hn⟩)
  obtain ⟨p1, p2, p3⟩ := x0.facts
  clear hZ hbA x2 x0 hr hc hn
  cases t
  case false =>
    simp only [show ∀ st, ofV false st r c = newV st r c from fun _ => rfl, show ofL false r c zs = zs from rfl]
    go_enter Try.func17, Try.ntmps17
    go_wp2_with fail
    refine (HO.out _ HX.out.2.2).mono ?_
    rintro e w1 ⟨st, sb, rfl, k1, k2, hS, hb1⟩
    have hB1 := below_step HX.out.1 HX.out.1.size hb1
    have x2 := HX.out.2.1.below hb1
    have hbB : Below w1.heap.size w1 (w1.alloc (.cells #[.pointer (some ⟨st, 0, none⟩), .int .i64 r, .int .i64 c, .int .i64 0, .int .i64 c, .int .i64 1] 29)) := (Below.refl _ _).alloc (Nat.le_refl _) _
    have x3 : Box (w1.alloc (.cells #[.pointer (some ⟨st, 0, none⟩), .int .i64 r, .int .i64 c, .int .i64 0, .int .i64 c, .int .i64 1] 29)) w1.heap.size [.pointer (some ⟨st, 0, none⟩), .int .i64 r, .int .i64 c, .int .i64 (0 : Nat), .int .i64 c, .int .i64 (1 : Nat)] := Box.newA _ _ _ rfl
    replace x2 := x2.below hbB
    have hB2 := below_step hB1 hB1.size hbB
    have hlt := sto_lts hS
    have hS2 := hS.below hbB
    have hx := HX.out.1.size
    simp only [World.size_alloc] at k1 k2 hx
    unfold newV Vw.val
    dsimp only
    obtain ⟨p1, p2, p3⟩ := x2.facts
    have HE := Lib.hid (show _ ∧ _ ∧ _ ∧ _ ∧ _ ∧ _ from ⟨x2, hB2, hS2, k1, k2, hlt⟩)
    clear hB1 x2 hbB x3 hB2 hS hlt hS2 hx hb1 HX HO k1 k2
    go_wp2
    obtain ⟨x2, hB2, hS2, k1, k2, hlt⟩ := HE.out
    refine bodyPost_ret (results_one rfl (rv_cell (g := w.heap.size + 1) rfl (x2.put6 _ _ _ _ _ _) rfl Try.underlying29 (by kernel_rfl))) rfl ⟨st, sb, rfl, by omega, by omega, ?_, ?_⟩
    · exact hS2.other6 (by omega) (by omega) _ _ _ _ _ _
    · exact below_put6 hB2 (by omega) _ _ _ _ _ _
  case true =>
    simp only [show ∀ st, ofV true st r c = (newV st c r).T from fun _ => rfl, show ofL true r c zs = (newV 0 r c).T.list zs from rfl]
    go_enter Try.func17, Try.ntmps17
    go_wp2_with fail
    refine (HO.out _ HX.out.2.2).mono ?_
    rintro e w1 ⟨st, sb, rfl, k1, k2, hS, hb1⟩
    have hB1 := below_step HX.out.1 HX.out.1.size hb1
    have x2 := HX.out.2.1.below hb1
    have hbB : Below w1.heap.size w1 (w1.alloc (.cells #[.pointer (some ⟨st, 0, none⟩), .int .i64 r, .int .i64 c, .int .i64 0, .int .i64 c, .int .i64 1] 29)) := (Below.refl _ _).alloc (Nat.le_refl _) _
    have x3 : Box (w1.alloc (.cells #[.pointer (some ⟨st, 0, none⟩), .int .i64 r, .int .i64 c, .int .i64 0, .int .i64 c, .int .i64 1] 29)) w1.heap.size [.pointer (some ⟨st, 0, none⟩), .int .i64 r, .int .i64 c, .int .i64 (0 : Nat), .int .i64 c, .int .i64 (1 : Nat)] := Box.newA _ _ _ rfl
    replace x2 := x2.below hbB
    have hB2 := below_step hB1 hB1.size hbB
    have hS2 := hS.below hbB
    have hx := HX.out.1.size
    simp only [World.size_alloc] at k1 k2 hx
    obtain ⟨L, hL⟩ : ∃ L, L = (newV 0 r c).T.list zs := ⟨_, rfl⟩
    have hLl : L.length = c * r := by rw [hL]; exact list_len8 _ _
    have HT := Lib.hid (show ∀ W, Calls Try.prog 46 #[(.agg #[.pointer (some ⟨st, 0, none⟩), .int .i64 r, .int .i64 c, .int .i64 (0 : Nat), .int .i64 c, .int .i64 (1 : Nat)])] W _ from fun W => T_any (newV st r c) W)
    have HM := Lib.hid (show ∀ W, Sto W (some ⟨st, 0, none⟩) sb zs → Calls Try.prog 48 #[(.agg #[.pointer (some ⟨st, 0, none⟩), .int .i64 c, .int .i64 r, .int .i64 (0 : Nat), .int .i64 (1 : Nat), .int .i64 c])] W fun e w' => ∃ a cap, e = .returned (.agg #[.int .i64 c, .int .i64 r, .slice a L.length cap]) ∧ Cel w' a L ∧ Below W.heap.size W w' from fun W hS => hL ▸ Matrix_cel W (newV st r c).T sb zs (T_ok (newV_ok hS HR.out.1 HR.out.2.1 HR.out.2.2)))
    have HO2 := Lib.hid (fun a cap W hZ => Of_yes c r a L cap W HR.out.2.1 HR.out.1 hLl hZ)
    have HT2 := Lib.hid (show ∀ st W, Calls Try.prog 46 #[(.agg #[.pointer (some ⟨st, 0, none⟩), .int .i64 c, .int .i64 r, .int .i64 (0 : Nat), .int .i64 r, .int .i64 (1 : Nat)])] W _ from fun st W => T_any (newV st c r) W)
    have HE := Lib.hid (show _ ∧ _ ∧ _ from ⟨x2, hB2, hS2⟩)
    clear hB1 x2 hbB hB2 hS hS2 hb1 HX k1 k2 p1 p2 p3 HO hx
    have HL := Lib.hid hL
    clear hL hLl
    unfold newV Vw.T Vw.val at HT HT2
    unfold newV Vw.val at HO2 ⊢
    dsimp only at HT HT2 HO2 ⊢
    obtain ⟨q1, q2, q3⟩ := x3.facts
    clear x3
    go_wp2_with fail
    refine (HT.out _).mono ?_
    rintro e w2 ⟨rfl, hb2⟩
    have hB3 := below_step HE.out.2.1 HE.out.2.1.size hb2
    have x3 := HE.out.1.below hb2
    have hS3 := HE.out.2.2.below hb2
    have HE3 := Lib.hid (show _ ∧ _ ∧ _ from ⟨x3, hB3, hS3⟩)
    clear q1 q2 q3 hB3 x3 hS3 HE hb2 HT
    go_wp2_with fail
    refine (HM.out _ HE3.out.2.2).mono ?_
    rintro e w3 ⟨a3, cap3, rfl, hcel, hb3⟩
    have hB4 := below_step HE3.out.2.1 HE3.out.2.1.size hb3
    have x4 := HE3.out.1.below hb3
    have HE4 := Lib.hid (show _ ∧ _ ∧ _ from ⟨x4, hB4, hcel⟩)
    clear hB4 x4 hcel HE3 hb3 HM
    go_wp2_with fail
    refine (HO2.out _ _ _ HE4.out.2.2).mono ?_
    rintro e w4 ⟨st2, sb2, rfl, k1, k2, hS4, hb4⟩
    have hB5 := below_step HE4.out.2.1 HE4.out.2.1.size hb4
    have x5 := HE4.out.1.below hb4
    have s4 := HE4.out.2.1.size
    have l5 := HE4.out.1.lt
    have hbB : Below w4.heap.size w4 (w4.alloc (.cells #[.pointer (some ⟨st2, 0, none⟩), .int .i64 c, .int .i64 r, .int .i64 0, .int .i64 r, .int .i64 1] 29)) := (Below.refl _ _).alloc (Nat.le_refl _) _
    have x6 : Box (w4.alloc (.cells #[.pointer (some ⟨st2, 0, none⟩), .int .i64 c, .int .i64 r, .int .i64 0, .int .i64 r, .int .i64 1] 29)) w4.heap.size [.pointer (some ⟨st2, 0, none⟩), .int .i64 c, .int .i64 r, .int .i64 (0 : Nat), .int .i64 r, .int .i64 (1 : Nat)] := Box.newA _ _ _ rfl
    have hS5 := hS4.below hbB
    have hB6 := below_step hB5 hB5.size hbB
    have x7 := x5.below hbB
    have HE5 := Lib.hid (show _ ∧ _ ∧ _ ∧ _ ∧ _ ∧ _ ∧ _ from ⟨x7, hB6, hS5, k1, k2, s4, l5⟩)
    obtain ⟨q1, q2, q3⟩ := x6.facts
    clear hB5 x5 hS4 hbB x6 hS5 hB6 x7 HE4 hb4 HO2 k1 k2 s4 l5
    go_wp2_with fail
    refine (HT2.out _ _).mono ?_
    rintro e w5 ⟨rfl, hb5⟩
    obtain ⟨x7, hB6, hS5, k1, k2, s4, l5⟩ := HE5.out
    have x8 := x7.below hb5
    have hB7 := below_step hB6 hB6.size hb5
    have hS6 := hS5.below hb5
    obtain ⟨p1, p2, p3⟩ := x8.facts
    have HE6 := Lib.hid (show _ ∧ _ ∧ _ ∧ _ ∧ _ ∧ _ ∧ _ from ⟨x8, hB7, hS6, k1, k2, s4, l5⟩)
    clear HT2 HE5 x7 hB6 hS5 x8 hB7 hS6 hb5 q1 q2 q3 k1 k2 s4 l5
    go_wp2
    obtain ⟨x8, hB7, hS6, k1, k2, s4, l5⟩ := HE6.out
    refine bodyPost_ret (results_one rfl (rv_cell (g := w.heap.size + 1) rfl (x8.put6 _ _ _ _ _ _) rfl Try.underlying29 (by kernel_rfl))) rfl ⟨st2, sb2, rfl, by omega, by omega, ?_, ?_⟩
    · rw [← HL.out]
      exact hS6.other6 (by omega) (by omega) _ _ _ _ _ _
    · exact below_put6 hB7 (by omega) _ _ _ _ _ _
end Go.Proofs.Ytbcdpibcieadlaa
