/- Layer 8: Trmm. No condition but on lengths. -/
import Derived.Test.YtbcdpibcieadlaaZz13
import Derived.Deep.CutBlock
namespace Go.Proofs.Ytbcdpibcieadlaa
open Go Go.RowKit Go.Shelf
attribute [local go_sem] Oper.semAt_some
set_option maxRecDepth 1000000

/-- A place of a triangle's product. -/
def trV (upper unit : Bool) (t : Vw) (ts : List Nat) (m : Vw) (ms : List Nat) (p : Nat × Nat) : Nat :=
  sumG (fun k => triW unit t ts p.1 k) (fun k => m.get ms k p.2) (if upper then p.1 else 0) ((if upper then t.r else p.1 + 1) - (if upper then p.1 else 0))
def trL (upper unit : Bool) (t : Vw) (ts : List Nat) (m : Vw) (ms : List Nat) (l : List (Nat × Nat)) : List Nat := l.foldl (fun s p => m.put s p.1 p.2 (trV upper unit t ts m ms p)) ms
def trmmL (upper unit : Bool) (t m : Vw) (ts ms : List Nat) : List Nat := if openE [t, m] (fits_Trmm t m) = 0 then trL upper unit t ts m ms (plcs m.c (m.r * m.c)) else ms
/-- What Trmm holds on to. -/
structure TrK (wr : World) (upper unit : Bool) (mb b4 b5 b6 b7 b10 b11 s1 s2 : Nat) (ct m cw : Vw) (lt lm : List Nat) : Prop where
  x4 : Box wr b4 [.bool upper]
  x5 : Box wr b5 [.bool unit]
  x6 : Box wr b6 [.pointer ct.p, .int .i64 ct.r, .int .i64 ct.c, .int .i64 ct.o, .int .i64 ct.d, .int .i64 ct.u]
  x7 : Box wr b7 [.pointer m.p, .int .i64 m.r, .int .i64 m.c, .int .i64 m.o, .int .i64 m.d, .int .i64 m.u]
  x10 : Box wr b10 [.pointer cw.p, .int .i64 cw.r, .int .i64 cw.c, .int .i64 cw.o, .int .i64 cw.d, .int .i64 cw.u]
  x11 : Box wr b11 [.func (.func 86) #[] #[.pointer (some ⟨b5, 0, none⟩), .pointer (some ⟨b6, 0, none⟩)]]
  at' : ct.Apart wr s1 lt mb
  aw : cw.Apart wr s2 lm mb
  n4 : b4 ≠ mb
  n5 : b5 ≠ mb
  n6 : b6 ≠ mb
  n7 : b7 ≠ mb
  n10 : b10 ≠ mb
  n11 : b11 ≠ mb
section
variable {wr wr' : World} {upper unit : Bool} {mb b4 b5 b6 b7 b10 b11 s1 s2 : Nat} {ct m cw : Vw} {lt lm : List Nat}
theorem TrK.bel (h : TrK wr upper unit mb b4 b5 b6 b7 b10 b11 s1 s2 ct m cw lt lm) (hb : Bel wr.heap.size mb wr wr') : TrK wr' upper unit mb b4 b5 b6 b7 b10 b11 s1 s2 ct m cw lt lm :=
  ⟨h.x4.bel h.n4 hb, h.x5.bel h.n5 hb, h.x6.bel h.n6 hb, h.x7.bel h.n7 hb, h.x10.bel h.n10 hb, h.x11.bel h.n11 hb, h.at'.bel hb, h.aw.bel hb, h.n4, h.n5, h.n6, h.n7, h.n10, h.n11⟩
theorem TrK.below (h : TrK wr upper unit mb b4 b5 b6 b7 b10 b11 s1 s2 ct m cw lt lm) (hb : Below wr.heap.size wr wr') : TrK wr' upper unit mb b4 b5 b6 b7 b10 b11 s1 s2 ct m cw lt lm := h.bel (Bel.of hb)
theorem TrK.still {b : Nat} (h : TrK wr upper unit mb b4 b5 b6 b7 b10 b11 s1 s2 ct m cw lt lm) (hs : StillC b wr wr') : TrK wr' upper unit mb b4 b5 b6 b7 b10 b11 s1 s2 ct m cw lt lm :=
  ⟨h.x4.still hs, h.x5.still hs, h.x6.still hs, h.x7.still hs, h.x10.still hs, h.x11.still hs, ⟨h.at'.1.still hs, h.at'.2⟩, ⟨h.aw.1.still hs, h.aw.2⟩, h.n4, h.n5, h.n6, h.n7, h.n10, h.n11⟩
end
theorem isNone_some {p : Option Addr} (h : p.isSome = true) : p.isNone = false := by cases p <;> simp_all
theorem sto_lts {w : World} {st sb : Nat} {ws : List Nat} (h : Sto w (some ⟨st, 0, none⟩) sb ws) : st < w.heap.size ∧ sb < w.heap.size := by
  obtain ⟨st', e, b1, b2, _⟩ := h
  obtain rfl : st = st' := by simpa using e
  exact ⟨b1.lt, b2.lt⟩
theorem cpy_new {v : Vw} (h : v.p.isSome = true) (st : Nat) : cpyV v st = newV st v.r v.c := by unfold cpyV; rw [isNone_some h]; rfl
/-- What region 4 of Trmm comes to. -/
def TrR (w : World) (upper unit : Bool) (sm P10 st1 st2 sb1 sb2 : Nat) (t m : Vw) (ts ms : List Nat) (wx : World) : Prop :=
  Box wx w.heap.size [.bool upper] ∧ Box wx (w.heap.size + 1) [.bool unit] ∧ Box wx (w.heap.size + 1 + 1) [.pointer (newV st1 t.r t.c).p, .int .i64 (newV st1 t.r t.c).r, .int .i64 (newV st1 t.r t.c).c, .int .i64 (newV st1 t.r t.c).o, .int .i64 (newV st1 t.r t.c).d, .int .i64 (newV st1 t.r t.c).u] ∧ Box wx (w.heap.size + 1 + 1 + 1) [.pointer m.p, .int .i64 m.r, .int .i64 m.c, .int .i64 m.o, .int .i64 m.d, .int .i64 m.u] ∧
  Box wx P10 [.pointer (newV st2 m.r m.c).p, .int .i64 (newV st2 m.r m.c).r, .int .i64 (newV st2 m.r m.c).c, .int .i64 (newV st2 m.r m.c).o, .int .i64 (newV st2 m.r m.c).d, .int .i64 (newV st2 m.r m.c).u] ∧ (newV st1 t.r t.c).Apart wx sb1 (t.list ts) sm ∧ (newV st2 m.r m.c).Apart wx sb2 (m.list ms) sm ∧ P10 ≠ sm ∧ Below w.heap.size w wx
theorem trmm_world {w V : World} {upper unit : Bool} {sm P10 st1 st2 sb1 sb2 : Nat} {t m : Vw} {ts ms : List Nat} (x4 : Box V w.heap.size [.bool upper]) (x5 : Box V (w.heap.size + 1) [.bool unit]) (x6 : Box V (w.heap.size + 1 + 1) [.pointer t.p, .int .i64 t.r, .int .i64 t.c, .int .i64 t.o, .int .i64 t.d, .int .i64 t.u]) (x7 : Box V (w.heap.size + 1 + 1 + 1) [.pointer m.p, .int .i64 m.r, .int .i64 m.c, .int .i64 m.o, .int .i64 m.d, .int .i64 m.u])
    (hP : Box V P10 [.pointer none, .int .i64 0, .int .i64 0, .int .i64 0, .int .i64 0, .int .i64 0]) (hT : Sto V (some ⟨st1, 0, none⟩) sb1 (t.list ts)) (hM : Sto V (some ⟨st2, 0, none⟩) sb2 (m.list ms)) (hB : Below w.heap.size w V)
    (k1 : w.heap.size + 1 + 1 + 1 < P10) (k2 : w.heap.size + 1 + 1 ≠ st1) (k3 : w.heap.size + 1 + 1 ≠ sb1) (k4 : w.heap.size + 1 + 1 ≠ st2) (k5 : w.heap.size + 1 + 1 ≠ sb2) (k6 : w.heap.size + 1 + 1 + 1 < st1 ∧ w.heap.size + 1 + 1 + 1 < sb1 ∧ w.heap.size + 1 + 1 + 1 < st2 ∧ w.heap.size + 1 + 1 + 1 < sb2) (j1 : st1 ≠ P10) (j2 : sb1 ≠ P10) (j3 : st2 ≠ P10) (j4 : sb2 ≠ P10) (hsm : sm < w.heap.size) (k7 : w.heap.size ≤ P10)
    (h1 : t.r ≤ 512 ∧ t.c ≤ 512) (h2 : m.r ≤ 512 ∧ m.c ≤ 512) : TrR w upper unit sm P10 st1 st2 sb1 sb2 t m ts ms (six (six V (w.heap.size + 1 + 1) (newV st1 t.r t.c)) P10 (newV st2 m.r m.c)) := by
  have hT2 : Sto (six (six V (w.heap.size + 1 + 1) (newV st1 t.r t.c)) P10 (newV st2 m.r m.c)) (some ⟨st1, 0, none⟩) sb1 (t.list ts) := Sto.bel (Sto.bel hT (by omega) (by omega) (six_bel _ _ _ _)) j1 j2 (six_bel _ _ _ _)
  have hM2 : Sto (six (six V (w.heap.size + 1 + 1) (newV st1 t.r t.c)) P10 (newV st2 m.r m.c)) (some ⟨st2, 0, none⟩) sb2 (m.list ms) := Sto.bel (Sto.bel hM (by omega) (by omega) (six_bel _ _ _ _)) j3 j4 (six_bel _ _ _ _)
  exact ⟨six_other (six_other x4 (by omega) _) (by omega) _, six_other (six_other x5 (by omega) _) (by omega) _, six_other (six_box x6 _) (by omega) _, six_other (six_other x7 (by omega) _) (by omega) _, six_box (u := ⟨none, 0, 0, 0, 0, 0⟩) (six_other hP (by omega) _) _,
    Vw.Apart.of (newV_ok hT2 h1.1 h1.2 (list_len8 _ _)) (.inr rfl) (by omega) (by omega), Vw.Apart.of (newV_ok hM2 h2.1 h2.2 (list_len8 _ _)) (.inr rfl) (by omega) (by omega), by omega, six_below (six_below hB (by omega) _) k7 _⟩
theorem col_getVec {v : Vw} {ws : List Nat} {k j : Nat} (hp : v.p.isSome = true) (hr : v.r ≤ 512) (hk : k < v.r) (hj : j < v.c) : (v.col j).getVec ws k = v.get ws k j := by
  have hc : v.col j = ⟨v.p, v.r, 1, v.o + 0 * v.d + j * v.u, v.d, v.u⟩ := by
    unfold Vw.col Vw.part
    rw [hp]
    rw [if_pos (by unfold fitsV; simp; omega)]
    simp
  rw [hc]
  unfold Vw.getVec
  rw [if_pos (by unfold vecV; rw [hp]; simp)]
  unfold Vw.al Vw.get
  by_cases h1 : v.r = 1
  · obtain rfl : k = 0 := by omega
    simp only [h1, if_true]
    rw [if_pos (by unfold inV; simp), if_pos (by unfold inV; simp; omega)]
    simp
  · simp only [h1, if_false]
    rw [if_pos (by unfold inV; simp; omega), if_pos (by unfold inV; simp; omega)]
    simp only [Int.toNat_natCast, Int.toNat_zero, Nat.zero_mul, Nat.add_zero]
    congr 1
    omega
theorem words_put {ws : List Nat} (h : Words ws) (v : Vw) (i j : Int) {x : Nat} (hx : x < 18446744073709551616) : Words (v.put ws i j x) := by
  unfold Vw.put
  split
  · exact words_set h hx
  · exact h
theorem trL_snoc (upper unit : Bool) (t : Vw) (ts : List Nat) (m : Vw) (ms : List Nat) (l : List (Nat × Nat)) (p : Nat × Nat) : trL upper unit t ts m ms (l ++ [p]) = m.put (trL upper unit t ts m ms l) p.1 p.2 (trV upper unit t ts m ms p) := by
  unfold trL
  rw [List.foldl_append]
  rfl
/-- What is known of the calls in a round's last region. -/
def TrF (V : Value) (D : Nat) (f : FuncId) (_ : Array Value) (v : Value) : Prop := (f = 49 → v = V) ∧ (f = 66 → ∃ s, v = .float .f64 (raw D s))
theorem tri_cpy {unit : Bool} {t : Vw} {ts : List Nat} {st i k : Nat} (h : (newV st t.r t.c).get (t.list ts) i k = t.get ts i k) : triW unit (newV st t.r t.c) (t.list ts) i k = triW unit t ts i k := by unfold triW; rw [h]
theorem below_six {B m : Nat} {a w : World} (h : Below B a w) (hm : B ≤ m) (v : Vw) : Below B a (six w m v) := six_below h hm v
set_option maxHeartbeats 32000000 in
theorem Trmm_any (w : World) (upper unit : Bool) (t m : Vw) (sT sm : Nat) (ts ms : List Nat) (ht : t.Ok w sT ts) (hm : m.Ok w sm ms) (hwt : Words ts) (hwm : Words ms) :
    Calls Try.prog 33 #[.bool upper, .bool unit, t.val, m.val] w fun e w' => e = .returned (.int .i64 (openE [t, m] (fits_Trmm t m))) ∧ ∃ ws, m.Ok w' sm ws ∧ Rw ws (trmmL upper unit t m ts ms) ∧ Words ws ∧ Bel w.heap.size sm w w' := by
  have HO := Lib.hid (fun W (h : Below w.heap.size w W) bt bm b hbt hbm hb => open_any W 84 #[.pointer (some ⟨bt, 0, none⟩), .pointer (some ⟨bm, 0, none⟩)] b [t, m] (fits_Trmm t m) hb (fun v hv => by
    simp only [List.mem_cons, List.not_mem_nil, or_false] at hv
    rcases hv with rfl | rfl
    · exact ⟨sT, ts, ht.below h⟩
    · exact ⟨sm, ms, hm.below h⟩) (by simp) (enters_of Try.func84 (by kernel_rfl) rfl) (fun _ W' h' => Trmmf_any W' t m bt bm (Box.below hbt h') (Box.below hbm h')))
  unfold trmmL
  obtain ⟨W0, hW0⟩ : ∃ W0, W0 = (((w.alloc (.cells #[.bool upper] 4)).alloc (.cells #[.bool unit] 4)).alloc (.cells #[.pointer t.p, .int .i64 t.r, .int .i64 t.c, .int .i64 t.o, .int .i64 t.d, .int .i64 t.u] 29)).alloc (.cells #[.pointer m.p, .int .i64 m.r, .int .i64 m.c, .int .i64 m.o, .int .i64 m.d, .int .i64 m.u] 29) := ⟨_, rfl⟩
  have hB0 : Below w.heap.size w W0 := hW0 ▸ ((((Below.refl _ _).alloc (Nat.le_refl _) _).alloc (by simp) _).alloc (by simp; omega) _).alloc (by simp; omega) _
  have x4 : Box W0 w.heap.size [.bool upper] := hW0 ▸ (((Box.newA w [_] _ rfl).alloc _).alloc _).alloc _
  have x5 : Box W0 (w.heap.size + 1) [.bool unit] := hW0 ▸ ((Box.newA _ [_] _ (by simp)).alloc _).alloc _
  have x6 : Box W0 (w.heap.size + 1 + 1) [.pointer t.p, .int .i64 t.r, .int .i64 t.c, .int .i64 t.o, .int .i64 t.d, .int .i64 t.u] := hW0 ▸ (Box.newA _ [.pointer t.p, .int .i64 t.r, .int .i64 t.c, .int .i64 t.o, .int .i64 t.d, .int .i64 t.u] _ (by simp)).alloc _
  have x7 : Box W0 (w.heap.size + 1 + 1 + 1) [.pointer m.p, .int .i64 m.r, .int .i64 m.c, .int .i64 m.o, .int .i64 m.d, .int .i64 m.u] := hW0 ▸ Box.newA _ [.pointer m.p, .int .i64 m.r, .int .i64 m.c, .int .i64 m.o, .int .i64 m.d, .int .i64 m.u] _ (by simp)
  have HX := Lib.hid (show _ ∧ _ ∧ _ ∧ _ ∧ _ from ⟨hB0, x4, x5, x6, x7⟩)
  have HC := Lib.hid (fun W (h : Below w.heap.size w W) => Copy_any W t sT ts (ht.below h))
  have HCm := Lib.hid (fun W (h : Below w.heap.size w W) => Copy_any W m sm ms (hm.below h))
  have HY := Lib.hid (show _ ∧ _ ∧ _ ∧ _ from ⟨ht, hm, hwt, hwm⟩)
  have HZ := Lib.hid (fun (h : openE [t, m] (fits_Trmm t m) = 0) => openE_zero h)
  clear hB0 x4 x5 x6 x7 ht hm hwt hwm
  show Calls Try.prog 33 #[.bool upper, .bool unit, (.agg #[.pointer t.p, .int .i64 t.r, .int .i64 t.c, .int .i64 t.o, .int .i64 t.d, .int .i64 t.u]), (.agg #[.pointer m.p, .int .i64 m.r, .int .i64 m.c, .int .i64 m.o, .int .i64 m.d, .int .i64 m.u])] w _
  generalize openE [t, m] (fits_Trmm t m) = E at *
  obtain ⟨D, hD⟩ : ∃ D, D = (if E = 0 then trL upper unit t ts m ms (plcs m.c (m.r * m.c)) else ms) := ⟨_, rfl⟩
  rw [← hD]
  by_cases hE : E = 0
  · subst hE
    rw [if_pos rfl] at hD
    have HDD := Lib.hid hD
    clear hD
    obtain ⟨hsome, hfit⟩ := HZ.out rfl
    have HSome := Lib.hid (show t.p.isSome = true ∧ m.p.isSome = true from ⟨hsome t (by simp), hsome m (by simp)⟩)
    unfold fits_Trmm at hfit
    simp only [Bool.and_eq_true, decide_eq_true_eq] at hfit
    have HFit := Lib.hid hfit
    clear hsome hfit HZ
    have HSm := Lib.hid (Vw.Ok.sto HY.out.2.1 HSome.out.2).1
    refine (callsIn_wide (n := 9)).1 ?_
    refine callsIn_of_wp_marks Try.func33 rfl trivial ?_ rfl
    refine wpIn_wide.2 ?_
    simp only [Try.ntmps33, List.size_toArray, List.length_cons, List.length_nil, Nat.reduceAdd, Nat.reduceSub, Array.replicate_succ, Array.replicate_zero, List.push_toArray, List.append_toArray, List.nil_append, List.cons_append]
    go_upto_region 1 with (fail)
    rw [← hW0]
    clear hW0
    obtain ⟨hB0, x4, x5, x6, x7⟩ := HX.out
    have hbA : Below W0.heap.size W0 (W0.alloc (.cells #[.pointer t.p, .int .i64 t.r, .int .i64 t.c, .int .i64 t.o, .int .i64 t.d, .int .i64 t.u, .pointer m.p, .int .i64 m.r, .int .i64 m.c, .int .i64 m.o, .int .i64 m.d, .int .i64 m.u] 29)) := (Below.refl _ _).alloc (Nat.le_refl _) _
    have hz : Box (W0.alloc (.cells #[.pointer t.p, .int .i64 t.r, .int .i64 t.c, .int .i64 t.o, .int .i64 t.d, .int .i64 t.u, .pointer m.p, .int .i64 m.r, .int .i64 m.c, .int .i64 m.o, .int .i64 m.d, .int .i64 m.u] 29)) W0.heap.size ([t, m].flatMap Vw.cs) := Box.newA W0 ([t, m].flatMap Vw.cs) _ rfl
    have hB1 := below_step hB0 hB0.size hbA
    have HCo := Lib.hid (HO.out _ hB1 _ _ _ (x6.below hbA) (x7.below hbA) hz)
    obtain ⟨p1, p2, p3⟩ := x6.facts
    obtain ⟨q1, q2, q3⟩ := x7.facts
    have HB1 := Lib.hid (show _ ∧ _ ∧ _ ∧ _ ∧ _ from ⟨hB1, x4.below hbA, x5.below hbA, x6.below hbA, x7.below hbA⟩)
    clear hB0 x4 x5 x6 x7 hbA hz hB1 HO HX
    go_wp2_with fail
    refine HCo.out.mono ?_
    rintro e w1 ⟨rfl, hb1⟩
    obtain ⟨hB1, x4, x5, x6, x7⟩ := HB1.out
    have HB2 := Lib.hid (show _ ∧ _ ∧ _ ∧ _ ∧ _ from ⟨below_step hB1 hB1.size hb1, x4.below hb1, x5.below hb1, x6.below hb1, x7.below hb1⟩)
    clear p1 p2 p3 q1 q2 q3 hB1 hb1 x4 x5 x6 x7 HB1 HCo
    dsimp only
    go_upto_region 4 with (fail)
    go_cut [10] from 23 to 27 (fun s10 wx => ∃ (P10 st1 st2 sb1 sb2 : Nat), s10 = .pointer (some ⟨P10, 0, none⟩) ∧ TrR w upper unit sm P10 st1 st2 sb1 sb2 t m ts ms wx)
    case first =>
      obtain ⟨hB2, x4, x5, x6, x7⟩ := HB2.out
      have hdr : Below w1.heap.size w1 w1.drew := below_drewN 1 (Below.refl _ w1)
      have HBw := Lib.hid (below_step hB2 hB2.size hdr)
      have HGe := Lib.hid (show w.heap.size + 1 + 1 + 1 < w1.drew.heap.size from Nat.lt_of_lt_of_le x7.lt hdr.size)
      have HSB := Lib.hid (show ∀ V, Below w1.drew.heap.size w1.drew V → Box V w.heap.size [.bool upper] ∧ Box V (w.heap.size + 1) [.bool unit] ∧ Box V (w.heap.size + 1 + 1) [.pointer t.p, .int .i64 t.r, .int .i64 t.c, .int .i64 t.o, .int .i64 t.d, .int .i64 t.u] ∧ Box V (w.heap.size + 1 + 1 + 1) [.pointer m.p, .int .i64 m.r, .int .i64 m.c, .int .i64 m.o, .int .i64 m.d, .int .i64 m.u] from fun V h => ⟨(x4.below hdr).below h, (x5.below hdr).below h, (x6.below hdr).below h, (x7.below hdr).below h⟩)
      have HS := Lib.hid (show ∀ V, Below w1.drew.heap.size w1.drew V → (fun V => (∀ i, V.cell? ⟨w.heap.size + 1 + 1, i, none⟩ = ([.pointer t.p, .int .i64 t.r, .int .i64 t.c, .int .i64 t.o, .int .i64 t.d, .int .i64 t.u] : List Value)[i]?) ∧ (∀ i, V.cell? ⟨w.heap.size + 1 + 1 + 1, i, none⟩ = ([.pointer m.p, .int .i64 m.r, .int .i64 m.c, .int .i64 m.o, .int .i64 m.d, .int .i64 m.u] : List Value)[i]?)) V from fun V h => ⟨(HSB.out V h).2.2.1.cell, (HSB.out V h).2.2.2.cell⟩)
      refine wp_region_many 5 40 [(0, 0), (0, 2), (3, 4), (1, 1), (1, 3), (2, 4)] (fun V => (∀ i, V.cell? ⟨w.heap.size + 1 + 1, i, none⟩ = ([.pointer t.p, .int .i64 t.r, .int .i64 t.c, .int .i64 t.o, .int .i64 t.d, .int .i64 t.u] : List Value)[i]?) ∧ (∀ i, V.cell? ⟨w.heap.size + 1 + 1 + 1, i, none⟩ = ([.pointer m.p, .int .i64 m.r, .int .i64 m.c, .int .i64 m.o, .int .i64 m.d, .int .i64 m.u] : List Value)[i]?)) (by kernel_rfl) (by kernel_rfl) (HS.out _ (Below.refl _ _)) ?_
      clear hB2 x4 x5 x6 x7 hdr
      generalize w1.drew = wb at *
      have HBs := Lib.hid (Below.refl wb.heap.size wb)
      obtain ⟨w2, hw2⟩ : ∃ v, v = wb := ⟨_, rfl⟩
      replace HBs : Hid (Below wb.heap.size wb w2) := by rw [hw2]; exact HBs
      replace HGe : Hid (w.heap.size + 1 + 1 + 1 < w2.heap.size) := by rw [hw2]; exact HGe
      rw [← hw2]
      clear hw2
-- GEN
      iterate 1 (refine fm_take (v := ?_) rfl rfl ?_ ?_; rotate_left; (next => (intro w' hSw; (try dsimp only at hSw); go_simp; (try (rw [if_pos (by omega)]; go_simp)); (try with_reducible rfl))); (simp only [Act.put, List.setIfInBounds_toArray, List.set_cons_zero, List.set_cons_succ]))
      iterate 1 (refine fm_take (v := ?_) rfl rfl ?_ ?_; rotate_left; (next => (intro w' hSw; (try dsimp only at hSw); go_simp; (try (rw [if_pos (by omega)]; go_simp)); (try with_reducible rfl))); (simp only [Act.put, List.setIfInBounds_toArray, List.set_cons_zero, List.set_cons_succ]))
      refine fm_from ?_
      refine fm_one1 ?_ ?_
      · skip
        refine opW_take rfl rfl ?_
        go_simp
        refine (HC.out w2 (below_step HBw.out HBw.out.size HBs.out)).mono ?_
        rintro e v1 ⟨st1, sb1, rfl, hst, k1, k2, hb⟩
        replace hst := hst (isNone_some HSome.out.1)
        have hs2 := hb.size
        have hlt := sto_lts hst
        replace HBs := Lib.hid (below_step HBs.out HBs.out.size hb)
        have hd := HGe.out
        have KT := Lib.hid (show w.heap.size + 1 + 1 + 1 < st1 ∧ w.heap.size + 1 + 1 + 1 < sb1 ∧ st1 < v1.heap.size ∧ sb1 < v1.heap.size from ⟨by omega, by omega, hlt.1, hlt.2⟩)
        replace HGe := Lib.hid (show w.heap.size + 1 + 1 + 1 < v1.heap.size from by omega)
        have ZT := Lib.hid hst
        clear hst k1 k2 hb hs2 hlt hd
        rw [cpy_new HSome.out.1 st1]
        dsimp only [Vw.val]
        refine ⟨HS.out _ HBs.out, ?_⟩
        refine fm_one1 ?_ ?_
        · skip
          refine opW_take rfl rfl ?_
          go_simp
          refine (HCm.out v1 (below_step HBw.out HBw.out.size HBs.out)).mono ?_
          rintro e v2 ⟨st2, sb2, rfl, hst, k1, k2, hb⟩
          replace hst := hst (isNone_some HSome.out.2)
          have hs2 := hb.size
          have hlt := sto_lts hst
          replace HBs := Lib.hid (below_step HBs.out HBs.out.size hb)
          replace ZT := Lib.hid (ZT.out.below hb)
          have hd := HGe.out
          have KM := Lib.hid (show w.heap.size + 1 + 1 + 1 < st2 ∧ w.heap.size + 1 + 1 + 1 < sb2 ∧ st2 < v2.heap.size ∧ sb2 < v2.heap.size from ⟨by omega, by omega, hlt.1, hlt.2⟩)
          replace KT := Lib.hid (show w.heap.size + 1 + 1 + 1 < st1 ∧ w.heap.size + 1 + 1 + 1 < sb1 ∧ st1 < v2.heap.size ∧ sb1 < v2.heap.size from by have := KT.out; omega)
          replace HGe := Lib.hid (show w.heap.size + 1 + 1 + 1 < v2.heap.size from by omega)
          have ZM := Lib.hid hst
          clear hst k1 k2 hb hs2 hlt hd
          rw [cpy_new HSome.out.2 st2]
          dsimp only [Vw.val]
          refine ⟨HS.out _ HBs.out, ?_⟩
          refine fm_now ?_
          refine opW_take rfl rfl ?_
          go_simp
          have hb : Below v2.heap.size v2 (v2.alloc (.cells #[.pointer none, .int .i64 0, .int .i64 0, .int .i64 0, .int .i64 0, .int .i64 0] 29)) := (Below.refl _ _).alloc (Nat.le_refl _) _
          have hz := Box.newA v2 [.pointer none, .int .i64 0, .int .i64 0, .int .i64 0, .int .i64 0, .int .i64 0] 29 rfl
          have hl := hz.lt
          have hd := HGe.out
          have hs2 := hb.size
          replace HBs := Lib.hid (below_step HBs.out HBs.out.size hb)
          replace ZT := Lib.hid (ZT.out.below hb)
          replace ZM := Lib.hid (ZM.out.below hb)
          generalize v2.alloc (.cells #[.pointer none, .int .i64 0, .int .i64 0, .int .i64 0, .int .i64 0, .int .i64 0] 29) = v3 at *
          generalize hP : v2.heap.size = P10 at *
          have KP := Lib.hid (show w.heap.size + 1 + 1 + 1 < P10 ∧ P10 < v3.heap.size from ⟨by omega, hl⟩)
          have JT := Lib.hid (show st1 ≠ P10 ∧ sb1 ≠ P10 from by have := KT.out; omega)
          replace KT := Lib.hid (show w.heap.size + 1 + 1 + 1 < st1 ∧ w.heap.size + 1 + 1 + 1 < sb1 ∧ st1 < v3.heap.size ∧ sb1 < v3.heap.size from by have := KT.out; omega)
          have JM := Lib.hid (show st2 ≠ P10 ∧ sb2 ≠ P10 from by have := KM.out; omega)
          replace KM := Lib.hid (show w.heap.size + 1 + 1 + 1 < st2 ∧ w.heap.size + 1 + 1 + 1 < sb2 ∧ st2 < v3.heap.size ∧ sb2 < v3.heap.size from by have := KM.out; omega)
          replace HGe := Lib.hid (show w.heap.size + 1 + 1 + 1 < v3.heap.size from by omega)
          have ZP := Lib.hid hz
          clear hb hz hl hd hs2 hP
          refine ⟨HS.out _ HBs.out, ?_⟩
          refine fm_skip rfl ?_
          refine fm_nil ?_
          have hg := HGe.out
          obtain ⟨g1, g2, g3, g4⟩ := KT.out
          obtain ⟨g5, g6, g7, g8⟩ := KM.out
          obtain ⟨g9, g10⟩ := KP.out
          obtain ⟨x4, x5, x6, x7⟩ := HSB.out _ HBs.out
          have hf := trmm_world x4 x5 x6 x7 ZP.out ZT.out ZM.out (below_step HBw.out HBw.out.size HBs.out) (by omega) (by omega) (by omega) (by omega) (by omega) (by omega) JT.out.1 JT.out.2 JM.out.1 JM.out.2 HSm.out (by omega) HY.out.1.small HY.out.2.1.small
          have HFin := Lib.hid hf
          obtain ⟨u1, u2, u3⟩ := x6.facts
          obtain ⟨u4, u5, u6⟩ := ZP.out.facts
          have hpn : w.heap.size + 1 + 1 ≠ P10 := by omega
          clear hf x4 x5 x6 x7 g1 g2 g3 g4 g5 g6 g7 g8 g9 g10 hg
          go_simp
          go_wp2
          refine NoPanic.normal ?_
          go_wp2_with fail
          go_meet
          case rel => exact ⟨P10, st1, st2, sb1, sb2, rfl, HFin.out⟩
        · skip
          refine opW_take rfl rfl ?_
          go_simp
          have hb : Below v1.heap.size v1 (v1.alloc (.cells #[.pointer none, .int .i64 0, .int .i64 0, .int .i64 0, .int .i64 0, .int .i64 0] 29)) := (Below.refl _ _).alloc (Nat.le_refl _) _
          have hz := Box.newA v1 [.pointer none, .int .i64 0, .int .i64 0, .int .i64 0, .int .i64 0, .int .i64 0] 29 rfl
          have hl := hz.lt
          have hd := HGe.out
          have hs2 := hb.size
          replace HBs := Lib.hid (below_step HBs.out HBs.out.size hb)
          replace ZT := Lib.hid (ZT.out.below hb)
          generalize v1.alloc (.cells #[.pointer none, .int .i64 0, .int .i64 0, .int .i64 0, .int .i64 0, .int .i64 0] 29) = v4 at *
          generalize hP : v1.heap.size = P10 at *
          have KP := Lib.hid (show w.heap.size + 1 + 1 + 1 < P10 ∧ P10 < v4.heap.size from ⟨by omega, hl⟩)
          have JT := Lib.hid (show st1 ≠ P10 ∧ sb1 ≠ P10 from by have := KT.out; omega)
          replace KT := Lib.hid (show w.heap.size + 1 + 1 + 1 < st1 ∧ w.heap.size + 1 + 1 + 1 < sb1 ∧ st1 < v4.heap.size ∧ sb1 < v4.heap.size from by have := KT.out; omega)
          replace HGe := Lib.hid (show w.heap.size + 1 + 1 + 1 < v4.heap.size from by omega)
          have ZP := Lib.hid hz
          clear hb hz hl hd hs2 hP
          refine ⟨HS.out _ HBs.out, ?_⟩
          refine fm_one ?_
          refine opW_take rfl rfl ?_
          go_simp
          refine (HCm.out v4 (below_step HBw.out HBw.out.size HBs.out)).mono ?_
          rintro e v5 ⟨st2, sb2, rfl, hst, k1, k2, hb⟩
          replace hst := hst (isNone_some HSome.out.2)
          have hs2 := hb.size
          have hlt := sto_lts hst
          replace HBs := Lib.hid (below_step HBs.out HBs.out.size hb)
          replace ZT := Lib.hid (ZT.out.below hb)
          replace ZP := Lib.hid (ZP.out.below hb)
          have hd := HGe.out
          have KM := Lib.hid (show w.heap.size + 1 + 1 + 1 < st2 ∧ w.heap.size + 1 + 1 + 1 < sb2 ∧ st2 < v5.heap.size ∧ sb2 < v5.heap.size from ⟨by omega, by omega, hlt.1, hlt.2⟩)
          replace KT := Lib.hid (show w.heap.size + 1 + 1 + 1 < st1 ∧ w.heap.size + 1 + 1 + 1 < sb1 ∧ st1 < v5.heap.size ∧ sb1 < v5.heap.size from by have := KT.out; omega)
          have JM := Lib.hid (show st2 ≠ P10 ∧ sb2 ≠ P10 from by have := KP.out; omega)
          replace KP := Lib.hid (show w.heap.size + 1 + 1 + 1 < P10 ∧ P10 < v5.heap.size from by have := KP.out; omega)
          replace HGe := Lib.hid (show w.heap.size + 1 + 1 + 1 < v5.heap.size from by omega)
          have ZM := Lib.hid hst
          clear hst k1 k2 hb hs2 hlt hd
          rw [cpy_new HSome.out.2 st2]
          dsimp only [Vw.val]
          refine ⟨HS.out _ HBs.out, ?_⟩
          refine fm_skip rfl ?_
          refine fm_nil ?_
          have hg := HGe.out
          obtain ⟨g1, g2, g3, g4⟩ := KT.out
          obtain ⟨g5, g6, g7, g8⟩ := KM.out
          obtain ⟨g9, g10⟩ := KP.out
          obtain ⟨x4, x5, x6, x7⟩ := HSB.out _ HBs.out
          have hf := trmm_world x4 x5 x6 x7 ZP.out ZT.out ZM.out (below_step HBw.out HBw.out.size HBs.out) (by omega) (by omega) (by omega) (by omega) (by omega) (by omega) JT.out.1 JT.out.2 JM.out.1 JM.out.2 HSm.out (by omega) HY.out.1.small HY.out.2.1.small
          have HFin := Lib.hid hf
          obtain ⟨u1, u2, u3⟩ := x6.facts
          obtain ⟨u4, u5, u6⟩ := ZP.out.facts
          have hpn : w.heap.size + 1 + 1 ≠ P10 := by omega
          clear hf x4 x5 x6 x7 g1 g2 g3 g4 g5 g6 g7 g8 g9 g10 hg
          go_simp
          go_wp2
          refine NoPanic.normal ?_
          go_wp2_with fail
          go_meet
          case rel => exact ⟨P10, st1, st2, sb1, sb2, rfl, HFin.out⟩
      · skip
        refine opW_take rfl rfl ?_
        go_simp
        have hb : Below w2.heap.size w2 (w2.alloc (.cells #[.pointer none, .int .i64 0, .int .i64 0, .int .i64 0, .int .i64 0, .int .i64 0] 29)) := (Below.refl _ _).alloc (Nat.le_refl _) _
        have hz := Box.newA w2 [.pointer none, .int .i64 0, .int .i64 0, .int .i64 0, .int .i64 0, .int .i64 0] 29 rfl
        have hl := hz.lt
        have hd := HGe.out
        have hs2 := hb.size
        replace HBs := Lib.hid (below_step HBs.out HBs.out.size hb)
        generalize w2.alloc (.cells #[.pointer none, .int .i64 0, .int .i64 0, .int .i64 0, .int .i64 0, .int .i64 0] 29) = v6 at *
        generalize hP : w2.heap.size = P10 at *
        have KP := Lib.hid (show w.heap.size + 1 + 1 + 1 < P10 ∧ P10 < v6.heap.size from ⟨by omega, hl⟩)
        replace HGe := Lib.hid (show w.heap.size + 1 + 1 + 1 < v6.heap.size from by omega)
        have ZP := Lib.hid hz
        clear hb hz hl hd hs2 hP
        refine ⟨HS.out _ HBs.out, ?_⟩
        refine fm_one ?_
        refine opW_take rfl rfl ?_
        go_simp
        refine (HC.out v6 (below_step HBw.out HBw.out.size HBs.out)).mono ?_
        rintro e v7 ⟨st1, sb1, rfl, hst, k1, k2, hb⟩
        replace hst := hst (isNone_some HSome.out.1)
        have hs2 := hb.size
        have hlt := sto_lts hst
        replace HBs := Lib.hid (below_step HBs.out HBs.out.size hb)
        replace ZP := Lib.hid (ZP.out.below hb)
        have hd := HGe.out
        have KT := Lib.hid (show w.heap.size + 1 + 1 + 1 < st1 ∧ w.heap.size + 1 + 1 + 1 < sb1 ∧ st1 < v7.heap.size ∧ sb1 < v7.heap.size from ⟨by omega, by omega, hlt.1, hlt.2⟩)
        have JT := Lib.hid (show st1 ≠ P10 ∧ sb1 ≠ P10 from by have := KP.out; omega)
        replace KP := Lib.hid (show w.heap.size + 1 + 1 + 1 < P10 ∧ P10 < v7.heap.size from by have := KP.out; omega)
        replace HGe := Lib.hid (show w.heap.size + 1 + 1 + 1 < v7.heap.size from by omega)
        have ZT := Lib.hid hst
        clear hst k1 k2 hb hs2 hlt hd
        rw [cpy_new HSome.out.1 st1]
        dsimp only [Vw.val]
        refine ⟨HS.out _ HBs.out, ?_⟩
        refine fm_one ?_
        refine opW_take rfl rfl ?_
        go_simp
        refine (HCm.out v7 (below_step HBw.out HBw.out.size HBs.out)).mono ?_
        rintro e v8 ⟨st2, sb2, rfl, hst, k1, k2, hb⟩
        replace hst := hst (isNone_some HSome.out.2)
        have hs2 := hb.size
        have hlt := sto_lts hst
        replace HBs := Lib.hid (below_step HBs.out HBs.out.size hb)
        replace ZP := Lib.hid (ZP.out.below hb)
        replace ZT := Lib.hid (ZT.out.below hb)
        have hd := HGe.out
        have KM := Lib.hid (show w.heap.size + 1 + 1 + 1 < st2 ∧ w.heap.size + 1 + 1 + 1 < sb2 ∧ st2 < v8.heap.size ∧ sb2 < v8.heap.size from ⟨by omega, by omega, hlt.1, hlt.2⟩)
        have JM := Lib.hid (show st2 ≠ P10 ∧ sb2 ≠ P10 from by have := KP.out; omega)
        replace KP := Lib.hid (show w.heap.size + 1 + 1 + 1 < P10 ∧ P10 < v8.heap.size from by have := KP.out; omega)
        replace KT := Lib.hid (show w.heap.size + 1 + 1 + 1 < st1 ∧ w.heap.size + 1 + 1 + 1 < sb1 ∧ st1 < v8.heap.size ∧ sb1 < v8.heap.size from by have := KT.out; omega)
        replace HGe := Lib.hid (show w.heap.size + 1 + 1 + 1 < v8.heap.size from by omega)
        have ZM := Lib.hid hst
        clear hst k1 k2 hb hs2 hlt hd
        rw [cpy_new HSome.out.2 st2]
        dsimp only [Vw.val]
        refine ⟨HS.out _ HBs.out, ?_⟩
        refine fm_skip rfl ?_
        refine fm_nil ?_
        have hg := HGe.out
        obtain ⟨g1, g2, g3, g4⟩ := KT.out
        obtain ⟨g5, g6, g7, g8⟩ := KM.out
        obtain ⟨g9, g10⟩ := KP.out
        obtain ⟨x4, x5, x6, x7⟩ := HSB.out _ HBs.out
        have hf := trmm_world x4 x5 x6 x7 ZP.out ZT.out ZM.out (below_step HBw.out HBw.out.size HBs.out) (by omega) (by omega) (by omega) (by omega) (by omega) (by omega) JT.out.1 JT.out.2 JM.out.1 JM.out.2 HSm.out (by omega) HY.out.1.small HY.out.2.1.small
        have HFin := Lib.hid hf
        obtain ⟨u1, u2, u3⟩ := x6.facts
        obtain ⟨u4, u5, u6⟩ := ZP.out.facts
        have hpn : w.heap.size + 1 + 1 ≠ P10 := by omega
        clear hf x4 x5 x6 x7 g1 g2 g3 g4 g5 g6 g7 g8 g9 g10 hg
        go_simp
        go_wp2
        refine NoPanic.normal ?_
        go_wp2_with fail
        go_meet
        case rel => exact ⟨P10, st1, st2, sb1, sb2, rfl, HFin.out⟩
-- END
    case rest =>
      obtain ⟨P10, st1, st2, sb1, sb2, rfl, hR⟩ := hcut
      obtain ⟨x4, x5, x6, x7, x10, aT, aM, n10, hBw⟩ := hR
      have hct : ∀ i k, i < t.r → k < t.c → (newV st1 t.r t.c).get (t.list ts) i k = t.get ts i k := fun i k hi hk => by rw [← cpy_new HSome.out.1 st1]; exact cpy_get t ts st1 i k HSome.out.1 hi hk
      have hcm : ∀ i k, i < m.r → k < m.c → (newV st2 m.r m.c).get (m.list ms) i k = m.get ms i k := fun i k hi hk => by rw [← cpy_new HSome.out.2 st2]; exact cpy_get m ms st2 i k HSome.out.2 hi hk
      have HGet := Lib.hid (And.intro hct hcm)
      have HR := Lib.hid (show _ ∧ _ ∧ _ ∧ _ ∧ _ ∧ _ ∧ _ ∧ _ ∧ _ from ⟨x4, x5, x6, x7, x10, aT, aM, n10, hBw⟩)
      obtain ⟨p1, p2, p3⟩ := x10.facts
      clear x4 x5 x6 x7 x10 aT aM n10 hBw HB2 hct hcm
      dsimp only [newV] at p2
      go_upto_block 0 with (go_at_call 79; refine (All_any _ _ _ _ _ _ _).mono ?_; rintro e w2 ⟨rfl, rfl⟩)
      obtain ⟨x4, x5, x6, x7, x10, aT, aM, n10, hBw⟩ := HR.out
      have hbA : Below wc.heap.size wc (wc.alloc (.cells #[.func (.func 86) #[] #[.pointer (some ⟨w.heap.size + 1, 0, none⟩), .pointer (some ⟨w.heap.size + 1 + 1, 0, none⟩)]] 85)) := (Below.refl _ _).alloc (Nat.le_refl _) _
      have x11 := Box.newA wc [.func (.func 86) #[] #[.pointer (some ⟨w.heap.size + 1, 0, none⟩), .pointer (some ⟨w.heap.size + 1 + 1, 0, none⟩)]] 85 rfl
      have hbs := hBw.size
      have hl11 := x11.lt
      have hsd : (wc.alloc (.cells #[.func (.func 86) #[] #[.pointer (some ⟨w.heap.size + 1, 0, none⟩), .pointer (some ⟨w.heap.size + 1 + 1, 0, none⟩)]] 85)).heap.size = wc.heap.size + 1 := by simp
      generalize hwd : wc.alloc (.cells #[.func (.func 86) #[] #[.pointer (some ⟨w.heap.size + 1, 0, none⟩), .pointer (some ⟨w.heap.size + 1 + 1, 0, none⟩)]] 85) = wd at *
      have hbB : Below wd.heap.size wd (wd.alloc (.cells #[.pointer (some ⟨st2, 0, none⟩), .int .i64 m.r, .int .i64 m.c, .int .i64 0, .int .i64 m.c, .int .i64 1] 29)) := (Below.refl _ _).alloc (Nat.le_refl _) _
      have xv : Box (wd.alloc (.cells #[.pointer (some ⟨st2, 0, none⟩), .int .i64 m.r, .int .i64 m.c, .int .i64 0, .int .i64 m.c, .int .i64 1] 29)) wd.heap.size [.pointer (some ⟨st2, 0, none⟩), .int .i64 m.r, .int .i64 m.c, .int .i64 (0 : Nat), .int .i64 m.c, .int .i64 (1 : Nat)] := Box.newA _ _ _ rfl
      have hbAB := below_step hbA hbA.size hbB
      have hK2 : TrK (wd.alloc (.cells #[.pointer (some ⟨st2, 0, none⟩), .int .i64 m.r, .int .i64 m.c, .int .i64 0, .int .i64 m.c, .int .i64 1] 29)) upper unit sm w.heap.size (w.heap.size + 1) (w.heap.size + 1 + 1) (w.heap.size + 1 + 1 + 1) P10 wc.heap.size sb1 sb2 (newV st1 t.r t.c) m (newV st2 m.r m.c) (t.list ts) (m.list ms) :=
        ⟨x4.below hbAB, x5.below hbAB, x6.below hbAB, x7.below hbAB, x10.below hbAB, x11.below hbB, aT.below hbAB, aM.below hbAB, by have := HSm.out; omega, by have := HSm.out; omega, by have := HSm.out; omega, by have := HSm.out; omega, n10, by have := HSm.out; omega⟩
      have hB2 := below_step hBw hBw.size hbAB
      have hok2 := HY.out.2.1.below hB2
      have hsm2 : m.r ≤ 512 ∧ m.c ≤ 512 := HY.out.2.1.small
      have hst2 : t.r ≤ 512 ∧ t.c ≤ 512 := HY.out.1.small
      have hsz2 := hbB.size
      have hPv : wc.heap.size + 1 ≠ sm := by have := HSm.out; omega
      rw [hsd] at xv hsz2
      clear x4 x5 x6 x7 x10 aT aM n10 hBw hbA x11 hbB hbAB hwd HR p1 p2 p3
      refine wpIn_wide (n := 9).1 ?_
      gi_wp2_with fail
      generalize wd.alloc (.cells #[.pointer (some ⟨st2, 0, none⟩), .int .i64 m.r, .int .i64 m.c, .int .i64 0, .int .i64 m.c, .int .i64 1] 29) = W2 at *
      generalize wc.heap.size = b11 at *
      refine view_loop (v := newV st2 m.r m.c) 9 (by decide) (AllRd.R (newV st2 m.r m.c) sb2 (b11 + 1) (m.list ms)) hsm2.1 hsm2.2 ⟨xv, hK2.aw.1⟩ (fun _ _ h hs => h.still hs) rfl rfl
        (fun pre W => (∃ ws, m.Ok W sm ws ∧ Rw ws (trL upper unit t ts m ms (pre.map velP)) ∧ Words ws) ∧ TrK W upper unit sm w.heap.size (w.heap.size + 1) (w.heap.size + 1 + 1) (w.heap.size + 1 + 1 + 1) P10 b11 sb1 sb2 (newV st1 t.r t.c) m (newV st2 m.r m.c) (t.list ts) (m.list ms) ∧ Bel w.heap.size sm w W ∧ W2.heap.size ≤ W.heap.size)
        (fun _ _ _ => False)
        (fun _ _ h => h.2.2.2) (fun _ _ _ h hs => ⟨by obtain ⟨ws, h1, h2, h3⟩ := h.1; exact ⟨ws, h1.still hs, h2, h3⟩, h.2.1.still hs, h.2.2.1.trans (Bel.of (hs.1.mono (by omega))), Nat.le_trans h.2.2.2 hs.1.size⟩)
        (fun _ _ _ h => h.elim) (fun _ _ _ _ h hs => h)
        ⟨⟨ms, hok2, Rw.self HY.out.2.2.2, HY.out.2.2.2⟩, hK2, Bel.of hB2, Nat.le_refl _⟩
        (fun T x Bx => ((T.setIfInBounds 30 (.agg #[.int .i64 (x.1.1 : Int), .int .i64 (x.1.2.1 : Int)])).setIfInBounds 31 (.float .f64 x.1.2.2)).setIfInBounds 12 (.pointer (some ⟨Bx, 0, none⟩))) ?assign ?body ?done ?stop
      case assign =>
        intro l x W K hK
        unfold velV
        gi_wp2
        exact hK
      case body =>
        rintro l pre y Bx W ⟨⟨ws, hok, hrw, hWw⟩, hK, hB, hs4⟩ hbx hBx hlt
        obtain ⟨i, hie⟩ : ∃ i, i = y.1.1 := ⟨_, rfl⟩
        obtain ⟨j, hje⟩ : ∃ j, j = y.1.2.1 := ⟨_, rfl⟩
        have hiB : i < m.r := hie ▸ y.2.1
        have hjB : j < m.c := hje ▸ y.2.2.1
        have HIJ := Lib.hid (And.intro hie hje)
        rw [← hie, ← hje] at hbx ⊢
        clear hie hje
        have hBxm : Bx ≠ sm := by have := HSm.out; omega
        have HP := Lib.hid (show _ ∧ _ ∧ _ ∧ _ ∧ _ ∧ _ ∧ _ ∧ _ from ⟨hok, hrw, hWw, hK, hB, hs4, hbx, hBxm⟩)
        obtain ⟨q1, q2, q3⟩ := hbx.facts
        have hBxs := hBxm
        clear hok hrw hWw hK hB hs4 hbx hBx hlt hBxm
        gi_wp2_with fail
        refine wpIn_region_nqb 5 (fun _ _ _ => False) (by kernel_rfl) (by kernel_rfl) ?_
        intro C R hc hb' hb2 hd hR
        simp only [List.take_succ_cons, List.take_zero]
        repeat (
          first
            | (refine nqW_plain (fun K hK => ?_))
            | (refine nqW_step (fun K hK => ?_); go_simp)
          first
            | (refine nq_move rfl ?_; go_simp; refine hK _ ?_; clear hK K)
            | (refine nq_assign rfl ?_; go_simp; refine hK _ ?_; clear hK K)
            | (refine nq_flt rfl rfl rfl rfl hd ?_; intro _; go_frame; refine hK _ ?_; clear hK K)
            | (refine nq_same ?_; intro w' hw'; go_simp; (try go_bits); refine hK _ ?_; clear hK K hw' w')
            | (refine nq_same ?_; intro w' hw'; go_simp; rw [if_pos (by omega)]; go_simp; (try go_bits); refine hK _ ?_; clear hK K hw' w')
            | (go_simp; refine hK _ ?_; clear hK K))
        refine nqW_nil (hR _ ?_)
        clear hc hb' hb2 hd hR
        intro w' hw'
        simp only [List.drop]
        obtain ⟨hok, hrw, hWw, hK, hB, hs4, hbx, hBxm⟩ := HP.out
        have HP1 := Lib.hid (show _ ∧ _ ∧ _ ∧ _ ∧ _ ∧ _ ∧ _ ∧ _ ∧ _ from ⟨hok.below hw', hrw, hWw, hK.below hw', hB.trans ((Bel.of hw').mono hB.size), Nat.le_trans hs4 hw'.size, hbx.below hw', hBxm, hw'⟩)
        have HPW := Lib.hid (show _ ∧ _ ∧ _ from ⟨hok, hK.aw.2, hbx⟩)
        clear hok hrw hWw hK hB hs4 hbx hBxm hw' q1 q2 q3 HP
        obtain ⟨p1, p2, p3⟩ := HP1.out.2.2.2.1.x4.facts
        cases hup : upper
        · rw [hup] at p2
          gi_wp2_with fail
          clear p1 p2 p3
          obtain ⟨hok, hrw, hWw, hK, hB, hs4, hbx, hBxm, hWW⟩ := HP1.out
          have hCol := fun V => Col_any (newV st2 m.r m.c) (j : Int) V 0 (newV_bnd hsm2.1 hsm2.2) (by decide)
          have hSum := fun V (hb : Below w'.heap.size w' V) => sum_any V 0 (i + 1) _ _ _ _
            (⟨_, _, _, rfl, enters_of Try.func87 (by kernel_rfl) rfl, fun k V' hk1 hk2 hb' => by
              have hb2 := below_step hb hb.size hb'
              have := Trmm3_any V' unit (newV st1 t.r t.c) sb1 (t.list ts) i j k (w.heap.size + 1) (w.heap.size + 1 + 1) b11 Bx (hK.at'.1.below hb2) (list_words8 HY.out.2.2.1) (hK.x5.below hb2) (hK.x6.below hb2) (hK.x11.below hb2) (hbx.below hb2)
              rw [tri_cpy (HGet.out.1 i k (by have := HFit.out; omega) (by have := HFit.out; omega))] at this
              exact this⟩ : Fnk V (.func (.func 87) #[] #[.pointer (some ⟨b11, 0, none⟩), .pointer (some ⟨Bx, 0, none⟩)]) 0 (i + 1) (fun k => triW unit t ts i k))
            (Fnk.get V ((newV st2 m.r m.c).col j) sb2 (m.list ms) (col_ok (hK.aw.1.below hb) j) (list_words8 HY.out.2.2.2) 0 (i + 1)) (by have := hst2.1; omega)
          have hDv : sumG (fun k => triW unit t ts i k) (fun k => ((newV st2 m.r m.c).col j).getVec (m.list ms) k) (0) (((i + 1)) - (0)) = trV false unit t ts m ms (i, j) := by
            unfold trV
            refine sumG_congr _ (fun k hk => ⟨rfl, ?_⟩)
            rw [col_getVec (v := newV st2 m.r m.c) (ws := m.list ms) (k := 0 + k) (j := j) rfl hsm2.1 (show 0 + k < m.r by have := HFit.out; omega) hjB]
            exact HGet.out.2 _ j (by have := HFit.out; omega) hjB
          simp only [hDv] at hSum
          have HCol := Lib.hid hCol
          have HSum := Lib.hid hSum
          obtain ⟨q1, q2, q3⟩ := hbx.facts
          obtain ⟨r1, r2, r3⟩ := hK.x7.facts
          obtain ⟨u1, u2, u3⟩ := hK.x10.facts
          dsimp only [newV] at u2
          clear hok hrw hWw hK hB hs4 hbx hBxm hWW hCol hSum hDv
          obtain ⟨Dv, hDv⟩ : ∃ D, D = trV false unit t ts m ms (i, j) := ⟨_, rfl⟩
          rw [← hDv] at HSum
          have HDv := Lib.hid hDv
          clear hDv
          refine wpIn_region_nqb 14 (TrF ((newV st2 m.r m.c).col j).val Dv) (by kernel_rfl) (by kernel_rfl) ?_
          intro C R hc hb' hb2 hd hR
          simp only [List.take_succ_cons, List.take_zero]
          repeat (
            first
              | (refine nqW_plain (fun K hK => ?_))
              | (refine nqW_step (fun K hK => ?_); go_simp)
            first
              | (refine nq_move rfl ?_; go_simp; refine hK _ ?_; clear hK K)
              | (refine nq_assign rfl ?_; go_simp; refine hK _ ?_; clear hK K)
              | (refine nq_flt rfl rfl rfl rfl hd ?_; intro _; go_frame; refine hK _ ?_; clear hK K)
              | (refine nq_inC rfl ?_; intro w' hw'; go_simp; refine ⟨?_, ?_⟩; (next => (intro w2 hw2; go_at_call 49; exact (HCol.out w2).mono (fun e w3 ⟨he, hb⟩ => ⟨_, he, ⟨fun _ => rfl, fun h => absurd h (by decide)⟩, hb2 _ _ hw2 hb⟩))); intro v hv; obtain rfl := hv.1 rfl; go_simp; refine hK _ ?_; clear hv hK K hw' w')
              | (refine nq_inC rfl ?_; intro w' hw'; go_simp; refine ⟨?_, ?_⟩; (next => (intro w2 hw2; go_at_call 66; exact (HSum.out w2 (hb' _ hw2)).mono (fun e w3 ⟨⟨s, he⟩, hb⟩ => ⟨_, he, ⟨fun h => absurd h (by decide), fun _ => ⟨s, rfl⟩⟩, hb2 _ _ hw2 hb⟩))); intro v hv; obtain ⟨s, rfl⟩ := hv.2 rfl; go_simp; refine hK _ ?_; clear hv hK K hw' w')
              | (refine nq_same ?_; intro w' hw'; go_simp; (try go_bits); refine hK _ ?_; clear hK K hw' w')
              | (refine nq_same ?_; intro w' hw'; go_simp; rw [if_pos (by omega)]; go_simp; (try go_bits); refine hK _ ?_; clear hK K hw' w')
              | (go_simp; refine hK _ ?_; clear hK K))
          refine nqW_nil (hR _ ?_)
          clear hc hb' hb2 hd hR
          intro w' hw'
          simp only [List.drop]
          obtain ⟨hok, hrw, hWw, hK, hB, hs4, hbx, hBxm, hWW⟩ := HP1.out
          have hok1 := hok.below hw'
          have hK1 := hK.below hw'
          have hB1 := hB.trans ((Bel.of hw').mono hB.size)
          have hs1 := Nat.le_trans hs4 hw'.size
          have hW1 := below_step hWW hWW.size hw'
          have HSet := Lib.hid (Set_any w' m sm ws i j (raw Dv s) hok1)
          have HQ1 := Lib.hid (show _ ∧ _ ∧ _ ∧ _ ∧ _ ∧ _ from ⟨hK1, hB1, hs1, hW1, hrw, hWw⟩)
          clear hok hrw hWw hK hB hs4 hbx hBxm hWW hok1 hK1 hB1 hs1 hW1 hw' q1 q2 q3 r1 r2 r3 u1 u2 u3 HP1 HCol HSum
          gi_wp2_with fail
          refine ⟨trivial, (CallsIn.inRound l (callsIn_wide.2 HSet.out)).mono ?_⟩
          rintro e w3 ⟨rfl, hok3, hbb⟩
          obtain ⟨hK1, hB1, hs1, hW1, hrw, hWw⟩ := HQ1.out
          have hTot := (Bel.of (s := sm) hW1).trans (hbb.mono hW1.size)
          have hbox := ok_box HPW.out.1 (by have := HSome.out.2; intro e; rw [e] at this; cases this)
          have hDlt : Dv < 18446744073709551616 := by rw [HDv.out]; exact sumG_lt _ _ _ _
          gi_wp2
          refine ⟨keeps_bel hTot hbox _, fun hR => ⟨hR.1.bel hPv hTot, (Vw.Apart.bel (⟨hR.2, HPW.out.2.1⟩ : (newV st2 m.r m.c).Apart W sb2 (m.list ms) sm) hTot).1⟩, ⟨_, hok3, ?_, words_put hWw m i j (raw_lt hDlt s)⟩, hK1.bel hbb, hB1.trans (hbb.mono hB1.size), Nat.le_trans hs1 hbb.size⟩
          rw [List.map_append, List.map_cons, List.map_nil, trL_snoc]
          have hvp : velP y = (i, j) := by show (y.1.1, y.1.2.1) = (i, j); rw [HIJ.out.1, HIJ.out.2]
          rw [hvp, hup, ← HDv.out]
          rw [hup] at hrw
          exact hrw.put m i j Dv s
        · rw [hup] at p2
          obtain ⟨q1, q2, q3⟩ := HP1.out.2.2.2.2.2.2.1.facts
          obtain ⟨u1, u2, u3⟩ := HP1.out.2.2.2.1.x6.facts
          dsimp only [newV] at u2
          gi_wp2_with fail
          refine wpIn_region_nqb 4 (PlF t.r) (by kernel_rfl) (by kernel_rfl) ?_
          intro C R hc hb' hb2 hd hR
          simp only [List.take_succ_cons, List.take_zero]
          repeat (
            first
              | (refine nqW_plain (fun K hK => ?_))
              | (refine nqW_step (fun K hK => ?_); go_simp)
            first
              | (refine nq_move rfl ?_; go_simp; refine hK _ ?_; clear hK K)
              | (refine nq_assign rfl ?_; go_simp; refine hK _ ?_; clear hK K)
              | (refine nq_flt rfl rfl rfl rfl hd ?_; intro _; go_frame; refine hK _ ?_; clear hK K)
              | (refine nq_inC rfl ?_; intro w' hw'; go_simp; refine ⟨?_, ?_⟩; (next => (intro w2 hw2; go_at_call 71; exact (Rows_any (some ⟨st1, 0, none⟩) t.r t.c 0 t.c 1 w2).mono (fun e w3 ⟨he, hb⟩ => ⟨_, he, rfl, hb2 _ _ hw2 hb⟩))); intro v hv; obtain rfl := hv; go_simp; refine hK _ ?_; clear hK K hw' w')
              | (refine nq_same ?_; intro w' hw'; go_simp; (try go_bits); refine hK _ ?_; clear hK K hw' w')
              | (refine nq_same ?_; intro w' hw'; go_simp; rw [if_pos (by omega)]; go_simp; (try go_bits); refine hK _ ?_; clear hK K hw' w')
              | (go_simp; refine hK _ ?_; clear hK K))
          refine nqW_nil (hR _ ?_)
          clear hc hb' hb2 hd hR
          intro w' hw'
          simp only [List.drop]
          obtain ⟨hok, hrw, hWw, hK, hB, hs4, hbx, hBxm, hWW⟩ := HP1.out
          have HP2 := Lib.hid (show _ ∧ _ ∧ _ ∧ _ ∧ _ ∧ _ ∧ _ ∧ _ ∧ _ from ⟨hok.below hw', hrw, hWw, hK.below hw', hB.trans ((Bel.of hw').mono hB.size), Nat.le_trans hs4 hw'.size, hbx.below hw', hBxm, below_step hWW hWW.size hw'⟩)
          clear hok hrw hWw hK hB hs4 hbx hBxm hWW hw' p1 p2 p3 q1 q2 q3 u1 u2 u3 HP1
          gi_wp2_with fail
          obtain ⟨hok, hrw, hWw, hK, hB, hs4, hbx, hBxm, hWW⟩ := HP2.out
          have hCol := fun V => Col_any (newV st2 m.r m.c) (j : Int) V 0 (newV_bnd hsm2.1 hsm2.2) (by decide)
          have hSum := fun V (hb : Below w'.heap.size w' V) => sum_any V i t.r _ _ _ _
            (⟨_, _, _, rfl, enters_of Try.func87 (by kernel_rfl) rfl, fun k V' hk1 hk2 hb' => by
              have hb2 := below_step hb hb.size hb'
              have := Trmm3_any V' unit (newV st1 t.r t.c) sb1 (t.list ts) i j k (w.heap.size + 1) (w.heap.size + 1 + 1) b11 Bx (hK.at'.1.below hb2) (list_words8 HY.out.2.2.1) (hK.x5.below hb2) (hK.x6.below hb2) (hK.x11.below hb2) (hbx.below hb2)
              rw [tri_cpy (HGet.out.1 i k (by have := HFit.out; omega) (by have := HFit.out; omega))] at this
              exact this⟩ : Fnk V (.func (.func 87) #[] #[.pointer (some ⟨b11, 0, none⟩), .pointer (some ⟨Bx, 0, none⟩)]) i t.r (fun k => triW unit t ts i k))
            (Fnk.get V ((newV st2 m.r m.c).col j) sb2 (m.list ms) (col_ok (hK.aw.1.below hb) j) (list_words8 HY.out.2.2.2) i t.r) (by have := hst2.1; omega)
          have hDv : sumG (fun k => triW unit t ts i k) (fun k => ((newV st2 m.r m.c).col j).getVec (m.list ms) k) (i) ((t.r) - (i)) = trV true unit t ts m ms (i, j) := by
            unfold trV
            refine sumG_congr _ (fun k hk => ⟨rfl, ?_⟩)
            rw [col_getVec (v := newV st2 m.r m.c) (ws := m.list ms) (k := i + k) (j := j) rfl hsm2.1 (show i + k < m.r by have := HFit.out; omega) hjB]
            exact HGet.out.2 _ j (by have := HFit.out; omega) hjB
          simp only [hDv] at hSum
          have HCol := Lib.hid hCol
          have HSum := Lib.hid hSum
          obtain ⟨q1, q2, q3⟩ := hbx.facts
          obtain ⟨r1, r2, r3⟩ := hK.x7.facts
          obtain ⟨u1, u2, u3⟩ := hK.x10.facts
          dsimp only [newV] at u2
          clear hok hrw hWw hK hB hs4 hbx hBxm hWW hCol hSum hDv
          obtain ⟨Dv, hDv⟩ : ∃ D, D = trV true unit t ts m ms (i, j) := ⟨_, rfl⟩
          rw [← hDv] at HSum
          have HDv := Lib.hid hDv
          clear hDv
          refine wpIn_region_nqb 14 (TrF ((newV st2 m.r m.c).col j).val Dv) (by kernel_rfl) (by kernel_rfl) ?_
          intro C R hc hb' hb2 hd hR
          simp only [List.take_succ_cons, List.take_zero]
          repeat (
            first
              | (refine nqW_plain (fun K hK => ?_))
              | (refine nqW_step (fun K hK => ?_); go_simp)
            first
              | (refine nq_move rfl ?_; go_simp; refine hK _ ?_; clear hK K)
              | (refine nq_assign rfl ?_; go_simp; refine hK _ ?_; clear hK K)
              | (refine nq_flt rfl rfl rfl rfl hd ?_; intro _; go_frame; refine hK _ ?_; clear hK K)
              | (refine nq_inC rfl ?_; intro w' hw'; go_simp; refine ⟨?_, ?_⟩; (next => (intro w2 hw2; go_at_call 49; exact (HCol.out w2).mono (fun e w3 ⟨he, hb⟩ => ⟨_, he, ⟨fun _ => rfl, fun h => absurd h (by decide)⟩, hb2 _ _ hw2 hb⟩))); intro v hv; obtain rfl := hv.1 rfl; go_simp; refine hK _ ?_; clear hv hK K hw' w')
              | (refine nq_inC rfl ?_; intro w' hw'; go_simp; refine ⟨?_, ?_⟩; (next => (intro w2 hw2; go_at_call 66; exact (HSum.out w2 (hb' _ hw2)).mono (fun e w3 ⟨⟨s, he⟩, hb⟩ => ⟨_, he, ⟨fun h => absurd h (by decide), fun _ => ⟨s, rfl⟩⟩, hb2 _ _ hw2 hb⟩))); intro v hv; obtain ⟨s, rfl⟩ := hv.2 rfl; go_simp; refine hK _ ?_; clear hv hK K hw' w')
              | (refine nq_same ?_; intro w' hw'; go_simp; (try go_bits); refine hK _ ?_; clear hK K hw' w')
              | (refine nq_same ?_; intro w' hw'; go_simp; rw [if_pos (by omega)]; go_simp; (try go_bits); refine hK _ ?_; clear hK K hw' w')
              | (go_simp; refine hK _ ?_; clear hK K))
          refine nqW_nil (hR _ ?_)
          clear hc hb' hb2 hd hR
          intro w' hw'
          simp only [List.drop]
          obtain ⟨hok, hrw, hWw, hK, hB, hs4, hbx, hBxm, hWW⟩ := HP2.out
          have hok1 := hok.below hw'
          have hK1 := hK.below hw'
          have hB1 := hB.trans ((Bel.of hw').mono hB.size)
          have hs1 := Nat.le_trans hs4 hw'.size
          have hW1 := below_step hWW hWW.size hw'
          have HSet := Lib.hid (Set_any w' m sm ws i j (raw Dv s) hok1)
          have HQ1 := Lib.hid (show _ ∧ _ ∧ _ ∧ _ ∧ _ ∧ _ from ⟨hK1, hB1, hs1, hW1, hrw, hWw⟩)
          clear hok hrw hWw hK hB hs4 hbx hBxm hWW hok1 hK1 hB1 hs1 hW1 hw' q1 q2 q3 r1 r2 r3 u1 u2 u3 HP2 HCol HSum
          gi_wp2_with fail
          refine ⟨trivial, (CallsIn.inRound l (callsIn_wide.2 HSet.out)).mono ?_⟩
          rintro e w3 ⟨rfl, hok3, hbb⟩
          obtain ⟨hK1, hB1, hs1, hW1, hrw, hWw⟩ := HQ1.out
          have hTot := (Bel.of (s := sm) hW1).trans (hbb.mono hW1.size)
          have hbox := ok_box HPW.out.1 (by have := HSome.out.2; intro e; rw [e] at this; cases this)
          have hDlt : Dv < 18446744073709551616 := by rw [HDv.out]; exact sumG_lt _ _ _ _
          gi_wp2
          refine ⟨keeps_bel hTot hbox _, fun hR => ⟨hR.1.bel hPv hTot, (Vw.Apart.bel (⟨hR.2, HPW.out.2.1⟩ : (newV st2 m.r m.c).Apart W sb2 (m.list ms) sm) hTot).1⟩, ⟨_, hok3, ?_, words_put hWw m i j (raw_lt hDlt s)⟩, hK1.bel hbb, hB1.trans (hbb.mono hB1.size), Nat.le_trans hs1 hbb.size⟩
          rw [List.map_append, List.map_cons, List.map_nil, trL_snoc]
          have hvp : velP y = (i, j) := by show (y.1.1, y.1.2.1) = (i, j); rw [HIJ.out.1, HIJ.out.2]
          rw [hvp, hup, ← HDv.out]
          rw [hup] at hrw
          exact hrw.put m i j Dv s
      case done =>
        rintro Dd ys W hDd hys ⟨⟨ws, hok, hrw, hWw⟩, hK, hB, hs4⟩ hKd
        rw [show ys.map velP = plcs m.c (m.r * m.c) from hys, ← HDD.out] at hrw
        have hst : StillC W2.heap.size W _ := StillC.put (o' := .deferred none) hDd hKd rfl
        have HE := Lib.hid (show _ ∧ _ ∧ _ ∧ _ from ⟨hok.still hst, hrw, hWw, hB.trans (Bel.of (hst.1.mono (by have := hB2.size; omega)))⟩)
        clear hok hrw hWw hK hB hs4 hst
        go_wp2
        refine ⟨by simp, .inl ⟨_, _, rfl, run_takeDeferred hKd, ?_⟩⟩
        exact ⟨_, results_tmp rfl _ _ _, rfl, ws, HE.out⟩
      case stop =>
        rintro D c pre W _ _ h _
        exact h.elim
  · have t1 : (E != 0) = true := by simp [hE]
    rw [if_neg hE] at hD
    subst hD
    clear hE
    go_enter Try.func33, Try.ntmps33
    go_upto_region 1 with (fail)
    rw [← hW0]
    clear hW0
    obtain ⟨hB0, x4, x5, x6, x7⟩ := HX.out
    have hbA : Below W0.heap.size W0 (W0.alloc (.cells #[.pointer t.p, .int .i64 t.r, .int .i64 t.c, .int .i64 t.o, .int .i64 t.d, .int .i64 t.u, .pointer m.p, .int .i64 m.r, .int .i64 m.c, .int .i64 m.o, .int .i64 m.d, .int .i64 m.u] 29)) := (Below.refl _ _).alloc (Nat.le_refl _) _
    have hz : Box (W0.alloc (.cells #[.pointer t.p, .int .i64 t.r, .int .i64 t.c, .int .i64 t.o, .int .i64 t.d, .int .i64 t.u, .pointer m.p, .int .i64 m.r, .int .i64 m.c, .int .i64 m.o, .int .i64 m.d, .int .i64 m.u] 29)) W0.heap.size ([t, m].flatMap Vw.cs) := Box.newA W0 ([t, m].flatMap Vw.cs) _ rfl
    have hB1 := below_step hB0 hB0.size hbA
    have HCo := Lib.hid (HO.out _ hB1 _ _ _ (x6.below hbA) (x7.below hbA) hz)
    obtain ⟨p1, p2, p3⟩ := x6.facts
    obtain ⟨q1, q2, q3⟩ := x7.facts
    have HB1 := Lib.hid (show _ ∧ _ ∧ _ ∧ _ ∧ _ from ⟨hB1, x4.below hbA, x5.below hbA, x6.below hbA, x7.below hbA⟩)
    clear hB0 x4 x5 x6 x7 hbA hz hB1 HO HX
    go_wp2_with fail
    refine HCo.out.mono ?_
    rintro e w1 ⟨rfl, hb1⟩
    obtain ⟨hB1, x4, x5, x6, x7⟩ := HB1.out
    have HB2 := Lib.hid (show _ ∧ _ ∧ _ ∧ _ ∧ _ from ⟨below_step hB1 hB1.size hb1, x4.below hb1, x5.below hb1, x6.below hb1, x7.below hb1⟩)
    clear p1 p2 p3 q1 q2 q3 hB1 hb1 x4 x5 x6 x7 HB1 HCo
    dsimp only
    go_wp2_with fail
    go_ret
    exact ⟨rfl, _, HY.out.2.1.below HB2.out.1, Rw.self HY.out.2.2.2, HY.out.2.2.2, Bel.of HB2.out.1⟩
end Go.Proofs.Ytbcdpibcieadlaa
