/- What a round holds on to that appends. No condition. -/
import Derived.Test.YtogkmddhgfenkaaZz4
import Derived.Deep.RegionHeld3
import Derived.Deep.AppendLies
import Derived.Test.YtogkmddhgfenkaaZz10
namespace Go.Proofs.Ytogkmddhgfenkaa
open Go Go.RowKit
set_option maxRecDepth 100000
/-- What a round holds on to that appends: the blocks below B are as they were. -/
def SB (B : Nat) (w0 W : World) : Prop := Below B w0 W ∧ B ≤ W.heap.size ∧ ∀ b o, b < B → W.cell? ⟨b, o, none⟩ = w0.cell? ⟨b, o, none⟩
theorem SB.of {B : Nat} {w0 W : World} (hb : Below B w0 W) (h : B ≤ W.heap.size) : SB B w0 W := ⟨hb, h, fun b o h => (below_cells hb).1 b o h⟩
abbrev SBS (B : Nat) (w0 W : World) : Prop := SB B w0 W ∧ ∀ b o, b < B → W.cell? ⟨b, o, none⟩ = w0.cell? ⟨b, o, none⟩
theorem SB.S {B : Nat} {w0 W : World} (h : SB B w0 W) : SBS B w0 W := ⟨h, h.2.2⟩
theorem SB.refl {B : Nat} {w0 : World} (h : B ≤ w0.heap.size) : SB B w0 w0 := SB.of (Below.refl _ _) h
theorem SB.drew {B : Nat} {w0 W : World} (h : SB B w0 W) : SB B w0 W.drew := SB.of (below_drewN 1 h.1) h.2.1
theorem SB.alloc {B : Nat} {w0 W : World} {o : Obj} (h : SB B w0 W) : SB B w0 (W.alloc o) := SB.of (h.1.alloc h.2.1 o) (by have := h.2.1; simp; omega)
theorem SBS.drew {B : Nat} {w0 W : World} (h : SBS B w0 W) : SBS B w0 W.drew := (SB.drew h.1).S
theorem SBS.alloc {B : Nat} {w0 W : World} {o : Obj} (h : SBS B w0 W) : SBS B w0 (W.alloc o) := (SB.alloc h.1).S
theorem SB.grown {B : Nat} {w0 W W' : World} {row : Option Nat} (h : SB B w0 W) (hg : W.grownBy W' row) (hr : ∀ r, row = some r → B ≤ r) : SB B w0 W' :=
  SB.of (h.1.grown hg h.2.1 hr) (Nat.le_trans h.2.1 hg.size)
theorem ownsRow_mono {W : World} {base base' size n : Nat} {e : TypeId} {v : Value} {xs : List Value} (h : W.ownsRow base e size v n xs) (hb : base' ≤ base) : W.ownsRow base' e size v n xs := by
  refine ⟨h.1, ?_⟩
  rcases h.2 with h0 | ⟨g, cap, cur, h1, h2, h3⟩
  · exact .inl h0
  · exact .inr ⟨g, cap, cur, h1, by omega, h3⟩
theorem SBS.grown {B : Nat} {w0 W W' : World} {row : Option Nat} (h : SBS B w0 W) (hg : W.grownBy W' row) (hr : ∀ r, row = some r → B ≤ r) : SBS B w0 W' := (SB.grown h.1 hg hr).S
theorem take_get {α : Type} {l : List α} {k : Nat} {x : α} (h : l[k]? = some x) : l.take (k + 1) = l.take k ++ [x] := by
  rw [List.take_add_one, h]; rfl


/-- Block bm holds three cells, of which the last one is a slice that grows. -/
structure OM (W0 : World) (bm base : Nat) (a b : Value) (e : TypeId) (xs : List Value) (k : Nat) (W : World) : Prop where
  ex : ∃ sv, Box W bm [a, b, sv] ∧ W.ownsRow base e 1 sv k (xs.take k)
  bel : Bel base bm W0 W
  sz : base ≤ W.heap.size
theorem OM.app {W0 W w1 : World} {bm base k : Nat} {a b sv v' x : Value} {xs : List Value} {e T : TypeId} (hbx : Box W bm [a, b, sv]) (hrow : W.ownsRow base e 1 sv k (xs.take k)) (hbel : Bel base bm W0 W) (hs : base ≤ W.heap.size) (hbm : bm < base)
    (hx : xs.take (k + 1) = xs.take k ++ [x]) (hgrow : (W.alloc (.cells #[x] T)).grownBy w1 sv.ownBlock) (hown : w1.ownsRow base e 1 v' (k + 1) (xs.take k ++ [x])) : OM W0 bm base a b e xs (k + 1) (w1.setCell ⟨bm, 2, none⟩ v') := by
  have hbx1 := Box.grown (Box.alloc hbx (.cells #[x] T)) hgrow (fun q eq => by have := (hrow.lt q eq).1; omega)
  obtain ⟨h1, h2, _⟩ := app_step (j := 2) (u := v') hrow hgrow hown hbm hs hbx1
  refine ⟨⟨v', hbx1.set 2 v', by rw [hx]; exact h1⟩, hbel.trans h2, ?_⟩
  have := h2.size
  omega
end Go.Proofs.Ytogkmddhgfenkaa

/- Package guard: words in a slice; what is asked of them. -/
namespace Go.Proofs.Ytogkmddhgfenkaa
open Go Go.RowKit
set_option maxRecDepth 100000
/-- Words that lie in cells. -/
def Wds (w : World) (a : Option Addr) (ws : List Nat) : Prop := ws ≠ [] → ∃ b off, a = some ⟨b, off, none⟩ ∧ b < w.heap.size ∧ ∀ (i : Nat) (p : Nat), ws[i]? = some p → w.cell? ⟨b, off + i, none⟩ = some (.int .u64 (p : Int))
theorem Wds.below {w w' : World} {a : Option Addr} {zs : List Nat} (h : Wds w a zs) (hb : Below w.heap.size w w') : Wds w' a zs := fun hz => by
  obtain ⟨b, off, e, hlt, hc⟩ := h hz
  refine ⟨b, off, e, Nat.lt_of_lt_of_le hlt hb.size, fun i v hi => ?_⟩
  rw [(below_cells hb).1 _ _ hlt]
  exact hc i v hi
theorem Wds.at {w : World} {a : Option Addr} {zs : List Nat} (h : Wds w a zs) {i : Nat} (hi : i < zs.length) : ∃ b off, a = some ⟨b, off, none⟩ ∧ b < w.heap.size ∧ w.cell? ⟨b, off + i, none⟩ = some (.int .u64 (zs.getD i 0 : Nat)) := by
  obtain ⟨b, off, ha, hlt, hc⟩ := h (by intro e; subst e; simp at hi)
  exact ⟨b, off, ha, hlt, hc i (zs.getD i 0) (by simp [hi])⟩
theorem Wds.nil (w : World) (a : Option Addr) : Wds w a [] := fun h => absurd rfl h

set_option maxHeartbeats 2000000 in
theorem IndexFuncU_any (f : FuncId) (p : Nat → Bool) (hp : ∀ (x : Nat) (w : World), x < 18446744073709551616 → Calls Try.prog f #[.int .u64 x] w fun e w' => e = .returned (.bool (p x)) ∧ w = w') (hcf : ∀ x w, (callFunc f #[.int .u64 x]).run Try.prog w = .ok (.enter f #[.int .u64 x]) w)
    (w : World) (za : Option Addr) (zs : List Nat) (zc : Nat) (hZ : Wds w za zs) (hW : Words zs) (hl : zs.length ≤ maxLen) :
    Calls Try.prog 101 #[.slice za zs.length zc, .func (.func f) #[] #[]] w fun e w' => (∃ r : Int, e = .returned (.int .i64 r) ∧ decide (0 ≤ r) = zs.any p) ∧ w = w' := by
  have hl' := hl
  unfold maxLen at hl'
  have hln : zs.length ≤ 9223372036854775807 := by omega
  go_enter Try.func101, Try.ntmps101
  go_wp2_with fail
  go_loop [8] (fun i => ∃ k : Nat, k ≤ zs.length ∧ i = .int .i64 k ∧ ∀ j, j < k → p (zs.getD j 0) = false) (fun i => zs.length - (intOf i).toNat)
  case atStart => exact ⟨0, Nat.zero_le _, rfl, fun _ h => absurd h (Nat.not_lt_zero _)⟩
  case round =>
    obtain ⟨k, hk, rfl, hno⟩ := hrel
    have HNO := Lib.hid hno
    clear hno
    by_cases hlt : k < zs.length
    · obtain ⟨b, o, rfl, hb, hc1⟩ := hZ.at hlt
      go_wp2_with fail
      have HP := hp (zs.getD k 0) w (hW.at k)
      have e0 : zs.getD k 0 = zs[k] := by simp [hlt]
      rw [e0] at HP
      refine HP.mono ?_
      rintro e w2 ⟨rfl, rfl⟩
      clear HP
      cases hpk : p zs[k]
      · go_wp2
        go_round
        case rel => exact ⟨k + 1, by omega, by go_num, fun j hj => by
          by_cases hjk : j = k
          · subst hjk; rw [e0]; exact hpk
          · exact HNO.out j (by omega)⟩
        case measure => simp [intOf]; omega
      · go_wp2
        go_ret
        refine ⟨⟨k, rfl, ?_⟩, rfl⟩
        rw [decide_eq_true (by omega), eq_comm, List.any_eq_true]
        exact ⟨zs[k], List.getElem_mem hlt, hpk⟩
    · go_wp2
      go_ret
      refine ⟨⟨-1, rfl, ?_⟩, rfl⟩
      rw [decide_eq_false (by omega), eq_comm, List.any_eq_false]
      intro x hx
      obtain ⟨j, hj, rfl⟩ := List.getElem_of_mem hx
      have := HNO.out j (by omega)
      simp [hj] at this
      simp [this]
set_option maxHeartbeats 1000000 in
theorem ContainsFuncU_any (f : FuncId) (p : Nat → Bool) (hp : ∀ (x : Nat) (w : World), x < 18446744073709551616 → Calls Try.prog f #[.int .u64 x] w fun e w' => e = .returned (.bool (p x)) ∧ w = w') (hcf : ∀ x w, (callFunc f #[.int .u64 x]).run Try.prog w = .ok (.enter f #[.int .u64 x]) w)
    (w : World) (za : Option Addr) (zs : List Nat) (zc : Nat) (hZ : Wds w za zs) (hW : Words zs) (hl : zs.length ≤ maxLen) :
    Calls Try.prog 89 #[.slice za zs.length zc, .func (.func f) #[] #[]] w fun e w' => e = .returned (.bool (zs.any p)) ∧ w = w' := by
  have H := Lib.hid (IndexFuncU_any f p hp hcf w za zs zc hZ hW hl)
  clear hp hcf
  go_enter Try.func89, Try.ntmps89
  go_wp2_with fail
  refine H.out.mono ?_
  rintro e w2 ⟨⟨r, rfl, hr⟩, rfl⟩
  have HR := Lib.hid hr
  clear hr
  go_wp2
  go_ret
  exact ⟨by rw [← HR.out]; rfl, rfl⟩
theorem Any1_any (i k : Int) (w : World) : Calls Try.prog 70 #[.int .i64 i, .int .i64 k] w fun e w' => e = .returned (.bool true) ∧ w = w' := by
  go_enter Try.func70, Try.ntmps70
  go_wp2
  go_ret
  exact ⟨rfl, rfl⟩
/-- Are two words the same entry? -/
def okW (x y : Nat) : Bool := decide (x = y) || (decide (x % 9223372036854775808 = 0) && decide (y % 9223372036854775808 = 0))
def okSq (ws : List Nat) (n i k : Nat) : Bool := okW (ws.getD (i * n + k) 0) (ws.getD (k * n + i) 0)
set_option maxHeartbeats 4000000 in
theorem Square1_any (w : World) (a : Option Addr) (ws : List Nat) (ac n i k Bw Bn : Nat) (hA : Wds w a ws) (hW : Words ws) (hl : ws.length = n * n) (hn : n ≤ 512) (hi : i < n) (hk : k < n) (xw : Box w Bw [.slice a ws.length ac]) (xn : Box w Bn [.int .i64 n]) :
    Calls Try.prog 63 #[.int .i64 i, .int .i64 k, .pointer (some ⟨Bw, 0, none⟩), .pointer (some ⟨Bn, 0, none⟩)] w fun e w' => e = .returned (.bool (okSq ws n i k)) ∧ Below w.heap.size w w' := by
  have hb1 : i * n + k < ws.length := by have : (i + 1) * n ≤ n * n := Nat.mul_le_mul_right _ hi; rw [Nat.succ_mul] at this; omega
  have hb2 : k * n + i < ws.length := by have : (k + 1) * n ≤ n * n := Nat.mul_le_mul_right _ hk; rw [Nat.succ_mul] at this; omega
  have hnn : n * n ≤ 512 * 512 := Nat.mul_le_mul hn hn
  obtain ⟨b, off, rfl, hbl, c1⟩ := hA.at hb1
  obtain ⟨b', off', e, _, c2⟩ := hA.at hb2
  obtain ⟨rfl, rfl⟩ : b = b' ∧ off = off' := by cases e; exact ⟨rfl, rfl⟩
  have hx := hW.at (i * n + k)
  have hy := hW.at (k * n + i)
  unfold okSq
  have HX := Lib.hid (fun W => gsize_any _ hx W)
  have HY := Lib.hid (fun W => gsize_any _ hy W)
  obtain ⟨m1, m2, m3⟩ := xw.facts
  obtain ⟨n1, n2, n3⟩ := xn.facts
  have hlb : ws.length ≤ 262144 := by omega
  generalize ws.getD (i * n + k) 0 = x at *
  generalize ws.getD (k * n + i) 0 = y at *
  generalize ws.length = len at *
  have p1 : (i : Int) * (n : Int) = ((i * n : Nat) : Int) := (Int.natCast_mul _ _).symm
  have p2 : (k : Int) * (n : Int) = ((k * n : Nat) : Int) := (Int.natCast_mul _ _).symm
  generalize i * n = q1 at *
  generalize k * n = q2 at *
  have w1 : IntKind.i64.wrap (q1 : Int) = (q1 : Int) := by rw [IntKind.wrap_i64]; omega
  have w2 : IntKind.i64.wrap (q2 : Int) = (q2 : Int) := by rw [IntKind.wrap_i64]; omega
  have w3 : IntKind.i64.wrap ((q1 : Int) + (k : Int)) = (q1 : Int) + (k : Int) := by rw [IntKind.wrap_i64]; omega
  have w4 : IntKind.i64.wrap ((q2 : Int) + (i : Int)) = (q2 : Int) + (i : Int) := by rw [IntKind.wrap_i64]; omega
  have t1 : ((q1 : Int) + (k : Int)).toNat = q1 + k := by omega
  have t2 : ((q2 : Int) + (i : Int)).toNat = q2 + i := by omega
  have t3 : (0 : Int) ≤ (q1 : Int) + (k : Int) := by omega
  have t4 : (0 : Int) ≤ (q2 : Int) + (i : Int) := by omega
  have t5 : (q1 : Int) + (k : Int) < (len : Int) := by omega
  have t6 : (q2 : Int) + (i : Int) < (len : Int) := by omega
  clear hl hn hi hk hnn hA hW hx hy hb1 hb2 xw xn e hlb
  obtain ⟨R, hR⟩ : ∃ R, R = okW x y := ⟨_, rfl⟩
  rw [← hR]
  have HR := Lib.hid hR
  clear hR
  go_enter Try.func63, Try.ntmps63
  go_wp2
  refine wp_region_nqb 18 (fun _ _ _ => False) (by kernel_rfl) (by kernel_rfl) ?_
  intro C R hc hb' hb2 hd hR
  simp only [List.take_succ_cons, List.take_zero]
  repeat (
    first
      | (refine nqW_plain (fun K hK => ?_))
      | (refine nqW_step (fun K hK => ?_); go_simp)
    first
      | (refine nq_move rfl ?_; go_simp; refine hK _ ?_; clear hK K)
      | (refine nq_assign rfl ?_; go_simp; refine hK _ ?_; clear hK K)
      | (refine nq_flt rfl rfl rfl rfl hd ?_; intro _; go_frame; refine hK _ ?_; clear hK K)
      | (refine nq_same ?_; intro w' hw'; go_simp; (try go_bits); refine hK _ ?_; clear hK K hw' w')
      | (refine nq_same ?_; intro w' hw'; go_simp; rw [if_pos (by omega)]; go_simp; (try go_bits); refine hK _ ?_; clear hK K hw' w')
      | (go_simp; refine hK _ ?_; clear hK K))
  refine nqW_nil (hR _ ?_)
  clear hc hb' hb2 hd hR
  intro w' hw'
  simp only [List.drop]
  clear t1 t2 t3 t4 t5 t6 w1 w2 w3 w4 p1 p2 c1 c2 m1 m2 m3 n1 n2 n3
  unfold okW at HR
  cases d0 : decide (x = y)
  · have d0' : ((x : Int) == (y : Int)) = false := by rw [decide_eq_false_iff_not] at d0; rw [beq_eq_false_iff_ne]; omega
    rw [d0, Bool.false_or] at HR
    clear d0
    generalize x % 9223372036854775808 = r at *
    generalize y % 9223372036854775808 = s at *
    cases d1 : decide (r = 0)
    · have d1' : ((r : Int) == 0) = false := by rw [decide_eq_false_iff_not] at d1; rw [beq_eq_false_iff_ne]; omega
      rw [d1, Bool.false_and] at HR
      clear d1
      go_wp2_with (first | (go_at_call 64; refine (HX.out _).mono ?_; rintro e w' ⟨rfl, rfl⟩))
      go_ret
      exact ⟨by rw [HR.out]; rfl, hw'⟩
    · rw [d1, Bool.true_and] at HR
      rw [decide_eq_true_iff] at d1
      subst d1
      cases d2 : decide (s = 0)
      · have d2' : ((s : Int) == 0) = false := by rw [decide_eq_false_iff_not] at d2; rw [beq_eq_false_iff_ne]; omega
        rw [d2] at HR
        clear d2
        go_wp2_with fail
        refine (HX.out _).mono ?_
        rintro e w' ⟨rfl, rfl⟩
        go_wp2_with fail
        refine (HY.out _).mono ?_
        rintro e w' ⟨rfl, rfl⟩
        go_wp2
        go_ret
        exact ⟨by rw [HR.out]; rfl, hw'⟩
      · rw [d2] at HR
        rw [decide_eq_true_iff] at d2
        subst d2
        go_wp2_with fail
        refine (HX.out _).mono ?_
        rintro e w' ⟨rfl, rfl⟩
        go_wp2_with fail
        refine (HY.out _).mono ?_
        rintro e w' ⟨rfl, rfl⟩
        go_wp2
        go_ret
        exact ⟨by rw [HR.out]; rfl, hw'⟩
  · rw [d0, Bool.true_or] at HR
    rw [decide_eq_true_iff] at d0
    subst d0
    go_wp2
    go_ret
    exact ⟨by rw [HR.out]; rfl, hw'⟩
end Go.Proofs.Ytogkmddhgfenkaa
