/- Views: a vector's places; views made. -/
import Derived.Test.YtbcdpibcieadlaaZz3
import Derived.Laws.CopyOwn
import Derived.Laws.MakeOwn
import Derived.Laws.OwnMore
namespace Go.Proofs.Ytbcdpibcieadlaa
open Go Go.RowKit
set_option maxRecDepth 100000

/-- A vector's place, by its row and column. -/
def Vw.al (v : Vw) (i : Int) : Int × Int := (if v.r = 1 then 0 else i, if v.r = 1 then i else 0)
def Vw.getVec (v : Vw) (ws : List Nat) (i : Int) : Nat := if vecV v.p v.r v.c then v.get ws (v.al i).1 (v.al i).2 else 0
def GetF (a b : Int) (x : Nat) (f : FuncId) (_ : Array Value) (v : Value) : Prop :=
  (f = 102 → v = .tuple #[.int .i64 a, .int .i64 b]) ∧ (f = 74 → v = .float .f64 x)

set_option maxHeartbeats 2000000 in
theorem Get_any (w : World) (v : Vw) (sb : Nat) (ws : List Nat) (i : Int) (h : v.Ok w sb ws) :
    Calls Try.prog 59 #[v.val, .int .i64 i] w fun e w' => e = .returned (.float .f64 (v.getVec ws i)) ∧ Below w.heap.size w w' := by
  have HA := Lib.hid (fun (W : World) (hB : Below w.heap.size w W) => At_any W v sb ws (v.al i).1 (v.al i).2 (h.below hB))
  have HL := Lib.hid (fun (W : World) => along_any v.p v.r v.c v.o v.d v.u i W)
  have e0 : v.getVec ws i = if vecV v.p v.r v.c then v.get ws (v.al i).1 (v.al i).2 else 0 := rfl
  rw [e0]
  clear e0
  have e1 : v.al i = (if v.r = 1 then 0 else i, if v.r = 1 then i else 0) := rfl
  rw [e1] at HA ⊢
  clear e1
  dsimp only at HA ⊢
  generalize (if v.r = 1 then 0 else i) = a at *
  generalize (if v.r = 1 then i else 0) = b at *
  generalize v.get ws a b = x at *
  clear h
  obtain ⟨p, r, c, o, d, u⟩ := v
  unfold Vw.val at HA ⊢
  dsimp only at HA HL ⊢
  have hbx := Box.new w [.pointer p, .int .i64 r, .int .i64 c, .int .i64 o, .int .i64 d, .int .i64 u] 29
  have hB0 : Below w.heap.size w (w.alloc (.cells #[.pointer p, .int .i64 r, .int .i64 c, .int .i64 o, .int .i64 d, .int .i64 u] 29)) := (Below.refl _ _).alloc (Nat.le_refl _) _
  cases t1 : vecV p r c
  · rw [if_neg (by decide)]
    go_enter Try.func59, Try.ntmps59
    go_wp2_with (go_at_call 63; refine (Vector_any _ _ _ _ _ _ _).mono ?_; rintro e w1 ⟨rfl, hb1⟩; rw [t1])
    go_ret
    exact ⟨rfl, below_step hB0 hB0.size hb1⟩
  · rw [if_pos rfl]
    go_enter Try.func59, Try.ntmps59
    go_wp2_with fail
    refine (Vector_any _ _ _ _ _ _ _).mono ?_
    rintro e w1 ⟨rfl, hb1⟩
    rw [t1]
    have y1 := hbx.below hb1
    have hB1 := below_step hB0 hB0.size hb1
    obtain ⟨a1, a2, a3⟩ := y1.facts
    go_wp2
    refine wp_region_nqb 8 (GetF a b x) (by kernel_rfl) (by kernel_rfl) ?_
    intro C R hc hb' hb2 hd hR
    simp only [List.take_succ_cons, List.take_zero]
    repeat (
      first
        | (refine nqW_plain (fun K hK => ?_))
        | (refine nqW_step (fun K hK => ?_); go_simp)
      first
        | (refine nq_move rfl ?_; go_simp; refine hK _ ?_; clear hK K)
        | (refine nq_assign rfl ?_; go_simp; refine hK _ ?_; clear hK K)
        | (refine nq_flt rfl rfl rfl rfl hd ?_; intro _; go_frame; refine hK _ ?_; clear hK K)
        | (refine nq_in ?_; intro w' hw'; go_simp; refine ⟨?_, ?_⟩; (next => (intro w2 hw2; go_at_call 102; exact (HL.out w2).mono (fun e w3 ⟨he, hb⟩ => ⟨_, he, ⟨fun _ => rfl, fun h => absurd h (by decide)⟩, hb2 _ _ hw2 hb⟩))); intro v hv; obtain rfl := hv.1 rfl; go_simp; refine hK _ ?_; clear hv hK K hw' w')
        | (refine nq_in ?_; intro w' hw'; go_simp; refine ⟨?_, ?_⟩; (next => (intro w2 hw2; go_at_call 74; exact (HA.out w2 (below_step hB1 hB1.size (hb' _ hw2))).mono (fun e w3 ⟨he, hb⟩ => ⟨_, he, ⟨fun h => absurd h (by decide), fun _ => rfl⟩, hb2 _ _ hw2 hb⟩))); intro v hv; obtain rfl := hv.2 rfl; go_simp; refine hK _ ?_; clear hv hK K hw' w')
        | (refine nq_same ?_; intro w' hw'; go_simp; (try go_bits); refine hK _ ?_; clear hK K hw' w')
        | (refine nq_same ?_; intro w' hw'; go_simp; rw [if_pos (by omega)]; go_simp; (try go_bits); refine hK _ ?_; clear hK K hw' w')
        | (go_simp; refine hK _ ?_; clear hK K))
    refine nqW_nil (hR _ ?_)
    clear hc hb' hb2 hd hR
    intro w' hw'
    simp only [List.drop]
    go_wp2
    go_ret
    exact ⟨rfl, below_step hB1 hB1.size hw'⟩

/-- The code of setting a vector's place. -/
def Vw.putVecE (v : Vw) (i : Int) : Int := if v.p.isSome && !vecV v.p v.r v.c then 8 else v.putE (v.al i).1 (v.al i).2
def Vw.putVec (v : Vw) (ws : List Nat) (i : Int) (x : Nat) : List Nat := if v.p.isSome && !vecV v.p v.r v.c then ws else v.put ws (v.al i).1 (v.al i).2 x
set_option maxHeartbeats 2000000 in
theorem Put_any (w : World) (v : Vw) (sb : Nat) (ws : List Nat) (i : Int) (x : Nat) (h : v.Ok w sb ws) :
    Calls Try.prog 100 #[v.val, .int .i64 i, .float .f64 x] w fun e w' => e = .returned (.int .i64 (v.putVecE i)) ∧ v.Ok w' sb (v.putVec ws i x) ∧ Bel w.heap.size sb w w' := by
  have HS := Lib.hid (fun (W : World) (hB : Below w.heap.size w W) => Set_any W v sb ws (v.al i).1 (v.al i).2 x (h.below hB))
  have HL := Lib.hid (fun (W : World) => along_any v.p v.r v.c v.o v.d v.u i W)
  have HO := Lib.hid (fun (W : World) (hB : Below w.heap.size w W) => h.below hB)
  have e0 : v.putVecE i = if v.p.isSome && !vecV v.p v.r v.c then 8 else v.putE (v.al i).1 (v.al i).2 := rfl
  have e1 : v.putVec ws i x = if v.p.isSome && !vecV v.p v.r v.c then ws else v.put ws (v.al i).1 (v.al i).2 x := rfl
  rw [e0, e1]
  clear e0 e1
  have e1 : v.al i = (if v.r = 1 then 0 else i, if v.r = 1 then i else 0) := rfl
  rw [e1] at HS ⊢
  clear e1
  dsimp only at HS ⊢
  generalize (if v.r = 1 then 0 else i) = a at *
  generalize (if v.r = 1 then i else 0) = b at *
  generalize v.put ws a b x = ws' at *
  generalize v.putE a b = ec at *
  clear h
  have HQ : Hid (∀ W l, v.Ok W sb l = v.Ok W sb l) := fun _ _ => rfl
  generalize hOk : v.Ok = Ok at *
  clear hOk HQ
  obtain ⟨p, r, c, o, d, u⟩ := v
  unfold Vw.val at HS ⊢
  dsimp only at HS HL ⊢
  have hbx := Box.new w [.pointer p, .int .i64 r, .int .i64 c, .int .i64 o, .int .i64 d, .int .i64 u] 29
  have hB0 : Below w.heap.size w (w.alloc (.cells #[.pointer p, .int .i64 r, .int .i64 c, .int .i64 o, .int .i64 d, .int .i64 u] 29)) := (Below.refl _ _).alloc (Nat.le_refl _) _
  cases p
  case none =>
    rw [show ((none : Option Addr).isSome && !vecV none r c) = false from rfl, if_neg (by decide), if_neg (by decide)]
    go_enter Try.func100, Try.ntmps100
    go_wp2_with fail
    refine (HL.out _).mono ?_
    rintro e w1 ⟨rfl, hb1⟩
    have y1 := hbx.below hb1
    have hB1 := below_step hB0 hB0.size hb1
    obtain ⟨a1, a2, a3⟩ := y1.facts
    go_wp2_with fail
    refine (HS.out _ hB1).mono ?_
    rintro e w2 ⟨rfl, hk, hb2⟩
    go_wp2
    go_ret
    exact ⟨rfl, hk, bel_step (Bel.of hB1) hB1.size hb2⟩
  case some q =>
    cases t1 : vecV (some q) r c
    · rw [show ((some q : Option Addr).isSome && !false) = true from rfl, if_pos rfl, if_pos rfl]
      go_enter Try.func100, Try.ntmps100
      go_wp2_with (go_at_call 63; refine (Vector_any _ _ _ _ _ _ _).mono ?_; rintro e w1 ⟨rfl, hb1⟩; rw [t1])
      have hB1 := below_step hB0 hB0.size hb1
      go_ret
      exact ⟨rfl, HO.out _ hB1, Bel.of hB1⟩
    · rw [show ((some q : Option Addr).isSome && !true) = false from rfl, if_neg (by decide), if_neg (by decide)]
      go_enter Try.func100, Try.ntmps100
      go_wp2_with fail
      refine (Vector_any _ _ _ _ _ _ _).mono ?_
      rintro e w1 ⟨rfl, hb1⟩
      rw [t1]
      have y1 := hbx.below hb1
      have hB1 := below_step hB0 hB0.size hb1
      obtain ⟨a1, a2, a3⟩ := y1.facts
      go_wp2_with fail
      refine (HL.out _).mono ?_
      rintro e w2 ⟨rfl, hb2⟩
      have y2 := y1.below hb2
      have hB2 := below_step hB1 hB1.size hb2
      obtain ⟨a4, a5, a6⟩ := y2.facts
      go_wp2_with fail
      refine (HS.out _ hB2).mono ?_
      rintro e w3 ⟨rfl, hk, hb3⟩
      go_wp2
      go_ret
      exact ⟨rfl, hk, bel_step (Bel.of hB2) hB2.size hb3⟩

/-! ### Views made -/
def okSz (x : Int) : Bool := decide (0 ≤ x ∧ x ≤ 512)
theorem okSz_bits (x : Int) : okSz x = (!decide (x < 0) && !decide (512 < x)) := by
  unfold okSz
  rw [Bool.eq_iff_iff]
  simp
set_option maxHeartbeats 2000000 in
theorem size_any (w : World) (b : Nat) (x y : Int) (_hb : b < w.heap.size) (h0 : w.cell? ⟨b, 0, none⟩ = some (.int .i64 x)) (h1 : w.cell? ⟨b, 1, none⟩ = some (.int .i64 y)) :
    Calls Try.prog 101 #[.slice (some ⟨b, 0, none⟩) 2 2] w fun e w' => e = .returned (.bool (okSz x && okSz y)) ∧ w = w' := by
  have HX := Lib.hid (okSz_bits x)
  have HY := Lib.hid (okSz_bits y)
  go_enter Try.func101, Try.ntmps101
  go_wp2
  go_loopw [7] (fun i wr => ∃ k : Nat, k ≤ 2 ∧ i = .int .i64 k ∧ (0 < k → okSz x = true) ∧ (1 < k → okSz y = true) ∧ w = wr) (fun i _ => 2 - (intOf i).toNat)
  case atStart => exact ⟨0, by decide, rfl, fun h => absurd h (by decide), fun h => absurd h (by decide), rfl⟩
  case round =>
    obtain ⟨k, hk, rfl, hx, hy, rfl⟩ := hrel
    have HX2 := Lib.hid hx
    have HY2 := Lib.hid hy
    clear hx hy
    have hk3 : k = 0 ∨ k = 1 ∨ k = 2 := by omega
    rcases hk3 with rfl | rfl | rfl
    · cases g1 : decide (x < 0)
      · cases g2 : decide (512 < x)
        · have e : okSz x = true := by rw [HX.out, g1, g2]; rfl
          have E := Lib.hid e
          clear e
          go_wp2
          go_roundw
          case rel => exact ⟨1, by omega, rfl, fun _ => E.out, fun h => absurd h (by decide), (by trivial)⟩
          case measure => simp [intOf]
        · have e : (okSz x && okSz y) = false := by rw [HX.out, g1, g2]; rfl
          have E9 := Lib.hid e
          clear e
          go_wp2
          go_ret
          exact ⟨by rw [E9.out]; rfl, rfl⟩
      · have e : (okSz x && okSz y) = false := by rw [HX.out, g1]; rfl
        have E9 := Lib.hid e
        clear e
        go_wp2
        go_ret
        exact ⟨by rw [E9.out]; rfl, rfl⟩
    · have E := Lib.hid (HX2.out (by decide))
      cases g1 : decide (y < 0)
      · cases g2 : decide (512 < y)
        · have e : okSz y = true := by rw [HY.out, g1, g2]; rfl
          have E2 := Lib.hid e
          clear e
          go_wp2
          go_roundw
          case rel => exact ⟨2, by omega, rfl, fun _ => E.out, fun _ => E2.out, (by trivial)⟩
          case measure => simp [intOf]
        · have e : (okSz x && okSz y) = false := by rw [HY.out, g1, g2, E.out]; rfl
          have E9 := Lib.hid e
          clear e
          go_wp2
          go_ret
          exact ⟨by rw [E9.out]; rfl, rfl⟩
      · have e : (okSz x && okSz y) = false := by rw [HY.out, g1, E.out]; rfl
        have E9 := Lib.hid e
        clear e
        go_wp2
        go_ret
        exact ⟨by rw [E9.out]; rfl, rfl⟩
    · have e : (okSz x && okSz y) = true := by rw [HX2.out (by decide), HY2.out (by decide)]; rfl
      have E9 := Lib.hid e
      clear e
      go_wp2
      go_ret
      exact ⟨by rw [E9.out]; rfl, rfl⟩

theorem run_New (r c : Nat) (h : r * c ≤ 262144) (w : World) : (Instr.makeSlice 22 (.int .i64 ((r : Int) * (c : Int))) (.int .i64 ((r : Int) * (c : Int)))).run Try.prog w = .ok (.slice (some ⟨w.heap.size, 0, none⟩) (r * c) (r * c)) (w.alloc (.cells (List.replicate (r * c) (Value.float .f64 0)).toArray 31)) := by
  have h0 : (Try.prog.info? 31).map (fun i => (i.zero, i.size, i.bytes)) = some (some (.float .f64 0), 1, 8) := by kernel_rfl
  obtain ⟨i, hi, h1⟩ := Option.map_eq_some_iff.1 h0
  simp only [Prod.mk.injEq] at h1
  obtain ⟨hz, hs, hb⟩ := h1
  have e : (r : Int) * (c : Int) = ((r * c : Nat) : Int) := (Int.natCast_mul _ _).symm
  rw [e]
  generalize r * c = n at h
  have hr := run_make (P := Try.prog) w 22 31 i (.float .f64 0) Try.underlying22 hi hz .i64 .i64 n n (by omega) (Int.le_refl _) (by rw [hb]; omega) (by omega)
  rw [hs] at hr
  simp only [Int.toNat_natCast, Nat.mul_one] at hr
  rw [hr]
  have e2 : madeCells (Value.float .f64 0).cells n = (List.replicate n (Value.float .f64 0)).toArray := by
    apply Array.ext'
    have := toList_madeCells_one (.float .f64 0) n
    simpa [Value.cells] using this
  rw [e2]

/-- A new view of noughts, or none. -/
def newV (st : Nat) (r c : Nat) : Vw := ⟨some ⟨st, 0, none⟩, r, c, 0, c, 1⟩
set_option maxHeartbeats 2000000 in
theorem New_no (x y : Int) (w : World) (h : (okSz x && okSz y) = false) :
    Calls Try.prog 56 #[.int .i64 x, .int .i64 y] w fun e w' => e = .returned (.tuple #[Vw.none.val, .int .i64 2]) ∧ Below w.heap.size w w' := by
  have fin : Vw.none.val = (.agg #[.pointer none, .int .i64 0, .int .i64 0, .int .i64 0, .int .i64 0, .int .i64 0]) := rfl
  rw [fin]
  clear fin
  have H := Lib.hid h
  clear h
  go_enter Try.func56, Try.ntmps56
  go_wp2_with (go_at_call 101; refine (size_any _ _ x y (by simp) (by simp) (by simp)).mono ?_; rintro e w1 ⟨rfl, rfl⟩; rw [H.out])
  refine bodyPost_ret (results_two rfl (rv_cell (g := w.heap.size) rfl ((Box.newA _ [.pointer none, .int .i64 0, .int .i64 0, .int .i64 0, .int .i64 0, .int .i64 0] _ rfl).alloc _) rfl Try.underlying29 (by kernel_rfl)) (rv_tmp rfl)) rfl ⟨rfl, ?_⟩
  exact ((Below.refl _ _).alloc (Nat.le_refl _) _).alloc (by simp) _
set_option maxHeartbeats 2000000 in
theorem New_yes (r c : Nat) (w : World) (hr : r ≤ 512) (hc : c ≤ 512) :
    Calls Try.prog 56 #[.int .i64 r, .int .i64 c] w fun e w' => ∃ st sb, e = .returned (.tuple #[(newV st r c).val, .int .i64 0]) ∧ w.heap.size ≤ st ∧ w.heap.size ≤ sb ∧ Sto w' (some ⟨st, 0, none⟩) sb (List.replicate (r * c) 0) ∧ Below w.heap.size w w' := by
  have h : (okSz r && okSz c) = true := by unfold okSz; simp; omega
  have H := Lib.hid h
  clear h
  have h0 : r * c ≤ 512 * 512 := Nat.mul_le_mul hr hc
  have hn := run_New r c h0
  have e0 : ((r * c : Nat) : Int) = (r : Int) * (c : Int) := Int.natCast_mul _ _
  have h1 : (r : Int) * (c : Int) ≤ 9223372036854775807 := by rw [← e0]; omega
  have h2 : (0 : Int) ≤ (r : Int) * (c : Int) := Int.mul_nonneg (Int.natCast_nonneg _) (Int.natCast_nonneg _)
  clear e0
  go_enter Try.func56, Try.ntmps56
  go_wp2_with (go_at_call 101; refine (size_any _ _ r c (by simp) (by simp) (by simp)).mono ?_; rintro e w1 ⟨rfl, rfl⟩; rw [H.out])
  refine bodyPost_ret (results_two rfl (rv_cell (g := w.heap.size) rfl ((((Box.newA w [.pointer (some ⟨w.heap.size + 1 + 1 + 1, 0, none⟩), .int .i64 r, .int .i64 c, .int .i64 0, .int .i64 c, .int .i64 1] _ rfl).alloc _).alloc _).alloc _) rfl Try.underlying29 (by kernel_rfl)) (rv_tmp rfl)) rfl ⟨w.heap.size + 1 + 1 + 1, w.heap.size + 1 + 1, rfl, by omega, by omega, ⟨_, rfl, ?_, ?_, ?_⟩, ?_⟩
  · rw [List.length_replicate]; exact Box.newA _ [_] _ (by simp)
  · rw [List.map_replicate]
    refine Box.alloc ?_ _
    have hb := Box.newA ((w.alloc (.cells #[.pointer (some ⟨w.heap.size + 1 + 1 + 1, 0, none⟩), .int .i64 r, .int .i64 c, .int .i64 0, .int .i64 c, .int .i64 1] 29)).alloc (.cells #[.int .i64 r, .int .i64 c] 3)) (List.replicate (r * c) (Value.float .f64 0)) 31 (n := w.heap.size + 1 + 1) (by simp)
    simpa using hb
  · rw [List.length_replicate]; exact h0
  · exact ((((Below.refl _ _).alloc (Nat.le_refl _) _).alloc (by simp) _).alloc (by simp; omega) _).alloc (by simp; omega) _

theorem Box.other6 {w : World} {n m : Nat} {cs : List Value} (h : Box w n cs) (hne : n ≠ m) (v0 v1 v2 v3 v4 v5 : Value) :
    Box ((((((w.setCell ⟨m, 0, none⟩ v0).setCell ⟨m, 1, none⟩ v1).setCell ⟨m, 2, none⟩ v2).setCell ⟨m, 3, none⟩ v3).setCell ⟨m, 4, none⟩ v4).setCell ⟨m, 5, none⟩ v5) n cs :=
  (((((h.set_other hne 0 v0).set_other hne 1 v1).set_other hne 2 v2).set_other hne 3 v3).set_other hne 4 v4).set_other hne 5 v5
/-- Cells hold just these floats. -/
def Cel (w : World) (a : Option Addr) (zs : List Nat) : Prop := zs ≠ [] → ∃ b off, a = some ⟨b, off, none⟩ ∧ b < w.heap.size ∧ ∀ i v, zs[i]? = some v → w.cell? ⟨b, off + i, none⟩ = some (.float .f64 v)
theorem Cel.below {w w' : World} {a : Option Addr} {zs : List Nat} (h : Cel w a zs) (hb : Below w.heap.size w w') : Cel w' a zs := fun hz => by
  obtain ⟨b, off, rfl, hlt, hc⟩ := h hz
  exact ⟨b, off, rfl, Nat.lt_of_lt_of_le hlt hb.size, fun i v hi => by rw [hb.cell (p := ⟨b, off + i, none⟩) hlt]; exact hc i v hi⟩
/-- A store made new: all of another slice copied into it. -/
theorem wpList_copy_box {P : Program} {w : World} {ops : Array Oper} {rest : List Oper} {o : Oper} {a : Act} {Q : Exit → Act → World → Prop} (hgd : o.guard = none) (d s : Operand) (dT sT : TypeId)
    (ho : o.op = .call { callee := .builtin .copy, args := #[d, s], argTypes := #[dT, sT] }) (elem : TypeId) (hu : P.underlying dT = some (.slice elem)) (hsz : (P.info? elem).map (·.size) = some 1)
    (g dCap sCap n m : Nat) (sp : Option Addr) (cs : List Nat) (hd : a.eval d = .slice (some ⟨g, 0, none⟩) n dCap) (hs : a.eval s = .slice sp m sCap) (hn : n = cs.length) (hm : m = cs.length)
    (cur : List Value) (hg : Box w g cur) (hcur : cur.length = cs.length) (hsrc : Cel w sp cs)
    (h : ∀ w', Box w' g (cs.map (Value.float .f64)) → (∀ B, Bel B g w w') → wpList P ops Q rest (a.put o.dst (goInt cs.length)) w') : wpList P ops Q (o :: rest) a w := by
  subst hn hm
  by_cases h0 : cs = []
  · subst h0
    refine wpList_copy_nothing hgd d s dT sT ho elem hu hsz _ sp _ _ _ _ hd hs (by rfl) ?_
    have : cur = [] := List.eq_nil_of_length_eq_zero hcur
    subst this
    exact h w hg (fun B => Bel.refl _ _ _)
  · obtain ⟨b, off, rfl, hlt, hc⟩ := hsrc h0
    obtain ⟨T, hT⟩ := hg
    refine wpList_copy_own hgd d s dT sT ho elem hu hsz g 0 _ _ ⟨b, off, none⟩ _ _ hd hs cur.toArray T hT (cs.map (Value.float .f64)) (by simp) ?_ (by simp [hcur]) (by intro v hv; simp at hv; obtain ⟨x, _, rfl⟩ := hv; rfl) ?_
    · intro j v hj
      simp only [List.getElem?_map, Option.map_eq_some_iff] at hj
      obtain ⟨x, hx, rfl⟩ := hj
      have ha : (Addr.add ⟨b, off, none⟩ j) = ⟨b, off + j, none⟩ := by
        unfold Addr.add
        split
        · subst_vars; rfl
        · rfl
      rw [ha]; exact hc j x hx
    · have e : (List.take 0 cur.toArray.toList ++ (cs.map (Value.float .f64) ++ List.drop (0 + (cs.map (Value.float .f64)).length) cur.toArray.toList)) = cs.map (Value.float .f64) := by
        simp [hcur]
      rw [e, List.length_map]
      refine h _ ⟨T, ?_⟩ (fun B => ⟨rfl, rfl, rfl, by simp [World.setRow], fun k _ hk => setRow_other w g k _ (by omega)⟩)
      exact setRow_heap w g _ _ _ _ hT

/-- May it be a matrix of n floats? -/
def mayM (r c : Int) (n : Nat) : Bool := okSz r && okSz c && decide ((n : Int) = r * c)
set_option maxHeartbeats 4000000 in
theorem Of_no (r c : Int) (a : Option Addr) (n cap : Nat) (w : World) (_hn : n ≤ maxLen) (h : mayM r c n = false) :
    Calls Try.prog 60 #[.agg #[.int .i64 r, .int .i64 c, .slice a n cap]] w fun e w' => e = .returned (.tuple #[Vw.none.val, .int .i64 2]) ∧ Below w.heap.size w w' := by
  have fin : Vw.none.val = (.agg #[.pointer none, .int .i64 0, .int .i64 0, .int .i64 0, .int .i64 0, .int .i64 0]) := rfl
  rw [fin]
  have hx1 : Box ((w.alloc (.cells #[.int .i64 r, .int .i64 c, .slice a n cap] 24)).alloc (.cells #[.pointer none, .int .i64 0, .int .i64 0, .int .i64 0, .int .i64 0, .int .i64 0] 29)) w.heap.size [.int .i64 r, .int .i64 c, .slice a n cap] := (Box.newA w [_, _, _] _ rfl).alloc _
  have hx2 : Box ((w.alloc (.cells #[.int .i64 r, .int .i64 c, .slice a n cap] 24)).alloc (.cells #[.pointer none, .int .i64 0, .int .i64 0, .int .i64 0, .int .i64 0, .int .i64 0] 29)) (w.heap.size + 1) [.pointer none, .int .i64 0, .int .i64 0, .int .i64 0, .int .i64 0, .int .i64 0] := Box.newA _ _ _ (by simp)
  have hB0 : Below w.heap.size w ((w.alloc (.cells #[.int .i64 r, .int .i64 c, .slice a n cap] 24)).alloc (.cells #[.pointer none, .int .i64 0, .int .i64 0, .int .i64 0, .int .i64 0, .int .i64 0] 29)) := ((Below.refl _ _).alloc (Nat.le_refl _) _).alloc (by simp) _
  have H := Lib.hid h
  clear h
  cases hs : (okSz r && okSz c)
  case false =>
    have HN := Lib.hid (fun W => New_no r c W hs)
    rw [fin] at HN
    clear hs fin
    go_enter Try.func60, Try.ntmps60
    go_wp2_with fail
    refine (HN.out _).mono ?_
    rintro e w1 ⟨rfl, hb1⟩
    have y1 := hx1.below hb1
    have y2 := hx2.below hb1
    have hB1 := below_step hB0 hB0.size hb1
    have s1 := hB1.size
    obtain ⟨a1, a2, a3⟩ := y1.facts
    obtain ⟨a4, a5, a6⟩ := y2.facts
    go_wp2
    refine bodyPost_ret (results_two rfl (rv_cell (g := w.heap.size + 1) rfl ((y2.put6 _ _ _ _ _ _).alloc _) rfl Try.underlying29 (by kernel_rfl)) (rv_tmp rfl)) rfl ⟨rfl, ?_⟩
    exact (below_put6 hB1 (by simp) _ _ _ _ _ _).alloc (by simp; omega) _
  case true =>
    have hsz := hs
    simp only [Bool.and_eq_true, okSz, decide_eq_true_eq] at hsz
    obtain ⟨R, rfl⟩ := Int.eq_ofNat_of_zero_le hsz.1.1
    obtain ⟨C, rfl⟩ := Int.eq_ofNat_of_zero_le hsz.2.1
    have hr : R ≤ 512 := by omega
    have hc : C ≤ 512 := by omega
    have HN := Lib.hid (fun W => New_yes R C W hr hc)
    have hne : ¬ ((n : Int) = (R : Int) * (C : Int)) := by
      intro hh
      have := H.out
      unfold mayM at this
      rw [hs, decide_eq_true hh] at this
      cases this
    have t1 : ((n : Int) != (R : Int) * (C : Int)) = true := by simp [hne]
    have h0 : R * C ≤ 512 * 512 := Nat.mul_le_mul hr hc
    have e0 : ((R * C : Nat) : Int) = (R : Int) * (C : Int) := Int.natCast_mul _ _
    have h1 : (R : Int) * (C : Int) ≤ 9223372036854775807 := by rw [← e0]; omega
    have h2 : (0 : Int) ≤ (R : Int) * (C : Int) := Int.mul_nonneg (Int.natCast_nonneg _) (Int.natCast_nonneg _)
    clear hs fin hsz e0 hne
    unfold maxLen at _hn
    go_enter Try.func60, Try.ntmps60
    go_wp2_with fail
    refine (HN.out _).mono ?_
    rintro e w1 ⟨st, sb, rfl, _, _, _, hb1⟩
    unfold newV Vw.val
    dsimp only
    have y1 := hx1.below hb1
    have y2 := hx2.below hb1
    have hB1 := below_step hB0 hB0.size hb1
    have s1 := hB1.size
    obtain ⟨a1, a2, a3⟩ := y1.facts
    obtain ⟨a4, a5, a6⟩ := y2.facts
    go_wp2
    refine bodyPost_ret (results_two rfl (rv_cell (g := w.heap.size + 1) rfl ((y2.put6 _ _ _ _ _ _).alloc _) rfl Try.underlying29 (by kernel_rfl)) (rv_tmp rfl)) rfl ⟨rfl, ?_⟩
    exact (below_put6 hB1 (by simp) _ _ _ _ _ _).alloc (by simp; omega) _

theorem below_other {B s : Nat} {w w' : World} (h : ∀ B, Bel B s w w') (hB : B ≤ s) : Below B w w' := (h B).below hB
set_option maxHeartbeats 4000000 in
theorem Of_yes (r c : Nat) (a : Option Addr) (zs : List Nat) (cap : Nat) (w : World) (hr : r ≤ 512) (hc : c ≤ 512) (hn : zs.length = r * c) (hZ : Cel w a zs) :
    Calls Try.prog 60 #[.agg #[.int .i64 r, .int .i64 c, .slice a zs.length cap]] w fun e w' => ∃ st sb, e = .returned (.tuple #[(newV st r c).val, .int .i64 0]) ∧ w.heap.size ≤ st ∧ w.heap.size ≤ sb ∧ Sto w' (some ⟨st, 0, none⟩) sb zs ∧ Below w.heap.size w w' := by
  have hx1 : Box ((w.alloc (.cells #[.int .i64 r, .int .i64 c, .slice a zs.length cap] 24)).alloc (.cells #[.pointer none, .int .i64 0, .int .i64 0, .int .i64 0, .int .i64 0, .int .i64 0] 29)) w.heap.size [.int .i64 r, .int .i64 c, .slice a zs.length cap] := (Box.newA w [_, _, _] _ rfl).alloc _
  have hx2 : Box ((w.alloc (.cells #[.int .i64 r, .int .i64 c, .slice a zs.length cap] 24)).alloc (.cells #[.pointer none, .int .i64 0, .int .i64 0, .int .i64 0, .int .i64 0, .int .i64 0] 29)) (w.heap.size + 1) [.pointer none, .int .i64 0, .int .i64 0, .int .i64 0, .int .i64 0, .int .i64 0] := Box.newA _ _ _ (by simp)
  have hB0 : Below w.heap.size w ((w.alloc (.cells #[.int .i64 r, .int .i64 c, .slice a zs.length cap] 24)).alloc (.cells #[.pointer none, .int .i64 0, .int .i64 0, .int .i64 0, .int .i64 0, .int .i64 0] 29)) := ((Below.refl _ _).alloc (Nat.le_refl _) _).alloc (by simp) _
  have HN := Lib.hid (fun W => New_yes r c W hr hc)
  have h0 : r * c ≤ 512 * 512 := Nat.mul_le_mul hr hc
  have e0 : ((r * c : Nat) : Int) = (r : Int) * (c : Int) := Int.natCast_mul _ _
  have t1 : ((zs.length : Int) != (r : Int) * (c : Int)) = false := by rw [← e0, hn]; simp
  have h1 : (r : Int) * (c : Int) ≤ 9223372036854775807 := by rw [← e0]; omega
  have h2 : (0 : Int) ≤ (r : Int) * (c : Int) := Int.mul_nonneg (Int.natCast_nonneg _) (Int.natCast_nonneg _)
  have HL := Lib.hid hn
  have hzl : zs.length ≤ 9223372036854775807 := by omega
  clear e0 hn
  go_enter Try.func60, Try.ntmps60
  go_wp2_with fail
  refine (HN.out _).mono ?_
  rintro e w1 ⟨st, sb, rfl, hst, hsb, ⟨st', hst', b1, b2, b3⟩, hb1⟩
  obtain rfl : st = st' := by simpa using hst'
  clear hst'
  unfold newV Vw.val
  dsimp only
  have y1 := hx1.below hb1
  have y2 := hx2.below hb1
  have hB1 := below_step hB0 hB0.size hb1
  have s1 := hB1.size
  obtain ⟨a1, a2, a3⟩ := y1.facts
  obtain ⟨a4, a5, a6⟩ := y2.facts
  obtain ⟨a7, a8, a9⟩ := b1.facts
  have B1 := b1.alloc (.cells #[.pointer (some ⟨st, 0, none⟩), .int .i64 r, .int .i64 c, .int .i64 0, .int .i64 c, .int .i64 1] 29)
  have B2 := b2.alloc (.cells #[.pointer (some ⟨st, 0, none⟩), .int .i64 r, .int .i64 c, .int .i64 0, .int .i64 c, .int .i64 1] 29)
  have Y2 := y2.alloc (.cells #[.pointer (some ⟨st, 0, none⟩), .int .i64 r, .int .i64 c, .int .i64 0, .int .i64 c, .int .i64 1] 29)
  have V1 : Box (w1.alloc (.cells #[.pointer (some ⟨st, 0, none⟩), .int .i64 r, .int .i64 c, .int .i64 0, .int .i64 c, .int .i64 1] 29)) w1.heap.size [.pointer (some ⟨st, 0, none⟩), .int .i64 r, .int .i64 c, .int .i64 0, .int .i64 c, .int .i64 1] := Box.newA _ _ _ rfl
  have hB2 : Below w.heap.size w (w1.alloc (.cells #[.pointer (some ⟨st, 0, none⟩), .int .i64 r, .int .i64 c, .int .i64 0, .int .i64 c, .int .i64 1] 29)) := hB1.alloc s1 _
  have l2 := b2.lt
  simp only [World.size_alloc] at hst hsb
  have BB1 := Lib.hid B1
  have BB2 := Lib.hid B2
  have BY2 := Lib.hid Y2
  have BV1 := Lib.hid V1
  clear B1 B2 Y2 V1
  go_wp2
  refine wp_region_nqb 7 (fun _ _ _ => False) (by kernel_rfl) (by kernel_rfl) ?_
  intro C R hc hb' hb2 hd hR
  simp only [List.take_succ_cons, List.take_zero]
  repeat (
    first
      | (refine nqW_plain (fun K hK => ?_))
      | (refine nqW_step (fun K hK => ?_); go_simp)
    first
      | (refine nq_move rfl ?_; go_simp; refine hK _ ?_; clear hK K)
      | (refine nq_assign rfl ?_; go_simp; refine hK _ ?_; clear hK K)
      | (refine nq_flt rfl rfl rfl rfl hd ?_; intro _; go_frame; refine hK _ ?_; clear hK K)
      | (refine nq_same ?_; intro w' hw'; go_simp; (try go_bits); refine hK _ ?_; clear hK K hw' w')
      | (refine nq_same ?_; intro w' hw'; go_simp; rw [if_pos (by omega)]; go_simp; (try go_bits); refine hK _ ?_; clear hK K hw' w')
      | (go_simp; refine hK _ ?_; clear hK K))
  refine nqW_nil (hR _ ?_)
  clear hc hb' hb2 hd hR
  intro w' hw'
  simp only [List.drop]
  have z1 := BB1.out.below hw'
  have z2 := BB2.out.below hw'
  have z3 := BY2.out.below hw'
  have z4 := BV1.out.below hw'
  have hB3 := below_step hB2 hB2.size hw'
  refine wpList_copy_box rfl _ _ 22 22 rfl 31 Try.underlying22 (by kernel_rfl) sb _ _ _ _ a zs rfl rfl HL.out.symm rfl _ z2 (by simp [HL.out]) (hZ.below hB3) ?_
  intro w2 hbox hoth
  have x1 := z1.bel (Sto.ne z1 z2) (hoth _)
  have x3 := z3.bel (by omega) (hoth _)
  have x4 := z4.bel (by omega) (hoth _)
  have hB4 : Below w.heap.size w w2 := hB3.trans (below_other hoth (by omega))
  clear a1 a2 a3 a4 a5 a6 a7 a8 a9
  obtain ⟨a1, a2, a3⟩ := x4.facts
  obtain ⟨a4, a5, a6⟩ := x3.facts
  go_wp2
  refine bodyPost_ret (results_two rfl (rv_cell (g := w.heap.size + 1) rfl (x3.put6 _ _ _ _ _ _) rfl Try.underlying29 (by kernel_rfl)) (rv_tmp rfl)) rfl ⟨st, sb, rfl, by omega, by omega, ⟨st, rfl, ?_, ?_, ?_⟩, ?_⟩
  · have x5 := x1.other6 (show st ≠ w.heap.size + 1 by omega) (.pointer (some ⟨st, 0, none⟩)) (.int .i64 r) (.int .i64 c) (.int .i64 0) (.int .i64 c) (.int .i64 1)
    rw [List.length_replicate, ← HL.out] at x5
    exact x5
  · exact hbox.other6 (by omega) _ _ _ _ _ _
  · rw [HL.out]; exact h0
  · exact below_put6 hB4 (by simp) _ _ _ _ _ _

/-- Are two floats the same, bit by bit? -/
def sameF (x y : Nat) : Bool := decide (x = y) || (isnan x && isnan y)
set_option maxHeartbeats 1000000 in
theorem same_any (x y : Nat) (w : World) : Calls Try.prog 88 #[.float .f64 x, .float .f64 y] w fun e w' => e = .returned (.bool (sameF x y)) ∧ w = w' := by
  by_cases hxy : x = y
  · subst hxy
    go_enter Try.func88, Try.ntmps88
    go_wp2
    go_ret
    exact ⟨by simp [sameF], rfl⟩
  · have e : sameF x y = (isnan x && isnan y) := by simp [sameF, hxy]
    have t1 : ((x : Int) == (y : Int)) = false := by simp; omega
    have f1 : feq x x = !isnan x := feq_self x
    have f2 : feq y y = !isnan y := feq_self y
    rw [e]
    clear e hxy
    cases h1 : isnan x
    all_goals cases h2 : isnan y
    all_goals
      rw [h1] at f1
      rw [h2] at f2
      simp only [Bool.not_true, Bool.not_false] at f1 f2
      clear h1 h2
      go_enter Try.func88, Try.ntmps88
      go_wp2
      go_ret
      exact ⟨rfl, rfl⟩
end Go.Proofs.Ytbcdpibcieadlaa
