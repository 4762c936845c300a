/- The document's views: the floats of a list of places. -/
import Derived.Test.YtpjdibanjmmbkaaVp
import Derived.Test.YtpjdibanjmmbkaaVap
import Derived.Deep.RegionHeld3
import Derived.Deep.AppendLies
namespace Go.Proofs.Ytpjdibanjmmbkaa
open Go Go.RowKit
set_option maxRecDepth 100000

/-- Whole numbers that lie in cells. -/
def Itc (w : World) (a : Option Addr) (ps : List Nat) : Prop := ps ≠ [] → ∃ b off, a = some ⟨b, off, none⟩ ∧ b < w.heap.size ∧ ∀ (i : Nat) (p : Nat), ps[i]? = some p → w.cell? ⟨b, off + i, none⟩ = some (.int .i64 (p : Int))
theorem Itc.below {w w' : World} {a : Option Addr} {zs : List Nat} (h : Itc w a zs) (hb : Below w.heap.size w w') : Itc w' a zs := fun hz => by
  obtain ⟨b, off, e, hlt, hc⟩ := h hz
  refine ⟨b, off, e, Nat.lt_of_lt_of_le hlt hb.size, fun i v hi => ?_⟩
  rw [(below_cells hb).1 _ _ hlt]
  exact hc i v hi
theorem Itc.nil (w : World) (a : Option Addr) : Itc w a [] := fun h => absurd rfl h
theorem info_int : (Try.prog.info? 3).map (fun i => (i.zero, i.size, i.bytes)) = some (some (.int .i64 0), 1, 8) := by kernel_rfl

/-- What a round holds on to that appends: the blocks below B are as they were. -/
def SB (B : Nat) (w0 W : World) : Prop := Below B w0 W ∧ B ≤ W.heap.size ∧ ∀ b o, b < B → W.cell? ⟨b, o, none⟩ = w0.cell? ⟨b, o, none⟩
theorem SB.of {B : Nat} {w0 W : World} (hb : Below B w0 W) (h : B ≤ W.heap.size) : SB B w0 W := ⟨hb, h, fun b o h => (below_cells hb).1 b o h⟩
abbrev SBS (B : Nat) (w0 W : World) : Prop := SB B w0 W ∧ ∀ b o, b < B → W.cell? ⟨b, o, none⟩ = w0.cell? ⟨b, o, none⟩
theorem SB.S {B : Nat} {w0 W : World} (h : SB B w0 W) : SBS B w0 W := ⟨h, h.2.2⟩
theorem SB.refl {B : Nat} {w0 : World} (h : B ≤ w0.heap.size) : SB B w0 w0 := SB.of (Below.refl _ _) h
theorem SB.drew {B : Nat} {w0 W : World} (h : SB B w0 W) : SB B w0 W.drew := SB.of (below_drewN 1 h.1) h.2.1
theorem SB.alloc {B : Nat} {w0 W : World} {o : Obj} (h : SB B w0 W) : SB B w0 (W.alloc o) := SB.of (h.1.alloc h.2.1 o) (by have := h.2.1; simp; omega)
theorem SBS.drew {B : Nat} {w0 W : World} (h : SBS B w0 W) : SBS B w0 W.drew := (SB.drew h.1).S
theorem SBS.alloc {B : Nat} {w0 W : World} {o : Obj} (h : SBS B w0 W) : SBS B w0 (W.alloc o) := (SB.alloc h.1).S
theorem SB.grown {B : Nat} {w0 W W' : World} {row : Option Nat} (h : SB B w0 W) (hg : W.grownBy W' row) (hr : ∀ r, row = some r → B ≤ r) : SB B w0 W' :=
  SB.of (h.1.grown hg h.2.1 hr) (Nat.le_trans h.2.1 hg.size)
theorem ownsRow_mono {W : World} {base base' size n : Nat} {e : TypeId} {v : Value} {xs : List Value} (h : W.ownsRow base e size v n xs) (hb : base' ≤ base) : W.ownsRow base' e size v n xs := by
  refine ⟨h.1, ?_⟩
  rcases h.2 with h0 | ⟨g, cap, cur, h1, h2, h3⟩
  · exact .inl h0
  · exact .inr ⟨g, cap, cur, h1, by omega, h3⟩
theorem SBS.grown {B : Nat} {w0 W W' : World} {row : Option Nat} (h : SBS B w0 W) (hg : W.grownBy W' row) (hr : ∀ r, row = some r → B ≤ r) : SBS B w0 W' := (SB.grown h.1 hg hr).S
theorem take_get {α : Type} {l : List α} {k : Nat} {x : α} (h : l[k]? = some x) : l.take (k + 1) = l.take k ++ [x] := by
  rw [List.take_add_one, h]; rfl

set_option maxHeartbeats 4000000 in
theorem List07_any (w : World) (da : Option Addr) (ws : List Nat) (dc : Nat) (r c : Int) (aa : Option Addr) (ps : List Nat) (ac : Nat) (is : Bool) (hD : Cel w da ws) (hA : Itc w aa ps) (hp : ∀ p ∈ ps, p < ws.length) (hl : ps.length ≤ 262144) :
    Calls Try.prog 36 #[.agg #[.slice da ws.length dc, .int .i64 r, .int .i64 c, .slice aa ps.length ac, .bool is]] w fun e w' => ∃ sv, e = .returned sv ∧ w'.ownsRow w.heap.size 23 1 sv ps.length ((ps.map fun p => ws.getD p 0).map (Value.float .f64)) ∧ Below w.heap.size w w' := by
  obtain ⟨i0, hi, hz0, hz1, hz2⟩ := info_parts info_f64
  have HP := Lib.hid hp
  have HL := Lib.hid hl
  obtain ⟨xs, hxs⟩ : ∃ xs, xs = (ps.map fun p => ws.getD p 0).map (Value.float .f64) := ⟨_, rfl⟩
  have HX := Lib.hid hxs
  rw [← hxs]
  have hxl : xs.length = ps.length := by rw [hxs]; simp
  clear hp hl hxs
  have x0 : Box (w.alloc (.cells #[.slice da ws.length dc, .int .i64 r, .int .i64 c, .slice aa ps.length ac, .bool is] 48)) w.heap.size [.slice da ws.length dc, .int .i64 r, .int .i64 c, .slice aa ps.length ac, .bool is] := Box.newA w [_, _, _, _, _] _ rfl
  have hB0 : Below w.heap.size w (w.alloc (.cells #[.slice da ws.length dc, .int .i64 r, .int .i64 c, .slice aa ps.length ac, .bool is] 48)) := (Below.refl _ _).alloc (Nat.le_refl _) _
  have hs0 : (w.alloc (.cells #[.slice da ws.length dc, .int .i64 r, .int .i64 c, .slice aa ps.length ac, .bool is] 48)).heap.size = w.heap.size + 1 := by simp
  go_enter Try.func36, Try.ntmps36
  go_wp2
  generalize w.alloc (.cells #[.slice da ws.length dc, .int .i64 r, .int .i64 c, .slice aa ps.length ac, .bool is] 48) = W0 at *
  go_loopw [3, 4] (fun l i wr => ∃ k : Nat, k ≤ ps.length ∧ i = .int .i64 k ∧ wr.ownsRow (w.heap.size + 1) 23 1 l k (xs.take k) ∧ Below (w.heap.size + 1) W0 wr ∧ w.heap.size + 1 ≤ wr.heap.size) (fun _ i _ => ps.length - (intOf i).toNat)
  case atStart => exact ⟨0, Nat.zero_le _, rfl, World.ownsRow_nil _ _ _ _, Below.refl _ _, by omega⟩
  case round =>
    obtain ⟨k, hk, rfl, hrow, hB, hs⟩ := hrel
    have hBw : Below w.heap.size w wr := hB0.trans (hB.mono (by omega))
    have xr : Box wr w.heap.size [.slice da ws.length dc, .int .i64 r, .int .i64 c, .slice aa ps.length ac, .bool is] := x0.below (by rw [hs0]; exact hB)
    obtain ⟨y1, y2, y3⟩ := xr.facts
    by_cases hlt : k < ps.length
    · have hpe : ps[k]? = some ps[k] := by simp [hlt]
      have hp1 : ps[k] < ws.length := HP.out _ (List.getElem_mem hlt)
      have hk1 : k + 1 ≤ ps.length := hlt
      have np : ps ≠ [] := by intro e; rw [e] at hlt; exact absurd hlt (Nat.not_lt_zero _)
      have nw : ws ≠ [] := by intro e; rw [e] at hp1; exact absurd hp1 (Nat.not_lt_zero _)
      have hxk : xs[k]? = some (.float .f64 (ws.getD ps[k] 0)) := by rw [HX.out]; simp [hlt]
      have HT := Lib.hid (take_get hxk)
      obtain ⟨ba, oa, rfl, hba, hca⟩ := hA np
      obtain ⟨bd, od, rfl, hbd, hcd⟩ := hD nw
      have c1 : wr.cell? ⟨ba, oa + k, none⟩ = some (.int .i64 (ps[k] : Int)) := by rw [(below_cells hBw).1 _ _ hba]; exact hca k _ hpe
      have c2 : wr.cell? ⟨bd, od + ps[k], none⟩ = some (.float .f64 (ws.getD ps[k] 0)) := by rw [(below_cells hBw).1 _ _ hbd]; exact hcd _ _ (by simp [hp1])
      generalize ps[k] = p at *
      generalize ws.getD p 0 = z at *
      clear hcd hca hxk hpe nw np
      have hl1 : ba < w.heap.size + 1 := by omega
      have hl2 : bd < w.heap.size + 1 := by omega
      have hl3 : w.heap.size < w.heap.size + 1 := by omega
      have HR := Lib.hid hrow
      have s0 := (SB.refl hs).S
      have HLk : Hid (k + 1 ≤ 262144) := by have := HL.out; unfold Hid; omega
      go_wp2
      go_region_held3 (fun W => SB (w.heap.size + 1) wr W ∧ ∀ b o, b < w.heap.size + 1 → W.cell? ⟨b, o, none⟩ = wr.cell? ⟨b, o, none⟩) (first | assumption | exact SBS.drew (by assumption) | exact SBS.alloc (by assumption) | exact SB.S (by assumption))
        (first
          | (refine step_append_lies _ rfl (.tmp 12) (.tmp 22) 22 rfl (w.heap.size + 1) 23 i0 (.float .f64 0) 1 8 Try.underlying22 hi hz0 hz1 hz2 rfl (by decide) _ k _ rfl (HR.out.drew.alloc _) _ 1 1 [.float .f64 z] rfl rfl (cell_one_new _ _ _) (by simp [Value.oneCell']) (by decide) (by unfold maxLen; have := HLk.out; omega) (by have := HLk.out; omega) (by simp; omega) _ rfl ?_; intro g cap w1 hown hgrow hat hlt'; have hS1 := SBS.grown (by assumption) hgrow (fun r e => (HR.out.lt r e).1)))
      have hkb : k + 1 ≤ 262144 := HLk.out
      go_wp2
      go_roundw
      case rel => exact ⟨k + 1, by omega, by go_num, by rw [HT.out]; exact hown, hB.trans hS1.1.1, hS1.1.2.1⟩
      case measure => simp [intOf]; omega
    · obtain rfl : k = ps.length := by omega
      rw [List.take_of_length_le (by omega)] at hrow
      have HR := Lib.hid hrow
      clear hrow
      go_wp2
      go_ret
      refine ⟨_, rfl, ?_, hBw⟩
      exact ownsRow_mono HR.out (by omega)
end Go.Proofs.Ytpjdibanjmmbkaa
