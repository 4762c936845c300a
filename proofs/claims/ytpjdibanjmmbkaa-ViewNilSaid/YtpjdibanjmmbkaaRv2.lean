/- The document's views: turned. -/
import Derived.Test.YtpjdibanjmmbkaaRv
import Derived.Deep.RegionLaw
namespace Go.Proofs.Ytpjdibanjmmbkaa
open Go Go.RowKit
set_option maxRecDepth 100000

/-- A view that grows in block bo: of its places the first k stand. -/
def OI (W0 : World) (bo B : Nat) (f0 f1 f2 f4 : Value) (xs : List Value) (k : Nat) (W : World) : Prop :=
  ∃ sv, Box W bo [f0, f1, f2, sv, f4] ∧ W.ownsRow B 3 1 sv k (xs.take k) ∧ Bel B bo W0 W ∧ B ≤ W.heap.size
theorem Bel.cell {B s : Nat} {w w' : World} (h : Bel B s w w') {b : Nat} (hb : b < B) (hs : b ≠ s) (o : Nat) : w'.cell? ⟨b, o, none⟩ = w.cell? ⟨b, o, none⟩ := World.cell?_of_block (h.block b hb hs)
theorem itc_of_row {W : World} {base n : Nat} {v : Value} {ps : List Nat} (h : W.ownsRow base 3 1 v n (ps.map fun p : Nat => Value.int .i64 (p : Int))) : ∃ a cap, v = .slice a ps.length cap ∧ Itc W a ps := by
  have hl : ps.length = n := by have := h.1; simpa using this
  rcases h.2 with ⟨rfl, h0⟩ | ⟨g, cap, cur, rfl, hb, hg, hn, hm, hs, ht⟩
  · refine ⟨none, 0, by rw [hl, h0], fun hz => ?_⟩
    subst h0
    exact absurd (List.eq_nil_of_length_eq_zero hl) hz
  · refine ⟨_, cap, by rw [hl], fun _ => ⟨g, 0, rfl, (Array.getElem?_eq_some_iff.1 hg).1, fun i x hi => ?_⟩⟩
    unfold World.cell?
    rw [hg]
    simp only [Option.isSome_none, Bool.false_eq_true, if_false, Nat.zero_add]
    have h1 : (cur.toList.take (n * 1))[i]? = some (.int .i64 (x : Int)) := by rw [ht]; simp [hi]
    have hil : i < n := by
      rw [← hl]
      exact (List.getElem?_eq_some_iff.1 hi).1
    rw [List.getElem?_take] at h1
    rw [if_pos (by omega)] at h1
    simpa using h1
theorem itc_of_rowB {W : World} {base n : Nat} {v : Value} {ps : List Nat} (h : W.ownsRow base 3 1 v n (ps.map fun p : Nat => Value.int .i64 (p : Int))) : ∃ a cap, v = .slice a ps.length cap ∧ Itc W a ps ∧ (ps ≠ [] → ∃ b off, a = some ⟨b, off, none⟩ ∧ base ≤ b) := by
  obtain ⟨a, cap, rfl, hI⟩ := itc_of_row h
  refine ⟨a, cap, rfl, hI, fun hz => ?_⟩
  have hl : ps.length = n := by have := h.1; simpa using this
  rcases h.2 with ⟨_, h0⟩ | ⟨g, cap', cur, h1, hb, _⟩
  · subst h0; exact absurd (List.eq_nil_of_length_eq_zero hl) hz
  · simp only [Value.slice.injEq] at h1
    exact ⟨g, 0, h1.1, hb⟩
theorem Bel.drew {B s : Nat} {w w' : World} (h : Bel B s w w') : Bel B s w w'.drew := ⟨h.os, h.tape, h.output, h.size, h.block⟩
theorem Bel.refl5 {w : World} {n : Nat} (B : Nat) (v0 v1 v2 v3 v4 : Value) : Bel B n w (((((w.setCell ⟨n, 0, none⟩ v0).setCell ⟨n, 1, none⟩ v1).setCell ⟨n, 2, none⟩ v2).setCell ⟨n, 3, none⟩ v3).setCell ⟨n, 4, none⟩ v4) :=
  (((((Bel.refl _ _ _).set _ _).set _ _).set _ _).set _ _).set _ _
theorem Box.put5 {w : World} {n : Nat} {a0 a1 a2 a3 a4 : Value} (h : Box w n [a0, a1, a2, a3, a4]) (v0 v1 v2 v3 v4 : Value) :
    Box (((((w.setCell ⟨n, 0, none⟩ v0).setCell ⟨n, 1, none⟩ v1).setCell ⟨n, 2, none⟩ v2).setCell ⟨n, 3, none⟩ v3).setCell ⟨n, 4, none⟩ v4) n [v0, v1, v2, v3, v4] :=
  ((((h.set 0 v0).set 1 v1).set 2 v2).set 3 v3).set 4 v4
/-- Behind the append and the store. -/
theorem OI.app {W0 W w1 : World} {bo B k g cap : Nat} {f0 f1 f2 f4 sv x : Value} {xs : List Value} {cs : Array Value} {T : TypeId} (hbx : Box W bo [f0, f1, f2, sv, f4]) (hrow : W.ownsRow B 3 1 sv k (xs.take k)) (hb : Bel B bo W0 W) (hB : B ≤ W.heap.size) (hbo : bo < B)
    (hx : xs[k]? = some x) (hgrow : (W.alloc (.cells cs T)).grownBy w1 sv.ownBlock) (hown : w1.ownsRow B 3 1 (.slice (some ⟨g, 0, none⟩) (k + 1) cap) (k + 1) (xs.take k ++ [x])) :
    OI W0 bo B f0 f1 f2 f4 xs (k + 1) (w1.setCell ⟨bo, 3, none⟩ (.slice (some ⟨g, 0, none⟩) (k + 1) cap)) := by
  have hbx1 : Box w1 bo [f0, f1, f2, sv, f4] := (hbx.alloc _).grown hgrow (fun r e => by have := (hrow.lt r e).1; omega)
  obtain ⟨z1, z2, _⟩ := app_step (j := 3) (u := .slice (some ⟨g, 0, none⟩) (k + 1) cap) hrow hgrow hown hbo hB hbx1
  refine ⟨_, hbx1.set 3 _, ?_, hb.trans z2, Nat.le_trans hB z2.size⟩
  rw [take_get hx]
  exact z1

set_option maxHeartbeats 8000000 in
theorem RT_any (w : World) (v : Vw) (da : Option Addr) (dn dc : Nat) (aa : Option Addr) (ac : Nat) (is : Bool) (hA : Itc w aa v.pls) (hr : v.r ≤ 512) (hc : v.c ≤ 512) :
    Calls Try.prog 71 #[.agg #[.slice da dn dc, .int .i64 v.r, .int .i64 v.c, .slice aa (v.r * v.c) ac, .bool is]] w fun e w' => ∃ sv, e = .returned (.agg #[.slice da dn dc, .int .i64 v.c, .int .i64 v.r, sv, .bool is]) ∧ w'.ownsRow w.heap.size 3 1 sv (v.c * v.r) (v.T.pls.map fun p : Nat => Value.int .i64 (p : Int)) ∧ Below w.heap.size w w' := by
  obtain ⟨i0, hi, hz0, hz1, hz2⟩ := info_parts info_int
  obtain ⟨xs, hxs⟩ : ∃ xs, xs = v.T.pls.map fun p : Nat => Value.int .i64 (p : Int) := ⟨_, rfl⟩
  rw [← hxs]
  have hxl : xs.length = v.c * v.r := by rw [hxs, List.length_map, pls_length]; rfl
  have HX : Hid (∀ i j, i < v.r → j < v.c → xs[j * v.r + i]? = some (Value.int .i64 ((v.pl (i * v.c + j) : Nat) : Int))) := fun i j hi hj => by
    rw [hxs, List.getElem?_map, pls_get (v := v.T) (show j * v.r + i < v.c * v.r by have : (j + 1) * v.r ≤ v.c * v.r := Nat.mul_le_mul_right _ hj; rw [Nat.succ_mul] at this; omega)]
    have h1 : (j * v.r + i) / v.r = j := by rw [Nat.mul_comm, Nat.mul_add_div (by omega), Nat.div_eq_of_lt hi]; rfl
    have h2 : (j * v.r + i) % v.r = i := by rw [Nat.mul_comm, Nat.mul_add_mod, Nat.mod_eq_of_lt hi]
    have h3 : (i * v.c + j) / v.c = i := by rw [Nat.mul_comm, Nat.mul_add_div (by omega), Nat.div_eq_of_lt hj]; rfl
    have h4 : (i * v.c + j) % v.c = j := by rw [Nat.mul_comm, Nat.mul_add_mod, Nat.mod_eq_of_lt hj]
    unfold Vw.pl Vw.T
    dsimp only
    rw [h1, h2, h3, h4]
    simp only [Option.map_some, Option.some.injEq, Value.int.injEq, true_and]
    congr 1
    omega
  have HG : Hid (∀ k, k < v.r * v.c → v.pls[k]? = some (v.pl k)) := fun k hk => pls_get hk
  have hpl := pls_length v
  generalize v.pls = ps at hA HG hpl
  generalize v.pl = pl at HX HG
  clear hxs
  obtain ⟨p, r, c, o, d, u⟩ := v
  dsimp only at *
  clear p o d u
  have x0 : Box (((w.alloc (.cells #[.slice da dn dc, .int .i64 r, .int .i64 c, .slice aa (r * c) ac, .bool is] 48)).alloc (.cells #[.slice none 0 0, .int .i64 0, .int .i64 0, .slice none 0 0, .bool false] 48)).alloc (.cells #[.slice da dn dc, .int .i64 c, .int .i64 r, .slice none 0 0, .bool is] 48)) w.heap.size [.slice da dn dc, .int .i64 r, .int .i64 c, .slice aa (r * c) ac, .bool is] := ((Box.newA w [_, _, _, _, _] _ rfl).alloc _).alloc _
  have x1 : Box (((w.alloc (.cells #[.slice da dn dc, .int .i64 r, .int .i64 c, .slice aa (r * c) ac, .bool is] 48)).alloc (.cells #[.slice none 0 0, .int .i64 0, .int .i64 0, .slice none 0 0, .bool false] 48)).alloc (.cells #[.slice da dn dc, .int .i64 c, .int .i64 r, .slice none 0 0, .bool is] 48)) (w.heap.size + 1) [.slice none 0 0, .int .i64 0, .int .i64 0, .slice none 0 0, .bool false] := (Box.newA _ [_, _, _, _, _] _ (by simp)).alloc _
  have x2 : Box (((w.alloc (.cells #[.slice da dn dc, .int .i64 r, .int .i64 c, .slice aa (r * c) ac, .bool is] 48)).alloc (.cells #[.slice none 0 0, .int .i64 0, .int .i64 0, .slice none 0 0, .bool false] 48)).alloc (.cells #[.slice da dn dc, .int .i64 c, .int .i64 r, .slice none 0 0, .bool is] 48)) (w.heap.size + 1 + 1) [.slice da dn dc, .int .i64 c, .int .i64 r, .slice none 0 0, .bool is] := Box.newA _ [_, _, _, _, _] _ (by simp)
  have hB0 : Below w.heap.size w (((w.alloc (.cells #[.slice da dn dc, .int .i64 r, .int .i64 c, .slice aa (r * c) ac, .bool is] 48)).alloc (.cells #[.slice none 0 0, .int .i64 0, .int .i64 0, .slice none 0 0, .bool false] 48)).alloc (.cells #[.slice da dn dc, .int .i64 c, .int .i64 r, .slice none 0 0, .bool is] 48)) := (((Below.refl _ _).alloc (Nat.le_refl _) _).alloc (by simp) _).alloc (by simp; omega) _
  have hs0 : (((w.alloc (.cells #[.slice da dn dc, .int .i64 r, .int .i64 c, .slice aa (r * c) ac, .bool is] 48)).alloc (.cells #[.slice none 0 0, .int .i64 0, .int .i64 0, .slice none 0 0, .bool false] 48)).alloc (.cells #[.slice da dn dc, .int .i64 c, .int .i64 r, .slice none 0 0, .bool is] 48)).heap.size = w.heap.size + 3 := by simp
  go_enter Try.func71, Try.ntmps71
  go_wp2
  generalize (((w.alloc (.cells #[.slice da dn dc, .int .i64 r, .int .i64 c, .slice aa (r * c) ac, .bool is] 48)).alloc (.cells #[.slice none 0 0, .int .i64 0, .int .i64 0, .slice none 0 0, .bool false] 48)).alloc (.cells #[.slice da dn dc, .int .i64 c, .int .i64 r, .slice none 0 0, .bool is] 48)) = W0 at *
  go_loopw [4] (fun j wr => ∃ l : Nat, l ≤ c ∧ j = .int .i64 l ∧ OI W0 (w.heap.size + 1 + 1) (w.heap.size + 3) (.slice da dn dc) (.int .i64 c) (.int .i64 r) (.bool is) xs (l * r) wr) (fun j _ => c - (intOf j).toNat)
  case atStart => exact ⟨0, Nat.zero_le _, rfl, _, x2, by rw [Nat.zero_mul]; exact World.ownsRow_nil _ _ _ _, Bel.refl _ _ _, by omega⟩
  case round =>
    obtain ⟨l, hl, rfl, hO⟩ := hrel
    have y0 : Box wr w.heap.size [.slice da dn dc, .int .i64 r, .int .i64 c, .slice aa (r * c) ac, .bool is] := x0.belB (by omega) (by omega) hO.choose_spec.2.2.1
    obtain ⟨a1, a2, a3⟩ := y0.facts
    by_cases hlt : l < c
    · go_wp2
      obtain ⟨wo, rfl⟩ : ∃ wo : World, wo = wr := ⟨_, rfl⟩
      clear y0 a1 a2 a3
      go_loopw [5] (fun i wr => ∃ k : Nat, k ≤ r ∧ i = .int .i64 k ∧ OI W0 (w.heap.size + 1 + 1) (w.heap.size + 3) (.slice da dn dc) (.int .i64 c) (.int .i64 r) (.bool is) xs (l * r + k) wr) (fun i _ => r - (intOf i).toNat)
      case atStart => exact ⟨0, Nat.zero_le _, rfl, hO⟩
      case round =>
        obtain ⟨k, hk, rfl, sv, hbx, hrow, hbel, hs⟩ := hrel
        have y0 : Box wr w.heap.size [.slice da dn dc, .int .i64 r, .int .i64 c, .slice aa (r * c) ac, .bool is] := x0.belB (by omega) (by omega) hbel
        obtain ⟨a1, a2, a3⟩ := y0.facts
        by_cases hlt2 : k < r
        · obtain ⟨a4, a5, a6⟩ := hbx.facts
          have hb : k * c + l < r * c := by have : (k + 1) * c ≤ r * c := Nat.mul_le_mul_right _ hlt2; rw [Nat.succ_mul] at this; omega
          have hrc : r * c ≤ 512 * 512 := Nat.mul_le_mul hr hc
          have hkc : k * c ≤ 512 * 512 := Nat.le_trans (Nat.mul_le_mul_right _ (by omega)) hrc
          have hlr : l * r + k ≤ 512 * 512 + 512 := by have : l * r ≤ 512 * 512 := Nat.mul_le_mul (by omega) hr; omega
          have np : ps ≠ [] := by intro e; rw [e] at hpl; simp at hpl; omega
          obtain ⟨ba, oa, rfl, hba, hca⟩ := hA np
          have e0 : (k : Int) * (c : Int) = ((k * c : Nat) : Int) := (Int.natCast_mul _ _).symm
          have c1 : wr.cell? ⟨ba, oa + (k * c + l), none⟩ = some (.int .i64 (pl (k * c + l) : Int)) := by
            rw [hbel.cell (by omega) (by omega), (below_cells hB0).1 _ _ hba]
            exact hca _ _ (HG.out _ hb)
          have HXk := Lib.hid (HX.out k l hlt2 hlt)
          have g0 : (k : Int) * (c : Int) + (l : Int) = ((k * c + l : Nat) : Int) := by rw [e0]; rfl
          have g1 : IntKind.i64.wrap ((k : Int) * (c : Int)) = (k : Int) * (c : Int) := by rw [e0, IntKind.wrap_i64]; omega
          have g2 : IntKind.i64.wrap ((k : Int) * (c : Int) + (l : Int)) = (k : Int) * (c : Int) + (l : Int) := by rw [g0, IntKind.wrap_i64]; omega
          have g3 : ((k : Int) * (c : Int) + (l : Int)).toNat = k * c + l := by rw [g0]; exact Int.toNat_natCast _
          have g4 : (0 : Int) ≤ (k : Int) * (c : Int) + (l : Int) := by rw [g0]; exact Int.natCast_nonneg _
          have g5 : (k : Int) * (c : Int) + (l : Int) < (r : Int) * (c : Int) := by rw [g0, ← Int.natCast_mul]; omega
          generalize pl (k * c + l) = z at *
          have HR := Lib.hid hrow
          have hn : ba ≠ wr.heap.size := by omega
          have hn2 : w.heap.size ≠ wr.heap.size := by omega
          have hn3 : w.heap.size + 1 + 1 ≠ wr.heap.size := by omega
          clear hca e0 g0 hrow hkc
          go_wp2
          go_region_law (first
            | (refine step_append_lies _ rfl (.tmp 28) (.tmp 39) 46 rfl (w.heap.size + 3) 3 i0 (.int .i64 0) 1 8 Try.underlying46 hi hz0 hz1 hz2 rfl (by decide) _ (l * r + k) _ rfl (HR.out.drew.alloc _) _ 1 1 [.int .i64 (z : Int)] rfl rfl (cell_one_new _ _ _) (by simp [Value.oneCell']) (by decide) (by unfold maxLen; omega) (by omega) (by simp; omega) _ rfl ?_; intro g cap w1 hown hgrow hat hlt'; have hbx1 := Box.grown (Box.alloc (show Box wr.drew _ _ from hbx) _) hgrow (fun q e => by have := (HR.out.lt q e).1; omega); obtain ⟨q1, q2, q3⟩ := hbx1.facts))
          have hkr : k + 1 ≤ r := hlt2
          all_goals
            go_wp2
            go_roundw
            (case rel => exact ⟨k + 1, by omega, by go_num, show OI _ _ _ _ _ _ _ _ (l * r + k + 1) _ from OI.app (W := wr.drew) hbx HR.out.drew hbel.drew hs (by omega) HXk.out hgrow hown⟩)
            (case measure => simp [intOf]; omega)
        · obtain rfl : r = k := by omega
          have hlc : l + 1 ≤ c := hlt
          go_wp2
          go_roundw
          case rel => exact ⟨l + 1, by omega, by go_num, by rw [Nat.succ_mul]; exact ⟨sv, hbx, hrow, hbel, hs⟩⟩
          case measure => simp [intOf]; omega
    · obtain rfl : c = l := by omega
      obtain ⟨sv, hbx, hrow, hbel, hs⟩ := hO
      have y1 : Box wr (w.heap.size + 1) [.slice none 0 0, .int .i64 0, .int .i64 0, .slice none 0 0, .bool false] := x1.belB (by omega) (by omega) hbel
      obtain ⟨a4, a5, a6⟩ := y1.facts
      obtain ⟨a7, a8, a9⟩ := hbx.facts
      obtain ⟨sa, scap, rfl⟩ := ownsRow_slice hrow
      rw [List.take_of_length_le (by omega)] at hrow
      have HR := Lib.hid hrow
      clear hrow
      go_wp2
      refine bodyPost_ret (results_one rfl (rv_cell (g := w.heap.size + 1) rfl (y1.put5 _ _ _ _ _) rfl Try.underlying48 (by kernel_rfl))) rfl ⟨_, rfl, ?_, ?_⟩
      · exact ownsRow_mono (ownsRow_bel HR.out (Bel.refl5 _ _ _ _ _ _) (by omega)) (by omega)
      · exact (hB0.trans ((hbel.mono (by omega)).below (by omega))).trans ((Bel.refl5 _ _ _ _ _ _).below (by omega))
end Go.Proofs.Ytpjdibanjmmbkaa
