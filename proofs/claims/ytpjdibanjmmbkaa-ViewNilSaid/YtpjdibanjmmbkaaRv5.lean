/- The document's views: diagonals, rows, columns. -/
import Derived.Test.YtpjdibanjmmbkaaRv3
import Derived.Test.YtpjdibanjmmbkaaRv4
namespace Go.Proofs.Ytpjdibanjmmbkaa
open Go Go.RowKit
set_option maxRecDepth 100000

set_option maxHeartbeats 8000000 in
theorem RDiag_no (w : World) (da : Option Addr) (dn dc : Nat) (r c : Nat) (aa : Option Addr) (an ac : Nat) :
    Calls Try.prog 75 #[.agg #[.slice da dn dc, .int .i64 r, .int .i64 c, .slice aa an ac, .bool false]] w fun e w' => e = .returned (.agg #[.slice none 0 0, .int .i64 0, .int .i64 0, .slice none 0 0, .bool false]) ∧ Below w.heap.size w w' := by
  have y1 : Box ((w.alloc (.cells #[.slice da dn dc, .int .i64 r, .int .i64 c, .slice aa an ac, .bool false] 48)).alloc (.cells #[.slice none 0 0, .int .i64 0, .int .i64 0, .slice none 0 0, .bool false] 48)) (w.heap.size + 1) [.slice none 0 0, .int .i64 0, .int .i64 0, .slice none 0 0, .bool false] := Box.newA _ [_, _, _, _, _] _ (by simp)
  have hB0 : Below w.heap.size w ((w.alloc (.cells #[.slice da dn dc, .int .i64 r, .int .i64 c, .slice aa an ac, .bool false] 48)).alloc (.cells #[.slice none 0 0, .int .i64 0, .int .i64 0, .slice none 0 0, .bool false] 48)) := ((Below.refl _ _).alloc (Nat.le_refl _) _).alloc (by simp) _
  go_enter Try.func75, Try.ntmps75
  go_wp2
  generalize ((w.alloc (.cells #[.slice da dn dc, .int .i64 r, .int .i64 c, .slice aa an ac, .bool _] 48)).alloc (.cells #[.slice none 0 0, .int .i64 0, .int .i64 0, .slice none 0 0, .bool false] 48)) = W0 at y1 hB0 ⊢
  refine bodyPost_ret (results_one rfl (rv_cell (g := w.heap.size + 1) rfl y1 rfl Try.underlying48 (by kernel_rfl))) rfl ⟨rfl, ?_⟩
  exact hB0

set_option maxHeartbeats 8000000 in
theorem RDiag_yes (w : World) (v : Vw) (da : Option Addr) (dn dc : Nat) (aa : Option Addr) (ac : Nat) (hA : Itc w aa v.pls) (hp : v.p.isSome = true) (hr : v.r ≤ 512) (hc : v.c ≤ 512) :
    Calls Try.prog 75 #[.agg #[.slice da dn dc, .int .i64 v.r, .int .i64 v.c, .slice aa (v.r * v.c) ac, .bool true]] w fun e w' => ∃ sv, e = .returned (.agg #[.slice da dn dc, .int .i64 v.diag.r, .int .i64 1, sv, .bool true]) ∧ w'.ownsRow w.heap.size 3 1 sv v.diag.r (v.diag.pls.map fun p : Nat => Value.int .i64 (p : Int)) ∧ Below w.heap.size w w' := by
  obtain ⟨i0, hi0, hz0, hz1, hz2⟩ := info_parts info_int
  have ed : v.diag = ⟨v.p, min v.r v.c, 1, v.o, v.d + v.u, v.u⟩ := by unfold Vw.diag; rw [if_pos hp]
  obtain ⟨xs, hxs⟩ : ∃ xs, xs = v.diag.pls.map fun p : Nat => Value.int .i64 (p : Int) := ⟨_, rfl⟩
  rw [← hxs]
  have hxl : xs.length = min v.r v.c := by rw [hxs, List.length_map, pls_length, ed, Nat.mul_one]
  have HX : Hid (∀ k, k < min v.r v.c → xs[k]? = some (Value.int .i64 ((v.pl (k * v.c + k) : Nat) : Int))) := fun k hk => by
    have hk2 : k < v.c := by omega
    rw [hxs, List.getElem?_map, ed, pls_get (by show k < min v.r v.c * 1; omega)]
    have h3 : (k * v.c + k) / v.c = k := by rw [Nat.mul_comm, Nat.mul_add_div (by omega), Nat.div_eq_of_lt hk2]; rfl
    have h4 : (k * v.c + k) % v.c = k := by rw [Nat.mul_comm, Nat.mul_add_mod, Nat.mod_eq_of_lt hk2]
    unfold Vw.pl
    dsimp only
    rw [h3, h4, Nat.div_one, Nat.mod_one, Nat.mul_add]
    simp only [Option.map_some, Option.some.injEq, Value.int.injEq, true_and]
    congr 1
    omega
  have HG : Hid (∀ k, k < v.r * v.c → v.pls[k]? = some (v.pl k)) := fun k hk => pls_get hk
  have hpl := pls_length v
  rw [show v.diag.r = min v.r v.c by rw [ed]]
  generalize v.pls = ps at hA HG hpl
  generalize v.pl = pl at HX HG
  clear hxs hp ed
  obtain ⟨p, r, c, o, d, u⟩ := v
  dsimp only at *
  clear p o d u
  obtain ⟨m, hm⟩ : ∃ m, m = min r c := ⟨_, rfl⟩
  rw [← hm] at HX hxl ⊢
  have hmr : m ≤ r ∧ m ≤ c := by omega
  have hk : (c = m ∧ ((c : Int) < (r : Int)) ∧ ¬ ((r : Int) ≤ (c : Int))) ∨ (r = m ∧ (r : Int) ≤ (c : Int) ∧ ¬ ((c : Int) < (r : Int))) := by omega
  clear hm
  rcases hk with ⟨rfl, hk1, hk2⟩ | ⟨rfl, hk1, hk2⟩
  · have x0 : Box (((w.alloc (.cells #[.slice da dn dc, .int .i64 r, .int .i64 c, .slice aa (r * c) ac, .bool true] 48)).alloc (.cells #[.slice none 0 0, .int .i64 0, .int .i64 0, .slice none 0 0, .bool false] 48)).alloc (.cells #[.slice da dn dc, .int .i64 c, .int .i64 1, .slice none 0 0, .bool true] 48)) w.heap.size [.slice da dn dc, .int .i64 r, .int .i64 c, .slice aa (r * c) ac, .bool true] := ((Box.newA w [_, _, _, _, _] _ rfl).alloc _).alloc _
    have x1 : Box (((w.alloc (.cells #[.slice da dn dc, .int .i64 r, .int .i64 c, .slice aa (r * c) ac, .bool true] 48)).alloc (.cells #[.slice none 0 0, .int .i64 0, .int .i64 0, .slice none 0 0, .bool false] 48)).alloc (.cells #[.slice da dn dc, .int .i64 c, .int .i64 1, .slice none 0 0, .bool true] 48)) (w.heap.size + 1) [.slice none 0 0, .int .i64 0, .int .i64 0, .slice none 0 0, .bool false] := (Box.newA _ [_, _, _, _, _] _ (by simp)).alloc _
    have x2 : Box (((w.alloc (.cells #[.slice da dn dc, .int .i64 r, .int .i64 c, .slice aa (r * c) ac, .bool true] 48)).alloc (.cells #[.slice none 0 0, .int .i64 0, .int .i64 0, .slice none 0 0, .bool false] 48)).alloc (.cells #[.slice da dn dc, .int .i64 c, .int .i64 1, .slice none 0 0, .bool true] 48)) (w.heap.size + 1 + 1) [.slice da dn dc, .int .i64 c, .int .i64 1, .slice none 0 0, .bool true] := Box.newA _ [_, _, _, _, _] _ (by simp)
    have hB0 : Below w.heap.size w (((w.alloc (.cells #[.slice da dn dc, .int .i64 r, .int .i64 c, .slice aa (r * c) ac, .bool true] 48)).alloc (.cells #[.slice none 0 0, .int .i64 0, .int .i64 0, .slice none 0 0, .bool false] 48)).alloc (.cells #[.slice da dn dc, .int .i64 c, .int .i64 1, .slice none 0 0, .bool true] 48)) := (((Below.refl _ _).alloc (Nat.le_refl _) _).alloc (by simp) _).alloc (by simp; omega) _
    have hs0 : (((w.alloc (.cells #[.slice da dn dc, .int .i64 r, .int .i64 c, .slice aa (r * c) ac, .bool true] 48)).alloc (.cells #[.slice none 0 0, .int .i64 0, .int .i64 0, .slice none 0 0, .bool false] 48)).alloc (.cells #[.slice da dn dc, .int .i64 c, .int .i64 1, .slice none 0 0, .bool true] 48)).heap.size = w.heap.size + 3 := by simp
    go_enter Try.func75, Try.ntmps75
    go_wp2
    generalize (((w.alloc (.cells #[.slice da dn dc, .int .i64 r, .int .i64 c, .slice aa (r * c) ac, .bool true] 48)).alloc (.cells #[.slice none 0 0, .int .i64 0, .int .i64 0, .slice none 0 0, .bool false] 48)).alloc (.cells #[.slice da dn dc, .int .i64 c, .int .i64 1, .slice none 0 0, .bool true] 48)) = W0 at *
    go_loopw [4] (fun s wr => ∃ k : Nat, k ≤ c ∧ s = .int .i64 k ∧ OI W0 (w.heap.size + 1 + 1) (w.heap.size + 3) (.slice da dn dc) (.int .i64 c) (.int .i64 1) (.bool true) xs k wr) (fun s _ => c - (intOf s).toNat)
    case atStart => exact ⟨0, Nat.zero_le _, rfl, _, x2, World.ownsRow_nil _ _ _ _, Bel.refl _ _ _, by omega⟩
    case round =>
      obtain ⟨k, hk, rfl, sv, hbx, hrow, hbel, hs⟩ := hrel
      have y0 : Box wr w.heap.size [.slice da dn dc, .int .i64 r, .int .i64 c, .slice aa (r * c) ac, .bool true] := x0.belB (by omega) (by omega) hbel
      obtain ⟨a1, a2, a3⟩ := y0.facts
      obtain ⟨a4, a5, a6⟩ := hbx.facts
      by_cases hlt2 : k < c
      · have hb : k * c + k < r * c := by have : (k + 1) * c ≤ r * c := Nat.mul_le_mul_right _ (by omega); rw [Nat.succ_mul] at this; omega
        have hrc : r * c ≤ 512 * 512 := Nat.mul_le_mul hr hc
        have np : ps ≠ [] := by intro e; rw [e] at hpl; simp at hpl; omega
        obtain ⟨ba, oa, rfl, hba, hca⟩ := hA np
        have c1 : wr.cell? ⟨ba, oa + (k * c + k), none⟩ = some (.int .i64 (pl (k * c + k) : Int)) := by
          rw [hbel.cell (by omega) (by omega), (below_cells hB0).1 _ _ hba]
          exact hca _ _ (HG.out _ hb)
        have HXk := Lib.hid (HX.out k hlt2)
        have e0 : (k : Int) * (c : Int) = ((k * c : Nat) : Int) := (Int.natCast_mul _ _).symm
        have g0 : (k : Int) * (c : Int) + (k : Int) = ((k * c + k : Nat) : Int) := by rw [e0]; rfl
        have g1 : IntKind.i64.wrap ((k : Int) * (c : Int)) = (k : Int) * (c : Int) := by rw [e0, IntKind.wrap_i64]; omega
        have g2 : IntKind.i64.wrap ((k : Int) * (c : Int) + (k : Int)) = (k : Int) * (c : Int) + (k : Int) := by rw [g0, IntKind.wrap_i64]; omega
        have g3 : ((k : Int) * (c : Int) + (k : Int)).toNat = k * c + k := by rw [g0]; exact Int.toNat_natCast _
        have g4 : (0 : Int) ≤ (k : Int) * (c : Int) + (k : Int) := by rw [g0]; exact Int.natCast_nonneg _
        have g5 : (k : Int) * (c : Int) + (k : Int) < (r : Int) * (c : Int) := by rw [g0, ← Int.natCast_mul]; omega
        generalize pl (k * c + k) = z at *
        have HR := Lib.hid hrow
        have s0 := (SB.refl hs).S
        have hl1 : ba < w.heap.size + 3 := by omega
        clear hca e0 g0 hrow
        go_wp2
        refine wp_region_first 14 [0, 1, 2, 3, 4, 5, 6, 7, 8, 9, 10, 11] [12, 13] (fun W => SB (w.heap.size + 3) wr W ∧ ∀ b o, b < w.heap.size + 3 → W.cell? ⟨b, o, none⟩ = wr.cell? ⟨b, o, none⟩) (by kernel_rfl) (by kernel_rfl) (SBS.drew s0) ?_
        iterate 12 (refine pW_take (v := ?_) rfl rfl ?_ ?_; rotate_left; (next => (intro w' hSw; (try dsimp only at hSw); go_simp; (try with_reducible rfl))); (simp only [Act.put, List.setIfInBounds_toArray, List.set_cons_zero, List.set_cons_succ]))
        refine pW_nil ?_
        refine mW_take rfl rfl ?_
        go_simp
        refine ⟨SBS.alloc (SBS.drew s0), ?_⟩
        refine mW_take rfl rfl ?_
        refine wp_append_lies _ (.tmp 24) (.tmp 35) 46 rfl (w.heap.size + 3) 3 i0 (.int .i64 0) 1 8 Try.underlying46 hi0 hz0 hz1 hz2 rfl (by decide) _ k _ rfl (HR.out.drew.alloc _) _ 1 1 [.int .i64 (z : Int)] rfl rfl (cell_one_new _ _ _) (by simp [Value.oneCell']) (by decide) (by unfold maxLen; omega) (by omega) (by simp; omega) _ rfl ?_
        intro g cap w1 hown hgrow hat hlt'
        refine ⟨SBS.grown (SBS.alloc (SBS.drew s0)) hgrow (fun q e => (HR.out.lt q e).1), ?_⟩
        refine mW_nil ?_
        have hbx1 := Box.grown (Box.alloc (show Box wr.drew _ _ from hbx) _) hgrow (fun q e => by have := (HR.out.lt q e).1; omega)
        obtain ⟨q1, q2, q3⟩ := hbx1.facts
        simp only [List.drop, Act.put, List.setIfInBounds_toArray, List.set_cons_zero, List.set_cons_succ]
        have hkr : k + 1 ≤ c := hlt2
        go_wp2
        refine NoPanic.normal ?_
        go_wp2
        go_roundw
        case rel => exact ⟨k + 1, by omega, by go_num, OI.app (W := wr.drew) hbx HR.out.drew hbel.drew hs (by omega) HXk.out hgrow hown⟩
        case measure => simp [intOf]; omega
      · obtain rfl : c = k := by omega
        have y1 : Box wr (w.heap.size + 1) [.slice none 0 0, .int .i64 0, .int .i64 0, .slice none 0 0, .bool false] := x1.belB (by omega) (by omega) hbel
        obtain ⟨a7, a8, a9⟩ := y1.facts
        obtain ⟨sa, scap, rfl⟩ := ownsRow_slice hrow
        rw [List.take_of_length_le (by omega)] at hrow
        have HR := Lib.hid hrow
        clear hrow
        go_wp2
        refine bodyPost_ret (results_one rfl (rv_cell (g := w.heap.size + 1) rfl (y1.put5 _ _ _ _ _) rfl Try.underlying48 (by kernel_rfl))) rfl ⟨_, rfl, ?_, ?_⟩
        · exact ownsRow_mono (ownsRow_bel HR.out (Bel.refl5 _ _ _ _ _ _) (by omega)) (by omega)
        · exact (hB0.trans ((hbel.mono (by omega)).below (by omega))).trans ((Bel.refl5 _ _ _ _ _ _).below (by omega))
  · have x0 : Box (((w.alloc (.cells #[.slice da dn dc, .int .i64 r, .int .i64 c, .slice aa (r * c) ac, .bool true] 48)).alloc (.cells #[.slice none 0 0, .int .i64 0, .int .i64 0, .slice none 0 0, .bool false] 48)).alloc (.cells #[.slice da dn dc, .int .i64 r, .int .i64 1, .slice none 0 0, .bool true] 48)) w.heap.size [.slice da dn dc, .int .i64 r, .int .i64 c, .slice aa (r * c) ac, .bool true] := ((Box.newA w [_, _, _, _, _] _ rfl).alloc _).alloc _
    have x1 : Box (((w.alloc (.cells #[.slice da dn dc, .int .i64 r, .int .i64 c, .slice aa (r * c) ac, .bool true] 48)).alloc (.cells #[.slice none 0 0, .int .i64 0, .int .i64 0, .slice none 0 0, .bool false] 48)).alloc (.cells #[.slice da dn dc, .int .i64 r, .int .i64 1, .slice none 0 0, .bool true] 48)) (w.heap.size + 1) [.slice none 0 0, .int .i64 0, .int .i64 0, .slice none 0 0, .bool false] := (Box.newA _ [_, _, _, _, _] _ (by simp)).alloc _
    have x2 : Box (((w.alloc (.cells #[.slice da dn dc, .int .i64 r, .int .i64 c, .slice aa (r * c) ac, .bool true] 48)).alloc (.cells #[.slice none 0 0, .int .i64 0, .int .i64 0, .slice none 0 0, .bool false] 48)).alloc (.cells #[.slice da dn dc, .int .i64 r, .int .i64 1, .slice none 0 0, .bool true] 48)) (w.heap.size + 1 + 1) [.slice da dn dc, .int .i64 r, .int .i64 1, .slice none 0 0, .bool true] := Box.newA _ [_, _, _, _, _] _ (by simp)
    have hB0 : Below w.heap.size w (((w.alloc (.cells #[.slice da dn dc, .int .i64 r, .int .i64 c, .slice aa (r * c) ac, .bool true] 48)).alloc (.cells #[.slice none 0 0, .int .i64 0, .int .i64 0, .slice none 0 0, .bool false] 48)).alloc (.cells #[.slice da dn dc, .int .i64 r, .int .i64 1, .slice none 0 0, .bool true] 48)) := (((Below.refl _ _).alloc (Nat.le_refl _) _).alloc (by simp) _).alloc (by simp; omega) _
    have hs0 : (((w.alloc (.cells #[.slice da dn dc, .int .i64 r, .int .i64 c, .slice aa (r * c) ac, .bool true] 48)).alloc (.cells #[.slice none 0 0, .int .i64 0, .int .i64 0, .slice none 0 0, .bool false] 48)).alloc (.cells #[.slice da dn dc, .int .i64 r, .int .i64 1, .slice none 0 0, .bool true] 48)).heap.size = w.heap.size + 3 := by simp
    go_enter Try.func75, Try.ntmps75
    go_wp2
    generalize (((w.alloc (.cells #[.slice da dn dc, .int .i64 r, .int .i64 c, .slice aa (r * c) ac, .bool true] 48)).alloc (.cells #[.slice none 0 0, .int .i64 0, .int .i64 0, .slice none 0 0, .bool false] 48)).alloc (.cells #[.slice da dn dc, .int .i64 r, .int .i64 1, .slice none 0 0, .bool true] 48)) = W0 at *
    go_loopw [4] (fun s wr => ∃ k : Nat, k ≤ r ∧ s = .int .i64 k ∧ OI W0 (w.heap.size + 1 + 1) (w.heap.size + 3) (.slice da dn dc) (.int .i64 r) (.int .i64 1) (.bool true) xs k wr) (fun s _ => r - (intOf s).toNat)
    case atStart => exact ⟨0, Nat.zero_le _, rfl, _, x2, World.ownsRow_nil _ _ _ _, Bel.refl _ _ _, by omega⟩
    case round =>
      obtain ⟨k, hk, rfl, sv, hbx, hrow, hbel, hs⟩ := hrel
      have y0 : Box wr w.heap.size [.slice da dn dc, .int .i64 r, .int .i64 c, .slice aa (r * c) ac, .bool true] := x0.belB (by omega) (by omega) hbel
      obtain ⟨a1, a2, a3⟩ := y0.facts
      obtain ⟨a4, a5, a6⟩ := hbx.facts
      by_cases hlt2 : k < r
      · have hb : k * c + k < r * c := by have : (k + 1) * c ≤ r * c := Nat.mul_le_mul_right _ (by omega); rw [Nat.succ_mul] at this; omega
        have hrc : r * c ≤ 512 * 512 := Nat.mul_le_mul hr hc
        have np : ps ≠ [] := by intro e; rw [e] at hpl; simp at hpl; omega
        obtain ⟨ba, oa, rfl, hba, hca⟩ := hA np
        have c1 : wr.cell? ⟨ba, oa + (k * c + k), none⟩ = some (.int .i64 (pl (k * c + k) : Int)) := by
          rw [hbel.cell (by omega) (by omega), (below_cells hB0).1 _ _ hba]
          exact hca _ _ (HG.out _ hb)
        have HXk := Lib.hid (HX.out k hlt2)
        have e0 : (k : Int) * (c : Int) = ((k * c : Nat) : Int) := (Int.natCast_mul _ _).symm
        have g0 : (k : Int) * (c : Int) + (k : Int) = ((k * c + k : Nat) : Int) := by rw [e0]; rfl
        have g1 : IntKind.i64.wrap ((k : Int) * (c : Int)) = (k : Int) * (c : Int) := by rw [e0, IntKind.wrap_i64]; omega
        have g2 : IntKind.i64.wrap ((k : Int) * (c : Int) + (k : Int)) = (k : Int) * (c : Int) + (k : Int) := by rw [g0, IntKind.wrap_i64]; omega
        have g3 : ((k : Int) * (c : Int) + (k : Int)).toNat = k * c + k := by rw [g0]; exact Int.toNat_natCast _
        have g4 : (0 : Int) ≤ (k : Int) * (c : Int) + (k : Int) := by rw [g0]; exact Int.natCast_nonneg _
        have g5 : (k : Int) * (c : Int) + (k : Int) < (r : Int) * (c : Int) := by rw [g0, ← Int.natCast_mul]; omega
        generalize pl (k * c + k) = z at *
        have HR := Lib.hid hrow
        have s0 := (SB.refl hs).S
        have hl1 : ba < w.heap.size + 3 := by omega
        clear hca e0 g0 hrow
        go_wp2
        refine wp_region_first 14 [0, 1, 2, 3, 4, 5, 6, 7, 8, 9, 10, 11] [12, 13] (fun W => SB (w.heap.size + 3) wr W ∧ ∀ b o, b < w.heap.size + 3 → W.cell? ⟨b, o, none⟩ = wr.cell? ⟨b, o, none⟩) (by kernel_rfl) (by kernel_rfl) (SBS.drew s0) ?_
        iterate 12 (refine pW_take (v := ?_) rfl rfl ?_ ?_; rotate_left; (next => (intro w' hSw; (try dsimp only at hSw); go_simp; (try with_reducible rfl))); (simp only [Act.put, List.setIfInBounds_toArray, List.set_cons_zero, List.set_cons_succ]))
        refine pW_nil ?_
        refine mW_take rfl rfl ?_
        go_simp
        refine ⟨SBS.alloc (SBS.drew s0), ?_⟩
        refine mW_take rfl rfl ?_
        refine wp_append_lies _ (.tmp 24) (.tmp 35) 46 rfl (w.heap.size + 3) 3 i0 (.int .i64 0) 1 8 Try.underlying46 hi0 hz0 hz1 hz2 rfl (by decide) _ k _ rfl (HR.out.drew.alloc _) _ 1 1 [.int .i64 (z : Int)] rfl rfl (cell_one_new _ _ _) (by simp [Value.oneCell']) (by decide) (by unfold maxLen; omega) (by omega) (by simp; omega) _ rfl ?_
        intro g cap w1 hown hgrow hat hlt'
        refine ⟨SBS.grown (SBS.alloc (SBS.drew s0)) hgrow (fun q e => (HR.out.lt q e).1), ?_⟩
        refine mW_nil ?_
        have hbx1 := Box.grown (Box.alloc (show Box wr.drew _ _ from hbx) _) hgrow (fun q e => by have := (HR.out.lt q e).1; omega)
        obtain ⟨q1, q2, q3⟩ := hbx1.facts
        simp only [List.drop, Act.put, List.setIfInBounds_toArray, List.set_cons_zero, List.set_cons_succ]
        have hkr : k + 1 ≤ r := hlt2
        go_wp2
        refine NoPanic.normal ?_
        go_wp2
        go_roundw
        case rel => exact ⟨k + 1, by omega, by go_num, OI.app (W := wr.drew) hbx HR.out.drew hbel.drew hs (by omega) HXk.out hgrow hown⟩
        case measure => simp [intOf]; omega
      · obtain rfl : r = k := by omega
        have y1 : Box wr (w.heap.size + 1) [.slice none 0 0, .int .i64 0, .int .i64 0, .slice none 0 0, .bool false] := x1.belB (by omega) (by omega) hbel
        obtain ⟨a7, a8, a9⟩ := y1.facts
        obtain ⟨sa, scap, rfl⟩ := ownsRow_slice hrow
        rw [List.take_of_length_le (by omega)] at hrow
        have HR := Lib.hid hrow
        clear hrow
        go_wp2
        refine bodyPost_ret (results_one rfl (rv_cell (g := w.heap.size + 1) rfl (y1.put5 _ _ _ _ _) rfl Try.underlying48 (by kernel_rfl))) rfl ⟨_, rfl, ?_, ?_⟩
        · exact ownsRow_mono (ownsRow_bel HR.out (Bel.refl5 _ _ _ _ _ _) (by omega)) (by omega)
        · exact (hB0.trans ((hbel.mono (by omega)).below (by omega))).trans ((Bel.refl5 _ _ _ _ _ _).below (by omega))
end Go.Proofs.Ytpjdibanjmmbkaa
