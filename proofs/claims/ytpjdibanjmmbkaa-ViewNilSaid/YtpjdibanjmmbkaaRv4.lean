/- The document's views: parts that are. -/
import Derived.Test.YtpjdibanjmmbkaaRv2
import Derived.Test.YtpjdibanjmmbkaaNq4
namespace Go.Proofs.Ytpjdibanjmmbkaa
open Go Go.RowKit
set_option maxRecDepth 100000

theorem part_pls {v : Vw} {i j a b x y : Nat} (hp : v.p.isSome = true) (hi : i + a ≤ v.r) (hj : j + b ≤ v.c) (hx : x < a) (hy : y < b) :
    v.part i j a b = ⟨v.p, a, b, v.o + i * v.d + j * v.u, v.d, v.u⟩ ∧ (v.part i j a b).pls[x * b + y]? = some (v.pl ((i + x) * v.c + (j + y))) := by
  have e : v.part i j a b = ⟨v.p, a, b, v.o + i * v.d + j * v.u, v.d, v.u⟩ := by
    unfold Vw.part fitsV
    rw [if_pos (by simp [hp]; omega)]
    simp only [Int.toNat_natCast]
  refine ⟨e, ?_⟩
  rw [e, pls_get (by show x * b + y < a * b; have : (x + 1) * b ≤ a * b := Nat.mul_le_mul_right _ hx; rw [Nat.succ_mul] at this; omega)]
  unfold Vw.pl
  dsimp only
  have h1 : (x * b + y) / b = x := by rw [Nat.mul_comm, Nat.mul_add_div (by omega), Nat.div_eq_of_lt hy]; rfl
  have h2 : (x * b + y) % b = y := by rw [Nat.mul_comm, Nat.mul_add_mod, Nat.mod_eq_of_lt hy]
  have h3 : ((i + x) * v.c + (j + y)) / v.c = i + x := by rw [Nat.mul_comm, Nat.mul_add_div (by omega), Nat.div_eq_of_lt (by omega)]; rfl
  have h4 : ((i + x) * v.c + (j + y)) % v.c = j + y := by rw [Nat.mul_comm, Nat.mul_add_mod, Nat.mod_eq_of_lt (by omega)]
  rw [h1, h2, h3, h4, Nat.add_mul, Nat.add_mul]
  congr 1
  omega

set_option maxHeartbeats 8000000 in
theorem RPart_yes (w : World) (v : Vw) (da : Option Addr) (dn dc : Nat) (aa : Option Addr) (ac : Nat) (i j a b : Nat) (hA : Itc w aa v.pls) (hp : v.p.isSome = true) (hr : v.r ≤ 512) (hc : v.c ≤ 512) (hi : i + a ≤ v.r) (hj : j + b ≤ v.c) :
    Calls Try.prog 74 #[.agg #[.slice da dn dc, .int .i64 v.r, .int .i64 v.c, .slice aa (v.r * v.c) ac, .bool true], .int .i64 i, .int .i64 j, .int .i64 a, .int .i64 b] w fun e w' => ∃ sv, e = .returned (.agg #[.slice da dn dc, .int .i64 a, .int .i64 b, sv, .bool true]) ∧ w'.ownsRow w.heap.size 3 1 sv (a * b) ((v.part i j a b).pls.map fun p : Nat => Value.int .i64 (p : Int)) ∧ Below w.heap.size w w' := by
  obtain ⟨i0, hi0, hz0, hz1, hz2⟩ := info_parts info_int
  obtain ⟨xs, hxs⟩ : ∃ xs, xs = (v.part i j a b).pls.map fun p : Nat => Value.int .i64 (p : Int) := ⟨_, rfl⟩
  rw [← hxs]
  have HX : Hid (∀ x y, x < a → y < b → xs[x * b + y]? = some (Value.int .i64 ((v.pl ((i + x) * v.c + (j + y)) : Nat) : Int))) := fun x y hx hy => by
    rw [hxs, List.getElem?_map, (part_pls hp hi hj hx hy).2]; rfl
  have hxl : xs.length = a * b := by
    have e : v.part i j a b = ⟨v.p, a, b, v.o + i * v.d + j * v.u, v.d, v.u⟩ := by
      unfold Vw.part fitsV
      rw [if_pos (by simp [hp]; omega)]
      simp only [Int.toNat_natCast]
    rw [hxs, List.length_map, pls_length, e]
  have HG : Hid (∀ k, k < v.r * v.c → v.pls[k]? = some (v.pl k)) := fun k hk => pls_get hk
  have hpl := pls_length v
  generalize v.pls = ps at hA HG hpl
  generalize v.pl = pl at HX HG
  clear hxs hp
  obtain ⟨p, r, c, o, d, u⟩ := v
  dsimp only at *
  clear p o d u
  have x0 : Box (((w.alloc (.cells #[.slice da dn dc, .int .i64 r, .int .i64 c, .slice aa (r * c) ac, .bool true] 48)).alloc (.cells #[.slice none 0 0, .int .i64 0, .int .i64 0, .slice none 0 0, .bool false] 48)).alloc (.cells #[.slice da dn dc, .int .i64 a, .int .i64 b, .slice none 0 0, .bool true] 48)) w.heap.size [.slice da dn dc, .int .i64 r, .int .i64 c, .slice aa (r * c) ac, .bool true] := ((Box.newA w [_, _, _, _, _] _ rfl).alloc _).alloc _
  have x1 : Box (((w.alloc (.cells #[.slice da dn dc, .int .i64 r, .int .i64 c, .slice aa (r * c) ac, .bool true] 48)).alloc (.cells #[.slice none 0 0, .int .i64 0, .int .i64 0, .slice none 0 0, .bool false] 48)).alloc (.cells #[.slice da dn dc, .int .i64 a, .int .i64 b, .slice none 0 0, .bool true] 48)) (w.heap.size + 1) [.slice none 0 0, .int .i64 0, .int .i64 0, .slice none 0 0, .bool false] := (Box.newA _ [_, _, _, _, _] _ (by simp)).alloc _
  have x2 : Box (((w.alloc (.cells #[.slice da dn dc, .int .i64 r, .int .i64 c, .slice aa (r * c) ac, .bool true] 48)).alloc (.cells #[.slice none 0 0, .int .i64 0, .int .i64 0, .slice none 0 0, .bool false] 48)).alloc (.cells #[.slice da dn dc, .int .i64 a, .int .i64 b, .slice none 0 0, .bool true] 48)) (w.heap.size + 1 + 1) [.slice da dn dc, .int .i64 a, .int .i64 b, .slice none 0 0, .bool true] := Box.newA _ [_, _, _, _, _] _ (by simp)
  have hB0 : Below w.heap.size w (((w.alloc (.cells #[.slice da dn dc, .int .i64 r, .int .i64 c, .slice aa (r * c) ac, .bool true] 48)).alloc (.cells #[.slice none 0 0, .int .i64 0, .int .i64 0, .slice none 0 0, .bool false] 48)).alloc (.cells #[.slice da dn dc, .int .i64 a, .int .i64 b, .slice none 0 0, .bool true] 48)) := (((Below.refl _ _).alloc (Nat.le_refl _) _).alloc (by simp) _).alloc (by simp; omega) _
  have hs0 : (((w.alloc (.cells #[.slice da dn dc, .int .i64 r, .int .i64 c, .slice aa (r * c) ac, .bool true] 48)).alloc (.cells #[.slice none 0 0, .int .i64 0, .int .i64 0, .slice none 0 0, .bool false] 48)).alloc (.cells #[.slice da dn dc, .int .i64 a, .int .i64 b, .slice none 0 0, .bool true] 48)).heap.size = w.heap.size + 3 := by simp
  have h1 : decide ((i : Int) < 0) = false := by simp
  have h2 : decide ((j : Int) < 0) = false := by simp
  have h3 : decide ((a : Int) < 0) = false := by simp
  have h4 : decide ((b : Int) < 0) = false := by simp
  have h5 : decide ((r : Int) < (i : Int)) = false := by simp; omega
  have h6 : decide ((c : Int) < (j : Int)) = false := by simp; omega
  have h11 : decide (r < i) = false := by simp; omega
  have h12 : decide (c < j) = false := by simp; omega
  have h7 : IntKind.i64.wrap ((r : Int) - (i : Int)) = (r : Int) - i ∧ wrap64 ((r : Int) - (i : Int)) = (r : Int) - i := ⟨by rw [IntKind.wrap_i64]; omega, by unfold wrap64; omega⟩
  have h8 : IntKind.i64.wrap ((c : Int) - (j : Int)) = (c : Int) - j ∧ wrap64 ((c : Int) - (j : Int)) = (c : Int) - j := ⟨by rw [IntKind.wrap_i64]; omega, by unfold wrap64; omega⟩
  have h9 : decide ((r : Int) - (i : Int) < (a : Int)) = false := by simp; omega
  have h10 : decide ((c : Int) - (j : Int) < (b : Int)) = false := by simp; omega
  go_enter Try.func74, Try.ntmps74
  go_wp2
  generalize (((w.alloc (.cells #[.slice da dn dc, .int .i64 r, .int .i64 c, .slice aa (r * c) ac, .bool true] 48)).alloc (.cells #[.slice none 0 0, .int .i64 0, .int .i64 0, .slice none 0 0, .bool false] 48)).alloc (.cells #[.slice da dn dc, .int .i64 a, .int .i64 b, .slice none 0 0, .bool true] 48)) = W0 at *
  clear h1 h2 h3 h4 h5 h6 h7 h8 h9 h10 h11 h12
  go_loopw [12] (fun s wr => ∃ l : Nat, l ≤ a ∧ s = .int .i64 l ∧ OI W0 (w.heap.size + 1 + 1) (w.heap.size + 3) (.slice da dn dc) (.int .i64 a) (.int .i64 b) (.bool true) xs (l * b) wr) (fun s _ => a - (intOf s).toNat)
  case atStart => exact ⟨0, Nat.zero_le _, rfl, _, x2, by rw [Nat.zero_mul]; exact World.ownsRow_nil _ _ _ _, Bel.refl _ _ _, by omega⟩
  case round =>
    obtain ⟨l, hl, rfl, hO⟩ := hrel
    have y0 : Box wr w.heap.size [.slice da dn dc, .int .i64 r, .int .i64 c, .slice aa (r * c) ac, .bool true] := x0.belB (by omega) (by omega) hO.choose_spec.2.2.1
    obtain ⟨a1, a2, a3⟩ := y0.facts
    by_cases hlt : l < a
    · go_wp2
      obtain ⟨wo, rfl⟩ : ∃ wo : World, wo = wr := ⟨_, rfl⟩
      clear y0 a1 a2 a3
      go_loopw [13] (fun s wr => ∃ k : Nat, k ≤ b ∧ s = .int .i64 k ∧ OI W0 (w.heap.size + 1 + 1) (w.heap.size + 3) (.slice da dn dc) (.int .i64 a) (.int .i64 b) (.bool true) xs (l * b + k) wr) (fun s _ => b - (intOf s).toNat)
      case atStart => exact ⟨0, Nat.zero_le _, rfl, hO⟩
      case round =>
        obtain ⟨k, hk, rfl, sv, hbx, hrow, hbel, hs⟩ := hrel
        have y0 : Box wr w.heap.size [.slice da dn dc, .int .i64 r, .int .i64 c, .slice aa (r * c) ac, .bool true] := x0.belB (by omega) (by omega) hbel
        obtain ⟨a1, a2, a3⟩ := y0.facts
        by_cases hlt2 : k < b
        · obtain ⟨a4, a5, a6⟩ := hbx.facts
          have hb : (i + l) * c + (j + k) < r * c := by have : (i + l + 1) * c ≤ r * c := Nat.mul_le_mul_right _ (by omega); rw [Nat.succ_mul] at this; omega
          have hrc : r * c ≤ 512 * 512 := Nat.mul_le_mul hr hc
          have hlr : l * b + k ≤ 512 * 512 + 512 := by have : l * b ≤ 512 * 512 := Nat.mul_le_mul (by omega) (by omega); omega
          have np : ps ≠ [] := by intro e; rw [e] at hpl; simp at hpl; omega
          obtain ⟨ba, oa, rfl, hba, hca⟩ := hA np
          have c1 : wr.cell? ⟨ba, oa + ((i + l) * c + (j + k)), none⟩ = some (.int .i64 (pl ((i + l) * c + (j + k)) : Int)) := by
            rw [hbel.cell (by omega) (by omega), (below_cells hB0).1 _ _ hba]
            exact hca _ _ (HG.out _ hb)
          have HXk := Lib.hid (HX.out l k hlt hlt2)
          have e0 : ((i : Int) + (l : Int)) * (c : Int) = (((i + l) * c : Nat) : Int) := by rw [Int.natCast_mul, Int.natCast_add]
          have hm : (i + l) * c ≤ 512 * 512 := by omega
          have g0 : ((i : Int) + (l : Int)) * (c : Int) + (j : Int) + (k : Int) = (((i + l) * c + (j + k) : Nat) : Int) := by rw [e0]; omega
          have g1 : IntKind.i64.wrap ((i : Int) + (l : Int)) = (i : Int) + (l : Int) := by rw [IntKind.wrap_i64]; omega
          have g2 : IntKind.i64.wrap (((i : Int) + (l : Int)) * (c : Int)) = ((i : Int) + (l : Int)) * (c : Int) := by rw [e0, IntKind.wrap_i64]; omega
          have g3 : IntKind.i64.wrap (((i : Int) + (l : Int)) * (c : Int) + (j : Int)) = ((i : Int) + (l : Int)) * (c : Int) + (j : Int) := by rw [e0, IntKind.wrap_i64]; omega
          have g4 : IntKind.i64.wrap (((i : Int) + (l : Int)) * (c : Int) + (j : Int) + (k : Int)) = ((i : Int) + (l : Int)) * (c : Int) + (j : Int) + (k : Int) := by rw [e0, IntKind.wrap_i64]; omega
          have g5 : (((i : Int) + (l : Int)) * (c : Int) + (j : Int) + (k : Int)).toNat = (i + l) * c + (j + k) := by rw [g0]; exact Int.toNat_natCast _
          have g6 : (0 : Int) ≤ ((i : Int) + (l : Int)) * (c : Int) + (j : Int) + (k : Int) := by rw [g0]; exact Int.natCast_nonneg _
          have g7 : ((i : Int) + (l : Int)) * (c : Int) + (j : Int) + (k : Int) < (r : Int) * (c : Int) := by rw [g0, ← Int.natCast_mul]; omega
          generalize pl ((i + l) * c + (j + k)) = z at *
          have HR := Lib.hid hrow
          have hn : ba ≠ wr.heap.size := by omega
          have hn2 : w.heap.size ≠ wr.heap.size := by omega
          have hn3 : w.heap.size + 1 + 1 ≠ wr.heap.size := by omega
          clear hca e0 g0 hrow hm
          go_wp2
          have s0 := (SB.refl hs).S
          have hl1 : ba < w.heap.size + 3 := by omega
          refine wp_region_first 18 [0, 1, 2, 3, 4, 5, 6, 7, 8, 9, 10, 11, 12, 13, 14, 15] [16, 17] (fun W => SB (w.heap.size + 3) wr W ∧ ∀ b o, b < w.heap.size + 3 → W.cell? ⟨b, o, none⟩ = wr.cell? ⟨b, o, none⟩) (by kernel_rfl) (by kernel_rfl) (SBS.drew s0) ?_
          iterate 16 (refine pW_take (v := ?_) rfl rfl ?_ ?_; rotate_left; (next => (intro w' hSw; (try dsimp only at hSw); go_simp; (try with_reducible rfl))); (simp only [Act.put, List.setIfInBounds_toArray, List.set_cons_zero, List.set_cons_succ]))
          refine pW_nil ?_
          refine mW_take rfl rfl ?_
          go_simp
          refine ⟨SBS.alloc (SBS.drew s0), ?_⟩
          refine mW_take rfl rfl ?_
          refine wp_append_lies _ (.tmp 78) (.tmp 93) 46 rfl (w.heap.size + 3) 3 i0 (.int .i64 0) 1 8 Try.underlying46 hi0 hz0 hz1 hz2 rfl (by decide) _ (l * b + k) _ rfl (HR.out.drew.alloc _) _ 1 1 [.int .i64 (z : Int)] rfl rfl (cell_one_new _ _ _) (by simp [Value.oneCell']) (by decide) (by unfold maxLen; omega) (by omega) (by simp; omega) _ rfl ?_
          intro g cap w1 hown hgrow hat hlt'
          refine ⟨SBS.grown (SBS.alloc (SBS.drew s0)) hgrow (fun q e => (HR.out.lt q e).1), ?_⟩
          refine mW_nil ?_
          have hbx1 := Box.grown (Box.alloc (show Box wr.drew _ _ from hbx) _) hgrow (fun q e => by have := (HR.out.lt q e).1; omega)
          obtain ⟨q1, q2, q3⟩ := hbx1.facts
          simp only [List.drop, Act.put, List.setIfInBounds_toArray, List.set_cons_zero, List.set_cons_succ]
          have hkr : k + 1 ≤ b := hlt2
          go_wp2
          refine NoPanic.normal ?_
          go_wp2
          go_roundw
          case rel => exact ⟨k + 1, by omega, by go_num, show OI _ _ _ _ _ _ _ _ (l * b + k + 1) _ from OI.app (W := wr.drew) hbx HR.out.drew hbel.drew hs (by omega) HXk.out hgrow hown⟩
          case measure => simp [intOf]; omega
        · obtain rfl : b = k := by omega
          have hlc : l + 1 ≤ a := hlt
          go_wp2
          go_roundw
          case rel => exact ⟨l + 1, by omega, by go_num, by rw [Nat.succ_mul]; exact ⟨sv, hbx, hrow, hbel, hs⟩⟩
          case measure => simp [intOf]; omega
    · obtain rfl : a = l := by omega
      obtain ⟨sv, hbx, hrow, hbel, hs⟩ := hO
      have y1 : Box wr (w.heap.size + 1) [.slice none 0 0, .int .i64 0, .int .i64 0, .slice none 0 0, .bool false] := x1.belB (by omega) (by omega) hbel
      obtain ⟨a4, a5, a6⟩ := y1.facts
      obtain ⟨a7, a8, a9⟩ := hbx.facts
      obtain ⟨sa, scap, rfl⟩ := ownsRow_slice hrow
      rw [List.take_of_length_le (by omega)] at hrow
      have HR := Lib.hid hrow
      clear hrow
      go_wp2
      refine bodyPost_ret (results_one rfl (rv_cell (g := w.heap.size + 1) rfl (y1.put5 _ _ _ _ _) rfl Try.underlying48 (by kernel_rfl))) rfl ⟨_, rfl, ?_, ?_⟩
      · exact ownsRow_mono (ownsRow_bel HR.out (Bel.refl5 _ _ _ _ _ _) (by omega)) (by omega)
      · exact (hB0.trans ((hbel.mono (by omega)).below (by omega))).trans ((Bel.refl5 _ _ _ _ _ _).below (by omega))
end Go.Proofs.Ytpjdibanjmmbkaa
