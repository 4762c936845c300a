/- The document's view of a matrix. -/
import Derived.Test.YtpjdibanjmmbkaaRv6
import Derived.Test.YtpjdibanjmmbkaaNq5
namespace Go.Proofs.Ytpjdibanjmmbkaa
open Go Go.RowKit
set_option maxRecDepth 100000

theorem grown_of_bel {W W' : World} {s : Nat} (h : ∀ B, Bel B s W W') : W.grownBy W' (some s) :=
  ⟨(h 0).os, (h 0).tape, (h 0).output, (h 0).size, fun k _ hk => (h (k + 1)).block k (Nat.lt_succ_self _) (fun e => hk (by rw [e]))⟩
theorem of_fin {W0 w2 : World} {n0 bo n cap' : Nat} {da : Option Addr} {v0 v1 v2 v3 v4 a0 a1 a2 a3 a4 : Value} {zs : List Nat} (hbx : Box w2 bo [a0, a1, a2, a3, a4]) (hbo : n0 ≤ bo) (hrow : w2.ownsRow n0 23 1 (.slice da n cap') n (zs.map (Value.float .f64))) (hne : ∀ o, da ≠ some ⟨bo, o, none⟩) (hb : Below n0 W0 w2) :
    Box (((((w2.setCell ⟨bo, 0, none⟩ v0).setCell ⟨bo, 1, none⟩ v1).setCell ⟨bo, 2, none⟩ v2).setCell ⟨bo, 3, none⟩ v3).setCell ⟨bo, 4, none⟩ v4) bo [v0, v1, v2, v3, v4] ∧ n0 ≤ bo ∧
    (((((w2.setCell ⟨bo, 0, none⟩ v0).setCell ⟨bo, 1, none⟩ v1).setCell ⟨bo, 2, none⟩ v2).setCell ⟨bo, 3, none⟩ v3).setCell ⟨bo, 4, none⟩ v4).ownsRow n0 23 1 (.slice da n cap') n (zs.map (Value.float .f64)) ∧ (∀ o, da ≠ some ⟨bo, o, none⟩) ∧
    Below n0 W0 (((((w2.setCell ⟨bo, 0, none⟩ v0).setCell ⟨bo, 1, none⟩ v1).setCell ⟨bo, 2, none⟩ v2).setCell ⟨bo, 3, none⟩ v3).setCell ⟨bo, 4, none⟩ v4) := by
  refine ⟨hbx.put5 _ _ _ _ _, hbo, hrow.kept (grown_of_bel fun B => Bel.refl5 B _ _ _ _ _) ?_, hne, hb.trans ((Bel.refl5 _ _ _ _ _ _).below (by omega))⟩
  right
  intro e
  rcases hrow.2 with ⟨h0, _⟩ | ⟨g, c', cur, h0, _⟩
  · simp only [Value.slice.injEq] at h0
    rw [h0.1] at e
    simp [Value.ownBlock] at e
  · simp only [Value.slice.injEq] at h0
    rw [h0.1] at e
    simp [Value.ownBlock] at e
    exact hne 0 (by rw [h0.1, e])
theorem own_ne {W : World} {base n cap' bo : Nat} {da : Option Addr} {xs : List Value} (h : W.ownsRow base 23 1 (.slice da n cap') n xs) (hb : bo < base ∨ W.heap.size ≤ bo) : ∀ o, da ≠ some ⟨bo, o, none⟩ := by
  intro o e
  rcases h.2 with ⟨h0, _⟩ | ⟨g, c', cur, h0, _⟩
  · simp only [Value.slice.injEq] at h0
    rw [h0.1] at e; cases e
  · have hl := h.lt g (by rw [h0]; rfl)
    simp only [Value.slice.injEq] at h0
    rw [h0.1] at e
    simp only [Option.some.injEq, Addr.mk.injEq] at e
    omega

theorem newV_pls (st R C : Nat) : (newV st R C).pls = List.range (R * C) := by
  unfold Vw.pls
  show (List.range (R * C)).map _ = _
  rw [show List.range (R * C) = (List.range (R * C)).map id by simp]
  rw [List.map_map]
  refine List.map_congr_left fun k hk => ?_
  show 0 + k / C * C + k % C * 1 = k
  rw [Nat.zero_add, Nat.mul_one, Nat.mul_comm]
  exact Nat.div_add_mod k C
theorem ownsRow_belB {A B : World} {base n cap' bo : Nat} {da : Option Addr} {xs : List Value} (h : A.ownsRow base 23 1 (.slice da n cap') n xs) (hb : Bel A.heap.size bo A B) (hne : ∀ o, da ≠ some ⟨bo, o, none⟩) : B.ownsRow base 23 1 (.slice da n cap') n xs := by
  refine ⟨h.1, ?_⟩
  rcases h.2 with h0 | ⟨g, cap, cur, h1, h2, h3, h4⟩
  · exact .inl h0
  · refine .inr ⟨g, cap, cur, h1, h2, ?_, h4⟩
    simp only [Value.slice.injEq] at h1
    rw [hb.block g (Array.getElem?_eq_some_iff.1 h3).1 (fun e => hne 0 (by rw [h1.1, e]))]
    exact h3

set_option maxHeartbeats 8000000 in
theorem Of_ref2 (w : World) (R C : Nat) (a : Option Addr) (zs : List Nat) (cap : Nat) (hZ : Cel w a zs) (hn : zs.length = R * C) (hl : zs.length ≤ 262144) :
    Calls Try.prog 70 #[.agg #[.int .i64 R, .int .i64 C, .slice a zs.length cap]] w fun e w' => ∃ da dc x, e = .returned x ∧ (∀ st, RefV (fun b => w.heap.size ≤ b ∧ ∀ g o, da = some ⟨g, o, none⟩ → g ≠ b) w' da zs.length dc (newV st R C) x) ∧ w'.ownsRow w.heap.size 23 1 (.slice da zs.length dc) zs.length (zs.map (Value.float .f64)) ∧ Below w.heap.size w w' := by
  obtain ⟨i0, hi0, hz0, hz1, hz2⟩ := info_parts info_int
  have HN := Lib.hid hn
  clear hn
  have x0 : Box ((w.alloc (.cells #[.int .i64 R, .int .i64 C, .slice a zs.length cap] 40)).alloc (.cells #[.slice none 0 0, .int .i64 0, .int .i64 0, .slice none 0 0, .bool false] 48)) w.heap.size [.int .i64 R, .int .i64 C, .slice a zs.length cap] := (Box.newA w [_, _, _] _ rfl).alloc _
  have x1 : Box ((w.alloc (.cells #[.int .i64 R, .int .i64 C, .slice a zs.length cap] 40)).alloc (.cells #[.slice none 0 0, .int .i64 0, .int .i64 0, .slice none 0 0, .bool false] 48)) (w.heap.size + 1) [.slice none 0 0, .int .i64 0, .int .i64 0, .slice none 0 0, .bool false] := Box.newA _ [_, _, _, _, _] _ (by simp)
  have hB0 : Below w.heap.size w ((w.alloc (.cells #[.int .i64 R, .int .i64 C, .slice a zs.length cap] 40)).alloc (.cells #[.slice none 0 0, .int .i64 0, .int .i64 0, .slice none 0 0, .bool false] 48)) := ((Below.refl _ _).alloc (Nat.le_refl _) _).alloc (by simp) _
  have hs0 : ((w.alloc (.cells #[.int .i64 R, .int .i64 C, .slice a zs.length cap] 40)).alloc (.cells #[.slice none 0 0, .int .i64 0, .int .i64 0, .slice none 0 0, .bool false] 48)).heap.size = w.heap.size + 2 := by simp
  go_enter Try.func70, Try.ntmps70
  go_wp2
  generalize ((w.alloc (.cells #[.int .i64 R, .int .i64 C, .slice a zs.length cap] 40)).alloc (.cells #[.slice none 0 0, .int .i64 0, .int .i64 0, .slice none 0 0, .bool false] 48)) = W0 at *
  have HZ := Lib.hid (fun (W : World) (hW : Below W0.heap.size W0 W) => (hZ.below hB0).below hW)
  refine Code.wp_mono (Q := fun e a' w' => e = .normal ∧ ∃ bo da dc, a' = { tmps := #[.agg #[.int .i64 R, .int .i64 C, .slice a zs.length cap], .pointer (some ⟨w.heap.size, 0, none⟩), .pointer (some ⟨w.heap.size + 1, 0, none⟩), .pointer (some ⟨bo, 0, none⟩), undef, .pointer (some ⟨w.heap.size, 2, none⟩), .slice a zs.length cap, .slice da zs.length dc, .pointer (some ⟨w.heap.size, 0, none⟩), .int .i64 R, .pointer (some ⟨w.heap.size, 1, none⟩), .int .i64 C, .agg #[.slice da zs.length dc, .int .i64 R, .int .i64 C, .slice none 0 0, .bool true], undef, undef, undef, undef, undef, undef, undef, undef, undef, undef, undef, undef, undef, undef], defers := [] } ∧
      Box w' bo [.slice da zs.length dc, .int .i64 R, .int .i64 C, .slice none 0 0, .bool true] ∧ w.heap.size + 2 ≤ bo ∧ w'.ownsRow (w.heap.size + 2) 23 1 (.slice da zs.length dc) zs.length (zs.map (Value.float .f64)) ∧ (∀ o, da ≠ some ⟨bo, o, none⟩) ∧ Below (w.heap.size + 2) W0 w') ?imp ?reg
  case reg =>
    obtain ⟨a1, a2, a3⟩ := x0.facts
    have s0 : SBS (w.heap.size + 2) W0 W0 := (SB.refl (by omega)).S
    refine wp_region_firstT 9 3 [0, 1, 3, 4, 5, 6] (fun W => SB (w.heap.size + 2) W0 W ∧ ∀ b o, b < w.heap.size + 2 → W.cell? ⟨b, o, none⟩ = W0.cell? ⟨b, o, none⟩) (by kernel_rfl) (by kernel_rfl) (SBS.drew s0) ?_
    iterate 6 (refine pW_take (v := ?_) rfl rfl ?_ ?_; rotate_left; (next => (intro w' hSw; (try dsimp only at hSw); go_simp; (try with_reducible rfl))); (simp only [Act.put, List.setIfInBounds_toArray, List.set_cons_zero, List.set_cons_succ]))
    refine pW_nil ?_
    refine wpAnyS_two (i := 2) (j := 8) (by kernel_rfl) (by decide) (by decide) rfl rfl rfl rfl ?o2 ?o8
    case o2 =>
      refine wp_append_cel (.const (.slice none 0 0)) (.tmp 6) rfl a zs cap rfl rfl (HZ.out _ (below_drewN 1 (Below.refl _ _))) hl ?_
      intro da dc w1 hown hb1
      have hb2 : Below W0.heap.size W0 w1 := ⟨hb1.os, hb1.tape, hb1.output, hb1.size, hb1.block⟩
      have s1 : SBS (w.heap.size + 2) W0 w1 := by rw [← hs0]; exact (SB.of hb2 hb2.size).S
      have hrow : w1.ownsRow (w.heap.size + 2) 23 1 (.slice da zs.length dc) zs.length (zs.map (Value.float .f64)) := by rw [← hs0]; exact hown
      have hle := hb2.size
      have hb3 : Below (w.heap.size + 2) W0 w1 := by rw [← hs0]; exact hb2
      refine ⟨s1, ?_⟩
      refine wpAnyS_two (i := 7) (j := 8) (by kernel_rfl) (by decide) (by decide) rfl rfl rfl rfl ?p7 ?p8
      case p7 =>
        clear s0
        go_simp
        refine ⟨by first | exact s1 | exact s1.2, ?_⟩
        refine wpAnyS_one (i := 8) (by kernel_rfl) (by decide) rfl rfl ?_
        clear s1
        go_simp
        refine ⟨SBS.alloc (by rw [← hs0]; exact (SB.of hb2 hb2.size).S), ?_⟩
        refine wpAnyS_end (by kernel_rfl) ?_
        simp only [List.drop]
        go_wp2
        refine NoPanic.normal ?_
        exact ⟨rfl, _, _, _, rfl, Box.newA _ [_, _, _, _, _] _ rfl, by omega, hrow.alloc _, own_ne hrow (.inr (Nat.le_refl _)), hb3.alloc (by omega) _⟩
      case p8 =>
        clear s0
        go_simp
        refine ⟨SBS.alloc s1, ?_⟩
        refine wpAnyS_one (i := 7) (by kernel_rfl) (by decide) rfl rfl ?_
        clear s1
        go_simp
        refine ⟨SBS.alloc (by rw [← hs0]; exact (SB.of hb2 hb2.size).S), ?_⟩
        refine wpAnyS_end (by kernel_rfl) ?_
        simp only [List.drop]
        go_wp2
        refine NoPanic.normal ?_
        exact ⟨rfl, _, _, _, rfl, Box.newA _ [_, _, _, _, _] _ rfl, by omega, hrow.alloc _, own_ne hrow (.inr (Nat.le_refl _)), hb3.alloc (by omega) _⟩
    case o8 =>
      have s1 : SBS (w.heap.size + 2) W0 (W0.drew.alloc (.cells #[.slice none 0 0, .int .i64 0, .int .i64 0, .slice none 0 0, .bool false] 48)) := SBS.alloc (SBS.drew s0)
      have y0 : Box (W0.drew.alloc (.cells #[.slice none 0 0, .int .i64 0, .int .i64 0, .slice none 0 0, .bool false] 48)) W0.heap.size [.slice none 0 0, .int .i64 0, .int .i64 0, .slice none 0 0, .bool false] := Box.newA _ [_, _, _, _, _] _ rfl
      have hbA : Below W0.heap.size W0 (W0.drew.alloc (.cells #[.slice none 0 0, .int .i64 0, .int .i64 0, .slice none 0 0, .bool false] 48)) := (below_drewN 1 (Below.refl _ _)).alloc (Nat.le_refl _) _
      have hsA : (W0.drew.alloc (.cells #[.slice none 0 0, .int .i64 0, .int .i64 0, .slice none 0 0, .bool false] 48)).heap.size = W0.heap.size + 1 := by simp
      clear s0
      go_simp
      refine ⟨s1, ?_⟩
      change wpAnyS _ _ _ _ _ _ _ _ _ _ (W0.drew.alloc (.cells #[.slice none 0 0, .int .i64 0, .int .i64 0, .slice none 0 0, .bool false] 48))
      generalize (W0.drew.alloc (.cells #[.slice none 0 0, .int .i64 0, .int .i64 0, .slice none 0 0, .bool false] 48)) = WA at *
      refine wpAnyS_one (i := 2) (by kernel_rfl) (by decide) rfl rfl ?_
      refine wp_append_cel (.const (.slice none 0 0)) (.tmp 6) rfl a zs cap rfl rfl (HZ.out _ hbA) hl ?_
      intro da dc w1 hown hb1
      have hb2 : Below W0.heap.size W0 w1 := below_step hbA (by omega) hb1
      have hb3 : Below (w.heap.size + 2) W0 w1 := by rw [← hs0]; exact hb2
      have s2 : SBS (w.heap.size + 2) W0 w1 := (SB.of hb3 (by have := hb2.size; omega)).S
      have y1 := y0.below hb1
      have hrow : w1.ownsRow (w.heap.size + 2) 23 1 (.slice da zs.length dc) zs.length (zs.map (Value.float .f64)) := ownsRow_mono hown (by omega)
      have hne := own_ne hown (bo := W0.heap.size) (.inl (by omega))
      refine ⟨s2, ?_⟩
      refine wpAnyS_one (i := 7) (by kernel_rfl) (by decide) rfl rfl ?_
      clear s1
      go_simp
      refine ⟨by first | exact s2 | exact s2.2, ?_⟩
      clear s2
      refine wpAnyS_end (by kernel_rfl) ?_
      rw [hs0] at y1 hne
      obtain ⟨q1, q2, q3⟩ := y1.facts
      simp only [List.drop]
      go_wp2
      refine NoPanic.normal ?_
      exact ⟨rfl, _, _, _, rfl, of_fin y1 (by omega) hrow hne hb3⟩
  case imp =>
    rintro e a' w1 ⟨rfl, bo, da, dc, rfl, hbx, hbo, hrow, hne, hb⟩
    have x2 : Box w1 w.heap.size [.int .i64 R, .int .i64 C, .slice a zs.length cap] := x0.below (by rw [hs0]; exact hb)
    have x3 : Box w1 (w.heap.size + 1) [.slice none 0 0, .int .i64 0, .int .i64 0, .slice none 0 0, .bool false] := x1.below (by rw [hs0]; exact hb)
    obtain ⟨xs, hxs⟩ : ∃ xs, xs = (List.range zs.length).map fun p : Nat => Value.int .i64 (p : Int) := ⟨_, rfl⟩
    have hxl : xs.length = zs.length := by rw [hxs]; simp
    have HX : Hid (∀ k, k < zs.length → xs[k]? = some (Value.int .i64 (k : Int))) := fun k hk => by rw [hxs]; simp [hk]
    have hbl := hbx.lt
    have HXS := Lib.hid hxs
    have HLT := Lib.hid (fun g o (eg : da = some ⟨g, o, none⟩) => (hrow.lt g (by rw [eg]; rfl)).2)
    clear hxs x0 x1
    go_wp2
    go_loopw [4] (fun s wr => ∃ k : Nat, k ≤ zs.length ∧ s = .int .i64 k ∧ OI w1 bo w1.heap.size (.slice da zs.length dc) (.int .i64 R) (.int .i64 C) (.bool true) xs k wr) (fun s _ => zs.length - (intOf s).toNat)
    case atStart => exact ⟨0, Nat.zero_le _, rfl, _, hbx, World.ownsRow_nil _ _ _ _, Bel.refl _ _ _, Nat.le_refl _⟩
    case round =>
      obtain ⟨k, hk, rfl, sv, hbx', hrow', hbel, hs⟩ := hrel
      have y0 : Box wr w.heap.size [.int .i64 R, .int .i64 C, .slice a zs.length cap] := x2.belB (by omega) (by omega) hbel
      obtain ⟨a1, a2, a3⟩ := y0.facts
      obtain ⟨a4, a5, a6⟩ := hbx'.facts
      by_cases hlt : k < zs.length
      · have HXk := Lib.hid (HX.out k hlt)
        have HR := Lib.hid hrow'
        clear hrow'
        have hn3 : bo ≠ wr.heap.size := by omega
        have hkr : k + 1 ≤ zs.length := hlt
        go_wp2_with (at_builtin; refine wpList_append_lies _ rfl (.tmp 21) (.tmp 23) 46 rfl w1.heap.size 3 i0 (.int .i64 0) 1 8 Try.underlying46 hi0 hz0 hz1 hz2 rfl (by decide) _ k _ rfl (HR.out.alloc _) _ 1 1 [.int .i64 (k : Int)] rfl rfl (cell_one_new _ _ _) (by simp [Value.oneCell']) (by decide) (by unfold maxLen; omega) (by omega) (by simp; omega) _ rfl ?_; intro g cap' w2 hown hgrow hat hlt'; have hbx1 := Box.grown (Box.alloc hbx' _) hgrow (fun q e => by have := (HR.out.lt q e).1; omega); obtain ⟨q1, q2, q3⟩ := hbx1.facts)
        go_roundw
        case rel => exact ⟨k + 1, by omega, by go_num, OI.app hbx' HR.out hbel hs hbl HXk.out hgrow hown⟩
        case measure => simp [intOf]; omega
      · obtain rfl : zs.length = k := by omega
        have y1 : Box wr (w.heap.size + 1) [.slice none 0 0, .int .i64 0, .int .i64 0, .slice none 0 0, .bool false] := x3.belB (by omega) (by omega) hbel
        obtain ⟨a7, a8, a9⟩ := y1.facts
        rw [List.take_of_length_le (by omega), HXS.out] at hrow'
        have hrow2 : wr.ownsRow w1.heap.size 3 1 sv zs.length ((List.range zs.length).map fun p : Nat => Value.int .i64 (p : Int)) := hrow'
        obtain ⟨sa, scap, rfl, hI, hI5⟩ := itc_of_rowB hrow2
        rw [List.length_range] at *
        have HI := Lib.hid hI
        have HI5 := Lib.hid hI5
        clear hI hI5 hrow' hrow2
        have hrowD : wr.ownsRow (w.heap.size + 2) 23 1 (.slice da zs.length dc) zs.length (zs.map (Value.float .f64)) := ownsRow_belB hrow hbel hne
        have HD := Lib.hid hrowD
        clear hrowD hrow hne
        go_wp2
        refine bodyPost_ret (results_one rfl (rv_cell (g := w.heap.size + 1) rfl (y1.put5 _ _ _ _ _) rfl Try.underlying48 (by kernel_rfl))) rfl ⟨da, dc, _, rfl, fun st => ?_, ?_, ?_⟩
        · have hpl : (newV st R C).pls = List.range zs.length := by
            rw [HN.out]
            exact newV_pls st R C
          refine ⟨da, zs.length, dc, sa, scap, ?_, fun _ => ⟨rfl, rfl, rfl⟩, fun h => absurd h (by simp [newV]), ?_, ?_⟩
          · rw [show (newV st R C).r * (newV st R C).c = zs.length from HN.out.symm]; rfl
          · rw [hpl]
            exact HI.out.bel (P := fun b => w1.heap.size ≤ b) HI5.out (by omega) (Bel.refl5 _ _ _ _ _ _)
          · rw [hpl]
            intro hz
            obtain ⟨b, off, e, hb'⟩ := HI5.out hz
            exact ⟨b, off, e, by omega, fun g o eg => by have := HLT.out g o eg; omega⟩
        · exact ownsRow_mono (ownsRow_bel HD.out (Bel.refl5 _ _ _ _ _ _) (by omega)) (by omega)
        · exact ((hB0.trans (hb.mono (by omega))).trans ((hbel.mono (by omega)).below (by omega))).trans ((Bel.refl5 _ _ _ _ _ _).below (by omega))
theorem Of_ref (w : World) (R C : Nat) (a : Option Addr) (zs : List Nat) (cap : Nat) (hZ : Cel w a zs) (hn : zs.length = R * C) (hl : zs.length ≤ 262144) :
    Calls Try.prog 70 #[.agg #[.int .i64 R, .int .i64 C, .slice a zs.length cap]] w fun e w' => ∃ da dc x, e = .returned x ∧ (∀ st, RefV (fun b => w.heap.size ≤ b) w' da zs.length dc (newV st R C) x) ∧ w'.ownsRow w.heap.size 23 1 (.slice da zs.length dc) zs.length (zs.map (Value.float .f64)) ∧ Below w.heap.size w w' :=
  (Of_ref2 w R C a zs cap hZ hn hl).mono fun _ _ ⟨da, dc, x, he, hr, ho, hb⟩ => ⟨da, dc, x, he, fun st => (hr st).imp fun _ h => h.1, ho, hb⟩
end Go.Proofs.Ytpjdibanjmmbkaa
