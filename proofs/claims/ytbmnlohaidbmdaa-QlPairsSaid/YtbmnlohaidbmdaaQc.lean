/- Layer 12: two columns of the matrix are turned. No condition but on places. -/
import Derived.Test.YtbmnlohaidbmdaaQb
import Derived.Test.YtbmnlohaidbmdaaApc
namespace Go.Proofs.Ytbmnlohaidbmdaa
open Go Go.RowKit
set_option maxRecDepth 100000

set_option maxHeartbeats 8000000 in
theorem turn_any (w : World) (X zb rows cols i c sc s ss zc : Nat) (dv ev : Value) (z : List Nat) (hX : Box w X [dv, ev, .int .i64 rows, .int .i64 cols, .slice (some ⟨zb, 0, none⟩) z.length zc]) (hz : Flb w zb z) (hl : z.length = rows * cols) (hlc : z.length ≤ zc) (hcap : zc ≤ maxLen) (hi : i + 1 < cols) (hne : X ≠ zb) (hr : rows ≤ 512) (hc : cols ≤ 512) :
    Calls Try.prog 40 #[.pointer (some ⟨X, 0, none⟩), .int .i64 i, .float .f64 (raw c sc), .float .f64 (raw s ss)] w fun e w' => e = .returned (.tuple #[]) ∧ Flb w' zb (turnL z cols i c s rows) ∧ Bel w.heap.size zb w w' := by
  unfold maxLen at hcap
  obtain ⟨a1, a2, a3⟩ := hX.facts
  go_enter Try.func40, Try.ntmps40
  go_wp2_with fail
  go_loopw [17] (fun s17 wr => ∃ r : Nat, r ≤ rows ∧ s17 = .int .i64 r ∧ Flb wr zb (turnL z cols i c s r) ∧ Bel w.heap.size zb w wr) (fun s17 _ => rows - (intOf s17).toNat)
  case atStart => exact ⟨0, Nat.zero_le _, rfl, hz, Bel.refl _ _ _⟩
  case round =>
    obtain ⟨r, hrr, rfl, hF, hB⟩ := hrel
    by_cases hlt : r < rows
    · have hXr := hX.belB hX.lt hne hB
      clear a1 a2 a3
      obtain ⟨a1, a2, a3⟩ := hXr.facts
      have hlen := turnL_len z cols i c s r
      have hpl := place_ltq hlt (show i + 1 < cols from hi)
      obtain ⟨sa, ca⟩ := hF.at (i := r * cols + i) (by omega)
      obtain ⟨sb, cb⟩ := hF.at (i := r * cols + (i + 1)) (by omega)
      have HT := Lib.hid (show turnL z cols i c s (r + 1) = turnR (turnL z cols i c s r) cols i c s r from rfl)
      have hglt := hF.lt
      have hfz := hF.frozen
      have hrc : r * cols ≤ 262144 := Nat.le_trans (Nat.mul_le_mul (show r ≤ 512 by omega) hc) (by decide)
      have hm1 : (r : Int) * (cols : Int) = ((r * cols : Nat) : Int) := (Int.natCast_mul _ _).symm
      have hw1 : IntKind.i64.wrap ((r : Int) * (cols : Int)) = (r : Int) * (cols : Int) := by rw [hm1, IntKind.wrap_i64]; omega
      have hm2 : ((r : Int) * (cols : Int)).toNat = r * cols := by rw [hm1, Int.toNat_natCast]
      have hm3 : 0 ≤ (r : Int) * (cols : Int) := by omega
      have hm4 : (r : Int) * (cols : Int) ≤ (z.length : Int) := by omega
      have hm5 : (r : Int) * (cols : Int) ≤ (zc : Int) := by omega
      have hm6 : r * cols ≤ z.length := by omega
      have hm7 : r * cols ≤ zc := by omega
      have hm8 : i < z.length - r * cols := by omega
      have hm9 : i + 1 < z.length - r * cols := by omega
      have hw2 : IntKind.i64.wrap ((i : Int) + 1) = (i : Int) + 1 := by rw [IntKind.wrap_i64]; omega
      have hxl := hXr.lt
      have HL := Lib.hid (show _ ∧ _ ∧ _ from ⟨hl, hpl, hm1⟩)
      clear hl hpl hm1
      go_wp2_with fail
      refine wp_region_nqb 14 (fun _ _ _ => False) (by kernel_rfl) (by kernel_rfl) ?_
      intro C R hc hb' hb2 hd hR
      simp only [List.take_succ_cons, List.take_zero]
      repeat (
        first
          | (refine nqW_plain (fun K hK => ?_))
          | (refine nqW_step (fun K hK => ?_); go_simp)
        first
          | (refine nq_move rfl ?_; go_simp; refine hK _ ?_; clear hK K)
          | (refine nq_assign rfl ?_; go_simp; refine hK _ ?_; clear hK K)
          | (refine nq_flt rfl rfl rfl rfl hd ?_; intro _; go_frame; refine hK _ ?_; clear hK K)
          | (refine nq_same ?_; intro w' hw'; go_simp; (try go_bits); refine hK _ ?_; clear hK K hw' w')
          | (refine nq_same ?_; intro w' hw'; go_simp; rw [if_pos (by omega)]; go_simp; (try go_bits); refine hK _ ?_; clear hK K hw' w')
          | (go_simp; refine hK _ ?_; clear hK K))
      refine nqW_nil (hR _ ?_)
      clear hc hb' hb2 hd hR
      intro w' hw'
      simp only [List.drop]
      have hF1 := hF.below hw'
      have hB1 := bel_step hB hB.size (Bel.of hw')
      clear hF hB ca cb hglt hfz a1 a2 a3 hXr hxl hw'
      obtain ⟨sa1, ca⟩ := hF1.at (i := r * cols + i) (by omega)
      obtain ⟨sb1, cb⟩ := hF1.at (i := r * cols + (i + 1)) (by omega)
      have hglt := hF1.lt
      have hfz := hF1.frozen
      generalize hva : (turnL z cols i c s r).getD (r * cols + i) 0 = va at *
      generalize hvb : (turnL z cols i c s r).getD (r * cols + (i + 1)) 0 = vb at *
      go_wp2_with fail
      generalize w' = w1 at *
      refine wp_region_nqb 11 (fun _ _ _ => False) (by kernel_rfl) (by kernel_rfl) ?_
      intro C R hc hb' hb2 hd hR
      simp only [List.take_succ_cons, List.take_zero]
      repeat (
        first
          | (refine nqW_plain (fun K hK => ?_))
          | (refine nqW_step (fun K hK => ?_); go_simp)
        first
          | (refine nq_move rfl ?_; go_simp; refine hK _ ?_; clear hK K)
          | (refine nq_assign rfl ?_; go_simp; refine hK _ ?_; clear hK K)
          | (refine nq_flt rfl rfl rfl rfl hd ?_; intro _; go_frame; refine hK _ ?_; clear hK K)
          | (refine nq_same ?_; intro w' hw'; go_simp; (try go_bits); refine hK _ ?_; clear hK K hw' w')
          | (refine nq_same ?_; intro w' hw'; go_simp; rw [if_pos (by omega)]; go_simp; (try go_bits); refine hK _ ?_; clear hK K hw' w')
          | (go_simp; refine hK _ ?_; clear hK K))
      refine nqW_nil (hR _ ?_)
      clear hc hb' hb2 hd hR
      intro w' hw'
      simp only [List.drop]
      have hF2 := hF1.below hw'
      have hB2 := bel_step hB1 hB1.size (Bel.of hw')
      clear hF1 hB1 ca cb hglt hfz hw'
      obtain ⟨sa2, ca⟩ := hF2.at (i := r * cols + i) (by omega)
      obtain ⟨sb2, cb⟩ := hF2.at (i := r * cols + (i + 1)) (by omega)
      have hglt := hF2.lt
      have hfz := hF2.frozen
      go_wp2_with (first | (refine wpList_flt rfl rfl rfl rfl rfl ?_; intro K hK _ _; go_frame; refine hK _ _ ?_; clear hK K))
      go_roundw
      case rel =>
        refine ⟨r + 1, hlt, by go_num, ?_, ((bel_step hB2 hB2.size (Bel.of (below_drewN _ (Below.refl _ _)))).set _ _).set _ _⟩
        rw [HT.out]
        unfold turnR
        simp only [Nat.add_assoc]
        rw [hva, hvb]
        exact ((hF2.below (below_drewN _ (Below.refl _ _))).set (r * cols + i) _ _).set (r * cols + (i + 1)) _ _
      case measure => simp [intOf]; omega
    · obtain rfl : r = rows := by omega
      go_wp2
      exact bodyPost_end (results_none rfl _ _ _) rfl ⟨rfl, hF, hB⟩
theorem turn_none (w : World) (X cols i c sc s ss : Nat) (dv ev zv : Value) (hX : Box w X [dv, ev, .int .i64 0, .int .i64 cols, zv]) :
    Calls Try.prog 40 #[.pointer (some ⟨X, 0, none⟩), .int .i64 i, .float .f64 (raw c sc), .float .f64 (raw s ss)] w fun e w' => e = .returned (.tuple #[]) ∧ w = w' := by
  obtain ⟨a1, a2, a3⟩ := hX.facts
  go_enter Try.func40, Try.ntmps40
  go_wp2_with fail
  go_loopw [17] (fun s17 wr => s17 = .int .i64 0 ∧ w = wr) (fun _ _ => 0)
  case atStart => exact ⟨rfl, rfl⟩
  case round =>
    obtain ⟨rfl, rfl⟩ := hrel
    go_wp2
    exact bodyPost_end (results_none rfl _ _ _) rfl ⟨rfl, rfl⟩
end Go.Proofs.Ytbmnlohaidbmdaa
