/- The document's layers 10, 12: ones on a diagonal; values, and columns, sorted. No condition but on lengths. -/
import Derived.Test.YtbmnlohaidbmdaaQn
namespace Go.Proofs.Ytbmnlohaidbmdaa
open Go Go.RowKit
set_option maxRecDepth 1000000

/-- Ones on a diagonal. -/
def OneP (w : World) (n : Nat) (e : Ending) (w' : World) : Prop := ∃ a b cap, e = .returned (.agg #[.int .i64 n, .int .i64 n, .slice a (n * n) cap]) ∧ FS w' a b (oneL n n) ∧ a ≠ none ∧ Below w.heap.size w w'
set_option maxHeartbeats 4000000 in
theorem One10 (w : World) (n : Nat) (hn : n ≤ 512) : Calls Try.prog 17 #[.int .i64 n] w (OneP w n) := by
  have hnn : n * n ≤ 262144 := Nat.mul_le_mul hn hn
  have qM := fun W => run_New n n hnn W
  have e1 : (n : Int) * (n : Int) = ((n * n : Nat) : Int) := (Int.natCast_mul _ _).symm
  have hw1 : wrap64 ((n : Int) * (n : Int)) = (n : Int) * (n : Int) := by rw [e1]; unfold wrap64; omega
  obtain ⟨W0, hW0⟩ : ∃ W0, W0 = (((w.alloc (.cells #[.int .i64 0, .int .i64 0, .slice none 0 0] 26)).alloc (.cells (List.replicate (n * n) (Value.float .f64 0)).toArray 42)).alloc (.cells #[.int .i64 n, .int .i64 n, .slice (some ⟨w.heap.size + 1, 0, none⟩) (n * n) (n * n)] 26)) := ⟨_, rfl⟩
  have hB0 : Below w.heap.size w W0 := hW0 ▸ (((Below.refl _ _).alloc (Nat.le_refl _) _).alloc (by simp) _).alloc (by simp; omega) _
  have x2 : Box W0 w.heap.size [.int .i64 0, .int .i64 0, .slice none 0 0] := hW0 ▸ ((Box.newA w [_, _, _] _ rfl).alloc _).alloc _
  have xg : Flb W0 (w.heap.size + 1) (oneL n 0) := by
    have h1 : Box W0 (w.heap.size + 1) ((List.replicate (n * n) 0).map (Value.float .f64)) := by
      rw [List.map_replicate]
      exact hW0 ▸ (Box.newA _ _ _ (by simp)).alloc _
    exact Flb.ofBox h1 (fun v hv => by rw [(List.mem_replicate.1 hv).2]; kernel_rfl)
  have x3 : Box W0 (w.heap.size + 1 + 1) [.int .i64 n, .int .i64 n, .slice (some ⟨w.heap.size + 1, 0, none⟩) (n * n) (n * n)] := hW0 ▸ Box.newA _ [_, _, _] _ (by simp)
  have HX := Lib.hid (show _ ∧ _ ∧ _ ∧ _ from ⟨hB0, x2, xg, x3⟩)
  clear hB0 x2 xg e1 x3
  go_enter Try.func17, Try.ntmps17
  go_wp2_with fail
  simp only [List.toArray_replicate] at hW0
  rw [← hW0]
  clear hW0 qM hw1
  go_loopw [4] (fun s4 wr => ∃ i : Nat, s4 = .int .i64 i ∧ i ≤ n ∧ Below w.heap.size w wr ∧ Box wr w.heap.size [.int .i64 0, .int .i64 0, .slice none 0 0] ∧ Flb wr (w.heap.size + 1) (oneL n i) ∧ Box wr (w.heap.size + 1 + 1) [.int .i64 n, .int .i64 n, .slice (some ⟨w.heap.size + 1, 0, none⟩) (n * n) (n * n)]) (fun s4 _ => n - (intOf s4).toNat)
  case atStart => exact ⟨0, rfl, Nat.zero_le _, HX.out⟩
  case round =>
    obtain ⟨i, rfl, hi, hB, h2, hg, h3⟩ := hrel
    obtain ⟨q1, q2, q3⟩ := h3.facts
    by_cases hlt : i < n
    · have hpl := place_ltq hlt hlt
      have hgl : i * n + i < (oneL n i).length := by rw [oneL_len]; exact hpl
      obtain ⟨s1, c1⟩ := hg.at hgl
      have hglt := hg.lt
      have hgfz := hg.frozen
      have hm1 : (i : Int) * (n : Int) = ((i * n : Nat) : Int) := (Int.natCast_mul _ _).symm
      have hin : i * n ≤ 262144 := Nat.mul_le_mul (show i ≤ 512 by omega) hn
      have hm2 : ((i : Int) * (n : Int) + (i : Int)).toNat = i * n + i := by rw [hm1]; omega
      have hm3 : 0 ≤ (i : Int) * (n : Int) + (i : Int) := by rw [hm1]; omega
      have hm4 : (i : Int) * (n : Int) + (i : Int) < ((n * n : Nat) : Int) := by rw [hm1]; omega
      have hm5 : i * n + i < n * n := hpl
      have hw2 : wrap64 ((i : Int) * (n : Int)) = (i : Int) * (n : Int) := by rw [hm1]; unfold wrap64; omega
      have hw3 : wrap64 ((i : Int) * (n : Int) + (i : Int)) = (i : Int) * (n : Int) + (i : Int) := by rw [hm1]; unfold wrap64; omega
      have HI := Lib.hid (show _ ∧ _ ∧ _ ∧ _ from ⟨hB, h2, hg, h3⟩)
      have HG := Lib.hid (show oneL n (i + 1) = (oneL n i).set (i * n + i) 4607182418800017408 from rfl)
      clear hB h2 hg h3 hm1 hin hpl hgl
      generalize (oneL n i).getD (i * n + i) 0 = x0 at *
      go_wp2
      go_roundw
      case rel =>
        obtain ⟨hB, h2, hg, h3⟩ := HI.out
        have hg1 := hg.set (i * n + i) 4607182418800017408 0
        rw [raw_of_not (show isnan 4607182418800017408 = false by kernel_rfl)] at hg1
        exact ⟨i + 1, by go_num, hlt, below_set hB (by omega) _ _, h2.set_other (by omega) _ _, by rw [HG.out]; exact hg1, h3.set_other (by omega) _ _⟩
      case measure => simp [intOf]; omega
    · obtain rfl : i = n := by omega
      have HI := Lib.hid (show _ ∧ _ ∧ _ ∧ _ from ⟨hB, h2, hg, h3⟩)
      obtain ⟨p1, p2, p3⟩ := h2.facts
      clear hB h2 hg h3
      go_wp2
      have hne : w.heap.size ≤ w.heap.size := Nat.le_refl _
      obtain ⟨hB, h2, hg, h3⟩ := HI.out
      refine bodyPost_ret (results_one rfl (rv_cell (g := w.heap.size) rfl (h2.put3 _ _ _) rfl Try.underlying26 (by kernel_rfl))) rfl ⟨_, w.heap.size + 1, _, rfl, FS.put3 (.inr ⟨rfl, hg⟩) (by omega) _ _ _, by simp, below_put3 hB hne _ _ _⟩
end Go.Proofs.Ytbmnlohaidbmdaa
