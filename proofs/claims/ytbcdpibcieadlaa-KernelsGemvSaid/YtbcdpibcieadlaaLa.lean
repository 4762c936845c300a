/- Layer 8, the document: an entry, a row, both, a square. No condition but on lengths. -/
import Derived.Test.YtbcdpibcieadlaaKr
import Derived.Test.YtbcdpibcieadlaaOw
namespace Go.Proofs.Ytbcdpibcieadlaa
open Go Go.RowKit
set_option maxRecDepth 1000000

theorem w64m {x : Int} (m : Nat) (e : x = (m : Int)) (h : m ≤ 9223372036854775807) : wrap64 x = (m : Int) := by subst e; unfold wrap64; omega
theorem wi64m {x : Int} (m : Nat) (e : x = (m : Int)) (h : m ≤ 9223372036854775807) : IntKind.i64.wrap x = (m : Int) := by subst e; rw [IntKind.wrap_i64]; omega
theorem RBoth_any (w : World) (b o a s t u : Nat) : Calls Try.prog 76 #[.float .f64 b, .float .f64 (raw o u), .float .f64 a, .float .f64 (raw s t)] w fun e w' => (∃ u, e = .returned (.float .f64 (raw (bothW b o a s) u))) ∧ Below w.heap.size w w' := by
  unfold bothW
  go_enter Try.func76, Try.ntmps76
  go_wp2_with (first | (fail) | (refine wpList_flt rfl rfl rfl rfl rfl ?_; intro K hK _ _; go_frame; refine hK _ _ ?_; clear hK K))
  simp only [fadd_rawl, fadd_rawr, fmul_rawr]
  go_ret
  exact ⟨⟨_, rfl⟩, below_drewN _ (below_drewN _ (below_drewN _ (Below.refl _ _)))⟩
set_option maxHeartbeats 1000000 in
theorem RSquare_any (r c : Nat) (a : Option Addr) (n cap : Nat) (w : World) : Calls Try.prog 34 #[.agg #[.int .i64 r, .int .i64 c, .slice a n cap]] w fun e w' => e = .returned (.bool (decide (r = c))) ∧ Below w.heap.size w w' := by
  have hB0 : Below w.heap.size w (w.alloc (.cells #[.int .i64 r, .int .i64 c, .slice a n cap] 24)) := (Below.refl _ _).alloc (Nat.le_refl _) _
  have HX := Lib.hid hB0
  have t1 : ((r : Int) == (c : Int)) = decide (r = c) := by rw [Bool.eq_iff_iff]; simp; omega
  generalize decide (r = c) = q at *
  clear hB0
  go_enter Try.func34, Try.ntmps34
  go_wp2
  go_ret
  exact ⟨rfl, HX.out⟩
set_option maxHeartbeats 2000000 in
theorem RAt_any (w : World) (r c i j : Nat) (a : Option Addr) (zs : List Nat) (cap : Nat) (hZ : Fls w a zs) (hl : zs.length ≤ 262144) (hi : i * c + j < zs.length) :
    Calls Try.prog 82 #[.agg #[.int .i64 r, .int .i64 c, .slice a zs.length cap], .int .i64 i, .int .i64 j] w fun e w' => (∃ s, e = .returned (.float .f64 (raw (zs.getD (i * c + j) 0) s))) ∧ Below w.heap.size w w' := by
  have hB0 : Below w.heap.size w (w.alloc (.cells #[.int .i64 r, .int .i64 c, .slice a zs.length cap] 24)) := (Below.refl _ _).alloc (Nat.le_refl _) _
  obtain ⟨b, off, s, rfl, hb, hc⟩ := (hZ.below hB0).at hi
  have x0 := Box.newA w [.int .i64 r, .int .i64 c, .slice (some ⟨b, off, none⟩) zs.length cap] 24 rfl
  obtain ⟨p1, p2, p3⟩ := x0.facts
  obtain ⟨P, hP⟩ : ∃ P, P = i * c := ⟨_, rfl⟩
  have t1 : wrap64 ((i : Int) * (c : Int)) = (P : Int) := w64m P (by rw [hP]; push_cast; rfl) (by omega)
  rw [← hP] at hi hc ⊢
  generalize zs.getD (P + j) 0 = v at *
  have HX := Lib.hid hB0
  clear hZ hB0 x0 hP
  go_enter Try.func82, Try.ntmps82
  go_wp2
  go_ret
  exact ⟨⟨s, rfl⟩, HX.out⟩
def rowL (zs : List Nat) (c i : Nat) : List Nat := (List.range c).map fun k => zs.getD (i * c + k) 0
theorem rowL_len (zs : List Nat) (c i : Nat) : (rowL zs c i).length = c := by unfold rowL; simp
theorem rowL_at (zs : List Nat) (c i k : Nat) (hk : k < c) : atL (rowL zs c i) k = zs.getD (i * c + k) 0 := by
  unfold atL rowL
  rw [List.getD_eq_getElem?_getD, List.getElem?_map, List.getElem?_range hk]
  rfl
theorem Fls.row {w : World} {a : Option Addr} {zs : List Nat} (h : Fls w a zs) {c i : Nat} (hi : i * c + c ≤ zs.length) (hc : 0 < c) : ∃ b off, a = some ⟨b, off, none⟩ ∧ Fls w (some ⟨b, off + i * c, none⟩) (rowL zs c i) := by
  have hz : zs ≠ [] := fun e => by rw [e] at hi; simp at hi; omega
  obtain ⟨b, off, rfl, hlt, hcl⟩ := h hz
  refine ⟨b, off, rfl, fun _ => ⟨b, off + i * c, rfl, hlt, fun k v hk => ?_⟩⟩
  have hk2 : k < c := by have := (List.getElem?_eq_some_iff.1 hk).1; rwa [rowL_len] at this
  unfold rowL at hk
  rw [List.getElem?_map, List.getElem?_range hk2] at hk
  simp only [Option.map_some, Option.some.injEq] at hk
  obtain ⟨s, hs⟩ := hcl (i * c + k) v (by rw [← hk, List.getD_eq_getElem?_getD, List.getElem?_eq_getElem (by omega)]; rfl)
  exact ⟨s, by rw [Nat.add_assoc]; exact hs⟩
set_option maxHeartbeats 2000000 in
theorem RRow_any (w : World) (r c i : Nat) (a : Option Addr) (zs : List Nat) (cap : Nat) (hZ : Fls w a zs) (hl : zs.length ≤ 262144) (hn : zs.length = r * c) (hi : i < r) (hcap : zs.length ≤ cap) (hcm : cap ≤ maxLen) (hr : r ≤ 512) :
    Calls Try.prog 77 #[.agg #[.int .i64 r, .int .i64 c, .slice a zs.length cap], .int .i64 i] w fun e w' => (∃ a' cap', e = .returned (.slice a' (rowL zs c i).length cap') ∧ Fls w' a' (rowL zs c i)) ∧ Below w.heap.size w w' := by
  have hB0 : Below w.heap.size w (w.alloc (.cells #[.int .i64 r, .int .i64 c, .slice a zs.length cap] 24)) := (Below.refl _ _).alloc (Nat.le_refl _) _
  have x0 := Box.newA w [.int .i64 r, .int .i64 c, .slice a zs.length cap] 24 rfl
  rw [rowL_len]
  have hic : i * c + c ≤ r * c := by rw [← Nat.succ_mul]; exact Nat.mul_le_mul_right _ hi
  obtain ⟨P, hP⟩ : ∃ P, P = i * c := ⟨_, rfl⟩
  have t1 : wrap64 ((i : Int) * (c : Int)) = (P : Int) := w64m P (by rw [hP]; push_cast; rfl) (by omega)
  rw [← hP, ← hn] at hic
  unfold maxLen at hcm
  by_cases hc : c = 0
  · subst hc
    obtain rfl : zs = [] := List.eq_nil_of_length_eq_zero (by rw [hn, Nat.mul_zero])
    obtain rfl : P = 0 := by rw [hP, Nat.mul_zero]
    obtain ⟨p1, p2, p3⟩ := x0.facts
    have HX := Lib.hid hB0
    have hnil : rowL [] 0 i = [] := rfl
    rw [hnil]
    clear hZ hB0 x0 hP hn hnil
    by_cases h0 : cap = 0
    · subst h0
      go_enter Try.func77, Try.ntmps77
      go_wp2
      go_ret
      exact ⟨⟨_, _, rfl, fun h => absurd rfl h⟩, HX.out⟩
    · go_enter Try.func77, Try.ntmps77
      go_wp2
      go_ret
      exact ⟨⟨_, _, rfl, fun h => absurd rfl h⟩, HX.out⟩
  · obtain ⟨b, off, rfl, hF⟩ := (hZ.below hB0).row (i := i) (by rw [← hP]; exact hic) (Nat.pos_of_ne_zero hc)
    obtain ⟨p1, p2, p3⟩ := x0.facts
    have h0 : ¬ cap = P := by omega
    rw [← hP] at hF
    have HX := Lib.hid (show _ ∧ _ from ⟨hB0, hF⟩)
    generalize rowL zs c i = L at *
    generalize zs.length = n at *
    clear hZ hB0 x0 hP hn hF
    go_enter Try.func77, Try.ntmps77
    go_wp2
    go_ret
    exact ⟨⟨some ⟨b, off + P, none⟩, cap - P, congrArg Ending.returned (show Value.slice (some ⟨b, off + P, none⟩) (P + c - P) (cap - P) = Value.slice (some ⟨b, off + P, none⟩) c (cap - P) by rw [Nat.add_sub_cancel_left]), HX.out.2⟩, HX.out.1⟩
end Go.Proofs.Ytbcdpibcieadlaa
