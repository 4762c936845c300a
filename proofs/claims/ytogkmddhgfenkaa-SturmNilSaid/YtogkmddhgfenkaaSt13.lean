/- Package sturm: closed facts on known rows. -/
import Derived.Test.YtogkmddhgfenkaaSt12
namespace Go.Proofs.Ytogkmddhgfenkaa
open Go Go.RowKit Go.Shelf
set_option maxRecDepth 100000
theorem kn1 : cntN [4611686018427387904, 4607182418800017408] [0] 4609434218613702656 = 1 := by kernel_rfl
theorem kn1e : askS [4611686018427387904, 4607182418800017408] [0] [4609434218613702656] = 0 := by kernel_rfl
theorem kn2 : cntN [4611686018427387904] [] 4611686018427387904 = 0 := by kernel_rfl
theorem kn2e : askS [4611686018427387904] [] [4611686018427387904] = 0 := by kernel_rfl
theorem kn3 : cntN [4611686018427387904] [] 4612811918334230528 = 1 := by kernel_rfl
theorem kn3e : askS [4611686018427387904] [] [4612811918334230528] = 0 := by kernel_rfl
theorem kn4 : bndL [0, 0] [4607182418800017408] 2 = (13830554455654793216, 4607182418800017408) := by kernel_rfl
theorem kn4e : bndE [0, 0] [4607182418800017408] = 0 := by kernel_rfl
theorem kn5 : findX [4611686018427387904] [] 0 = 4611686018427387904 := by kernel_rfl
theorem kn5e : findE [4611686018427387904] [] 0 = 0 := by kernel_rfl
theorem kn6e : bndE [4613937818241073152, 4607182418800017408, 4611686018427387904] [0, 0] = 0 := by kernel_rfl
theorem kn8 : findE [4611686018427387904] [] 1 = 2 := by kernel_rfl
theorem kn6 : allL [4613937818241073152, 4607182418800017408, 4611686018427387904] [0, 0] 3 = [4607182418800017408, 4611686018427387904, 4613937818241073152] := by kernel_rfl
theorem kn7 : allL [0, 0] [4607182418800017408] 2 = [13830554455654793216, 4607182418800017408] := by kernel_rfl

set_option maxHeartbeats 1000000 in
theorem Tri_any (w : World) (da ea : Option Addr) (n dc m ec : Nat) :
    Calls Try.prog 56 #[.slice da n dc, .slice ea m ec] w fun e w' => e = .returned (.agg #[.slice da n dc, .slice ea m ec]) ∧ Below w.heap.size w w' := by
  have x0 : Box (w.alloc (.cells #[.slice none 0 0, .slice none 0 0] 51)) w.heap.size [.slice none 0 0, .slice none 0 0] := Box.newA w [_, _] _ rfl
  have hB0 : Below w.heap.size w (w.alloc (.cells #[.slice none 0 0, .slice none 0 0] 51)) := (Below.refl _ _).alloc (Nat.le_refl _) _
  obtain ⟨a1, a2, a3⟩ := x0.facts
  go_enter Try.func56, Try.ntmps56
  go_wp2
  exact bodyPost_ret (results_one rfl (rv_cell (g := w.heap.size) rfl (Box.newA w [_, _] _ rfl) rfl Try.underlying51 (by kernel_rfl))) rfl ⟨rfl, (Below.refl _ _).alloc (Nat.le_refl _) _⟩
theorem fls_box {W : World} {b : Nat} {xs : List Nat} (hb : Box W b (xs.map (Value.float .f64))) (hn : xs.all (fun x => !isnan x) = true) : Fls W (some ⟨b, 0, none⟩) xs := fun _ => ⟨b, 0, rfl, hb.lt, fun i v hi => ⟨0, by
  have hv : isnan v = false := by
    have := List.all_eq_true.1 hn v (List.mem_of_getElem? hi)
    simpa using this
  rw [hb.cell, Nat.zero_add, List.getElem?_map, hi, raw_of_not hv]
  rfl⟩⟩
set_option maxHeartbeats 1000000 in
theorem near_any (w : World) (x y : Nat) (hx : x < 18446744073709551616) : Calls Try.prog 71 #[.float .f64 x, .float .f64 y] w fun e w' => e = .returned (.bool (flt (fabs (fsub x y)) 4382569440205035030)) ∧ Below w.heap.size w w' := by
  have HA := Lib.hid (fun (s : Nat) (W : World) => Abs_any (raw (fsub x y) s) (raw_lt (fsub_lt x y) s) W)
  have HR := Lib.hid (fun s => fabs_raw (fsub x y) s)
  go_enter Try.func71, Try.ntmps71
  go_wp2_with (first | (go_at_call 75; refine (HA.out _ _).mono ?_; rintro e w' ⟨rfl, rfl⟩; obtain ⟨t, ht⟩ := HR.out _; rw [ht]) | (refine wpList_flt rfl rfl rfl rfl rfl ?_; intro K hK _ _; go_frame; refine hK _ _ ?_; clear hK K))
  go_ret
  exact ⟨by simp [go_sem], below_drewN _ (Below.refl _ _)⟩
theorem Copysign_c (w : World) : Calls Try.prog 72 #[.float .f64 0, .float .f64 13830554455654793216] w fun e w' => e = .returned (.float .f64 9223372036854775808) ∧ w = w' := by
  have e1 : bits .andNot .u64 0 9223372036854775808 = 0 := by kernel_rfl
  have e2 : bits .and .u64 13830554455654793216 9223372036854775808 = 9223372036854775808 := by kernel_rfl
  have e3 : bits .or .u64 0 9223372036854775808 = 9223372036854775808 := by kernel_rfl
  go_enter Try.func72, Try.ntmps72
  go_wp2
  go_ret
  exact ⟨rfl, rfl⟩
set_option maxHeartbeats 2000000 in
theorem All_nil (w : World) : Calls Try.prog 41 #[.agg #[.slice none 0 0, .slice none 0 0]] w fun e w' => e = .returned (.tuple #[.slice none 0 0, .int .i64 0, .int .i64 0]) ∧ Below w.heap.size w w' := by
  have x0 : Box (w.alloc (.cells #[.slice none 0 0, .slice none 0 0] 51)) w.heap.size [.slice none 0 0, .slice none 0 0] := Box.newA w [_, _] _ rfl
  have hB0 : Below w.heap.size w (w.alloc (.cells #[.slice none 0 0, .slice none 0 0] 51)) := (Below.refl _ _).alloc (Nat.le_refl _) _
  have HA := Lib.hid (fun (W : World) => ask13_any W none none none [] [] [] 0 0 0 (fun h => absurd rfl h) (fun h => absurd rfl h) (fun h => absurd rfl h) (by decide) (by decide) (by decide))
  rw [show askS [] [] [] = 0 from by kernel_rfl] at HA
  go_enter Try.func41, Try.ntmps41
  go_wp2_with fail
  refine (HA.out _).mono ?_
  rintro e w1 ⟨rfl, hb1⟩
  obtain ⟨a1, a2, a3⟩ := (x0.below hb1).facts
  have hB1 := below_step hB0 hB0.size hb1
  go_wp2
  exact bodyPost_ret (results_tmp3 rfl _ _ _) rfl ⟨rfl, hB1⟩
end Go.Proofs.Ytogkmddhgfenkaa
