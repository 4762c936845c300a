/- The law's known rows of layer 12 hold. No condition. -/
import Derived.Test.YtbmnlohaidbmdaaQv
import Derived.Test.YtbmnlohaidbmdaaQo
namespace Go.Proofs.Ytbmnlohaidbmdaa
open Go Go.RowKit
set_option maxRecDepth 1000000

theorem kn12a : solQ 3 0 3 ⟨[4613937818241073152, 4607182418800017408, 4611686018427387904], [0, 0] ++ [0], []⟩ 0 = (⟨[4613937818241073152, 4607182418800017408, 4611686018427387904], [0, 0, 0], []⟩, 0, true) := by kernel_rfl
theorem kn12b : (let y := solQ 2 0 2 ⟨[0, 0], [4607182418800017408] ++ [0], []⟩ 0; let w := (sortQ 2 0 y.1.d y.1.z 2).1; y.2.2 && y.1.d.all ffin && decide (0 < y.2.1) && decide (y.2.1 ≤ 60) && decide (w.length = 2) && flt 13830554906014755953 (w.getD 0 0) && flt (w.getD 0 0) 13830553554934867742 && flt 4607181518080091934 (w.getD 1 0)) = true := by kernel_rfl
theorem kn12c : solQ 2 2 2 ⟨[4611686018427387904, 4607182418800017408], [0] ++ [0], oneL 2 2⟩ 0 = (⟨[4611686018427387904, 4607182418800017408], [0, 0], [4607182418800017408, 0, 0, 4607182418800017408]⟩, 0, true) := by kernel_rfl
theorem kn12d : sortQ 2 2 [4611686018427387904, 4607182418800017408] [4607182418800017408, 0, 0, 4607182418800017408] 2 = ([4607182418800017408, 4611686018427387904], [0, 4607182418800017408, 4607182418800017408, 0]) := by kernel_rfl
theorem Words.ofB {l : List Nat} (h : (l.all fun x => decide (x < 18446744073709551616)) = true) : Words l := fun v hv => by simpa using List.all_eq_true.1 h v hv
theorem Fls.lit (w : World) (T : TypeId) (l : List Nat) (hl : (l.all fun x => !isnan x) = true) : Fls (w.alloc (.cells (l.map (Value.float .f64)).toArray T)) (some ⟨w.heap.size, 0, none⟩) l :=
  (Flb.ofBox (zs := l) (Box.newA w _ T rfl) (fun x hx => by simpa using List.all_eq_true.1 hl x hx)).fls
theorem val_a (w : World) (a b : Addr) (hd : Fls w (some a) [4613937818241073152, 4607182418800017408, 4611686018427387904]) (he : Fls w (some b) [0, 0]) :
    Calls Try.prog 15 #[.agg #[.slice (some a) 3 3, .slice (some b) 2 2]] w fun r w' => (∃ a cap, r = .returned (.tuple #[.slice a 3 cap, .int .i64 0, .int .i64 0]) ∧ Fls w' a [4607182418800017408, 4611686018427387904, 4613937818241073152]) ∧ Below w.heap.size w w' := by
  refine (Values_ok w (some a) (some b) _ _ 3 2 hd he (fun h => by cases h) (fun h => by cases h) (Words.ofB (by kernel_rfl)) (Words.ofB (by kernel_rfl)) (by decide) rfl (by kernel_rfl) (by kernel_rfl)).mono ?_
  intro r w' h
  unfold ValQ at h
  have hk := kn12a
  simp only [List.length_cons, List.length_nil, Nat.zero_add, Nat.reduceAdd] at h hk
  rw [hk] at h
  rw [if_pos ⟨rfl, by kernel_rfl⟩] at h
  obtain ⟨a', cap, rfl, hF, hb⟩ := h
  have hs := knq1
  exact ⟨⟨a', cap, rfl, by rw [← show (sortQ 3 0 [4613937818241073152, 4607182418800017408, 4611686018427387904] [] 3).1 = [4607182418800017408, 4611686018427387904, 4613937818241073152] by rw [hs]]; exact hF⟩, hb⟩
theorem val_b (w : World) (a b : Addr) (hd : Fls w (some a) [0, 0]) (he : Fls w (some b) [4607182418800017408]) :
    Calls Try.prog 15 #[.agg #[.slice (some a) 2 2, .slice (some b) 1 1]] w fun r w' => (∃ (a : Option Addr) (cap k x y : Nat), r = .returned (.tuple #[.slice a 2 cap, .int .i64 k, .int .i64 0]) ∧ 0 < k ∧ k ≤ 60 ∧ Fls w' a [x, y] ∧ flt 13830554906014755953 x = true ∧ flt x 13830553554934867742 = true ∧ flt 4607181518080091934 y = true) ∧ Below w.heap.size w w' := by
  refine (Values_ok w (some a) (some b) _ _ 2 1 hd he (fun h => by cases h) (fun h => by cases h) (Words.ofB (by kernel_rfl)) (Words.ofB (by kernel_rfl)) (by decide) rfl (by kernel_rfl) (by kernel_rfl)).mono ?_
  intro r w' h
  unfold ValQ at h
  have hk := kn12b
  simp only [List.length_cons, List.length_nil, Nat.zero_add, Nat.reduceAdd] at h
  generalize solQ 2 0 2 ⟨[0, 0], [4607182418800017408] ++ [0], []⟩ 0 = y at *
  simp only [Bool.and_eq_true, decide_eq_true_eq] at hk
  obtain ⟨⟨⟨⟨⟨⟨⟨h1, h2⟩, h3⟩, h4⟩, h5⟩, h6⟩, h7⟩, h8⟩ := hk
  rw [if_pos ⟨h1, h2⟩] at h
  obtain ⟨a', cap, rfl, hF, hb⟩ := h
  generalize (sortQ 2 0 y.1.d y.1.z 2).1 = l at *
  obtain ⟨x, y', rfl⟩ : ∃ x y', l = [x, y'] := by
    cases l with
    | nil => simp at h5
    | cons x l => cases l with
      | nil => simp at h5
      | cons y' l => cases l with
        | nil => exact ⟨x, y', rfl⟩
        | cons _ _ => simp at h5
  exact ⟨⟨a', cap, _, x, y', rfl, h3, h4, hF, h6, h7, h8⟩, hb⟩
theorem sol_c (w : World) (a b : Addr) (za : Option Addr) (zc : Nat) (hd : Fls w (some a) [4611686018427387904, 4607182418800017408]) (he : Fls w (some b) [0]) (hz : Fls w za (oneL 2 2)) (hza : za ≠ none) :
    Calls Try.prog 10 #[.agg #[.slice (some a) 2 2, .slice (some b) 1 1], .agg #[.int .i64 2, .int .i64 2, .slice za 4 zc]] w fun r w' => (∃ a cap za zc, r = .returned (.tuple #[.slice a 2 cap, .agg #[.int .i64 2, .int .i64 2, .slice za 4 zc], .int .i64 0, .int .i64 0]) ∧ Fls w' a [4607182418800017408, 4611686018427387904] ∧ Fls w' za [0, 4607182418800017408, 4607182418800017408, 0]) ∧ Below w.heap.size w w' := by
  refine (Solve_ok w (some a) (some b) za _ _ _ 2 1 zc 2 hd he hz (fun h => by cases h) (fun h => by cases h) (fun h => absurd h hza) (Words.ofB (by kernel_rfl)) (Words.ofB (by kernel_rfl)) (Words.ofB (by kernel_rfl)) (by decide) (by decide) rfl rfl (by kernel_rfl) (by kernel_rfl) (by kernel_rfl)).mono ?_
  intro r w' h
  unfold SolveP SolveQ at h
  have hk := kn12c
  have hs := kn12d
  simp only [List.length_cons, List.length_nil, Nat.zero_add, Nat.reduceAdd] at h hk
  rw [hk] at h
  rw [if_pos ⟨rfl, by kernel_rfl⟩] at h
  obtain ⟨a', cap, za', zc', rfl, hF, hG, hb⟩ := h
  simp only [hs] at hF hG
  exact ⟨⟨a', cap, za', zc', rfl, hF, hG⟩, hb⟩
end Go.Proofs.Ytbmnlohaidbmdaa
