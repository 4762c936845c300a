/- The statement's own function: noughts, and ones on a diagonal. -/
import Derived.Test.YtpjdibanjmmbkaaVp
import Derived.Test.YtpjdibanjmmbkaaVo
import Derived.Test.YtpjdibanjmmbkaaVk
import Derived.Test.YtpjdibanjmmbkaaVap
import Derived.Deep.RegionHeld3
import Derived.Test.YtpjdibanjmmbkaaNq3
namespace Go.Proofs.Ytpjdibanjmmbkaa
open Go Go.RowKit
set_option maxRecDepth 100000

/-- What the last statement's walk holds on to. -/
structure KN (W0 : World) (bv be st sb st2 R C : Nat) (W : World) : Prop where
  x4 : Box W bv [.pointer (some ⟨st, 0, none⟩), .int .i64 R, .int .i64 C, .int .i64 (0 : Nat), .int .i64 C, .int .i64 (1 : Nat)]
  x5 : Box W be [.pointer (some ⟨st2, 0, none⟩), .int .i64 R, .int .i64 R, .int .i64 (0 : Nat), .int .i64 R, .int .i64 (1 : Nat)]
  ok : (newV st R C).Ok W sb (List.replicate (R * C) 0)
  below : Below W0.heap.size W0 W
section
variable {W0 W : World} {bv be st sb st2 R C : Nat}
theorem KN.step {W' : World} (h : KN W0 bv be st sb st2 R C W) (hb : Below W.heap.size W W') : KN W0 bv be st sb st2 R C W' := ⟨h.x4.below hb, h.x5.below hb, h.ok.below hb, below_step h.below h.below.size hb⟩
abbrev KNS (W0 : World) (bv be st sb st2 R C : Nat) (w' : World) : Prop := KN W0 bv be st sb st2 R C w' ∧ (∀ i, w'.cell? ⟨bv, i, none⟩ = ([.pointer (some ⟨st, 0, none⟩), .int .i64 R, .int .i64 C, .int .i64 (0 : Nat), .int .i64 C, .int .i64 (1 : Nat)])[i]?) ∧ (∀ i, w'.cell? ⟨be, i, none⟩ = ([.pointer (some ⟨st2, 0, none⟩), .int .i64 R, .int .i64 R, .int .i64 (0 : Nat), .int .i64 R, .int .i64 (1 : Nat)])[i]?)
theorem KN.S (h : KN W0 bv be st sb st2 R C W) : KNS W0 bv be st sb st2 R C W := ⟨h, h.x4.cell, h.x5.cell⟩
theorem KN.L (h : KNS W0 bv be st sb st2 R C W) : KN W0 bv be st sb st2 R C W := h.1
theorem KN.sD (h : KNS W0 bv be st sb st2 R C W) : KNS W0 bv be st sb st2 R C W.drew := (h.1.step (below_drewN 1 (Below.refl _ _))).S
theorem KN.sA {o : Obj} (h : KNS W0 bv be st sb st2 R C W) : KNS W0 bv be st sb st2 R C (W.alloc o) := (h.1.step ((Below.refl _ _).alloc (Nat.le_refl _) _)).S
theorem new_mat (h : KN W0 bv be st sb st2 R C W) : Calls Try.prog 38 #[(.agg #[.pointer (some ⟨st, 0, none⟩), .int .i64 R, .int .i64 C, .int .i64 0, .int .i64 C, .int .i64 1])] W fun e w' => ∃ a cap, e = .returned (.agg #[.int .i64 R, .int .i64 C, .slice a (R * C) cap]) ∧ Cel w' a (List.replicate (R * C) 0) ∧ Below W.heap.size W w' ∧ KNS W0 bv be st sb st2 R C w' := by
  refine (Matrix_any W (newV st R C) sb _ h.ok).mono ?_
  rintro e w' ⟨sv, rfl, hrow, hb⟩
  rw [newV_list (by simp)] at hrow
  obtain ⟨a, cap, rfl, hz⟩ := cel_of_row hrow
  rw [List.length_replicate]
  exact ⟨a, cap, rfl, hz, hb, (h.step hb).S⟩
theorem new_zeros (W : World) (n : Nat) (T : TypeId) : Cel (W.alloc (.cells (List.replicate n (Value.float .f64 0)).toArray T)) (some ⟨W.heap.size, 0, none⟩) (List.replicate n 0) :=
  Cel.ofBox (by rw [List.map_replicate]; exact Box.newA _ _ _ rfl)
theorem words_zeros (n : Nat) : Words (List.replicate n 0) := fun x hx => by rw [List.eq_of_mem_replicate hx]; decide
theorem new_same {a b : Option Addr} {ca cb : Nat} (h : KN W0 bv be st sb st2 R C W) (hl : R * C ≤ 40 * 40) (h1 : Cel W a (List.replicate (R * C) 0)) (h2 : Cel W b (List.replicate (R * C) 0)) :
    Calls Try.prog 24 #[.agg #[.int .i64 R, .int .i64 C, .slice a (R * C) ca], .agg #[.int .i64 R, .int .i64 C, .slice b (R * C) cb]] W fun e w' => e = .returned (.bool true) ∧ KNS W0 bv be st sb st2 R C w' := by
  have hl2 : (List.replicate (R * C) 0).length ≤ maxLen := by rw [List.length_replicate]; unfold maxLen; omega
  have hk := SameMatrix_any W R C R C a b _ _ ca cb h1 h2 (words_zeros _) (words_zeros _) hl2 hl2
  rw [sameM_refl, List.length_replicate] at hk
  exact hk.mono fun _ _ ⟨he, hb⟩ => ⟨he, (h.step hb).S⟩
theorem new_zA (W : World) (n : Nat) (T : TypeId) : Cel (W.alloc (.cells (Array.replicate n (Value.float .f64 0)) T)) (some ⟨W.heap.size, 0, none⟩) (List.replicate n 0) := by
  have h := new_zeros W n T
  rw [List.toArray_replicate] at h
  exact h
theorem new_zD (W : World) (n : Nat) (T : TypeId) : Cel (W.alloc (.cells (Array.replicate n (Value.float .f64 0)) T)).drew (some ⟨W.heap.size, 0, none⟩) (List.replicate n 0) :=
  (new_zA W n T).below (below_drewN 1 (Below.refl _ _))
theorem new_same1 {W1 : World} {a : Option Addr} {ca k : Nat} {T : TypeId} (h : KN W0 bv be st sb st2 R C (W1.alloc (.cells (Array.replicate (R * C) (Value.float .f64 0)) T))) (hl : R * C ≤ 40 * 40) (h1 : Cel W1 a (List.replicate (R * C) 0)) (hk : W1.heap.size = k) :
    Calls Try.prog 24 #[.agg #[.int .i64 R, .int .i64 C, .slice a (R * C) ca], .agg #[.int .i64 R, .int .i64 C, .slice (some ⟨k, 0, none⟩) (R * C) (R * C)]] (W1.alloc (.cells (Array.replicate (R * C) (Value.float .f64 0)) T)) fun e w' => e = .returned (.bool true) ∧ KNS W0 bv be st sb st2 R C w' := by
  subst hk
  exact new_same h hl (h1.below ((Below.refl _ _).alloc (Nat.le_refl _) _)) (new_zA _ _ _)
theorem new_same2 {X : World} {a b : Option Addr} {ca : Nat} (h : KN W0 bv be st sb st2 R C W) (hl : R * C ≤ 40 * 40) (h1 : Cel W a (List.replicate (R * C) 0)) (hb : Below X.heap.size X W) (hX : Cel X b (List.replicate (R * C) 0)) :
    Calls Try.prog 24 #[.agg #[.int .i64 R, .int .i64 C, .slice a (R * C) ca], .agg #[.int .i64 R, .int .i64 C, .slice b (R * C) (R * C)]] W fun e w' => e = .returned (.bool true) ∧ KNS W0 bv be st sb st2 R C w' :=
  new_same h hl h1 (hX.below hb)
theorem new_rows (h : KN W0 bv be st sb st2 R C W) : Calls Try.prog 27 #[(.agg #[.pointer (some ⟨st2, 0, none⟩), .int .i64 R, .int .i64 R, .int .i64 0, .int .i64 R, .int .i64 1])] W fun e w' => e = .returned (.int .i64 R) ∧ KNS W0 bv be st sb st2 R C w' :=
  (Rows_any (some ⟨st2, 0, none⟩) R R 0 R 1 W).mono fun _ _ ⟨he, hb⟩ => ⟨he, (h.step hb).S⟩
theorem new_cols (h : KN W0 bv be st sb st2 R C W) : Calls Try.prog 28 #[(.agg #[.pointer (some ⟨st2, 0, none⟩), .int .i64 R, .int .i64 R, .int .i64 0, .int .i64 R, .int .i64 1])] W fun e w' => e = .returned (.int .i64 R) ∧ KNS W0 bv be st sb st2 R C w' :=
  (Cols_any (some ⟨st2, 0, none⟩) R R 0 R 1 W).mono fun _ _ ⟨he, hb⟩ => ⟨he, (h.step hb).S⟩
theorem new_known (h : KN W0 bv be st sb st2 R C W) : Calls Try.prog 21 #[] W fun e w' => e = .returned (.bool true) ∧ KNS W0 bv be st sb st2 R C w' :=
  (known07 W).mono fun _ _ ⟨he, hb⟩ => ⟨he, (h.step hb).S⟩
end

set_option maxHeartbeats 8000000 in
/-- Rows that may not be. -/
theorem new_no (w : World) (rows cols : Int) (h : okSz rows = false) :
    Calls Try.prog 9 #[.int .i64 rows, .int .i64 cols] w fun e w' => e = .returned (.bool true) ∧ Below w.heap.size w w' := by
  have HN := Lib.hid (fun W => New_no rows cols W (by rw [h]; rfl))
  have HE := Lib.hid (fun W => Eye_no rows W h)
  have fin : Vw.none.val = (.agg #[.pointer none, .int .i64 0, .int .i64 0, .int .i64 0, .int .i64 0, .int .i64 0]) := rfl
  rw [fin] at HN HE
  clear fin
  have hc : rows < 0 ∨ (0 ≤ rows ∧ 512 < rows) := by unfold okSz at h; simp at h; omega
  clear h
  rcases hc with hc | ⟨hc, hc2⟩
  · have t1 : decide (0 ≤ rows) = false := by simp; omega
    clear hc
    go_enter Try.func9, Try.ntmps9
    go_wp2_with fail
    refine (HN.out _).mono ?_
    rintro e w1 ⟨rfl, hb1⟩
    have hB1 := hb1.alloc hb1.size (.cells #[.pointer none, .int .i64 0, .int .i64 0, .int .i64 0, .int .i64 0, .int .i64 0] 45)
    go_wp2_with fail
    refine (HE.out _).mono ?_
    rintro e w2 ⟨rfl, hb2⟩
    have hB2 := below_step hB1 hB1.size hb2
    have hB3 := hB2.alloc hB2.size (.cells #[.pointer none, .int .i64 0, .int .i64 0, .int .i64 0, .int .i64 0, .int .i64 0] 45)
    go_wp2_with (go_at_call 41; refine (num_any _ _).mono ?_; rintro e w' ⟨rfl, rfl⟩)
    refine (known07 _).mono ?_
    rintro e w7 ⟨rfl, hb7⟩
    have hB7 := below_step hB3 hB3.size hb7
    go_wp2
    go_ret
    exact ⟨rfl, hB7⟩
  · have t1 : decide (0 ≤ rows) = true := by simp; omega
    have t2 : decide (rows ≤ 512) = false := by simp; omega
    clear hc hc2
    go_enter Try.func9, Try.ntmps9
    go_wp2_with fail
    refine (HN.out _).mono ?_
    rintro e w1 ⟨rfl, hb1⟩
    have hB1 := hb1.alloc hb1.size (.cells #[.pointer none, .int .i64 0, .int .i64 0, .int .i64 0, .int .i64 0, .int .i64 0] 45)
    go_wp2_with fail
    refine (HE.out _).mono ?_
    rintro e w2 ⟨rfl, hb2⟩
    have hB2 := below_step hB1 hB1.size hb2
    have hB3 := hB2.alloc hB2.size (.cells #[.pointer none, .int .i64 0, .int .i64 0, .int .i64 0, .int .i64 0, .int .i64 0] 45)
    go_wp2_with (go_at_call 41; refine (num_any _ _).mono ?_; rintro e w' ⟨rfl, rfl⟩)
    refine (known07 _).mono ?_
    rintro e w7 ⟨rfl, hb7⟩
    have hB7 := below_step hB3 hB3.size hb7
    go_wp2
    go_ret
    exact ⟨rfl, hB7⟩

set_option maxHeartbeats 8000000 in
/-- Sizes that may be and are not gone through, or columns that may not be. -/
theorem new_big (w : World) (R : Nat) (cols ec : Int) (hR : R ≤ 512) (hec : (ec = 2 ∧ (cols < 0 ∨ (0 ≤ cols ∧ 512 < cols))) ∨ (ec = 0 ∧ 0 ≤ cols ∧ cols ≤ 512 ∧ (40 < R ∨ 40 < cols)))
    (HN : Hid (∀ W, Calls Try.prog 51 #[.int .i64 R, .int .i64 cols] W fun e w' => ∃ v : Vw, e = .returned (.tuple #[(.agg #[.pointer v.p, .int .i64 v.r, .int .i64 v.c, .int .i64 v.o, .int .i64 v.d, .int .i64 v.u]), .int .i64 ec]) ∧ Below W.heap.size W w')) :
    Calls Try.prog 9 #[.int .i64 R, .int .i64 cols] w fun e w' => e = .returned (.bool true) ∧ Below w.heap.size w w' := by
  have HE := Lib.hid (fun W => Eye_yes R W hR)
  have a1 : decide ((0 : Int) ≤ (R : Int)) = true := by simp
  have a2 : decide ((R : Int) ≤ 512) = true := by simp; omega
  obtain ⟨b5, a5⟩ : ∃ b, decide ((40 : Int) < (R : Int)) = b := ⟨_, rfl⟩
  have e5 : (40 < R) ↔ b5 = true := by rw [← a5]; simp; omega
  obtain ⟨b1, a3⟩ : ∃ b, decide ((0 : Int) ≤ cols) = b := ⟨_, rfl⟩
  obtain ⟨b2, a4⟩ : ∃ b, decide (cols ≤ 512) = b := ⟨_, rfl⟩
  obtain ⟨b3, a6⟩ : ∃ b, decide (cols < 0) = b := ⟨_, rfl⟩
  obtain ⟨b4, a7⟩ : ∃ b, decide (40 < cols) = b := ⟨_, rfl⟩
  have key : (ec = 2 ∧ b1 = false ∧ b3 = true) ∨ (ec = 2 ∧ b1 = true ∧ b3 = false ∧ b2 = false ∧ b4 = true) ∨ (ec = 0 ∧ b1 = true ∧ b3 = false ∧ b2 = true ∧ b5 = true) ∨ (ec = 0 ∧ b1 = true ∧ b3 = false ∧ b2 = true ∧ b5 = false ∧ b4 = true) := by
    subst a3 a4 a5 a6 a7
    simp
    omega
  clear hec e5 hR
  have go : ∀ b1 b2 b3 b4 b5 : Bool, decide ((40 : Int) < (R : Int)) = b5 → decide ((0 : Int) ≤ cols) = b1 → decide (cols ≤ 512) = b2 → decide (cols < 0) = b3 → decide (40 < cols) = b4 → decide (512 < cols) = !b2 →
      ((ec = 2 ∧ b1 = false ∧ b3 = true) ∨ (ec = 2 ∧ b1 = true ∧ b3 = false ∧ b2 = false ∧ b4 = true) ∨ (ec = 0 ∧ b1 = true ∧ b3 = false ∧ b2 = true ∧ b5 = true) ∨ (ec = 0 ∧ b1 = true ∧ b3 = false ∧ b2 = true ∧ b5 = false ∧ b4 = true)) →
      Calls Try.prog 9 #[.int .i64 R, .int .i64 cols] w fun e w' => e = .returned (.bool true) ∧ Below w.heap.size w w' := by
    clear key a3 a4 a5 a6 a7
    clear b1 b2 b3 b4 b5
    intro b1 b2 b3 b4 b5 a3 a4 a5 a6 a7 a8 key
    rcases key with ⟨rfl, rfl, rfl⟩ | ⟨rfl, rfl, rfl, rfl, rfl⟩ | ⟨rfl, rfl, rfl, rfl, rfl⟩ | ⟨rfl, rfl, rfl, rfl, rfl, rfl⟩
    all_goals
      (try cases b5)
      all_goals
        go_enter Try.func9, Try.ntmps9
        go_wp2_with fail
        refine (HN.out _).mono ?_
        rintro e w1 ⟨v, rfl, hb1⟩
        have hB1 := hb1.alloc hb1.size (.cells #[.pointer v.p, .int .i64 v.r, .int .i64 v.c, .int .i64 v.o, .int .i64 v.d, .int .i64 v.u] 45)
        go_wp2_with fail
        refine (HE.out _).mono ?_
        rintro e w2 ⟨st, sb, rfl, _, _, _, hb2⟩
        rw [show (newV st R R).val = (.agg #[.pointer (some ⟨st, 0, none⟩), .int .i64 R, .int .i64 R, .int .i64 (0 : Nat), .int .i64 R, .int .i64 (1 : Nat)]) from rfl]
        have hB2 := below_step hB1 hB1.size hb2
        have hB3 := hB2.alloc hB2.size (.cells #[.pointer (some ⟨st, 0, none⟩), .int .i64 R, .int .i64 R, .int .i64 (0 : Nat), .int .i64 R, .int .i64 (1 : Nat)] 45)
        go_wp2_with (go_at_call 41; refine (num_any _ _).mono ?_; rintro e w' ⟨rfl, rfl⟩)
        refine (known07 _).mono ?_
        rintro e w7 ⟨rfl, hb7⟩
        have hB7 := below_step hB3 hB3.size hb7
        go_wp2
        go_ret
        exact ⟨rfl, hB7⟩
  have a8 : decide (512 < cols) = !b2 := by
    rw [← a4]
    by_cases h : cols ≤ 512
    · rw [decide_eq_true h, decide_eq_false (by omega)]; rfl
    · rw [decide_eq_false h, decide_eq_true (by omega)]; rfl
  exact go b1 b2 b3 b4 b5 a5 a3 a4 a6 a7 a8 key

set_option maxHeartbeats 8000000 in
theorem new_in (w : World) (R C : Nat) (hR : R ≤ 40) (hC : C ≤ 40) :
    Calls Try.prog 9 #[.int .i64 R, .int .i64 C] w fun e w' => e = .returned (.bool true) ∧ Below w.heap.size w w' := by
  have HN := Lib.hid (fun W => New_yes R C W (by omega) (by omega))
  have HE := Lib.hid (fun W => Eye_yes R W (by omega))
  have a1 : decide ((0 : Int) ≤ (R : Int)) = true := by simp
  have a2 : decide ((R : Int) ≤ 512) = true := by simp; omega
  have a3 : decide ((0 : Int) ≤ (C : Int)) = true := by simp
  have a4 : decide ((C : Int) ≤ 512) = true := by simp; omega
  have a8 : decide (512 < (C : Int)) = false := by simp; omega
  have a5 : decide ((40 : Int) < (R : Int)) = false := by simp; omega
  have a6 : decide ((40 : Int) < (C : Int)) = false := by simp; omega
  have a7 : decide ((C : Int) < 0) = false := by simp
  have q1 : feq 4607182418800017408 4607182418800017408 = true := by kernel_rfl
  have q2 : feq 0 4607182418800017408 = false := by kernel_rfl
  have hRC : R * C ≤ 40 * 40 := Nat.mul_le_mul hR hC
  go_enter Try.func9, Try.ntmps9
  go_wp2_with fail
  refine (HN.out _).mono ?_
  rintro e w1 ⟨st, sb, rfl, _, _, hsto, hb1⟩
  rw [show (newV st R C).val = (.agg #[.pointer (some ⟨st, 0, none⟩), .int .i64 R, .int .i64 C, .int .i64 (0 : Nat), .int .i64 C, .int .i64 (1 : Nat)]) from rfl]
  have hB1 := hb1.alloc hb1.size (.cells #[.pointer (some ⟨st, 0, none⟩), .int .i64 R, .int .i64 C, .int .i64 (0 : Nat), .int .i64 C, .int .i64 (1 : Nat)] 45)
  have x1 : Box (w1.alloc (.cells #[.pointer (some ⟨st, 0, none⟩), .int .i64 R, .int .i64 C, .int .i64 (0 : Nat), .int .i64 C, .int .i64 (1 : Nat)] 45)) w1.heap.size [.pointer (some ⟨st, 0, none⟩), .int .i64 R, .int .i64 C, .int .i64 (0 : Nat), .int .i64 C, .int .i64 (1 : Nat)] := Box.newA _ _ _ rfl
  have S1 := hsto.alloc (.cells #[.pointer (some ⟨st, 0, none⟩), .int .i64 R, .int .i64 C, .int .i64 (0 : Nat), .int .i64 C, .int .i64 (1 : Nat)] 45)
  go_wp2_with fail
  refine (HE.out _).mono ?_
  rintro e w2 ⟨st2, sb2, rfl, hsto2, _, _, hb2⟩
  rw [show (newV st2 R R).val = (.agg #[.pointer (some ⟨st2, 0, none⟩), .int .i64 R, .int .i64 R, .int .i64 (0 : Nat), .int .i64 R, .int .i64 (1 : Nat)]) from rfl]
  have hB2 := below_step hB1 hB1.size hb2
  have x2 := (x1.below hb2).alloc (.cells #[.pointer (some ⟨st2, 0, none⟩), .int .i64 R, .int .i64 R, .int .i64 (0 : Nat), .int .i64 R, .int .i64 (1 : Nat)] 45)
  have S2 := (S1.below hb2).alloc (.cells #[.pointer (some ⟨st2, 0, none⟩), .int .i64 R, .int .i64 R, .int .i64 (0 : Nat), .int .i64 R, .int .i64 (1 : Nat)] 45)
  have hB3 := hB2.alloc hB2.size (.cells #[.pointer (some ⟨st2, 0, none⟩), .int .i64 R, .int .i64 R, .int .i64 (0 : Nat), .int .i64 R, .int .i64 (1 : Nat)] 45)
  have x3 : Box (w2.alloc (.cells #[.pointer (some ⟨st2, 0, none⟩), .int .i64 R, .int .i64 R, .int .i64 (0 : Nat), .int .i64 R, .int .i64 (1 : Nat)] 45)) w2.heap.size [.pointer (some ⟨st2, 0, none⟩), .int .i64 R, .int .i64 R, .int .i64 (0 : Nat), .int .i64 R, .int .i64 (1 : Nat)] := Box.newA _ _ _ rfl
  have O3 := newV_ok (hsto2.alloc (.cells #[.pointer (some ⟨st2, 0, none⟩), .int .i64 R, .int .i64 R, .int .i64 (0 : Nat), .int .i64 R, .int .i64 (1 : Nat)] 45)) (show R ≤ 512 by omega) (show R ≤ 512 by omega) (eyeL_length st2 R)
  have O2 := newV_ok S2 (show R ≤ 512 by omega) (show C ≤ 512 by omega) (by simp)
  have HG := Lib.hid (fun (i j : Nat) (hi : i < R) (hj : j < R) => eye_get (st := st2) hi hj)
  generalize eyeL st2 R = es at O3 HG
  clear x1 S1 hb1 hb2 hsto hsto2 hB1 hB2 S2
  go_wp2_with (go_at_call 41; refine (num_any _ _).mono ?_; rintro e w' ⟨rfl, rfl⟩)
  generalize w2.alloc (.cells #[.pointer (some ⟨st2, 0, none⟩), .int .i64 R, .int .i64 R, .int .i64 (0 : Nat), .int .i64 R, .int .i64 (1 : Nat)] 45) = W3 at *
  generalize w2.heap.size = be at *
  generalize w1.heap.size = bv at *
  go_loopw [10] (fun i wr => ∃ k : Nat, k ≤ R ∧ i = .int .i64 k ∧ Below W3.heap.size W3 wr) (fun i _ => R - (intOf i).toNat)
  case atStart => exact ⟨0, Nat.zero_le _, rfl, Below.refl _ _⟩
  case round =>
    obtain ⟨k, hk, rfl, hB⟩ := hrel
    by_cases hlt : k < R
    · go_wp2
      obtain ⟨wo, rfl⟩ : ∃ wo : World, wo = wr := ⟨_, rfl⟩
      go_loopw [11] (fun j wr => ∃ l : Nat, l ≤ R ∧ j = .int .i64 l ∧ Below W3.heap.size W3 wr) (fun j _ => R - (intOf j).toNat)
      case atStart => exact ⟨0, Nat.zero_le _, rfl, hB⟩
      case round =>
        obtain ⟨l, hl, rfl, hB'⟩ := hrel
        by_cases hlt2 : l < R
        · obtain ⟨y1, y2, y3⟩ := (x3.below hB').facts
          have HA := Lib.hid (fun (W : World) (hW : Below wr.heap.size wr W) => At_b W (newV st2 R R) sb2 es k l ((O3.below hB').below hW))
          have HG' := HG.out k l hlt hlt2
          obtain ⟨b, hb⟩ : ∃ b, decide (k = l) = b := ⟨_, rfl⟩
          have hI : ((k : Int) == (l : Int)) = b := by
            rw [← hb]
            by_cases h : k = l
            · subst h; simp
            · rw [decide_eq_false h, beq_eq_false_iff_ne]; omega
          have hI2 : ((k : Int) != (l : Int)) = !b := by rw [← hI]; rfl
          rw [HG', show (newV st2 R R).p = some ⟨st2, 0, none⟩ from rfl, show (newV st2 R R).r = R from rfl, show (newV st2 R R).c = R from rfl, show (newV st2 R R).o = 0 from rfl, show (newV st2 R R).d = R from rfl, show (newV st2 R R).u = 1 from rfl] at HA
          cases b
          · rw [if_neg (by simpa using hb)] at HA
            clear hb HG'
            go_wp2_with fail
            refine (HA.out _ (Below.refl _ _)).mono ?_
            rintro e v1 ⟨rfl, hv1⟩
            obtain ⟨y4, y5, y6⟩ := ((x3.below hB').below hv1).facts
            go_wp2_with fail
            refine (HA.out _ hv1).mono ?_
            rintro e v2 ⟨rfl, hv2⟩
            have hB2 := below_step hB' hB'.size (below_step hv1 hv1.size hv2)
            go_wp2_with (go_at_call 33; refine (Bits_any 0 (by decide) _).mono ?_; rintro e w' ⟨rfl, rfl⟩; rw [show nm 0 = 0 by kernel_rfl])
            go_roundw
            case rel => exact ⟨l + 1, by omega, by go_num, hB2⟩
            case measure => simp [intOf]; omega
          · rw [if_pos (by simpa using hb)] at HA
            clear hb HG'
            go_wp2_with fail
            refine (HA.out _ (Below.refl _ _)).mono ?_
            rintro e v1 ⟨rfl, hv1⟩
            have hB2 := below_step hB' hB'.size hv1
            go_wp2
            go_roundw
            case rel => exact ⟨l + 1, by omega, by go_num, hB2⟩
            case measure => simp [intOf]; omega
        · obtain rfl : l = R := by omega
          go_wp2
          go_roundw
          case rel => exact ⟨k + 1, by omega, by go_num, hB'⟩
          case measure => simp [intOf]; omega
    · obtain rfl : R = k := by omega
      have hB4 := below_step hB3 hB3.size hB
      have O4 := O2.below hB
      have x4 := x2.below hB
      have x5 := x3.below hB
      go_wp2
      have hn := run_New R C (by omega)
      have e0 : ((R * C : Nat) : Int) = (R : Int) * (C : Int) := Int.natCast_mul _ _
      have g1 : (R : Int) * (C : Int) ≤ 9223372036854775807 := by rw [← e0]; omega
      have g2 : (0 : Int) ≤ (R : Int) * (C : Int) := Int.mul_nonneg (Int.natCast_nonneg _) (Int.natCast_nonneg _)
      have gw : IntKind.i64.wrap ((R : Int) * (C : Int)) = (R : Int) * (C : Int) := by
        generalize (R : Int) * (C : Int) = x at g1 g2
        rw [IntKind.wrap_i64]; omega
      clear e0
      have K0 : KN wr bv be st sb st2 R C wr := ⟨x4, x5, O4, Below.refl _ _⟩
      have k0 := K0.S
      have hl := hRC
      clear K0 O4 x4 x5 O2 O3 x2 x3 HN HE HG
      go_region_held3 (fun w' => KN wr bv be st sb st2 R C w' ∧ (∀ i, w'.cell? ⟨bv, i, none⟩ = ([.pointer (some ⟨st, 0, none⟩), .int .i64 R, .int .i64 C, .int .i64 (0 : Nat), .int .i64 C, .int .i64 (1 : Nat)])[i]?) ∧ (∀ i, w'.cell? ⟨be, i, none⟩ = ([.pointer (some ⟨st2, 0, none⟩), .int .i64 R, .int .i64 R, .int .i64 (0 : Nat), .int .i64 R, .int .i64 (1 : Nat)])[i]?)) (first | assumption | exact KN.sD (by assumption) | exact KN.sA (by assumption))
        (first
          | (go_at_call 38; with_reducible refine (new_mat (KN.L (by assumption))).mono ?_; rintro e w' ⟨a2, cap2, rfl, hcel, hbM, hK'⟩)
          | (go_at_call 24; refine (new_same1 (KN.L (by assumption)) hl (by assumption) (by first | rfl | simp)).mono ?_; rintro e w' ⟨rfl, hK'⟩)
          | (go_at_call 24; refine (new_same2 (KN.L (by assumption)) hl (by assumption) (by assumption) (by first | exact new_zA _ _ _ | exact new_zD _ _ _)).mono ?_; rintro e w' ⟨rfl, hK'⟩)
          | (go_at_call 24; trace_state; fail)
          | (go_at_call 27; with_reducible refine (new_rows (KN.L (by assumption))).mono ?_; rintro e w' ⟨rfl, hK'⟩)
          | (go_at_call 28; with_reducible refine (new_cols (KN.L (by assumption))).mono ?_; rintro e w' ⟨rfl, hK'⟩)
          | (go_at_call 21; with_reducible refine (new_known (KN.L (by assumption))).mono ?_; rintro e w' ⟨rfl, hK'⟩))
      all_goals go_wp2
      all_goals go_ret
      all_goals exact ⟨rfl, below_step hB4 hB4.size (KN.L (by assumption)).below⟩

theorem new_any (w : World) (rows cols : Int) : Calls Try.prog 9 #[.int .i64 rows, .int .i64 cols] w fun e w' => e = .returned (.bool true) ∧ Below w.heap.size w w' := by
  cases h : okSz rows
  · exact new_no w rows cols h
  · have h1 : 0 ≤ rows ∧ rows ≤ 512 := by unfold okSz at h; simpa using h
    obtain ⟨R, rfl⟩ := Int.eq_ofNat_of_zero_le h1.1
    cases hc : okSz cols
    · have h2 : ¬ (0 ≤ cols ∧ cols ≤ 512) := by unfold okSz at hc; simpa using hc
      exact new_big w R cols 2 (by omega) (.inl ⟨rfl, by omega⟩) (fun W => (New_no R cols W (by rw [hc]; simp)).mono fun e w' ⟨he, hb⟩ => ⟨Vw.none, he, hb⟩)
    · have h2 : 0 ≤ cols ∧ cols ≤ 512 := by unfold okSz at hc; simpa using hc
      obtain ⟨C, rfl⟩ := Int.eq_ofNat_of_zero_le h2.1
      by_cases hs : R ≤ 40 ∧ C ≤ 40
      · exact new_in w R C hs.1 hs.2
      · exact new_big w R C 0 (by omega) (.inr ⟨rfl, by omega, by omega, by omega⟩) (fun W => (New_yes R C W (by omega) (by omega)).mono fun e w' ⟨st, sb, he, _, _, _, hb⟩ => ⟨newV st R C, he, hb⟩)
end Go.Proofs.Ytpjdibanjmmbkaa
