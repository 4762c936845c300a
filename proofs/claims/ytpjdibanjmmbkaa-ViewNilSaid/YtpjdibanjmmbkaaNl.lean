/- The closed sentence on views that are none, empty ones, sizes at their bound. -/
import Derived.Test.YtpjdibanjmmbkaaOn
import Derived.Test.YtpjdibanjmmbkaaVs
import Derived.Test.YtpjdibanjmmbkaaNq7
namespace Go.Proofs.Ytpjdibanjmmbkaa
open Go Go.RowKit
set_option maxRecDepth 100000

set_option maxHeartbeats 4000000 in
theorem Take_z (w : World) (a : Addr) (r c o d u : Nat) :
    Calls Try.prog 56 #[(.agg #[.pointer (some a), .int .i64 r, .int .i64 c, .int .i64 o, .int .i64 d, .int .i64 u]), (.agg #[.pointer none, .int .i64 (0 : Nat), .int .i64 (0 : Nat), .int .i64 (0 : Nat), .int .i64 (0 : Nat), .int .i64 (0 : Nat)])] w fun e w' => e = .returned (.int .i64 1) ∧ Below w.heap.size w w' := by
  have hB0 : Below w.heap.size w ((w.alloc (.cells #[.pointer (some a), .int .i64 r, .int .i64 c, .int .i64 o, .int .i64 d, .int .i64 u] 45)).alloc (.cells #[.pointer none, .int .i64 (0 : Nat), .int .i64 (0 : Nat), .int .i64 (0 : Nat), .int .i64 (0 : Nat), .int .i64 (0 : Nat)] 45)) := ((Below.refl _ _).alloc (Nat.le_refl _) _).alloc (by simp) _
  go_enter Try.func56, Try.ntmps56
  go_wp2
  go_ret
  exact ⟨rfl, hB0⟩
theorem field_rows (sv : Value) (w : World) : (Instr.field 40 (.agg #[.int .i64 0, .int .i64 0, sv]) 0).run Try.prog w = .ok (.int .i64 0) w := rfl
theorem New_o (r c : Nat) (w : World) (hr : r ≤ 512) (hc : c ≤ 512) :
    Calls Try.prog 51 #[.int .i64 r, .int .i64 c] w fun e w' => ∃ st sb zs, e = .returned (.tuple #[(.agg #[.pointer (some ⟨st, 0, none⟩), .int .i64 r, .int .i64 c, .int .i64 (0 : Nat), .int .i64 c, .int .i64 (1 : Nat)]), .int .i64 0]) ∧ Sto w' (some ⟨st, 0, none⟩) sb zs ∧ zs.length = r * c ∧ Below w.heap.size w w' :=
  (New_yes r c w hr hc).mono fun e w' ⟨st, sb, h1, _, _, h2, h3⟩ => ⟨st, sb, _, h1, h2, List.length_replicate, h3⟩

set_option maxHeartbeats 16000000 in
theorem nil_any (w : World) : Calls Try.prog 11 #[] w fun e w' => e = .returned (.bool true) ∧ Below w.heap.size w w' := by
  have q1 : feq 0 0 = true := by kernel_rfl
  have q2 := field_rows
  go_enter Try.func11, Try.ntmps11
  go_wp2_with fail
  refine (New_o 512 512 _ (by decide) (by decide)).mono ?_
  rintro e w1 ⟨st1, sb1, zs1, rfl, S1, z1, hb1⟩
  have hB1 := hb1
  clear S1 z1
  have X1 : Box (w1.alloc (.cells #[.pointer (some ⟨st1, 0, none⟩), .int .i64 (512 : Nat), .int .i64 (512 : Nat), .int .i64 (0 : Nat), .int .i64 (512 : Nat), .int .i64 (1 : Nat)] 45)) w1.heap.size [.pointer (some ⟨st1, 0, none⟩), .int .i64 (512 : Nat), .int .i64 (512 : Nat), .int .i64 (0 : Nat), .int .i64 (512 : Nat), .int .i64 (1 : Nat)] := Box.newA _ _ _ rfl
  have hA1 : Below w.heap.size w (w1.alloc (.cells #[.pointer (some ⟨st1, 0, none⟩), .int .i64 (512 : Nat), .int .i64 (512 : Nat), .int .i64 (0 : Nat), .int .i64 (512 : Nat), .int .i64 (1 : Nat)] 45)) := hB1.alloc hB1.size _
  go_wp2_with fail
  generalize (w1.alloc (.cells #[.pointer (some ⟨st1, 0, none⟩), .int .i64 (512 : Nat), .int .i64 (512 : Nat), .int .i64 (0 : Nat), .int .i64 (512 : Nat), .int .i64 (1 : Nat)] 45)) = A1 at *
  refine (New_o 0 0 _ (by decide) (by decide)).mono ?_
  rintro e w2 ⟨st2, sb2, zs2, rfl, S2, z2, hb2⟩
  have hB2 := below_step hA1 hA1.size hb2
  replace X1 := X1.below hb2
  have X2 : Box (w2.alloc (.cells #[.pointer (some ⟨st2, 0, none⟩), .int .i64 (0 : Nat), .int .i64 (0 : Nat), .int .i64 (0 : Nat), .int .i64 (0 : Nat), .int .i64 (1 : Nat)] 45)) w2.heap.size [.pointer (some ⟨st2, 0, none⟩), .int .i64 (0 : Nat), .int .i64 (0 : Nat), .int .i64 (0 : Nat), .int .i64 (0 : Nat), .int .i64 (1 : Nat)] := Box.newA _ _ _ rfl
  replace X1 := X1.alloc (.cells #[.pointer (some ⟨st2, 0, none⟩), .int .i64 (0 : Nat), .int .i64 (0 : Nat), .int .i64 (0 : Nat), .int .i64 (0 : Nat), .int .i64 (1 : Nat)] 45)
  have hA2 : Below w.heap.size w (w2.alloc (.cells #[.pointer (some ⟨st2, 0, none⟩), .int .i64 (0 : Nat), .int .i64 (0 : Nat), .int .i64 (0 : Nat), .int .i64 (0 : Nat), .int .i64 (1 : Nat)] 45)) := hB2.alloc hB2.size _
  replace S2 := S2.alloc (.cells #[.pointer (some ⟨st2, 0, none⟩), .int .i64 (0 : Nat), .int .i64 (0 : Nat), .int .i64 (0 : Nat), .int .i64 (0 : Nat), .int .i64 (1 : Nat)] 45)
  go_wp2_with fail
  generalize (w2.alloc (.cells #[.pointer (some ⟨st2, 0, none⟩), .int .i64 (0 : Nat), .int .i64 (0 : Nat), .int .i64 (0 : Nat), .int .i64 (0 : Nat), .int .i64 (1 : Nat)] 45)) = A2 at *
  refine (New_o 1 0 _ (by decide) (by decide)).mono ?_
  rintro e w3 ⟨st3, sb3, zs3, rfl, S3, z3, hb3⟩
  have hB3 := below_step hA2 hA2.size hb3
  replace X1 := X1.below hb3
  replace X2 := X2.below hb3
  clear S3 z3
  replace S2 := S2.below hb3
  have X3 : Box (w3.alloc (.cells #[.pointer (some ⟨st3, 0, none⟩), .int .i64 (1 : Nat), .int .i64 (0 : Nat), .int .i64 (0 : Nat), .int .i64 (0 : Nat), .int .i64 (1 : Nat)] 45)) w3.heap.size [.pointer (some ⟨st3, 0, none⟩), .int .i64 (1 : Nat), .int .i64 (0 : Nat), .int .i64 (0 : Nat), .int .i64 (0 : Nat), .int .i64 (1 : Nat)] := Box.newA _ _ _ rfl
  replace X1 := X1.alloc (.cells #[.pointer (some ⟨st3, 0, none⟩), .int .i64 (1 : Nat), .int .i64 (0 : Nat), .int .i64 (0 : Nat), .int .i64 (0 : Nat), .int .i64 (1 : Nat)] 45)
  replace X2 := X2.alloc (.cells #[.pointer (some ⟨st3, 0, none⟩), .int .i64 (1 : Nat), .int .i64 (0 : Nat), .int .i64 (0 : Nat), .int .i64 (0 : Nat), .int .i64 (1 : Nat)] 45)
  have hA3 : Below w.heap.size w (w3.alloc (.cells #[.pointer (some ⟨st3, 0, none⟩), .int .i64 (1 : Nat), .int .i64 (0 : Nat), .int .i64 (0 : Nat), .int .i64 (0 : Nat), .int .i64 (1 : Nat)] 45)) := hB3.alloc hB3.size _
  replace S2 := S2.alloc (.cells #[.pointer (some ⟨st3, 0, none⟩), .int .i64 (1 : Nat), .int .i64 (0 : Nat), .int .i64 (0 : Nat), .int .i64 (0 : Nat), .int .i64 (1 : Nat)] 45)
  go_wp2_with fail
  generalize (w3.alloc (.cells #[.pointer (some ⟨st3, 0, none⟩), .int .i64 (1 : Nat), .int .i64 (0 : Nat), .int .i64 (0 : Nat), .int .i64 (0 : Nat), .int .i64 (1 : Nat)] 45)) = A3 at *
  refine (New_o 3 0 _ (by decide) (by decide)).mono ?_
  rintro e w4 ⟨st4, sb4, zs4, rfl, S4, z4, hb4⟩
  have hB4 := below_step hA3 hA3.size hb4
  replace X1 := X1.below hb4
  replace X2 := X2.below hb4
  replace X3 := X3.below hb4
  clear S4 z4
  replace S2 := S2.below hb4
  have X4 : Box (w4.alloc (.cells #[.pointer (some ⟨st4, 0, none⟩), .int .i64 (3 : Nat), .int .i64 (0 : Nat), .int .i64 (0 : Nat), .int .i64 (0 : Nat), .int .i64 (1 : Nat)] 45)) w4.heap.size [.pointer (some ⟨st4, 0, none⟩), .int .i64 (3 : Nat), .int .i64 (0 : Nat), .int .i64 (0 : Nat), .int .i64 (0 : Nat), .int .i64 (1 : Nat)] := Box.newA _ _ _ rfl
  replace X1 := X1.alloc (.cells #[.pointer (some ⟨st4, 0, none⟩), .int .i64 (3 : Nat), .int .i64 (0 : Nat), .int .i64 (0 : Nat), .int .i64 (0 : Nat), .int .i64 (1 : Nat)] 45)
  replace X2 := X2.alloc (.cells #[.pointer (some ⟨st4, 0, none⟩), .int .i64 (3 : Nat), .int .i64 (0 : Nat), .int .i64 (0 : Nat), .int .i64 (0 : Nat), .int .i64 (1 : Nat)] 45)
  replace X3 := X3.alloc (.cells #[.pointer (some ⟨st4, 0, none⟩), .int .i64 (3 : Nat), .int .i64 (0 : Nat), .int .i64 (0 : Nat), .int .i64 (0 : Nat), .int .i64 (1 : Nat)] 45)
  have hA4 : Below w.heap.size w (w4.alloc (.cells #[.pointer (some ⟨st4, 0, none⟩), .int .i64 (3 : Nat), .int .i64 (0 : Nat), .int .i64 (0 : Nat), .int .i64 (0 : Nat), .int .i64 (1 : Nat)] 45)) := hB4.alloc hB4.size _
  replace S2 := S2.alloc (.cells #[.pointer (some ⟨st4, 0, none⟩), .int .i64 (3 : Nat), .int .i64 (0 : Nat), .int .i64 (0 : Nat), .int .i64 (0 : Nat), .int .i64 (1 : Nat)] 45)
  have X5 : Box ((w4.alloc (.cells #[.pointer (some ⟨st4, 0, none⟩), .int .i64 (3 : Nat), .int .i64 (0 : Nat), .int .i64 (0 : Nat), .int .i64 (0 : Nat), .int .i64 (1 : Nat)] 45)).alloc (.cells #[.pointer none, .int .i64 (0 : Nat), .int .i64 (0 : Nat), .int .i64 (0 : Nat), .int .i64 (0 : Nat), .int .i64 (0 : Nat)] 45)) (w4.alloc (.cells #[.pointer (some ⟨st4, 0, none⟩), .int .i64 (3 : Nat), .int .i64 (0 : Nat), .int .i64 (0 : Nat), .int .i64 (0 : Nat), .int .i64 (1 : Nat)] 45)).heap.size [.pointer none, .int .i64 (0 : Nat), .int .i64 (0 : Nat), .int .i64 (0 : Nat), .int .i64 (0 : Nat), .int .i64 (0 : Nat)] := Box.newA _ _ _ rfl
  replace X1 := X1.alloc (.cells #[.pointer none, .int .i64 (0 : Nat), .int .i64 (0 : Nat), .int .i64 (0 : Nat), .int .i64 (0 : Nat), .int .i64 (0 : Nat)] 45)
  replace X2 := X2.alloc (.cells #[.pointer none, .int .i64 (0 : Nat), .int .i64 (0 : Nat), .int .i64 (0 : Nat), .int .i64 (0 : Nat), .int .i64 (0 : Nat)] 45)
  replace X3 := X3.alloc (.cells #[.pointer none, .int .i64 (0 : Nat), .int .i64 (0 : Nat), .int .i64 (0 : Nat), .int .i64 (0 : Nat), .int .i64 (0 : Nat)] 45)
  replace X4 := X4.alloc (.cells #[.pointer none, .int .i64 (0 : Nat), .int .i64 (0 : Nat), .int .i64 (0 : Nat), .int .i64 (0 : Nat), .int .i64 (0 : Nat)] 45)
  replace S2 := S2.alloc (.cells #[.pointer none, .int .i64 (0 : Nat), .int .i64 (0 : Nat), .int .i64 (0 : Nat), .int .i64 (0 : Nat), .int .i64 (0 : Nat)] 45)
  have hA5 : Below w.heap.size w ((w4.alloc (.cells #[.pointer (some ⟨st4, 0, none⟩), .int .i64 (3 : Nat), .int .i64 (0 : Nat), .int .i64 (0 : Nat), .int .i64 (0 : Nat), .int .i64 (1 : Nat)] 45)).alloc (.cells #[.pointer none, .int .i64 (0 : Nat), .int .i64 (0 : Nat), .int .i64 (0 : Nat), .int .i64 (0 : Nat), .int .i64 (0 : Nat)] 45)) := hA4.alloc hA4.size _
  have ez : (w4.alloc (.cells #[.pointer (some ⟨st4, 0, none⟩), .int .i64 (3 : Nat), .int .i64 (0 : Nat), .int .i64 (0 : Nat), .int .i64 (0 : Nat), .int .i64 (1 : Nat)] 45)).heap.size = w4.heap.size + 1 := by simp
  rw [ez] at X5
  go_wp2_with fail
  generalize ((w4.alloc (.cells #[.pointer (some ⟨st4, 0, none⟩), .int .i64 (3 : Nat), .int .i64 (0 : Nat), .int .i64 (0 : Nat), .int .i64 (0 : Nat), .int .i64 (1 : Nat)] 45)).alloc (.cells #[.pointer none, .int .i64 (0 : Nat), .int .i64 (0 : Nat), .int .i64 (0 : Nat), .int .i64 (0 : Nat), .int .i64 (0 : Nat)] 45)) = A5 at *
  refine (two3_any _).mono ?_
  rintro e w5 ⟨a, cap, rfl, hcel, hb5⟩
  have hB5 := below_step hA5 hA5.size hb5
  replace X1 := X1.below hb5
  replace X2 := X2.below hb5
  replace X3 := X3.below hb5
  replace X4 := X4.below hb5
  replace X5 := X5.below hb5
  replace S2 := S2.below hb5
  go_wp2_with fail
  refine (Of_yes 2 3 a [4607182418800017408, 4611686018427387904, 4613937818241073152, 4616189618054758400, 4617315517961601024, 4618441417868443648] cap _ (by decide) (by decide) rfl hcel).mono ?_
  rintro e w6 ⟨st6, sb6, rfl, _, _, S6, hb6⟩
  rw [show (newV st6 2 3).val = (.agg #[.pointer (some ⟨st6, 0, none⟩), .int .i64 (2 : Nat), .int .i64 (3 : Nat), .int .i64 (0 : Nat), .int .i64 (3 : Nat), .int .i64 (1 : Nat)]) from rfl]
  have hB6 := below_step hB5 hB5.size hb6
  replace X1 := X1.below hb6
  replace X2 := X2.below hb6
  replace X3 := X3.below hb6
  replace X4 := X4.below hb6
  replace X5 := X5.below hb6
  replace S2 := S2.below hb6
  have X6 : Box (w6.alloc (.cells #[.pointer (some ⟨st6, 0, none⟩), .int .i64 (2 : Nat), .int .i64 (3 : Nat), .int .i64 (0 : Nat), .int .i64 (3 : Nat), .int .i64 (1 : Nat)] 45)) w6.heap.size [.pointer (some ⟨st6, 0, none⟩), .int .i64 (2 : Nat), .int .i64 (3 : Nat), .int .i64 (0 : Nat), .int .i64 (3 : Nat), .int .i64 (1 : Nat)] := Box.newA _ _ _ rfl
  replace X1 := X1.alloc (.cells #[.pointer (some ⟨st6, 0, none⟩), .int .i64 (2 : Nat), .int .i64 (3 : Nat), .int .i64 (0 : Nat), .int .i64 (3 : Nat), .int .i64 (1 : Nat)] 45)
  replace X2 := X2.alloc (.cells #[.pointer (some ⟨st6, 0, none⟩), .int .i64 (2 : Nat), .int .i64 (3 : Nat), .int .i64 (0 : Nat), .int .i64 (3 : Nat), .int .i64 (1 : Nat)] 45)
  replace X3 := X3.alloc (.cells #[.pointer (some ⟨st6, 0, none⟩), .int .i64 (2 : Nat), .int .i64 (3 : Nat), .int .i64 (0 : Nat), .int .i64 (3 : Nat), .int .i64 (1 : Nat)] 45)
  replace X4 := X4.alloc (.cells #[.pointer (some ⟨st6, 0, none⟩), .int .i64 (2 : Nat), .int .i64 (3 : Nat), .int .i64 (0 : Nat), .int .i64 (3 : Nat), .int .i64 (1 : Nat)] 45)
  replace X5 := X5.alloc (.cells #[.pointer (some ⟨st6, 0, none⟩), .int .i64 (2 : Nat), .int .i64 (3 : Nat), .int .i64 (0 : Nat), .int .i64 (3 : Nat), .int .i64 (1 : Nat)] 45)
  replace S2 := S2.alloc (.cells #[.pointer (some ⟨st6, 0, none⟩), .int .i64 (2 : Nat), .int .i64 (3 : Nat), .int .i64 (0 : Nat), .int .i64 (3 : Nat), .int .i64 (1 : Nat)] 45)
  replace S6 := S6.alloc (.cells #[.pointer (some ⟨st6, 0, none⟩), .int .i64 (2 : Nat), .int .i64 (3 : Nat), .int .i64 (0 : Nat), .int .i64 (3 : Nat), .int .i64 (1 : Nat)] 45)
  have hA6 : Below w.heap.size w (w6.alloc (.cells #[.pointer (some ⟨st6, 0, none⟩), .int .i64 (2 : Nat), .int .i64 (3 : Nat), .int .i64 (0 : Nat), .int .i64 (3 : Nat), .int .i64 (1 : Nat)] 45)) := hB6.alloc hB6.size _
  go_wp2_with fail
  generalize (w6.alloc (.cells #[.pointer (some ⟨st6, 0, none⟩), .int .i64 (2 : Nat), .int .i64 (3 : Nat), .int .i64 (0 : Nat), .int .i64 (3 : Nat), .int .i64 (1 : Nat)] 45)) = W7 at *
  clear hcel hb1 hb2 hb3 hb4 hb5 hb6 hA1 hA2 hA3 hA4 hA5 hB1 hB2 hB3 hB4 hB5 hB6 ez
  generalize w1.heap.size = b1 at *
  generalize w2.heap.size = b2 at *
  generalize w3.heap.size = b3 at *
  generalize w4.heap.size + 1 = b5 at *
  generalize w4.heap.size = b4 at *
  generalize w6.heap.size = b6 at *
  have H17 : Hid (∀ u, Below W7.heap.size W7 u → Calls Try.prog 27 #[(.agg #[.pointer (some ⟨st1, 0, none⟩), .int .i64 (512 : Nat), .int .i64 (512 : Nat), .int .i64 (0 : Nat), .int .i64 (512 : Nat), .int .i64 (1 : Nat)])] u fun e w' => e = .returned (.int .i64 (512 : Int)) ∧ Below u.heap.size u w') := fun u hB => Rows_any _ 512 512 0 512 1 u
  have H22 : Hid (∀ u, Below W7.heap.size W7 u → Calls Try.prog 29 #[(.agg #[.pointer (some ⟨st2, 0, none⟩), .int .i64 (0 : Nat), .int .i64 (0 : Nat), .int .i64 (0 : Nat), .int .i64 (0 : Nat), .int .i64 (1 : Nat)])] u fun e w' => e = .returned (.bool true) ∧ Below u.heap.size u w') := fun u hB => Vector_any _ 0 0 0 0 1 u
  have H26 : Hid (∀ u, Below W7.heap.size W7 u → Calls Try.prog 29 #[(.agg #[.pointer (some ⟨st3, 0, none⟩), .int .i64 (1 : Nat), .int .i64 (0 : Nat), .int .i64 (0 : Nat), .int .i64 (0 : Nat), .int .i64 (1 : Nat)])] u fun e w' => e = .returned (.bool true) ∧ Below u.heap.size u w') := fun u hB => Vector_any _ 1 0 0 0 1 u
  have H30 : Hid (∀ u, Below W7.heap.size W7 u → Calls Try.prog 29 #[(.agg #[.pointer (some ⟨st4, 0, none⟩), .int .i64 (3 : Nat), .int .i64 (0 : Nat), .int .i64 (0 : Nat), .int .i64 (0 : Nat), .int .i64 (1 : Nat)])] u fun e w' => e = .returned (.bool false) ∧ Below u.heap.size u w') := fun u hB => Vector_any _ 3 0 0 0 1 u
  have H35 : Hid (∀ u, Below W7.heap.size W7 u → Calls Try.prog 31 #[(.agg #[.pointer (some ⟨st2, 0, none⟩), .int .i64 (0 : Nat), .int .i64 (0 : Nat), .int .i64 (0 : Nat), .int .i64 (0 : Nat), .int .i64 (1 : Nat)])] u fun e w' => e = .returned (.int .i64 (0 : Int)) ∧ Below u.heap.size u w') := fun u hB => Len_any _ 0 0 0 0 1 u (by decide) (by decide)
  have H41 : Hid (∀ u, Below W7.heap.size W7 u → Calls Try.prog 26 #[(.agg #[.pointer (some ⟨st2, 0, none⟩), .int .i64 (0 : Nat), .int .i64 (0 : Nat), .int .i64 (0 : Nat), .int .i64 (0 : Nat), .int .i64 (1 : Nat)]), (.agg #[.pointer (some ⟨st2, 0, none⟩), .int .i64 (0 : Nat), .int .i64 (0 : Nat), .int .i64 (0 : Nat), .int .i64 (0 : Nat), .int .i64 (1 : Nat)])] u fun e w' => e = .returned (.bool true) ∧ Below u.heap.size u w') := fun u hB => Same_any u (newV st2 0 0) (newV st2 0 0) sb2 sb2 zs2 zs2 (newV_ok (S2.below hB) (by decide) (by decide) z2) (newV_ok (S2.below hB) (by decide) (by decide) z2)
  have H46 : Hid (∀ u, Below W7.heap.size W7 u → Calls Try.prog 26 #[(.agg #[.pointer (some ⟨st2, 0, none⟩), .int .i64 (0 : Nat), .int .i64 (0 : Nat), .int .i64 (0 : Nat), .int .i64 (0 : Nat), .int .i64 (1 : Nat)]), (.agg #[.pointer none, .int .i64 (0 : Nat), .int .i64 (0 : Nat), .int .i64 (0 : Nat), .int .i64 (0 : Nat), .int .i64 (0 : Nat)])] u fun e w' => e = .returned (.bool false) ∧ Below u.heap.size u w') := fun u hB => Same_any u (newV st2 0 0) Vw.none sb2 0 zs2 [] (newV_ok (S2.below hB) (by decide) (by decide) z2) (none_ok _ _ _)
  have H52 : Hid (∀ u, Below W7.heap.size W7 u → Calls Try.prog 26 #[(.agg #[.pointer none, .int .i64 (0 : Nat), .int .i64 (0 : Nat), .int .i64 (0 : Nat), .int .i64 (0 : Nat), .int .i64 (0 : Nat)]), (.agg #[.pointer none, .int .i64 (0 : Nat), .int .i64 (0 : Nat), .int .i64 (0 : Nat), .int .i64 (0 : Nat), .int .i64 (0 : Nat)])] u fun e w' => e = .returned (.bool true) ∧ Below u.heap.size u w') := fun u hB => Same_any u Vw.none Vw.none 0 0 [] [] (none_ok _ _ _) (none_ok _ _ _)
  have H56 : Hid (∀ u, Below W7.heap.size W7 u → Calls Try.prog 27 #[(.agg #[.pointer none, .int .i64 (0 : Nat), .int .i64 (0 : Nat), .int .i64 (0 : Nat), .int .i64 (0 : Nat), .int .i64 (0 : Nat)])] u fun e w' => e = .returned (.int .i64 (0 : Int)) ∧ Below u.heap.size u w') := fun u hB => Rows_any none 0 0 0 0 0 u
  have H58 : Hid (∀ u, Below W7.heap.size W7 u → Calls Try.prog 28 #[(.agg #[.pointer none, .int .i64 (0 : Nat), .int .i64 (0 : Nat), .int .i64 (0 : Nat), .int .i64 (0 : Nat), .int .i64 (0 : Nat)])] u fun e w' => e = .returned (.int .i64 (0 : Int)) ∧ Below u.heap.size u w') := fun u hB => Cols_any none 0 0 0 0 0 u
  have H61 : Hid (∀ u, Below W7.heap.size W7 u → Calls Try.prog 31 #[(.agg #[.pointer none, .int .i64 (0 : Nat), .int .i64 (0 : Nat), .int .i64 (0 : Nat), .int .i64 (0 : Nat), .int .i64 (0 : Nat)])] u fun e w' => e = .returned (.int .i64 (0 : Int)) ∧ Below u.heap.size u w') := fun u hB => Len_any none 0 0 0 0 0 u (by decide) (by decide)
  have H67 : Hid (∀ u, Below W7.heap.size W7 u → Calls Try.prog 34 #[(.agg #[.pointer none, .int .i64 (0 : Nat), .int .i64 (0 : Nat), .int .i64 (0 : Nat), .int .i64 (0 : Nat), .int .i64 (0 : Nat)]), .int .i64 0, .int .i64 0] u fun e w' => e = .returned (.float .f64 0) ∧ Below u.heap.size u w') := fun u hB => At_any u Vw.none 0 [] 0 0 (none_ok _ _ _)
  have H72 : Hid (∀ u, Below W7.heap.size W7 u → Calls Try.prog 37 #[(.agg #[.pointer none, .int .i64 (0 : Nat), .int .i64 (0 : Nat), .int .i64 (0 : Nat), .int .i64 (0 : Nat), .int .i64 (0 : Nat)]), .int .i64 0] u fun e w' => e = .returned (.float .f64 0) ∧ Below u.heap.size u w') := fun u hB => Get_any u Vw.none 0 [] 0 (none_ok _ _ _)
  have H77 : Hid (∀ u, Below W7.heap.size W7 u → Calls Try.prog 48 #[(.agg #[.pointer none, .int .i64 (0 : Nat), .int .i64 (0 : Nat), .int .i64 (0 : Nat), .int .i64 (0 : Nat), .int .i64 (0 : Nat)]), .int .i64 0, .float .f64 4607182418800017408] u fun e w' => e = .returned (.int .i64 (1 : Int)) ∧ Below u.heap.size u w') := fun u hB => (Put_any u Vw.none u.heap.size [] 0 4607182418800017408 (none_ok _ _ _)).mono (fun e w' h => ⟨h.1, h.2.2.below (Nat.le_refl _)⟩)
  have H83 : Hid (∀ u, Below W7.heap.size W7 u → Calls Try.prog 49 #[(.agg #[.pointer none, .int .i64 (0 : Nat), .int .i64 (0 : Nat), .int .i64 (0 : Nat), .int .i64 (0 : Nat), .int .i64 (0 : Nat)]), .float .f64 4607182418800017408] u fun e w' => e = .returned (.int .i64 (1 : Int)) ∧ Below u.heap.size u w') := fun u hB => (Fill_any u Vw.none u.heap.size [] 4607182418800017408 (none_ok _ _ _)).mono (fun e w' h => ⟨h.1, h.2.2.below (Nat.le_refl _)⟩)
  have H90 : Hid (∀ u, Below W7.heap.size W7 u → Calls Try.prog 56 #[(.agg #[.pointer none, .int .i64 (0 : Nat), .int .i64 (0 : Nat), .int .i64 (0 : Nat), .int .i64 (0 : Nat), .int .i64 (0 : Nat)]), (.agg #[.pointer (some ⟨st6, 0, none⟩), .int .i64 (2 : Nat), .int .i64 (3 : Nat), .int .i64 (0 : Nat), .int .i64 (3 : Nat), .int .i64 (1 : Nat)])] u fun e w' => e = .returned (.int .i64 (1 : Int)) ∧ Below u.heap.size u w') := fun u hB => (Take_any u Vw.none (newV st6 2 3) u.heap.size sb6 [] [4607182418800017408, 4611686018427387904, 4613937818241073152, 4616189618054758400, 4617315517961601024, 4618441417868443648] (none_ok _ _ _) (newV_ok (S6.below hB) (by decide) (by decide) rfl)).mono (fun e w' h => ⟨h.1, h.2.2.below (Nat.le_refl _)⟩)
  have H97 : Hid (∀ u, Below W7.heap.size W7 u → Calls Try.prog 56 #[(.agg #[.pointer (some ⟨st6, 0, none⟩), .int .i64 (2 : Nat), .int .i64 (3 : Nat), .int .i64 (0 : Nat), .int .i64 (3 : Nat), .int .i64 (1 : Nat)]), (.agg #[.pointer none, .int .i64 (0 : Nat), .int .i64 (0 : Nat), .int .i64 (0 : Nat), .int .i64 (0 : Nat), .int .i64 (0 : Nat)])] u fun e w' => e = .returned (.int .i64 (1 : Int)) ∧ Below u.heap.size u w') := fun u hB => Take_z u _ 2 3 0 3 1
  have H103 : Hid (∀ u, Below W7.heap.size W7 u → Calls Try.prog 42 #[(.agg #[.pointer none, .int .i64 (0 : Nat), .int .i64 (0 : Nat), .int .i64 (0 : Nat), .int .i64 (0 : Nat), .int .i64 (0 : Nat)])] u fun e w' => e = .returned (.agg #[.pointer none, .int .i64 (0 : Nat), .int .i64 (0 : Nat), .int .i64 (0 : Nat), .int .i64 (0 : Nat), .int .i64 (0 : Nat)]) ∧ Below u.heap.size u w') := fun u hB => T_any Vw.none u
  have H109 : Hid (∀ u, Below W7.heap.size W7 u → Calls Try.prog 59 #[(.agg #[.pointer none, .int .i64 (0 : Nat), .int .i64 (0 : Nat), .int .i64 (0 : Nat), .int .i64 (0 : Nat), .int .i64 (0 : Nat)])] u fun e w' => e = .returned (.agg #[.pointer none, .int .i64 (0 : Nat), .int .i64 (0 : Nat), .int .i64 (0 : Nat), .int .i64 (0 : Nat), .int .i64 (0 : Nat)]) ∧ Below u.heap.size u w') := fun u hB => Diag_any Vw.none u 0 (none_bnd 0) (by decide)
  have H115 : Hid (∀ u, Below W7.heap.size W7 u → Calls Try.prog 45 #[(.agg #[.pointer none, .int .i64 (0 : Nat), .int .i64 (0 : Nat), .int .i64 (0 : Nat), .int .i64 (0 : Nat), .int .i64 (0 : Nat)]), .int .i64 0, .int .i64 0, .int .i64 0, .int .i64 0] u fun e w' => e = .returned (.agg #[.pointer none, .int .i64 (0 : Nat), .int .i64 (0 : Nat), .int .i64 (0 : Nat), .int .i64 (0 : Nat), .int .i64 (0 : Nat)]) ∧ Below u.heap.size u w') := fun u hB => Part_any Vw.none 0 0 0 0 u 0 (none_bnd 0) (by decide)
  have H121 : Hid (∀ u, Below W7.heap.size W7 u → Calls Try.prog 53 #[(.agg #[.pointer none, .int .i64 (0 : Nat), .int .i64 (0 : Nat), .int .i64 (0 : Nat), .int .i64 (0 : Nat), .int .i64 (0 : Nat)])] u fun e w' => e = .returned (.agg #[.pointer none, .int .i64 (0 : Nat), .int .i64 (0 : Nat), .int .i64 (0 : Nat), .int .i64 (0 : Nat), .int .i64 (0 : Nat)]) ∧ Below u.heap.size u w') := fun u hB => (Copy_any u Vw.none 0 [] (none_ok _ _ _)).mono (fun e w' h => by obtain ⟨st, sb', h1, _, _, _, h2⟩ := h; exact ⟨h1, h2⟩)
  have H127 : Hid (∀ u, Below W7.heap.size W7 u → Calls Try.prog 29 #[(.agg #[.pointer none, .int .i64 (0 : Nat), .int .i64 (0 : Nat), .int .i64 (0 : Nat), .int .i64 (0 : Nat), .int .i64 (0 : Nat)])] u fun e w' => e = .returned (.bool false) ∧ Below u.heap.size u w') := fun u hB => Vector_any none 0 0 0 0 0 u
  have H133 : Hid (∀ u, Below W7.heap.size W7 u → Calls Try.prog 54 #[(.agg #[.pointer none, .int .i64 (0 : Nat), .int .i64 (0 : Nat), .int .i64 (0 : Nat), .int .i64 (0 : Nat), .int .i64 (0 : Nat)]), (.agg #[.pointer (some ⟨st6, 0, none⟩), .int .i64 (2 : Nat), .int .i64 (3 : Nat), .int .i64 (0 : Nat), .int .i64 (3 : Nat), .int .i64 (1 : Nat)])] u fun e w' => e = .returned (.bool false) ∧ Below u.heap.size u w') := fun u hB => Shares_nil u Vw.none (newV st6 2 3) rfl
  have H139 : Hid (∀ u, Below W7.heap.size W7 u → Calls Try.prog 39 #[(.agg #[.pointer none, .int .i64 (0 : Nat), .int .i64 (0 : Nat), .int .i64 (0 : Nat), .int .i64 (0 : Nat), .int .i64 (0 : Nat)]), .agg #[.slice none 0 0, .int .i64 0, .int .i64 0, .slice none 0 0, .bool false], .int .i64 0] u fun e w' => e = .returned (.bool true) ∧ Below u.heap.size u w') := fun u hB => once_any u Vw.none 0 [] none 0 _ (fun _ => True) 0 (none_ok _ _ _) (RefV.none _ _ _ _ _) (fun hz => absurd rfl hz) (fun y hy => by cases hy)
  have H143 : Hid (∀ u, Below W7.heap.size W7 u → Calls Try.prog 38 #[(.agg #[.pointer none, .int .i64 (0 : Nat), .int .i64 (0 : Nat), .int .i64 (0 : Nat), .int .i64 (0 : Nat), .int .i64 (0 : Nat)])] u fun e w' => ∃ sv, e = .returned (.agg #[.int .i64 (0 : Int), .int .i64 (0 : Int), sv]) ∧ Below u.heap.size u w') := fun u hB => (Matrix_any u Vw.none 0 [] (none_ok _ _ _)).mono (fun e w' h => by obtain ⟨sv, h1, _, h2⟩ := h; exact ⟨sv, h1, h2⟩)
  have H149 : Hid (∀ u, Below W7.heap.size W7 u → Calls Try.prog 45 #[(.agg #[.pointer (some ⟨st6, 0, none⟩), .int .i64 (2 : Nat), .int .i64 (3 : Nat), .int .i64 (0 : Nat), .int .i64 (3 : Nat), .int .i64 (1 : Nat)]), .int .i64 2, .int .i64 3, .int .i64 0, .int .i64 0] u fun e w' => e = .returned (.agg #[.pointer (some ⟨st6, 0, none⟩), .int .i64 (0 : Nat), .int .i64 (0 : Nat), .int .i64 (9 : Nat), .int .i64 (3 : Nat), .int .i64 (1 : Nat)]) ∧ Below u.heap.size u w') := fun u hB => Part_any (newV st6 2 3) 2 3 0 0 u 0 (newV_bnd (by decide) (by decide)) (by decide)
  have H151 : Hid (∀ u, Below W7.heap.size W7 u → Calls Try.prog 26 #[(.agg #[.pointer (some ⟨st6, 0, none⟩), .int .i64 (0 : Nat), .int .i64 (0 : Nat), .int .i64 (9 : Nat), .int .i64 (3 : Nat), .int .i64 (1 : Nat)]), (.agg #[.pointer (some ⟨st2, 0, none⟩), .int .i64 (0 : Nat), .int .i64 (0 : Nat), .int .i64 (0 : Nat), .int .i64 (0 : Nat), .int .i64 (1 : Nat)])] u fun e w' => e = .returned (.bool true) ∧ Below u.heap.size u w') := fun u hB => Same_any u ((newV st6 2 3).part 2 3 0 0) (newV st2 0 0) sb6 sb2 [4607182418800017408, 4611686018427387904, 4613937818241073152, 4616189618054758400, 4617315517961601024, 4618441417868443648] zs2 (part_ok (newV_ok (S6.below hB) (by decide) (by decide) rfl) 2 3 0 0) (newV_ok (S2.below hB) (by decide) (by decide) z2)
  have H154 : Hid (∀ u, Below W7.heap.size W7 u → Calls Try.prog 21 #[] u fun e w' => e = .returned (.bool true) ∧ Below u.heap.size u w') := fun u hB => known07 u
  have HX := Lib.hid (show (∀ u, Below W7.heap.size W7 u → ∀ i, u.cell? ⟨b1, i, none⟩ = ([.pointer (some ⟨st1, 0, none⟩), .int .i64 (512 : Nat), .int .i64 (512 : Nat), .int .i64 (0 : Nat), .int .i64 (512 : Nat), .int .i64 (1 : Nat)] : List Value)[i]?) ∧ (∀ u, Below W7.heap.size W7 u → ∀ i, u.cell? ⟨b2, i, none⟩ = ([.pointer (some ⟨st2, 0, none⟩), .int .i64 (0 : Nat), .int .i64 (0 : Nat), .int .i64 (0 : Nat), .int .i64 (0 : Nat), .int .i64 (1 : Nat)] : List Value)[i]?) ∧ (∀ u, Below W7.heap.size W7 u → ∀ i, u.cell? ⟨b3, i, none⟩ = ([.pointer (some ⟨st3, 0, none⟩), .int .i64 (1 : Nat), .int .i64 (0 : Nat), .int .i64 (0 : Nat), .int .i64 (0 : Nat), .int .i64 (1 : Nat)] : List Value)[i]?) ∧ (∀ u, Below W7.heap.size W7 u → ∀ i, u.cell? ⟨b4, i, none⟩ = ([.pointer (some ⟨st4, 0, none⟩), .int .i64 (3 : Nat), .int .i64 (0 : Nat), .int .i64 (0 : Nat), .int .i64 (0 : Nat), .int .i64 (1 : Nat)] : List Value)[i]?) ∧ (∀ u, Below W7.heap.size W7 u → ∀ i, u.cell? ⟨b5, i, none⟩ = ([.pointer none, .int .i64 (0 : Nat), .int .i64 (0 : Nat), .int .i64 (0 : Nat), .int .i64 (0 : Nat), .int .i64 (0 : Nat)] : List Value)[i]?) ∧ (∀ u, Below W7.heap.size W7 u → ∀ i, u.cell? ⟨b6, i, none⟩ = ([.pointer (some ⟨st6, 0, none⟩), .int .i64 (2 : Nat), .int .i64 (3 : Nat), .int .i64 (0 : Nat), .int .i64 (3 : Nat), .int .i64 (1 : Nat)] : List Value)[i]?) from ⟨fun u h => (X1.below h).cell, fun u h => (X2.below h).cell, fun u h => (X3.below h).cell, fun u h => (X4.below h).cell, fun u h => (X5.below h).cell, fun u h => (X6.below h).cell⟩)
  clear X1 X2 X3 X4 X5 X6 S2 S6 z2
  have h0 := below_drewN 1 (Below.refl W7.heap.size W7)
  refine wp_region_items 155 [(true, 0), (true, 2), (true, 5), (true, 8), (true, 11), (false, 1), (false, 3), (true, 4), (false, 6), (true, 7), (false, 9), (true, 10), (false, 12), (true, 13), (true, 14), (true, 15), (true, 16), (false, 17), (true, 18), (true, 19), (true, 20), (true, 21), (false, 22), (true, 23), (true, 24), (true, 25), (false, 26), (true, 27), (true, 28), (true, 29), (false, 30), (true, 31), (true, 32), (true, 33), (true, 34), (false, 35), (true, 36), (true, 37), (true, 38), (true, 39), (true, 40), (false, 41), (true, 42), (true, 43), (true, 44), (true, 45), (false, 46), (true, 47), (true, 48), (true, 49), (true, 50), (true, 51), (false, 52), (true, 53), (true, 54), (true, 55), (true, 57), (true, 60), (false, 56), (false, 58), (true, 59), (false, 61), (true, 62), (true, 63), (true, 64), (true, 65), (true, 66), (false, 67), (true, 68), (true, 69), (true, 70), (true, 71), (false, 72), (true, 73), (true, 74), (true, 75), (true, 76), (false, 77), (false, 78), (true, 79), (true, 80), (true, 81), (true, 82), (false, 83), (false, 84), (true, 85), (true, 86), (true, 87), (true, 88), (true, 89), (false, 90), (false, 91), (true, 92), (true, 93), (true, 94), (true, 95), (true, 96), (false, 97), (false, 98), (true, 99), (true, 100), (true, 101), (true, 102), (true, 104), (false, 103), (false, 105), (true, 106), (true, 107), (true, 108), (true, 110), (false, 109), (false, 111), (true, 112), (true, 113), (true, 114), (true, 116), (false, 115), (false, 117), (true, 118), (true, 119), (true, 120), (true, 122), (false, 121), (false, 123), (true, 124), (true, 125), (true, 126), (false, 127), (true, 128), (true, 129), (true, 130), (true, 131), (true, 132), (false, 133), (true, 134), (true, 135), (true, 136), (true, 137), (true, 138), (false, 139), (true, 140), (true, 141), (true, 142), (false, 143), (true, 144), (true, 145), (true, 146), (true, 147), (true, 148), (true, 150), (false, 149), (false, 151), (true, 152), (true, 153), (false, 154)] (fun W => Below W7.heap.size W7 W) (by kernel_rfl) (itemsR_of (by kernel_rfl)) h0 ?_
  iterate 5 (refine iW_take (v := ?_) rfl rfl ?_ ?_; rotate_left; (next => (intro w' hSw; (try dsimp only at hSw); have hX1 := HX.out.1 w' hSw; have hX2 := HX.out.2.1 w' hSw; have hX3 := HX.out.2.2.1 w' hSw; have hX4 := HX.out.2.2.2.1 w' hSw; have hX5 := HX.out.2.2.2.2.1 w' hSw; have hX6 := HX.out.2.2.2.2.2 w' hSw; go_simp; (try with_reducible rfl))); (simp only [Act.put, List.setIfInBounds_toArray, List.set_cons_zero, List.set_cons_succ]))
  refine iW_mid rfl rfl ?_
  go_simp
  go_at_call 41
  refine (num_any _ _).mono ?_
  rintro e u' ⟨rfl, rfl⟩
  refine ⟨h0, ?_⟩
  refine iW_mid rfl rfl ?_
  go_simp
  go_at_call 41
  refine (num_any _ _).mono ?_
  rintro e u' ⟨rfl, rfl⟩
  refine ⟨h0, ?_⟩
  iterate 1 (refine iW_take (v := ?_) rfl rfl ?_ ?_; rotate_left; (next => (intro w' hSw; (try dsimp only at hSw); have hX1 := HX.out.1 w' hSw; have hX2 := HX.out.2.1 w' hSw; have hX3 := HX.out.2.2.1 w' hSw; have hX4 := HX.out.2.2.2.1 w' hSw; have hX5 := HX.out.2.2.2.2.1 w' hSw; have hX6 := HX.out.2.2.2.2.2 w' hSw; go_simp; (try with_reducible rfl))); (simp only [Act.put, List.setIfInBounds_toArray, List.set_cons_zero, List.set_cons_succ]))
  refine iW_mid rfl rfl ?_
  go_simp
  go_at_call 41
  refine (num_any _ _).mono ?_
  rintro e u' ⟨rfl, rfl⟩
  refine ⟨h0, ?_⟩
  iterate 1 (refine iW_take (v := ?_) rfl rfl ?_ ?_; rotate_left; (next => (intro w' hSw; (try dsimp only at hSw); have hX1 := HX.out.1 w' hSw; have hX2 := HX.out.2.1 w' hSw; have hX3 := HX.out.2.2.1 w' hSw; have hX4 := HX.out.2.2.2.1 w' hSw; have hX5 := HX.out.2.2.2.2.1 w' hSw; have hX6 := HX.out.2.2.2.2.2 w' hSw; go_simp; (try with_reducible rfl))); (simp only [Act.put, List.setIfInBounds_toArray, List.set_cons_zero, List.set_cons_succ]))
  refine iW_mid rfl rfl ?_
  go_simp
  go_at_call 41
  refine (num_any _ _).mono ?_
  rintro e u' ⟨rfl, rfl⟩
  refine ⟨h0, ?_⟩
  iterate 1 (refine iW_take (v := ?_) rfl rfl ?_ ?_; rotate_left; (next => (intro w' hSw; (try dsimp only at hSw); have hX1 := HX.out.1 w' hSw; have hX2 := HX.out.2.1 w' hSw; have hX3 := HX.out.2.2.1 w' hSw; have hX4 := HX.out.2.2.2.1 w' hSw; have hX5 := HX.out.2.2.2.2.1 w' hSw; have hX6 := HX.out.2.2.2.2.2 w' hSw; go_simp; (try with_reducible rfl))); (simp only [Act.put, List.setIfInBounds_toArray, List.set_cons_zero, List.set_cons_succ]))
  refine iW_mid rfl rfl ?_
  go_simp
  go_at_call 41
  refine (num_any _ _).mono ?_
  rintro e u' ⟨rfl, rfl⟩
  refine ⟨h0, ?_⟩
  iterate 4 (refine iW_take (v := ?_) rfl rfl ?_ ?_; rotate_left; (next => (intro w' hSw; (try dsimp only at hSw); have hX1 := HX.out.1 w' hSw; have hX2 := HX.out.2.1 w' hSw; have hX3 := HX.out.2.2.1 w' hSw; have hX4 := HX.out.2.2.2.1 w' hSw; have hX5 := HX.out.2.2.2.2.1 w' hSw; have hX6 := HX.out.2.2.2.2.2 w' hSw; go_simp; (try with_reducible rfl))); (simp only [Act.put, List.setIfInBounds_toArray, List.set_cons_zero, List.set_cons_succ]))
  refine iW_mid rfl rfl ?_
  go_simp
  go_at_call 27
  refine (H17.out _ h0).mono ?_
  rintro e u' ⟨rfl, hbn⟩
  have h1 := below_step h0 h0.size hbn
  clear hbn
  refine ⟨h1, ?_⟩
  iterate 4 (refine iW_take (v := ?_) rfl rfl ?_ ?_; rotate_left; (next => (intro w' hSw; (try dsimp only at hSw); have hX1 := HX.out.1 w' hSw; have hX2 := HX.out.2.1 w' hSw; have hX3 := HX.out.2.2.1 w' hSw; have hX4 := HX.out.2.2.2.1 w' hSw; have hX5 := HX.out.2.2.2.2.1 w' hSw; have hX6 := HX.out.2.2.2.2.2 w' hSw; go_simp; (try with_reducible rfl))); (simp only [Act.put, List.setIfInBounds_toArray, List.set_cons_zero, List.set_cons_succ]))
  refine iW_mid rfl rfl ?_
  go_simp
  go_at_call 29
  refine (H22.out _ h1).mono ?_
  rintro e u' ⟨rfl, hbn⟩
  have h2 := below_step h1 h1.size hbn
  clear hbn
  refine ⟨h2, ?_⟩
  iterate 3 (refine iW_take (v := ?_) rfl rfl ?_ ?_; rotate_left; (next => (intro w' hSw; (try dsimp only at hSw); have hX1 := HX.out.1 w' hSw; have hX2 := HX.out.2.1 w' hSw; have hX3 := HX.out.2.2.1 w' hSw; have hX4 := HX.out.2.2.2.1 w' hSw; have hX5 := HX.out.2.2.2.2.1 w' hSw; have hX6 := HX.out.2.2.2.2.2 w' hSw; go_simp; (try with_reducible rfl))); (simp only [Act.put, List.setIfInBounds_toArray, List.set_cons_zero, List.set_cons_succ]))
  refine iW_mid rfl rfl ?_
  go_simp
  go_at_call 29
  refine (H26.out _ h2).mono ?_
  rintro e u' ⟨rfl, hbn⟩
  have h3 := below_step h2 h2.size hbn
  clear hbn
  refine ⟨h3, ?_⟩
  iterate 3 (refine iW_take (v := ?_) rfl rfl ?_ ?_; rotate_left; (next => (intro w' hSw; (try dsimp only at hSw); have hX1 := HX.out.1 w' hSw; have hX2 := HX.out.2.1 w' hSw; have hX3 := HX.out.2.2.1 w' hSw; have hX4 := HX.out.2.2.2.1 w' hSw; have hX5 := HX.out.2.2.2.2.1 w' hSw; have hX6 := HX.out.2.2.2.2.2 w' hSw; go_simp; (try with_reducible rfl))); (simp only [Act.put, List.setIfInBounds_toArray, List.set_cons_zero, List.set_cons_succ]))
  refine iW_mid rfl rfl ?_
  go_simp
  go_at_call 29
  refine (H30.out _ h3).mono ?_
  rintro e u' ⟨rfl, hbn⟩
  have h4 := below_step h3 h3.size hbn
  clear hbn
  refine ⟨h4, ?_⟩
  iterate 4 (refine iW_take (v := ?_) rfl rfl ?_ ?_; rotate_left; (next => (intro w' hSw; (try dsimp only at hSw); have hX1 := HX.out.1 w' hSw; have hX2 := HX.out.2.1 w' hSw; have hX3 := HX.out.2.2.1 w' hSw; have hX4 := HX.out.2.2.2.1 w' hSw; have hX5 := HX.out.2.2.2.2.1 w' hSw; have hX6 := HX.out.2.2.2.2.2 w' hSw; go_simp; (try with_reducible rfl))); (simp only [Act.put, List.setIfInBounds_toArray, List.set_cons_zero, List.set_cons_succ]))
  refine iW_mid rfl rfl ?_
  go_simp
  go_at_call 31
  refine (H35.out _ h4).mono ?_
  rintro e u' ⟨rfl, hbn⟩
  have h5 := below_step h4 h4.size hbn
  clear hbn
  refine ⟨h5, ?_⟩
  iterate 5 (refine iW_take (v := ?_) rfl rfl ?_ ?_; rotate_left; (next => (intro w' hSw; (try dsimp only at hSw); have hX1 := HX.out.1 w' hSw; have hX2 := HX.out.2.1 w' hSw; have hX3 := HX.out.2.2.1 w' hSw; have hX4 := HX.out.2.2.2.1 w' hSw; have hX5 := HX.out.2.2.2.2.1 w' hSw; have hX6 := HX.out.2.2.2.2.2 w' hSw; go_simp; (try with_reducible rfl))); (simp only [Act.put, List.setIfInBounds_toArray, List.set_cons_zero, List.set_cons_succ]))
  refine iW_mid rfl rfl ?_
  go_simp
  go_at_call 26
  refine (H41.out _ h5).mono ?_
  rintro e u' ⟨rfl, hbn⟩
  have h6 := below_step h5 h5.size hbn
  clear hbn
  refine ⟨h6, ?_⟩
  iterate 4 (refine iW_take (v := ?_) rfl rfl ?_ ?_; rotate_left; (next => (intro w' hSw; (try dsimp only at hSw); have hX1 := HX.out.1 w' hSw; have hX2 := HX.out.2.1 w' hSw; have hX3 := HX.out.2.2.1 w' hSw; have hX4 := HX.out.2.2.2.1 w' hSw; have hX5 := HX.out.2.2.2.2.1 w' hSw; have hX6 := HX.out.2.2.2.2.2 w' hSw; go_simp; (try with_reducible rfl))); (simp only [Act.put, List.setIfInBounds_toArray, List.set_cons_zero, List.set_cons_succ]))
  refine iW_mid rfl rfl ?_
  go_simp
  go_at_call 26
  refine (H46.out _ h6).mono ?_
  rintro e u' ⟨rfl, hbn⟩
  have h7 := below_step h6 h6.size hbn
  clear hbn
  refine ⟨h7, ?_⟩
  iterate 5 (refine iW_take (v := ?_) rfl rfl ?_ ?_; rotate_left; (next => (intro w' hSw; (try dsimp only at hSw); have hX1 := HX.out.1 w' hSw; have hX2 := HX.out.2.1 w' hSw; have hX3 := HX.out.2.2.1 w' hSw; have hX4 := HX.out.2.2.2.1 w' hSw; have hX5 := HX.out.2.2.2.2.1 w' hSw; have hX6 := HX.out.2.2.2.2.2 w' hSw; go_simp; (try with_reducible rfl))); (simp only [Act.put, List.setIfInBounds_toArray, List.set_cons_zero, List.set_cons_succ]))
  refine iW_mid rfl rfl ?_
  go_simp
  go_at_call 26
  refine (H52.out _ h7).mono ?_
  rintro e u' ⟨rfl, hbn⟩
  have h8 := below_step h7 h7.size hbn
  clear hbn
  refine ⟨h8, ?_⟩
  iterate 5 (refine iW_take (v := ?_) rfl rfl ?_ ?_; rotate_left; (next => (intro w' hSw; (try dsimp only at hSw); have hX1 := HX.out.1 w' hSw; have hX2 := HX.out.2.1 w' hSw; have hX3 := HX.out.2.2.1 w' hSw; have hX4 := HX.out.2.2.2.1 w' hSw; have hX5 := HX.out.2.2.2.2.1 w' hSw; have hX6 := HX.out.2.2.2.2.2 w' hSw; go_simp; (try with_reducible rfl))); (simp only [Act.put, List.setIfInBounds_toArray, List.set_cons_zero, List.set_cons_succ]))
  refine iW_mid rfl rfl ?_
  go_simp
  go_at_call 27
  refine (H56.out _ h8).mono ?_
  rintro e u' ⟨rfl, hbn⟩
  have h9 := below_step h8 h8.size hbn
  clear hbn
  refine ⟨h9, ?_⟩
  refine iW_mid rfl rfl ?_
  go_simp
  go_at_call 28
  refine (H58.out _ h9).mono ?_
  rintro e u' ⟨rfl, hbn⟩
  have h10 := below_step h9 h9.size hbn
  clear hbn
  refine ⟨h10, ?_⟩
  iterate 1 (refine iW_take (v := ?_) rfl rfl ?_ ?_; rotate_left; (next => (intro w' hSw; (try dsimp only at hSw); have hX1 := HX.out.1 w' hSw; have hX2 := HX.out.2.1 w' hSw; have hX3 := HX.out.2.2.1 w' hSw; have hX4 := HX.out.2.2.2.1 w' hSw; have hX5 := HX.out.2.2.2.2.1 w' hSw; have hX6 := HX.out.2.2.2.2.2 w' hSw; go_simp; (try with_reducible rfl))); (simp only [Act.put, List.setIfInBounds_toArray, List.set_cons_zero, List.set_cons_succ]))
  refine iW_mid rfl rfl ?_
  go_simp
  go_at_call 31
  refine (H61.out _ h10).mono ?_
  rintro e u' ⟨rfl, hbn⟩
  have h11 := below_step h10 h10.size hbn
  clear hbn
  refine ⟨h11, ?_⟩
  iterate 5 (refine iW_take (v := ?_) rfl rfl ?_ ?_; rotate_left; (next => (intro w' hSw; (try dsimp only at hSw); have hX1 := HX.out.1 w' hSw; have hX2 := HX.out.2.1 w' hSw; have hX3 := HX.out.2.2.1 w' hSw; have hX4 := HX.out.2.2.2.1 w' hSw; have hX5 := HX.out.2.2.2.2.1 w' hSw; have hX6 := HX.out.2.2.2.2.2 w' hSw; go_simp; (try with_reducible rfl))); (simp only [Act.put, List.setIfInBounds_toArray, List.set_cons_zero, List.set_cons_succ]))
  refine iW_mid rfl rfl ?_
  go_simp
  go_at_call 34
  refine (H67.out _ h11).mono ?_
  rintro e u' ⟨rfl, hbn⟩
  have h12 := below_step h11 h11.size hbn
  clear hbn
  refine ⟨h12, ?_⟩
  iterate 4 (refine iW_take (v := ?_) rfl rfl ?_ ?_; rotate_left; (next => (intro w' hSw; (try dsimp only at hSw); have hX1 := HX.out.1 w' hSw; have hX2 := HX.out.2.1 w' hSw; have hX3 := HX.out.2.2.1 w' hSw; have hX4 := HX.out.2.2.2.1 w' hSw; have hX5 := HX.out.2.2.2.2.1 w' hSw; have hX6 := HX.out.2.2.2.2.2 w' hSw; go_simp; (try with_reducible rfl))); (simp only [Act.put, List.setIfInBounds_toArray, List.set_cons_zero, List.set_cons_succ]))
  refine iW_mid rfl rfl ?_
  go_simp
  go_at_call 37
  refine (H72.out _ h12).mono ?_
  rintro e u' ⟨rfl, hbn⟩
  have h13 := below_step h12 h12.size hbn
  clear hbn
  refine ⟨h13, ?_⟩
  iterate 4 (refine iW_take (v := ?_) rfl rfl ?_ ?_; rotate_left; (next => (intro w' hSw; (try dsimp only at hSw); have hX1 := HX.out.1 w' hSw; have hX2 := HX.out.2.1 w' hSw; have hX3 := HX.out.2.2.1 w' hSw; have hX4 := HX.out.2.2.2.1 w' hSw; have hX5 := HX.out.2.2.2.2.1 w' hSw; have hX6 := HX.out.2.2.2.2.2 w' hSw; go_simp; (try with_reducible rfl))); (simp only [Act.put, List.setIfInBounds_toArray, List.set_cons_zero, List.set_cons_succ]))
  refine iW_mid rfl rfl ?_
  go_simp
  go_at_call 48
  refine (H77.out _ h13).mono ?_
  rintro e u' ⟨rfl, hbn⟩
  have h14 := below_step h13 h13.size hbn
  clear hbn
  refine ⟨h14, ?_⟩
  refine iW_mid rfl rfl ?_
  go_simp
  go_at_call 41
  refine (num_any _ _).mono ?_
  rintro e u' ⟨rfl, rfl⟩
  refine ⟨h14, ?_⟩
  iterate 4 (refine iW_take (v := ?_) rfl rfl ?_ ?_; rotate_left; (next => (intro w' hSw; (try dsimp only at hSw); have hX1 := HX.out.1 w' hSw; have hX2 := HX.out.2.1 w' hSw; have hX3 := HX.out.2.2.1 w' hSw; have hX4 := HX.out.2.2.2.1 w' hSw; have hX5 := HX.out.2.2.2.2.1 w' hSw; have hX6 := HX.out.2.2.2.2.2 w' hSw; go_simp; (try with_reducible rfl))); (simp only [Act.put, List.setIfInBounds_toArray, List.set_cons_zero, List.set_cons_succ]))
  refine iW_mid rfl rfl ?_
  go_simp
  go_at_call 49
  refine (H83.out _ h14).mono ?_
  rintro e u' ⟨rfl, hbn⟩
  have h15 := below_step h14 h14.size hbn
  clear hbn
  refine ⟨h15, ?_⟩
  refine iW_mid rfl rfl ?_
  go_simp
  go_at_call 41
  refine (num_any _ _).mono ?_
  rintro e u' ⟨rfl, rfl⟩
  refine ⟨h15, ?_⟩
  iterate 5 (refine iW_take (v := ?_) rfl rfl ?_ ?_; rotate_left; (next => (intro w' hSw; (try dsimp only at hSw); have hX1 := HX.out.1 w' hSw; have hX2 := HX.out.2.1 w' hSw; have hX3 := HX.out.2.2.1 w' hSw; have hX4 := HX.out.2.2.2.1 w' hSw; have hX5 := HX.out.2.2.2.2.1 w' hSw; have hX6 := HX.out.2.2.2.2.2 w' hSw; go_simp; (try with_reducible rfl))); (simp only [Act.put, List.setIfInBounds_toArray, List.set_cons_zero, List.set_cons_succ]))
  refine iW_mid rfl rfl ?_
  go_simp
  go_at_call 56
  refine (H90.out _ h15).mono ?_
  rintro e u' ⟨rfl, hbn⟩
  have h16 := below_step h15 h15.size hbn
  clear hbn
  refine ⟨h16, ?_⟩
  refine iW_mid rfl rfl ?_
  go_simp
  go_at_call 41
  refine (num_any _ _).mono ?_
  rintro e u' ⟨rfl, rfl⟩
  refine ⟨h16, ?_⟩
  iterate 5 (refine iW_take (v := ?_) rfl rfl ?_ ?_; rotate_left; (next => (intro w' hSw; (try dsimp only at hSw); have hX1 := HX.out.1 w' hSw; have hX2 := HX.out.2.1 w' hSw; have hX3 := HX.out.2.2.1 w' hSw; have hX4 := HX.out.2.2.2.1 w' hSw; have hX5 := HX.out.2.2.2.2.1 w' hSw; have hX6 := HX.out.2.2.2.2.2 w' hSw; go_simp; (try with_reducible rfl))); (simp only [Act.put, List.setIfInBounds_toArray, List.set_cons_zero, List.set_cons_succ]))
  refine iW_mid rfl rfl ?_
  go_simp
  go_at_call 56
  refine (H97.out _ h16).mono ?_
  rintro e u' ⟨rfl, hbn⟩
  have h17 := below_step h16 h16.size hbn
  clear hbn
  refine ⟨h17, ?_⟩
  refine iW_mid rfl rfl ?_
  go_simp
  go_at_call 41
  refine (num_any _ _).mono ?_
  rintro e u' ⟨rfl, rfl⟩
  refine ⟨h17, ?_⟩
  iterate 5 (refine iW_take (v := ?_) rfl rfl ?_ ?_; rotate_left; (next => (intro w' hSw; (try dsimp only at hSw); have hX1 := HX.out.1 w' hSw; have hX2 := HX.out.2.1 w' hSw; have hX3 := HX.out.2.2.1 w' hSw; have hX4 := HX.out.2.2.2.1 w' hSw; have hX5 := HX.out.2.2.2.2.1 w' hSw; have hX6 := HX.out.2.2.2.2.2 w' hSw; go_simp; (try with_reducible rfl))); (simp only [Act.put, List.setIfInBounds_toArray, List.set_cons_zero, List.set_cons_succ]))
  refine iW_mid rfl rfl ?_
  go_simp
  go_at_call 42
  refine (H103.out _ h17).mono ?_
  rintro e u' ⟨rfl, hbn⟩
  have h18 := below_step h17 h17.size hbn
  clear hbn
  refine ⟨h18, ?_⟩
  refine iW_mid rfl rfl ?_
  go_simp
  go_at_call 26
  refine (H52.out _ h18).mono ?_
  rintro e u' ⟨rfl, hbn⟩
  have h19 := below_step h18 h18.size hbn
  clear hbn
  refine ⟨h19, ?_⟩
  iterate 4 (refine iW_take (v := ?_) rfl rfl ?_ ?_; rotate_left; (next => (intro w' hSw; (try dsimp only at hSw); have hX1 := HX.out.1 w' hSw; have hX2 := HX.out.2.1 w' hSw; have hX3 := HX.out.2.2.1 w' hSw; have hX4 := HX.out.2.2.2.1 w' hSw; have hX5 := HX.out.2.2.2.2.1 w' hSw; have hX6 := HX.out.2.2.2.2.2 w' hSw; go_simp; (try with_reducible rfl))); (simp only [Act.put, List.setIfInBounds_toArray, List.set_cons_zero, List.set_cons_succ]))
  refine iW_mid rfl rfl ?_
  go_simp
  go_at_call 59
  refine (H109.out _ h19).mono ?_
  rintro e u' ⟨rfl, hbn⟩
  have h20 := below_step h19 h19.size hbn
  clear hbn
  refine ⟨h20, ?_⟩
  refine iW_mid rfl rfl ?_
  go_simp
  go_at_call 26
  refine (H52.out _ h20).mono ?_
  rintro e u' ⟨rfl, hbn⟩
  have h21 := below_step h20 h20.size hbn
  clear hbn
  refine ⟨h21, ?_⟩
  iterate 4 (refine iW_take (v := ?_) rfl rfl ?_ ?_; rotate_left; (next => (intro w' hSw; (try dsimp only at hSw); have hX1 := HX.out.1 w' hSw; have hX2 := HX.out.2.1 w' hSw; have hX3 := HX.out.2.2.1 w' hSw; have hX4 := HX.out.2.2.2.1 w' hSw; have hX5 := HX.out.2.2.2.2.1 w' hSw; have hX6 := HX.out.2.2.2.2.2 w' hSw; go_simp; (try with_reducible rfl))); (simp only [Act.put, List.setIfInBounds_toArray, List.set_cons_zero, List.set_cons_succ]))
  refine iW_mid rfl rfl ?_
  go_simp
  go_at_call 45
  refine (H115.out _ h21).mono ?_
  rintro e u' ⟨rfl, hbn⟩
  have h22 := below_step h21 h21.size hbn
  clear hbn
  refine ⟨h22, ?_⟩
  refine iW_mid rfl rfl ?_
  go_simp
  go_at_call 26
  refine (H52.out _ h22).mono ?_
  rintro e u' ⟨rfl, hbn⟩
  have h23 := below_step h22 h22.size hbn
  clear hbn
  refine ⟨h23, ?_⟩
  iterate 4 (refine iW_take (v := ?_) rfl rfl ?_ ?_; rotate_left; (next => (intro w' hSw; (try dsimp only at hSw); have hX1 := HX.out.1 w' hSw; have hX2 := HX.out.2.1 w' hSw; have hX3 := HX.out.2.2.1 w' hSw; have hX4 := HX.out.2.2.2.1 w' hSw; have hX5 := HX.out.2.2.2.2.1 w' hSw; have hX6 := HX.out.2.2.2.2.2 w' hSw; go_simp; (try with_reducible rfl))); (simp only [Act.put, List.setIfInBounds_toArray, List.set_cons_zero, List.set_cons_succ]))
  refine iW_mid rfl rfl ?_
  go_simp
  go_at_call 53
  refine (H121.out _ h23).mono ?_
  rintro e u' ⟨rfl, hbn⟩
  have h24 := below_step h23 h23.size hbn
  clear hbn
  refine ⟨h24, ?_⟩
  refine iW_mid rfl rfl ?_
  go_simp
  go_at_call 26
  refine (H52.out _ h24).mono ?_
  rintro e u' ⟨rfl, hbn⟩
  have h25 := below_step h24 h24.size hbn
  clear hbn
  refine ⟨h25, ?_⟩
  iterate 3 (refine iW_take (v := ?_) rfl rfl ?_ ?_; rotate_left; (next => (intro w' hSw; (try dsimp only at hSw); have hX1 := HX.out.1 w' hSw; have hX2 := HX.out.2.1 w' hSw; have hX3 := HX.out.2.2.1 w' hSw; have hX4 := HX.out.2.2.2.1 w' hSw; have hX5 := HX.out.2.2.2.2.1 w' hSw; have hX6 := HX.out.2.2.2.2.2 w' hSw; go_simp; (try with_reducible rfl))); (simp only [Act.put, List.setIfInBounds_toArray, List.set_cons_zero, List.set_cons_succ]))
  refine iW_mid rfl rfl ?_
  go_simp
  go_at_call 29
  refine (H127.out _ h25).mono ?_
  rintro e u' ⟨rfl, hbn⟩
  have h26 := below_step h25 h25.size hbn
  clear hbn
  refine ⟨h26, ?_⟩
  iterate 5 (refine iW_take (v := ?_) rfl rfl ?_ ?_; rotate_left; (next => (intro w' hSw; (try dsimp only at hSw); have hX1 := HX.out.1 w' hSw; have hX2 := HX.out.2.1 w' hSw; have hX3 := HX.out.2.2.1 w' hSw; have hX4 := HX.out.2.2.2.1 w' hSw; have hX5 := HX.out.2.2.2.2.1 w' hSw; have hX6 := HX.out.2.2.2.2.2 w' hSw; go_simp; (try with_reducible rfl))); (simp only [Act.put, List.setIfInBounds_toArray, List.set_cons_zero, List.set_cons_succ]))
  refine iW_mid rfl rfl ?_
  go_simp
  go_at_call 54
  refine (H133.out _ h26).mono ?_
  rintro e u' ⟨rfl, hbn⟩
  have h27 := below_step h26 h26.size hbn
  clear hbn
  refine ⟨h27, ?_⟩
  iterate 5 (refine iW_take (v := ?_) rfl rfl ?_ ?_; rotate_left; (next => (intro w' hSw; (try dsimp only at hSw); have hX1 := HX.out.1 w' hSw; have hX2 := HX.out.2.1 w' hSw; have hX3 := HX.out.2.2.1 w' hSw; have hX4 := HX.out.2.2.2.1 w' hSw; have hX5 := HX.out.2.2.2.2.1 w' hSw; have hX6 := HX.out.2.2.2.2.2 w' hSw; go_simp; (try with_reducible rfl))); (simp only [Act.put, List.setIfInBounds_toArray, List.set_cons_zero, List.set_cons_succ]))
  refine iW_mid rfl rfl ?_
  go_simp
  go_at_call 39
  refine (H139.out _ h27).mono ?_
  rintro e u' ⟨rfl, hbn⟩
  have h28 := below_step h27 h27.size hbn
  clear hbn
  refine ⟨h28, ?_⟩
  iterate 3 (refine iW_take (v := ?_) rfl rfl ?_ ?_; rotate_left; (next => (intro w' hSw; (try dsimp only at hSw); have hX1 := HX.out.1 w' hSw; have hX2 := HX.out.2.1 w' hSw; have hX3 := HX.out.2.2.1 w' hSw; have hX4 := HX.out.2.2.2.1 w' hSw; have hX5 := HX.out.2.2.2.2.1 w' hSw; have hX6 := HX.out.2.2.2.2.2 w' hSw; go_simp; (try with_reducible rfl))); (simp only [Act.put, List.setIfInBounds_toArray, List.set_cons_zero, List.set_cons_succ]))
  refine iW_mid rfl rfl ?_
  go_simp
  go_at_call 38
  refine (H143.out _ h28).mono ?_
  rintro e u' ⟨sv, rfl, hbn⟩
  have h29 := below_step h28 h28.size hbn
  clear hbn
  refine ⟨h29, ?_⟩
  iterate 6 (refine iW_take (v := ?_) rfl rfl ?_ ?_; rotate_left; (next => (intro w' hSw; (try dsimp only at hSw); have hX1 := HX.out.1 w' hSw; have hX2 := HX.out.2.1 w' hSw; have hX3 := HX.out.2.2.1 w' hSw; have hX4 := HX.out.2.2.2.1 w' hSw; have hX5 := HX.out.2.2.2.2.1 w' hSw; have hX6 := HX.out.2.2.2.2.2 w' hSw; go_simp; (try with_reducible rfl))); (simp only [Act.put, List.setIfInBounds_toArray, List.set_cons_zero, List.set_cons_succ]))
  refine iW_mid rfl rfl ?_
  go_simp
  go_at_call 45
  refine (H149.out _ h29).mono ?_
  rintro e u' ⟨rfl, hbn⟩
  have h30 := below_step h29 h29.size hbn
  clear hbn
  refine ⟨h30, ?_⟩
  refine iW_mid rfl rfl ?_
  go_simp
  go_at_call 26
  refine (H151.out _ h30).mono ?_
  rintro e u' ⟨rfl, hbn⟩
  have h31 := below_step h30 h30.size hbn
  clear hbn
  refine ⟨h31, ?_⟩
  iterate 2 (refine iW_take (v := ?_) rfl rfl ?_ ?_; rotate_left; (next => (intro w' hSw; (try dsimp only at hSw); have hX1 := HX.out.1 w' hSw; have hX2 := HX.out.2.1 w' hSw; have hX3 := HX.out.2.2.1 w' hSw; have hX4 := HX.out.2.2.2.1 w' hSw; have hX5 := HX.out.2.2.2.2.1 w' hSw; have hX6 := HX.out.2.2.2.2.2 w' hSw; go_simp; (try with_reducible rfl))); (simp only [Act.put, List.setIfInBounds_toArray, List.set_cons_zero, List.set_cons_succ]))
  refine iW_mid rfl rfl ?_
  go_simp
  go_at_call 21
  refine (H154.out _ h31).mono ?_
  rintro e u' ⟨rfl, hbn⟩
  have h32 := below_step h31 h31.size hbn
  clear hbn
  refine ⟨h32, ?_⟩
  refine iW_nil ?_
  (try simp only [List.drop])
  go_wp2
  refine NoPanic.normal ?_
  go_wp2
  go_ret
  exact ⟨rfl, below_step hA6 hA6.size h32⟩
end Go.Proofs.Ytpjdibanjmmbkaa
