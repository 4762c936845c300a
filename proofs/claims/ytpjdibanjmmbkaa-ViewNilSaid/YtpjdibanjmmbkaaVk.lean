/- The chapter's rows on views hold. -/
import Derived.Test.YtpjdibanjmmbkaaVkL
namespace Go.Proofs.Ytpjdibanjmmbkaa
open Go Go.RowKit
set_option maxRecDepth 100000

set_option maxHeartbeats 8000000 in
theorem known07 (w : World) : Calls Try.prog 21 #[] w fun e w' => e = .returned (.bool true) ∧ Below w.heap.size w w' := by
  have q1 := feq4
  have q2 := feq9
  have q3 := feq5
  go_enter Try.func21, Try.ntmps21
  go_wp2_with fail
  refine (two3_any _).mono ?_
  rintro e w1 ⟨a, cap, rfl, hcel, hb1⟩
  go_wp2_with fail
  refine (Of_yes 2 3 a [4607182418800017408, 4611686018427387904, 4613937818241073152, 4616189618054758400, 4617315517961601024, 4618441417868443648] cap _ (by decide) (by decide) rfl hcel).mono ?_
  rintro e w2 ⟨st, sb, rfl, hst, hsb, hsto, hb2⟩
  have hB2 : Below w.heap.size w w2 := below_step hb1 hb1.size hb2
  have sz1 := hb1.size
  obtain ⟨st', est, k1, k2, k3⟩ := hsto
  obtain rfl : st = st' := by simpa using est
  have lst := k1.lt
  have lsb := k2.lt
  have S0 : Sto w2 (some ⟨st, 0, none⟩) sb ws6 := ⟨st, rfl, k1, k2, k3⟩
  have K0 : KnW w w2.heap.size st sb ws6 (w2.alloc (.cells #[.pointer (some ⟨st, 0, none⟩), .int .i64 (2 : Nat), .int .i64 (3 : Nat), .int .i64 (0 : Nat), .int .i64 (3 : Nat), .int .i64 (1 : Nat)] 45)) := ⟨Box.newA _ _ _ rfl, S0.alloc _, hB2.alloc hB2.size _, by omega, by omega, by omega, by omega, by omega, by omega⟩
  clear hcel hb1 hb2 hB2 k1 k2 k3 S0 sz1 est hst hsb lst lsb
  have ev : (newV st 2 3).val = (.agg #[.pointer (some ⟨st, 0, none⟩), .int .i64 (2 : Nat), .int .i64 (3 : Nat), .int .i64 (0 : Nat), .int .i64 (3 : Nat), .int .i64 (1 : Nat)]) := rfl
  rw [ev]
  generalize hb : w2.heap.size = b at K0
  obtain ⟨a1, a2, a3⟩ := K0.box.facts
  go_wp2_with fail
  refine (Part_any (newV st 2 3) 0 1 2 2 _ 0 (newV_bnd (by decide) (by decide)) (by decide)).mono ?_
  rintro e w3 ⟨rfl, hb3⟩
  rw [show ((newV st 2 3).part 0 1 2 2).val = (.agg #[.pointer (some ⟨st, 0, none⟩), .int .i64 2, .int .i64 2, .int .i64 1, .int .i64 3, .int .i64 1]) from rfl]
  have K1 := K0.step hb3
  clear K0 hb3 a1 a2 a3
  obtain ⟨a1, a2, a3⟩ := K1.box.facts
  go_wp2_with fail
  refine (Set_any _ ((newV st 2 3).part 0 1 2 2) sb ws6 1 1 4621256167635550208 (part_ok (kn_ok K1.sto rfl) 0 1 2 2)).mono ?_
  rintro e w4 ⟨rfl, hok, hb⟩
  rw [show ((newV st 2 3).part 0 1 2 2).putE 1 1 = 0 from rfl]
  have K2 : KnW w b st sb ws9 w4 := by
    rcases hok with h | ⟨h, _⟩
    · cases (show (some (⟨st, 0, none⟩ : Addr)) = none from congrArg Vw.p h)
    · exact ⟨K1.box.bel K1.lb.2.2.2.1 hb, h, (bel_step (Bel.of K1.below) K1.below.size hb).below K1.lb.2.2.1, K1.lb⟩
  clear K1 hok hb a1 a2 a3
  obtain ⟨a1, a2, a3⟩ := K2.box.facts
  go_wp2_with fail
  have K3 := K2.alloc (.cells #[.float .f64 4607182418800017408] 23)
  clear K2 a1 a2 a3
  obtain ⟨a1, a2, a3⟩ := K3.box.facts
  refine (Of_no 1 2 _ 1 _ _ (by decide) rfl).mono ?_
  rintro e w5 ⟨rfl, hb5⟩
  rw [show Vw.none.val = (.agg #[.pointer none, .int .i64 0, .int .i64 0, .int .i64 0, .int .i64 0, .int .i64 0]) from rfl]
  have K4 := K3.step hb5
  clear K3 hb5 a1 a2 a3
  obtain ⟨a1, a2, a3⟩ := K4.box.facts
  go_wp2_with fail
  have K5 := K4.alloc (.cells #[.pointer none, .int .i64 0, .int .i64 0, .int .i64 0, .int .i64 0, .int .i64 0] 45)
  clear K4 a1 a2 a3
  obtain ⟨a1, a2, a3⟩ := K5.box.facts
  refine (New_no 513 1 _ rfl).mono ?_
  rintro e w6 ⟨rfl, hb6⟩
  rw [show Vw.none.val = (.agg #[.pointer none, .int .i64 0, .int .i64 0, .int .i64 0, .int .i64 0, .int .i64 0]) from rfl]
  have K6 := K5.step hb6
  clear K5 hb6 a1 a2 a3
  obtain ⟨a1, a2, a3⟩ := K6.box.facts
  have K7 := K6.alloc (.cells #[.pointer none, .int .i64 0, .int .i64 0, .int .i64 0, .int .i64 0, .int .i64 0] 45)
  clear K6 a1 a2 a3
  obtain ⟨a1, a2, a3⟩ := K7.box.facts
  clear a1 a2 a3
  go_wp2
  dsimp only [List.append]
  go_region_held3 (fun w' => KnW w b st sb ws9 w' ∧ w'.cell? ⟨b, 0, none⟩ = some (.pointer (some ⟨st, 0, none⟩)) ∧ w'.cell? ⟨b, 1, none⟩ = some (.int .i64 2) ∧ w'.cell? ⟨b, 2, none⟩ = some (.int .i64 3) ∧ w'.cell? ⟨b, 3, none⟩ = some (.int .i64 0) ∧ w'.cell? ⟨b, 4, none⟩ = some (.int .i64 3) ∧ w'.cell? ⟨b, 5, none⟩ = some (.int .i64 1)) (first | exact kS (by assumption) | exact kS (KnW.drew (by assumption)))
    (first
      | (go_at_call 41; with_reducible refine (kNum (kL (by assumption)) _).mono ?_; rintro e w' ⟨rfl, hK'⟩)
      | (go_at_call 34; with_reducible refine (kAt10 (kL (by assumption))).mono ?_; rintro e w' ⟨rfl, hK'⟩)
      | (go_at_call 34; with_reducible refine (kAtT (kL (by assumption))).mono ?_; rintro e w' ⟨rfl, hK'⟩)
      | (go_at_call 34; with_reducible refine (kAt12 (kL (by assumption))).mono ?_; rintro e w' ⟨rfl, hK'⟩)
      | (go_at_call 42; with_reducible refine (kT (kL (by assumption))).mono ?_; rintro e w' ⟨rfl, hK'⟩)
      | (go_at_call 43; with_reducible refine (kRow1 (kL (by assumption))).mono ?_; rintro e w' ⟨rfl, hK'⟩)
      | (go_at_call 43; with_reducible refine (kRow0 (kL (by assumption))).mono ?_; rintro e w' ⟨rfl, hK'⟩)
      | (go_at_call 31; with_reducible refine (kLen (kL (by assumption))).mono ?_; rintro e w' ⟨rfl, hK'⟩)
      | (go_at_call 44; with_reducible refine (kCol3 (kL (by assumption))).mono ?_; rintro e w' ⟨rfl, hK'⟩)
      | (go_at_call 44; with_reducible refine (kCol0 (kL (by assumption))).mono ?_; rintro e w' ⟨rfl, hK'⟩)
      | (go_at_call 26; with_reducible refine (kSame (kL (by assumption))).mono ?_; rintro e w' ⟨rfl, hK'⟩)
      | (go_at_call 59; with_reducible refine (kDiag (kL (by assumption))).mono ?_; rintro e w' ⟨rfl, hK'⟩)
      | (go_at_call 37; with_reducible refine (kGet (kL (by assumption))).mono ?_; rintro e w' ⟨rfl, hK'⟩)
      | (go_at_call 54; with_reducible refine (kSh1 (kL (by assumption))).mono ?_; rintro e w' ⟨rfl, hK'⟩)
      | (go_at_call 54; with_reducible refine (kSh2 (kL (by assumption))).mono ?_; rintro e w' ⟨rfl, hK'⟩)
      | (go_at_call 46; with_reducible refine (kSet20 (kL (by assumption))).mono ?_; rintro e w' ⟨rfl, hK'⟩)
      | (go_at_call 46; with_reducible refine (kSetN (kL (by assumption))).mono ?_; rintro e w' ⟨rfl, hK'⟩)
      | (go_at_call 54; with_reducible refine (kSh3 (kL (by assumption)) (by assumption)).mono ?_; rintro e w' ⟨rfl, hK'⟩)
      | (go_at_call 53; with_reducible refine (kCopy (kL (by assumption))).mono ?_; rintro e w' ⟨stc, rfl, hcp, hK'⟩))
  all_goals go_wp2
  all_goals go_ret
  all_goals exact ⟨rfl, (kL (by assumption)).below⟩
end Go.Proofs.Ytpjdibanjmmbkaa
