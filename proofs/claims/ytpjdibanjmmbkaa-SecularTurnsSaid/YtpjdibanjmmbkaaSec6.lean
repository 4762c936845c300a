/- The statement's own function where there is a root: it answers true. -/
import Derived.Test.YtpjdibanjmmbkaaSec5
namespace Go.Proofs.Ytpjdibanjmmbkaa
open Go Go.RowKit
set_option maxRecDepth 100000

theorem isnan_small {h : Nat} (hh : h < 9218868437227405312) : isnan h = false ∧ isnan (9223372036854775808 + h) = false := by
  unfold isnan
  rw [decide_eq_false_iff_not, decide_eq_false_iff_not]
  omega
theorem keys_small {h : Nat} (hh : h < 9218868437227405312) : fkey h = h ∧ fkey (9223372036854775808 + h) = -(h : Int) := by
  unfold fkey
  rw [if_neg (by omega), if_pos (by omega)]
  omega
theorem fkey0 : fkey 0 = 0 := by decide
theorem isnan0 : isnan 0 = false := by kernel_rfl
/-- A root that is not 0: its sign, its size. -/
theorem sign_small {h : Nat} (hh : h < 9218868437227405312) (h0 : 0 < h) : flt h 0 = false ∧ flt 0 h = true ∧ flt (9223372036854775808 + h) 0 = true ∧ flt 0 (9223372036854775808 + h) = false ∧ fabs h = h ∧ fabs (9223372036854775808 + h) = h ∧ feq h h = true := by
  obtain ⟨n1, n2⟩ := isnan_small hh
  obtain ⟨k1, k2⟩ := keys_small hh
  rw [flt_key n1 isnan0, flt_key isnan0 n1, flt_key n2 isnan0, flt_key isnan0 n2, feq_key n1 n1, k1, k2, fkey0]
  unfold fabs
  simp
  omega

/-- The root's two sides, as the statement asks for them. -/
theorem turns_plain {ds zs : List Nat} {rho k : Nat} (h : mayS ds zs rho = 0) (hk : k < ds.length) (hf : ffin (greatS ds zs rho k) = true) (h2 : 2 ≤ offS ds zs rho k) :
    (feq (offS ds zs rho k) (greatS ds zs rho k) || aboveS (negS ds zs rho k) (sideS ds zs rho (atS ds zs rho k) (if negS ds zs rho k then 9223372036854775808 + offS ds zs rho k else offS ds zs rho k))) = true ∧
    aboveS (negS ds zs rho k) (sideS ds zs rho (atS ds zs rho k) (fmul (sgnS (negS ds zs rho k)) (offS ds zs rho k - 1))) = false := by
  obtain ⟨ho, hs⟩ := offS_spec h hk hf
  obtain ⟨h1, h3⟩ := hs h2
  refine ⟨?_, h3⟩
  rcases h1 with h1 | h1
  · rw [← h1, (sign_small ho (by omega)).2.2.2.2.2.2]; rfl
  · have e : fmul (sgnS (negS ds zs rho k)) (offS ds zs rho k) = (if negS ds zs rho k then 9223372036854775808 + offS ds zs rho k else offS ds zs rho k) := by
      cases hn : negS ds zs rho k
      · unfold sgnS
        rw [if_neg (by decide), if_neg (by decide), fmul_one ho]
      · unfold sgnS
        rw [if_pos rfl, if_pos rfl, fmul_mone ho]
    unfold testS at h1
    rw [e] at h1
    rw [h1]
    simp

set_option maxHeartbeats 4000000 in
/-- The root is too small: nothing is asked. -/
theorem turns_small (w : World) (da za : Option Addr) (ds zs : List Nat) (dc zc : Nat) (rho k : Nat) (hl : ds.length ≤ 16) (hlz : zs.length ≤ 30) (neg : Bool) (q h : Nat) (hh : h < 2)
    (HF0 : ∀ W, Below w.heap.size w W → Calls Try.prog 14 #[.agg #[.slice da ds.length dc, .slice za zs.length zc, .float .f64 rho], .int .i64 k] W fun e w' => (∃ m : Nat, e = .returned (.tuple #[.agg #[.int .i64 q, .float .f64 (if neg then 9223372036854775808 + h else h)], .int .i64 m, .int .i64 0])) ∧ Below W.heap.size W w') :
    Calls Try.prog 3 #[.agg #[.slice da ds.length dc, .slice za zs.length zc, .float .f64 rho], .int .i64 k] w fun e w' => e = .returned (.bool true) ∧ Below w.heap.size w w' := by
  have HF := Lib.hid HF0
  clear HF0
  have hB0 : Below w.heap.size w (w.alloc (.cells #[.slice da ds.length dc, .slice za zs.length zc, .float .f64 rho] 25)) := (Below.refl _ _).alloc (Nat.le_refl _) _
  have t1 : decide ((16 : Int) < (ds.length : Int)) = false := by simp; omega
  have t2 : decide ((30 : Int) < (zs.length : Int)) = false := by simp; omega
  have t3 : decide ((h : Int) < 2) = true := by simp; omega
  have hlt : (if neg then 9223372036854775808 + h else h) < 18446744073709551616 := by split <;> omega
  have hab : fabs (if neg then 9223372036854775808 + h else h) = h := by unfold fabs; split <;> omega
  go_enter Try.func3, Try.ntmps3
  go_wp2_with fail
  refine (HF.out _ hB0).mono ?_
  rintro e w1 ⟨⟨m, rfl⟩, hb1⟩
  generalize (if neg then 9223372036854775808 + h else h) = off at *
  have hB1 := below_step hB0 hB0.size hb1
  have s1 := hB1.size
  go_wp2_with (first | (go_at_call 15; refine (RefAbs_any _ hlt _).mono ?_; rintro e w2 ⟨rfl, rfl⟩; rw [hab]) | (go_at_call 13; refine (known_any _).mono ?_; rintro e w3 ⟨rfl, hb2⟩) | (refine wpList_flt rfl rfl rfl rfl rfl ?_; intro K hK _ _; go_frame; refine hK _ _ ?_; clear hK K))
  go_ret
  exact ⟨rfl, below_step (hB1.alloc s1 _) (by simp; omega) hb2⟩

set_option maxHeartbeats 8000000 in
/-- The root's two sides are asked. -/
theorem turns_walk (w : World) (da za : Option Addr) (ds zs : List Nat) (dc zc : Nat) (rho k : Nat) (hD : Fls w da ds) (hZ : Fls w za zs) (hl : ds.length ≤ 16) (hlz : zs.length ≤ 30) (hk : k < ds.length) (neg : Bool) (q g : Nat) (hg : 1 ≤ g) (hh : g + 1 < 9218868437227405312)
    (HF0 : ∀ W, Below w.heap.size w W → Calls Try.prog 14 #[.agg #[.slice da ds.length dc, .slice za zs.length zc, .float .f64 rho], .int .i64 k] W fun e w' => (∃ m : Nat, e = .returned (.tuple #[.agg #[.int .i64 q, .float .f64 (if neg then 9223372036854775808 + (g + 1) else g + 1)], .int .i64 m, .int .i64 0])) ∧ Below W.heap.size W w')
    (HS0 : ∀ W off, Below w.heap.size w W → Calls Try.prog 18 #[.agg #[.slice da ds.length dc, .slice za zs.length zc, .float .f64 rho], .agg #[.int .i64 q, .float .f64 off]] W fun e w' => (∃ s, e = .returned (.tuple #[.float .f64 (raw (sideS ds zs rho q off) s), .int .i64 0])) ∧ Below W.heap.size W w')
    (hx : (feq (g + 1) (greatS ds zs rho k) || aboveS neg (sideS ds zs rho q (if neg then 9223372036854775808 + (g + 1) else g + 1))) = true)
    (hy : aboveS neg (sideS ds zs rho q (fmul (sgnS neg) g)) = false) :
    Calls Try.prog 3 #[.agg #[.slice da ds.length dc, .slice za zs.length zc, .float .f64 rho], .int .i64 k] w fun e w' => e = .returned (.bool true) ∧ Below w.heap.size w w' := by
  have HF := Lib.hid HF0
  have HS := Lib.hid HS0
  clear HF0 HS0
  have hB0 : Below w.heap.size w (w.alloc (.cells #[.slice da ds.length dc, .slice za zs.length zc, .float .f64 rho] 25)) := (Below.refl _ _).alloc (Nat.le_refl _) _
  have b0 : Box (w.alloc (.cells #[.slice da ds.length dc, .slice za zs.length zc, .float .f64 rho] 25)) w.heap.size [.slice da ds.length dc, .slice za zs.length zc, .float .f64 rho] := Box.new w _ 25
  have t1 : decide ((16 : Int) < (ds.length : Int)) = false := by simp; omega
  have t2 : decide ((30 : Int) < (zs.length : Int)) = false := by simp; omega
  have t3 : decide ((g : Int) + 1 < 2) = false := by simp; omega
  obtain ⟨p1, p2, p3, p4, p5, p6, p7⟩ := sign_small hh (by omega)
  have hlt1 : 9223372036854775808 + (g + 1) < 18446744073709551616 := by omega
  have hlt2 : g + 1 < 18446744073709551616 := by omega
  have HXY := Lib.hid (And.intro hx hy)
  clear hx hy p7
  cases neg
  case false =>
    simp only [Bool.false_eq_true, if_false] at HF HXY
    unfold sgnS aboveS at HXY
    simp only [Bool.false_eq_true, if_false] at HXY
    go_enter Try.func3, Try.ntmps3
    go_wp2_with fail
    refine (HF.out _ hB0).mono ?_
    rintro e w1 ⟨⟨m, rfl⟩, hb1⟩
    have hB1 := below_step hB0 hB0.size hb1
    have b1 := b0.below hb1
    have s1 := hB1.size
    obtain ⟨a1, a2, a3⟩ := b1.facts
    go_wp2_with (first | (go_at_call 15; refine (RefAbs_any _ hlt2 _).mono ?_; rintro e w2 ⟨rfl, rfl⟩; rw [p5]) | (refine wpList_flt rfl rfl rfl rfl rfl ?_; intro K hK _ _; go_frame; refine hK _ _ ?_; clear hK K))
    have hB2 : Below w.heap.size w (w1.alloc (.cells #[.int .i64 q, .float .f64 (g + 1)] 28)) := hB1.alloc s1 _
    have b2 := b1.alloc (.cells #[.int .i64 q, .float .f64 (g + 1)] 28)
    have c2 : Box (w1.alloc (.cells #[.int .i64 q, .float .f64 (g + 1)] 28)) w1.heap.size [.int .i64 q, .float .f64 (g + 1)] := Box.new w1 _ 28
    refine (HS.out _ _ hB2).mono ?_
    rintro e w2 ⟨⟨s2, rfl⟩, hb2⟩
    have hB3 := below_step hB2 hB2.size hb2
    have b3 := b2.below hb2
    have c3 := c2.below hb2
    have hne : w.heap.size ≠ w1.heap.size := by omega
    clear b2 c2 hB2 hb2 a1 a2 a3 b1 hB1 hb1
    obtain ⟨a1, a2, a3⟩ := b3.facts
    obtain ⟨d1, d2, d3⟩ := c3.facts
    go_wp2_with (first | (refine wpList_flt rfl rfl rfl rfl rfl ?_; intro K hK _ _; go_frame; refine hK _ _ ?_; clear hK K))
    refine (HS.out _ _ (below_drewN _ hB3)).mono ?_
    rintro e w3 ⟨⟨s3, rfl⟩, hb3⟩
    have hb4 := below_undrew hb3
    have hB5 := below_step hB3 hB3.size hb4
    have b5 := b3.below hb4
    have c5 := c3.below hb4
    clear hb3 hb4 a1 a2 a3 d1 d2 d3 b3 c3 hB3
    obtain ⟨a1, a2, a3⟩ := b5.facts
    obtain ⟨d1, d2, d3⟩ := c5.facts
    have s5 := hB5.size
    have hy := HXY.out.2
    have HX : Hid (feq (g + 1) (greatS ds zs rho k) = true ∨ feq (g + 1) (greatS ds zs rho k) = false ∧ fle 0 (sideS ds zs rho q (g + 1)) = true) := by
      have hx := HXY.out.1
      cases hf : feq (g + 1) (greatS ds zs rho k)
      · rw [hf] at hx; exact .inr ⟨rfl, by simpa using hx⟩
      · exact .inl rfl
    by_cases hk1 : k + 1 = ds.length
    · have t4 : (((k : Nat) : Int) == ((ds.length : Nat) : Int) - 1) = true := by simp; omega
      have HG : Hid (greatS ds zs rho k = fmul rho (sqSum zs zs.length)) := by unfold greatS; rw [if_pos hk1]; rfl
      clear hk1
      go_wp2
      go_loopw [16, 17] (fun f i wr => ∃ j : Nat, j ≤ zs.length ∧ i = .int .i64 j ∧ IsF f (sqSum zs j) ∧ Below w3.heap.size w3 wr) (fun _ i _ => zs.length - (intOf i).toNat)
      case atStart => exact ⟨0, Nat.zero_le _, rfl, ⟨0, by kernel_rfl⟩, Below.refl _ _⟩
      case round =>
        obtain ⟨j, hj, rfl, ⟨s, rfl⟩, hB⟩ := hrel
        have b6 := b5.below hB
        have c6 := c5.below hB
        clear a1 a2 a3 d1 d2 d3
        obtain ⟨a1, a2, a3⟩ := b6.facts
        obtain ⟨d1, d2, d3⟩ := c6.facts
        by_cases hlt : j < zs.length
        · have ez : zs.getD j 0 = zs[j] := by simp [hlt]
          obtain ⟨b, o, s1, rfl, hb, hc1⟩ := (hZ.below (below_step hB5 s5 hB)).at hlt
          rw [ez] at hc1
          have HE : Hid (sqSum zs (j + 1) = fadd (sqSum zs j) (fmul zs[j] zs[j])) := by unfold Hid; rw [sqSum, ez]
          clear ez
          go_wp2
          refine wp_region_nqb 12 (fun _ _ _ => False) (by kernel_rfl) (by kernel_rfl) ?_
          intro C R hc hb' hb2 hd hR
          simp only [List.take_succ_cons, List.take_zero]
          repeat (
            first
              | (refine nqW_plain (fun K hK => ?_))
              | (refine nqW_step (fun K hK => ?_); go_simp)
            first
              | (refine nq_move rfl ?_; go_simp; refine hK _ ?_; clear hK K)
              | (refine nq_assign rfl ?_; go_simp; refine hK _ ?_; clear hK K)
              | (refine nq_flt rfl rfl rfl rfl hd ?_; intro _; go_frame; refine hK _ ?_; clear hK K)
              | (refine nq_same ?_; intro w' hw'; go_simp; (try go_bits); refine hK _ ?_; clear hK K hw' w')
              | (refine nq_same ?_; intro w' hw'; go_simp; rw [if_pos (by omega)]; go_simp; (try go_bits); refine hK _ ?_; clear hK K hw' w')
              | (go_simp; refine hK _ ?_; clear hK K))
          refine nqW_nil (hR _ ?_)
          clear hc hb' hb2 hd hR
          intro w' hw'
          simp only [List.drop_succ_cons, List.drop_zero, List.drop_nil]
          go_wp2_with (first | (refine wpList_flt rfl rfl rfl rfl rfl ?_; intro K hK _ _; go_frame; refine hK _ _ ?_; clear hK K))
          go_roundw
          case rel => exact ⟨j + 1, by omega, by go_num, IsF.of (by rw [HE.out]; simp [go_sem]), below_drewN _ (below_step hB hB.size hw')⟩
          case measure => simp [intOf]; omega
        · obtain rfl : j = zs.length := by omega
          rw [HG.out] at HX
          rcases HX.out with f1 | ⟨f1, f2⟩
          all_goals
            go_wp2_with (first | (go_at_call 13; refine (known_any _).mono ?_; rintro e w9 ⟨rfl, hb9⟩) | (refine wpList_flt rfl rfl rfl rfl rfl ?_; intro K hK _ _; go_frame; refine hK _ _ ?_; clear hK K))
            go_ret
            exact ⟨rfl, below_step (below_step hB5 s5 hB) (below_step hB5 s5 hB).size (below_undrew hb9)⟩
    · have t4 : (((k : Nat) : Int) == ((ds.length : Nat) : Int) - 1) = false := by simp; omega
      have hk1' : k + 1 < ds.length := by omega
      have hidx : (0 : Int) ≤ (k : Int) + 1 ∧ ((k : Int) + 1).toNat = k + 1 ∧ (k : Int) + 1 < (ds.length : Int) := by omega
      obtain ⟨b, o, s1, rfl, hb, hc1⟩ := (hD.below hB5).at hk
      obtain ⟨b', o', s2, hbo, _, hc2⟩ := (hD.below hB5).at hk1'
      simp only [Option.some.injEq, Addr.mk.injEq] at hbo
      obtain ⟨rfl, rfl, _⟩ := hbo
      have e1 : ds.getD k 0 = ds[k] := by simp [hk]
      have e2 : ds.getD (k + 1) 0 = ds[k + 1] := by simp [hk1']
      rw [e1] at hc1
      rw [e2] at hc2
      have HG : Hid (greatS ds zs rho k = fmul (fsub ds[k + 1] ds[k]) 4602678819172646912) := by unfold Hid greatS; rw [if_neg hk1, e1, e2]
      clear hk1 e1 e2
      go_wp2
      refine wp_region_nqb 16 (fun _ _ _ => False) (by kernel_rfl) (by kernel_rfl) ?_
      intro C R hc hb' hb2 hd hR
      simp only [List.take_succ_cons, List.take_zero]
      repeat (
        first
          | (refine nqW_plain (fun K hK => ?_))
          | (refine nqW_step (fun K hK => ?_); go_simp)
        first
          | (refine nq_move rfl ?_; go_simp; refine hK _ ?_; clear hK K)
          | (refine nq_assign rfl ?_; go_simp; refine hK _ ?_; clear hK K)
          | (refine nq_flt rfl rfl rfl rfl hd ?_; intro _; go_frame; refine hK _ ?_; clear hK K)
          | (refine nq_same ?_; intro w' hw'; go_simp; (try go_bits); refine hK _ ?_; clear hK K hw' w')
          | (refine nq_same ?_; intro w' hw'; go_simp; rw [if_pos (by omega)]; go_simp; (try go_bits); refine hK _ ?_; clear hK K hw' w')
          | (go_simp; refine hK _ ?_; clear hK K))
      refine nqW_nil (hR _ ?_)
      clear hc hb' hb2 hd hR
      intro w' hw'
      simp only [List.drop_succ_cons, List.drop_zero, List.drop_nil]
      have b6 := b5.below hw'
      have c6 := c5.below hw'
      clear a1 a2 a3 d1 d2 d3
      obtain ⟨a1, a2, a3⟩ := b6.facts
      obtain ⟨d1, d2, d3⟩ := c6.facts
      rw [HG.out] at HX
      rcases HX.out with f1 | ⟨f1, f2⟩
      all_goals
        go_wp2_with (first | (go_at_call 13; refine (known_any _).mono ?_; rintro e w9 ⟨rfl, hb9⟩) | (refine wpList_flt rfl rfl rfl rfl rfl ?_; intro K hK _ _; go_frame; refine hK _ _ ?_; clear hK K))
        go_ret
        exact ⟨rfl, below_step (below_step hB5 s5 hw') (below_step hB5 s5 hw').size hb9⟩
  case true =>
    simp only [if_true] at HF HXY
    unfold sgnS aboveS at HXY
    simp only [if_true] at HXY
    go_enter Try.func3, Try.ntmps3
    go_wp2_with fail
    refine (HF.out _ hB0).mono ?_
    rintro e w1 ⟨⟨m, rfl⟩, hb1⟩
    have hB1 := below_step hB0 hB0.size hb1
    have b1 := b0.below hb1
    have s1 := hB1.size
    obtain ⟨a1, a2, a3⟩ := b1.facts
    go_wp2_with (first | (go_at_call 15; refine (RefAbs_any _ hlt1 _).mono ?_; rintro e w2 ⟨rfl, rfl⟩; rw [p6]) | (refine wpList_flt rfl rfl rfl rfl rfl ?_; intro K hK _ _; go_frame; refine hK _ _ ?_; clear hK K))
    have hB2 : Below w.heap.size w (w1.alloc (.cells #[.int .i64 q, .float .f64 (9223372036854775808 + (g + 1))] 28)) := hB1.alloc s1 _
    have b2 := b1.alloc (.cells #[.int .i64 q, .float .f64 (9223372036854775808 + (g + 1))] 28)
    have c2 : Box (w1.alloc (.cells #[.int .i64 q, .float .f64 (9223372036854775808 + (g + 1))] 28)) w1.heap.size [.int .i64 q, .float .f64 (9223372036854775808 + (g + 1))] := Box.new w1 _ 28
    refine (HS.out _ _ hB2).mono ?_
    rintro e w2 ⟨⟨s2, rfl⟩, hb2⟩
    have hB3 := below_step hB2 hB2.size hb2
    have b3 := b2.below hb2
    have c3 := c2.below hb2
    have hne : w.heap.size ≠ w1.heap.size := by omega
    clear b2 c2 hB2 hb2 a1 a2 a3 b1 hB1 hb1
    obtain ⟨a1, a2, a3⟩ := b3.facts
    obtain ⟨d1, d2, d3⟩ := c3.facts
    go_wp2_with (first | (refine wpList_flt rfl rfl rfl rfl rfl ?_; intro K hK _ _; go_frame; refine hK _ _ ?_; clear hK K))
    refine (HS.out _ _ (below_drewN _ hB3)).mono ?_
    rintro e w3 ⟨⟨s3, rfl⟩, hb3⟩
    have hb4 := below_undrew hb3
    have hB5 := below_step hB3 hB3.size hb4
    have b5 := b3.below hb4
    have c5 := c3.below hb4
    clear hb3 hb4 a1 a2 a3 d1 d2 d3 b3 c3 hB3
    obtain ⟨a1, a2, a3⟩ := b5.facts
    obtain ⟨d1, d2, d3⟩ := c5.facts
    have s5 := hB5.size
    have hy := HXY.out.2
    have HX : Hid (feq (g + 1) (greatS ds zs rho k) = true ∨ feq (g + 1) (greatS ds zs rho k) = false ∧ fle (sideS ds zs rho q (9223372036854775808 + (g + 1))) 0 = true) := by
      have hx := HXY.out.1
      cases hf : feq (g + 1) (greatS ds zs rho k)
      · rw [hf] at hx; exact .inr ⟨rfl, by simpa using hx⟩
      · exact .inl rfl
    by_cases hk1 : k + 1 = ds.length
    · have t4 : (((k : Nat) : Int) == ((ds.length : Nat) : Int) - 1) = true := by simp; omega
      have HG : Hid (greatS ds zs rho k = fmul rho (sqSum zs zs.length)) := by unfold greatS; rw [if_pos hk1]; rfl
      clear hk1
      go_wp2
      go_loopw [16, 17] (fun f i wr => ∃ j : Nat, j ≤ zs.length ∧ i = .int .i64 j ∧ IsF f (sqSum zs j) ∧ Below w3.heap.size w3 wr) (fun _ i _ => zs.length - (intOf i).toNat)
      case atStart => exact ⟨0, Nat.zero_le _, rfl, ⟨0, by kernel_rfl⟩, Below.refl _ _⟩
      case round =>
        obtain ⟨j, hj, rfl, ⟨s, rfl⟩, hB⟩ := hrel
        have b6 := b5.below hB
        have c6 := c5.below hB
        clear a1 a2 a3 d1 d2 d3
        obtain ⟨a1, a2, a3⟩ := b6.facts
        obtain ⟨d1, d2, d3⟩ := c6.facts
        by_cases hlt : j < zs.length
        · have ez : zs.getD j 0 = zs[j] := by simp [hlt]
          obtain ⟨b, o, s1, rfl, hb, hc1⟩ := (hZ.below (below_step hB5 s5 hB)).at hlt
          rw [ez] at hc1
          have HE : Hid (sqSum zs (j + 1) = fadd (sqSum zs j) (fmul zs[j] zs[j])) := by unfold Hid; rw [sqSum, ez]
          clear ez
          go_wp2
          refine wp_region_nqb 12 (fun _ _ _ => False) (by kernel_rfl) (by kernel_rfl) ?_
          intro C R hc hb' hb2 hd hR
          simp only [List.take_succ_cons, List.take_zero]
          repeat (
            first
              | (refine nqW_plain (fun K hK => ?_))
              | (refine nqW_step (fun K hK => ?_); go_simp)
            first
              | (refine nq_move rfl ?_; go_simp; refine hK _ ?_; clear hK K)
              | (refine nq_assign rfl ?_; go_simp; refine hK _ ?_; clear hK K)
              | (refine nq_flt rfl rfl rfl rfl hd ?_; intro _; go_frame; refine hK _ ?_; clear hK K)
              | (refine nq_same ?_; intro w' hw'; go_simp; (try go_bits); refine hK _ ?_; clear hK K hw' w')
              | (refine nq_same ?_; intro w' hw'; go_simp; rw [if_pos (by omega)]; go_simp; (try go_bits); refine hK _ ?_; clear hK K hw' w')
              | (go_simp; refine hK _ ?_; clear hK K))
          refine nqW_nil (hR _ ?_)
          clear hc hb' hb2 hd hR
          intro w' hw'
          simp only [List.drop_succ_cons, List.drop_zero, List.drop_nil]
          go_wp2_with (first | (refine wpList_flt rfl rfl rfl rfl rfl ?_; intro K hK _ _; go_frame; refine hK _ _ ?_; clear hK K))
          go_roundw
          case rel => exact ⟨j + 1, by omega, by go_num, IsF.of (by rw [HE.out]; simp [go_sem]), below_drewN _ (below_step hB hB.size hw')⟩
          case measure => simp [intOf]; omega
        · obtain rfl : j = zs.length := by omega
          rw [HG.out] at HX
          rcases HX.out with f1 | ⟨f1, f2⟩
          all_goals
            go_wp2_with (first | (go_at_call 13; refine (known_any _).mono ?_; rintro e w9 ⟨rfl, hb9⟩) | (refine wpList_flt rfl rfl rfl rfl rfl ?_; intro K hK _ _; go_frame; refine hK _ _ ?_; clear hK K))
            go_ret
            exact ⟨rfl, below_step (below_step hB5 s5 hB) (below_step hB5 s5 hB).size (below_undrew hb9)⟩
    · have t4 : (((k : Nat) : Int) == ((ds.length : Nat) : Int) - 1) = false := by simp; omega
      have hk1' : k + 1 < ds.length := by omega
      have hidx : (0 : Int) ≤ (k : Int) + 1 ∧ ((k : Int) + 1).toNat = k + 1 ∧ (k : Int) + 1 < (ds.length : Int) := by omega
      obtain ⟨b, o, s1, rfl, hb, hc1⟩ := (hD.below hB5).at hk
      obtain ⟨b', o', s2, hbo, _, hc2⟩ := (hD.below hB5).at hk1'
      simp only [Option.some.injEq, Addr.mk.injEq] at hbo
      obtain ⟨rfl, rfl, _⟩ := hbo
      have e1 : ds.getD k 0 = ds[k] := by simp [hk]
      have e2 : ds.getD (k + 1) 0 = ds[k + 1] := by simp [hk1']
      rw [e1] at hc1
      rw [e2] at hc2
      have HG : Hid (greatS ds zs rho k = fmul (fsub ds[k + 1] ds[k]) 4602678819172646912) := by unfold Hid greatS; rw [if_neg hk1, e1, e2]
      clear hk1 e1 e2
      go_wp2
      refine wp_region_nqb 16 (fun _ _ _ => False) (by kernel_rfl) (by kernel_rfl) ?_
      intro C R hc hb' hb2 hd hR
      simp only [List.take_succ_cons, List.take_zero]
      repeat (
        first
          | (refine nqW_plain (fun K hK => ?_))
          | (refine nqW_step (fun K hK => ?_); go_simp)
        first
          | (refine nq_move rfl ?_; go_simp; refine hK _ ?_; clear hK K)
          | (refine nq_assign rfl ?_; go_simp; refine hK _ ?_; clear hK K)
          | (refine nq_flt rfl rfl rfl rfl hd ?_; intro _; go_frame; refine hK _ ?_; clear hK K)
          | (refine nq_same ?_; intro w' hw'; go_simp; (try go_bits); refine hK _ ?_; clear hK K hw' w')
          | (refine nq_same ?_; intro w' hw'; go_simp; rw [if_pos (by omega)]; go_simp; (try go_bits); refine hK _ ?_; clear hK K hw' w')
          | (go_simp; refine hK _ ?_; clear hK K))
      refine nqW_nil (hR _ ?_)
      clear hc hb' hb2 hd hR
      intro w' hw'
      simp only [List.drop_succ_cons, List.drop_zero, List.drop_nil]
      have b6 := b5.below hw'
      have c6 := c5.below hw'
      clear a1 a2 a3 d1 d2 d3
      obtain ⟨a1, a2, a3⟩ := b6.facts
      obtain ⟨d1, d2, d3⟩ := c6.facts
      rw [HG.out] at HX
      rcases HX.out with f1 | ⟨f1, f2⟩
      all_goals
        go_wp2_with (first | (go_at_call 13; refine (known_any _).mono ?_; rintro e w9 ⟨rfl, hb9⟩) | (refine wpList_flt rfl rfl rfl rfl rfl ?_; intro K hK _ _; go_frame; refine hK _ _ ?_; clear hK K))
        go_ret
        exact ⟨rfl, below_step (below_step hB5 s5 hw') (below_step hB5 s5 hw').size hb9⟩
end Go.Proofs.Ytpjdibanjmmbkaa
