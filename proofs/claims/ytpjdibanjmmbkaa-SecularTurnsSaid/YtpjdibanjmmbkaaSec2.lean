/- A root of the equation: what find gives. -/
import Derived.Test.YtpjdibanjmmbkaaSecP
namespace Go.Proofs.Ytpjdibanjmmbkaa
open Go Go.RowKit
set_option maxRecDepth 100000

theorem above1_any (x : Nat) (w : World) : Calls Try.prog 97 #[.float .f64 x] w fun e w' => e = .returned (.bool (fle 0 x)) ∧ w = w' := by
  go_enter Try.func97, Try.ntmps97
  go_wp2
  go_ret
  exact ⟨rfl, rfl⟩
theorem above2_any (x : Nat) (w : World) : Calls Try.prog 98 #[.float .f64 x] w fun e w' => e = .returned (.bool (fle x 0)) ∧ w = w' := by
  go_enter Try.func98, Try.ntmps98
  go_wp2
  go_ret
  exact ⟨rfl, rfl⟩

/-- What the calls of one halving give. -/
def SecF (ds zs : List Nat) (rho q : Nat) (S : Value) (f : FuncId) (args : Array Value) (v : Value) : Prop :=
  (f = 69 → ∀ r, args = #[S, .agg #[.int .i64 q, .float .f64 r]] → ∃ s, v = .float .f64 (raw (sideS ds zs rho q r) s)) ∧
  (f = 97 → ∀ r, args = #[.float .f64 r] → v = .bool (fle 0 r)) ∧
  (f = 98 → ∀ r, args = #[.float .f64 r] → v = .bool (fle r 0))

theorem SecF_side (ds zs : List Nat) (rho q : Nat) (S : Value) (r s : Nat) : SecF ds zs rho q S 69 #[S, .agg #[.int .i64 q, .float .f64 r]] (.float .f64 (raw (sideS ds zs rho q r) s)) :=
  ⟨fun _ r' h => by simp at h; subst h; exact ⟨s, rfl⟩, fun h => absurd h (by decide), fun h => absurd h (by decide)⟩
theorem SecF_a1 (ds zs : List Nat) (rho q : Nat) (S : Value) (r : Nat) : SecF ds zs rho q S 97 #[.float .f64 r] (.bool (fle 0 r)) :=
  ⟨fun h => absurd h (by decide), fun _ r' h => by simp at h; subst h; rfl, fun h => absurd h (by decide)⟩
theorem SecF_a2 (ds zs : List Nat) (rho q : Nat) (S : Value) (r : Nat) : SecF ds zs rho q S 98 #[.float .f64 r] (.bool (fle r 0)) :=
  ⟨fun h => absurd h (by decide), fun h => absurd h (by decide), fun _ r' h => by simp at h; subst h; rfl⟩

/-- What find answers. -/
def FindR (ds zs : List Nat) (rho k : Nat) (e : Ending) : Prop :=
  if ffin (greatS ds zs rho k) then ∃ s, e = .returned (.tuple #[.agg #[.int .i64 (atS ds zs rho k), .float .f64 (raw (fmul (sgnS (negS ds zs rho k)) (bis (testS ds zs rho k) 0 (greatS ds zs rho k) 0).1) s)], .int .i64 ((bis (testS ds zs rho k) 0 (greatS ds zs rho k) 0).2 : Nat), .int .i64 0])
  else e = .returned (.tuple #[.agg #[.int .i64 0, .float .f64 0], .int .i64 0, .int .i64 10])

set_option maxHeartbeats 4000000 in
theorem find_any (w : World) (da za : Option Addr) (ds zs : List Nat) (dc zc : Nat) (rho : Nat) (k : Nat) (hD : Fls w da ds) (hZ : Fls w za zs) (hk : k < ds.length) (hn : zs.length = ds.length) (hl : ds.length ≤ 512) :
    Calls Try.prog 68 #[.agg #[.slice da ds.length dc, .slice za zs.length zc, .float .f64 rho], .int .i64 k] w fun e w' => FindR ds zs rho k e ∧ Below w.heap.size w w' := by
  have hln : zs.length ≤ 512 := by omega
  have HN := Lib.hid hn
  clear hn
  go_enter Try.func68, Try.ntmps68
  go_upto_if 27 with fail
  have hx1 : Box (((w.alloc (.cells #[.slice da ds.length dc, .slice za zs.length zc, .float .f64 rho] 25)).alloc (.cells #[.int .i64 0, .float .f64 0] 28)).alloc (.cells #[.int .i64 k, .float .f64 0] 28)) w.heap.size [.slice da ds.length dc, .slice za zs.length zc, .float .f64 rho] := ((Box.new w _ 25).alloc _).alloc _
  have hx2 : Box (((w.alloc (.cells #[.slice da ds.length dc, .slice za zs.length zc, .float .f64 rho] 25)).alloc (.cells #[.int .i64 0, .float .f64 0] 28)).alloc (.cells #[.int .i64 k, .float .f64 0] 28)) (w.heap.size + 1) [.int .i64 0, .float .f64 0] := by
    have h := (Box.new (w.alloc (.cells #[.slice da ds.length dc, .slice za zs.length zc, .float .f64 rho] 25)) [.int .i64 0, .float .f64 0] 28).alloc (.cells #[.int .i64 k, .float .f64 0] 28)
    rw [World.size_alloc] at h; exact h
  have hx3 : Box (((w.alloc (.cells #[.slice da ds.length dc, .slice za zs.length zc, .float .f64 rho] 25)).alloc (.cells #[.int .i64 0, .float .f64 0] 28)).alloc (.cells #[.int .i64 k, .float .f64 0] 28)) (w.heap.size + 1 + 1) [.int .i64 k, .float .f64 0] := by
    have h := Box.new ((w.alloc (.cells #[.slice da ds.length dc, .slice za zs.length zc, .float .f64 rho] 25)).alloc (.cells #[.int .i64 0, .float .f64 0] 28)) [.int .i64 k, .float .f64 0] 28
    rw [World.size_alloc, World.size_alloc] at h; exact h
  have hB0 : Below w.heap.size w (((w.alloc (.cells #[.slice da ds.length dc, .slice za zs.length zc, .float .f64 rho] 25)).alloc (.cells #[.int .i64 0, .float .f64 0] 28)).alloc (.cells #[.int .i64 k, .float .f64 0] 28)) := (((Below.refl _ _).alloc (Nat.le_refl _) _).alloc (by simp) _).alloc (by simp; omega) _
  generalize ((w.alloc (.cells #[.slice da ds.length dc, .slice za zs.length zc, .float .f64 rho] 25)).alloc (.cells #[.int .i64 0, .float .f64 0] 28)).alloc (.cells #[.int .i64 k, .float .f64 0] 28) = W at *
  obtain ⟨g1, g2, g3⟩ := hx1.facts
  obtain ⟨g4, g5, g6⟩ := hx2.facts
  obtain ⟨g7, g8, g9⟩ := hx3.facts
  go_cut [8, 10, 11] (fun s8 s10 s11 wx => IsF s8 (greatS ds zs rho k) ∧ ((negS ds zs rho k = false ∧ s10 = .func (.func 97) #[] #[] ∧ s11 = .float .f64 4607182418800017408) ∨ (negS ds zs rho k = true ∧ s10 = .func (.func 98) #[] #[] ∧ s11 = .float .f64 13830554455654793216)) ∧ Below w.heap.size w wx ∧
    Box wx w.heap.size [.slice da ds.length dc, .slice za zs.length zc, .float .f64 rho] ∧ Box wx (w.heap.size + 1) [.int .i64 0, .float .f64 0] ∧ Box wx (w.heap.size + 1 + 1) [.int .i64 (atS ds zs rho k), .float .f64 0])
  case first =>
    by_cases hk1 : k + 1 = ds.length
    · have t1 : (((k : Nat) : Int) == ((ds.length : Nat) : Int) - 1) = true := by simp; omega
      have HG : Hid (greatS ds zs rho k = fmul rho (sqSum zs zs.length)) := by unfold greatS; rw [if_pos hk1]; rfl
      have HNg : Hid (negS ds zs rho k = false) := by unfold negS; rw [decide_eq_false (by omega)]; rfl
      have HA : Hid (atS ds zs rho k = k) := by unfold atS; rw [HNg.out]; rfl
      clear hk1
      go_wp2
      go_loopw [12, 31] (fun f i wr => ∃ j : Nat, j ≤ zs.length ∧ i = .int .i64 j ∧ IsF f (sqSum zs j) ∧ Below W.heap.size W wr) (fun _ i _ => zs.length - (intOf i).toNat)
      case atStart => exact ⟨0, Nat.zero_le _, rfl, ⟨0, by kernel_rfl⟩, Below.refl _ _⟩
      case round =>
        obtain ⟨j, hj, rfl, ⟨s, rfl⟩, hB⟩ := hrel
        obtain ⟨a1, a2, a3⟩ := (hx1.below hB).facts
        by_cases hlt : j < zs.length
        · obtain ⟨b, o, s1, rfl, hb, hc1⟩ := (hZ.below (below_step hB0 (Nat.le_of_lt g1) hB)).at hlt
          go_wp2_with (first | (refine wpList_flt rfl rfl rfl rfl rfl ?_; intro K hK _ _; go_frame; refine hK _ _ ?_; clear hK K))
          go_roundw
          case rel => exact ⟨j + 1, by omega, by go_num, IsF.of (by rw [sqSum]; simp [go_sem, hlt]), below_drewN _ hB⟩
          case measure => simp [intOf]; omega
        · obtain rfl : j = zs.length := by omega
          go_wp2_with (first | (refine wpList_flt rfl rfl rfl rfl rfl ?_; intro K hK _ _; go_frame; refine hK _ _ ?_; clear hK K))
          go_meet
          case rel =>
            refine ⟨IsF.of (by rw [HG.out]; simp only [fmul_rawr]), .inl ⟨HNg.out, rfl, rfl⟩, below_drewN _ (below_step hB0 (Nat.le_of_lt g1) hB), ((hx1.below hB).drewN _), ((hx2.below hB).drewN _), ?_⟩
            rw [HA.out]
            exact (hx3.below hB).drewN _
    · have t1 : (((k : Nat) : Int) == ((ds.length : Nat) : Int) - 1) = false := by simp; omega
      have hk1' : k + 1 < ds.length := by omega
      have HG : Hid (greatS ds zs rho k = fmul (fsub (ds.getD (k + 1) 0) (ds.getD k 0)) 4602678819172646912) := by unfold greatS; rw [if_neg hk1]; rfl
      have HNg : Hid (negS ds zs rho k = (ffin (greatS ds zs rho k) && !fle 0 (sideS ds zs rho k (greatS ds zs rho k)))) := by unfold negS; rw [decide_eq_true (by omega)]; rfl
      have HA : Hid (atS ds zs rho k = if negS ds zs rho k then k + 1 else k) := rfl
      have hidx : (0 : Int) ≤ (k : Int) + 1 ∧ ((k : Int) + 1).toNat = k + 1 ∧ (k : Int) + 1 < (ds.length : Int) := by omega
      clear hk1
      obtain ⟨b, o, s1, rfl, hb, hc1⟩ := (hD.below hB0).at hk
      obtain ⟨b', o', s2, hbo, _, hc2⟩ := (hD.below hB0).at hk1'
      simp only [Option.some.injEq, Addr.mk.injEq] at hbo
      obtain ⟨rfl, rfl, _⟩ := hbo
      have e1 : ds.getD k 0 = ds[k] := by simp [hk]
      have e2 : ds.getD (k + 1) 0 = ds[k + 1] := by simp [hk1']
      rw [e1] at hc1
      rw [e2] at hc2
      go_wp2
      refine wp_region_nqb 14 (fun _ _ _ => False) (by kernel_rfl) (by kernel_rfl) ?_
      intro C R hc hb' hb2 hd hR
      simp only [List.take_succ_cons, List.take_zero]
      repeat (
        first
          | (refine nqW_plain (fun K hK => ?_))
          | (refine nqW_step (fun K hK => ?_); go_simp)
        first
          | (refine nq_move rfl ?_; go_simp; refine hK _ ?_; clear hK K)
          | (refine nq_assign rfl ?_; go_simp; refine hK _ ?_; clear hK K)
          | (refine nq_flt rfl rfl rfl rfl hd ?_; intro _; go_frame; refine hK _ ?_; clear hK K)
          | (refine nq_same ?_; intro w' hw'; go_simp; (try go_bits); refine hK _ ?_; clear hK K hw' w')
          | (refine nq_same ?_; intro w' hw'; go_simp; rw [if_pos (by omega)]; go_simp; (try go_bits); refine hK _ ?_; clear hK K hw' w')
          | (go_simp; refine hK _ ?_; clear hK K))
      refine nqW_nil (hR _ ?_)
      clear hc hb' hb2 hd hR
      intro w' hw'
      simp only [List.drop_succ_cons, List.drop_zero, List.drop_nil]
      have HG2 : Hid (greatS ds zs rho k = fmul (fsub ds[k + 1] ds[k]) 4602678819172646912) := by unfold Hid; rw [HG.out, e1, e2]
      clear e1 e2 HG hidx
      have hB1 : Below w.heap.size w w' := below_step hB0 (Nat.le_of_lt g1) hw'
      obtain ⟨a1, a2, a3⟩ := (hx1.below hw').facts
      obtain ⟨a4, a5, a6⟩ := (hx2.below hw').facts
      obtain ⟨a7, a8, a9⟩ := (hx3.below hw').facts
      have HN' : Hid (zs.length = ds.length) := HN
      rw [← HG2.out]
      have HS := Lib.hid (fun (W : World) (off : Nat) (hB : Below w.heap.size w W) => side_any W (some ⟨b, o, none⟩) za ds zs dc zc rho k off (hD.below hB) (hZ.below hB) hk HN.out (by unfold maxLen; omega))
      cases f1 : ffin (greatS ds zs rho k)
      case false =>
        go_wp2_with (first | (go_at_call 95; refine (infinite_any _ (raw_lt (greatS_lt ds zs rho k) _) _).mono ?_; rintro e w2 ⟨rfl, rfl⟩; rw [ffin_raw, f1]) | (refine wpList_flt rfl rfl rfl rfl rfl ?_; intro K hK _ _; go_frame; refine hK _ _ ?_; clear hK K))
        go_meet
        case rel =>
          have hng : negS ds zs rho k = false := by rw [HNg.out, f1]; rfl
          refine ⟨⟨_, rfl⟩, .inl ⟨hng, rfl, rfl⟩, hB1, hx1.below hw', hx2.below hw', ?_⟩
          rw [HA.out, hng]
          exact hx3.below hw'
      case true =>
        cases f2 : fle 0 (sideS ds zs rho k (greatS ds zs rho k))
        case true =>
          go_wp2_with (first | (go_at_call 95; refine (infinite_any _ (raw_lt (greatS_lt ds zs rho k) _) _).mono ?_; rintro e w2 ⟨rfl, rfl⟩; rw [ffin_raw, f1]) | (go_at_call 69; refine (HS.out _ _ hB1).mono ?_; rintro e w2 ⟨⟨s', rfl⟩, hb3⟩) | (refine wpList_flt rfl rfl rfl rfl rfl ?_; intro K hK _ _; go_frame; refine hK _ _ ?_; clear hK K))
          go_meet
          case rel =>
            have hng : negS ds zs rho k = false := by rw [HNg.out, f1, f2]; rfl
            have hB3 := below_step hw' hw'.size hb3
            refine ⟨⟨_, rfl⟩, .inl ⟨hng, rfl, rfl⟩, below_step hB0 (Nat.le_of_lt g1) hB3, hx1.below hB3, hx2.below hB3, ?_⟩
            rw [HA.out, hng]
            exact hx3.below hB3
        case false =>
          go_wp2_with (first | (go_at_call 95; refine (infinite_any _ (raw_lt (greatS_lt ds zs rho k) _) _).mono ?_; rintro e w2 ⟨rfl, rfl⟩; rw [ffin_raw, f1]) | (go_at_call 69; refine (HS.out _ _ hB1).mono ?_; rintro e w2 ⟨⟨s', rfl⟩, hb3⟩; have hB3 := below_step hw' hw'.size hb3; have hx3' := hx3.below hB3; obtain ⟨q1, q2, q3⟩ := hx3'.facts) | (refine wpList_flt rfl rfl rfl rfl rfl ?_; intro K hK _ _; go_frame; refine hK _ _ ?_; clear hK K))
          go_meet
          case rel =>
            have hng : negS ds zs rho k = true := by rw [HNg.out, f1, f2]; rfl
            refine ⟨⟨_, rfl⟩, .inr ⟨hng, rfl, rfl⟩, ?_, (hx1.below hB3).set_other (by omega) _ _, (hx2.below hB3).set_other (by omega) _ _, ?_⟩
            · exact (below_step hB0 (Nat.le_of_lt g1) hB3).setCell (by simp; omega) _
            · rw [HA.out, hng]
              exact hx3'.set 0 _
  case rest =>
    obtain ⟨⟨s, rfl⟩, hor, hB, y1, y2, y3⟩ := hcut
    clear hx1 hx2 hx3 g1 g2 g3 g4 g5 g6 g7 g8 g9 hB0
    obtain ⟨a1, a2, a3⟩ := y1.facts
    obtain ⟨a4, a5, a6⟩ := y2.facts
    obtain ⟨a7, a8, a9⟩ := y3.facts
    have HF : Hid (FindR ds zs rho k = FindR ds zs rho k) := rfl
    cases f1 : ffin (greatS ds zs rho k)
    case false =>
      rcases hor with ⟨hng, rfl, rfl⟩ | ⟨hng, rfl, rfl⟩
      all_goals
        go_wp2_with (first | (go_at_call 95; refine (infinite_any _ (raw_lt (greatS_lt ds zs rho k) _) _).mono ?_; rintro e w2 ⟨rfl, rfl⟩; rw [ffin_raw, f1]) | (refine wpList_flt rfl rfl rfl rfl rfl ?_; intro K hK _ _; go_frame; refine hK _ _ ?_; clear hK K))
        refine bodyPost_ret (results_three rfl (rv_cell (g := w.heap.size + 1) rfl ((y2.set 0 (.int .i64 0)).set 1 (.float .f64 0)) rfl Try.underlying28 (by kernel_rfl)) (rv_tmp rfl) (rv_tmp rfl)) rfl ⟨?_, ?_⟩
        · unfold FindR; rw [f1]; rfl
        · exact (hB.setCell (by simp) _).setCell (by simp) _
    case true =>
      have f2 : isnan (greatS ds zs rho k) = false := by
        unfold ffin at f1
        unfold isnan
        simp only [decide_eq_true_eq] at f1
        rw [decide_eq_false_iff_not]
        omega
      have hglt := greatS_lt ds zs rho k
      rw [raw_of_not f2]
      have HN' := HN.out
      have hat : atS ds zs rho k < ds.length := by
        unfold atS
        split
        · rename_i hneg
          unfold negS at hneg
          simp only [Bool.and_eq_true, decide_eq_true_eq] at hneg
          omega
        · exact hk
      have HAT := Lib.hid hat
      clear hat HN'
      have HS := Lib.hid (fun (W : World) (off : Nat) (hB : Below w.heap.size w W) => side_any W da za ds zs dc zc rho (atS ds zs rho k) off (hD.below hB) (hZ.below hB) HAT.out HN.out (by unfold maxLen; omega))
      rcases hor with ⟨hng, rfl, rfl⟩ | ⟨hng, rfl, rfl⟩
      case inl =>
        go_wp2_with (first | (go_at_call 95; refine (infinite_any _ (greatS_lt ds zs rho k) _).mono ?_; rintro e w2 ⟨rfl, rfl⟩; rw [f1]) | (refine wpList_flt rfl rfl rfl rfl rfl ?_; intro K hK _ _; go_frame; refine hK _ _ ?_; clear hK K))
        go_loopw [15, 16, 17] (fun s15 s16 s17 wr => ∃ low high many : Nat, s15 = .int .u64 low ∧ s16 = .int .u64 high ∧ s17 = .int .i64 many ∧ Hid (bis (testS ds zs rho k) low high many = bis (testS ds zs rho k) 0 (greatS ds zs rho k) 0) ∧ low < 18446744073709551616 ∧ high < 18446744073709551616 ∧ Hid ((high - low - 1) * 2 ^ many < 18446744073709551616) ∧ Below wc.heap.size wc wr) (fun s15 s16 s17 _ => (intOf s16).toNat - (intOf s15).toNat)
        case atStart => exact ⟨0, greatS ds zs rho k, 0, rfl, rfl, rfl, rfl, by decide, hglt, by unfold Hid; omega, Below.refl _ _⟩
        case round =>
          obtain ⟨low, high, many, rfl, rfl, rfl, hbis, hlo, hhi, hmany, hBr⟩ := hrel
          obtain ⟨b1, b2, b3⟩ := (y1.below hBr).facts
          obtain ⟨b4, b5, b6⟩ := (y3.below hBr).facts
          obtain ⟨b7, b8, b9⟩ := (y2.below hBr).facts
          have hBw := below_step hB hB.size hBr
          by_cases hlt : low + 1 < high
          · have tt1 : decide ((low : Int) < (high : Int)) = true := by simp; omega
            have tt2 : decide (low < high) = true := by simp; omega
            have tt3 : decide ((1 : Int) < (high : Int) - (low : Int)) = true := by simp; omega
            obtain ⟨m, hm⟩ : ∃ m, m = low + (high - low) / 2 := ⟨_, rfl⟩
            have em : (low : Int) + ((high : Int) - (low : Int)) / 2 = (m : Int) := by omega
            have em2 : (low : Int) + ((high - low : Nat) : Int) / 2 = (m : Int) := by omega
            have hmhi : m < high := by omega
            have hmlo : low < m := by omega
            have hm64 := gap_many hlt hmany.out
            have HM := Lib.hid hm
            clear hm
            go_wp2
            clear em em2
            cases ht : fle 0 (sideS ds zs rho (atS ds zs rho k) (fmul 4607182418800017408 m))
            case true =>
              refine wp_region_nqb 11 (SecF ds zs rho (atS ds zs rho k) (.agg #[.slice da ds.length dc, .slice za zs.length zc, .float .f64 rho])) (by kernel_rfl) (by kernel_rfl) ?_
              intro C R hc hb' hb2 hd hR
              simp only [List.take_succ_cons, List.take_zero]
              repeat (
                first
                  | (refine nqW_plain (fun K hK => ?_))
                  | (refine nqW_step (fun K hK => ?_); go_simp)
                first
                  | (refine nq_move rfl ?_; go_simp; refine hK _ ?_; clear hK K)
                  | (refine nq_assign rfl ?_; go_simp; refine hK _ ?_; clear hK K)
                  | (refine nq_flt rfl rfl rfl rfl hd ?_; intro _; go_frame; refine hK _ ?_; clear hK K)
                  | (refine nq_in ?_; intro w' hw'; go_simp; refine ⟨?_, ?_⟩; (next => (intro w1 hw1; go_at_call 69; exact (HS.out w1 _ (below_step hBw hBw.size (hb' _ hw1))).mono (fun e w2 ⟨⟨s', he⟩, hb⟩ => ⟨_, he, SecF_side _ _ _ _ _ _ _, hb2 _ _ hw1 hb⟩))); intro v hv; obtain ⟨s', rfl⟩ := hv.1 rfl _ rfl; refine hK _ ?_; clear hv hK K hw' w')
                  | (refine nq_in ?_; intro w' hw'; go_simp; refine ⟨?_, ?_⟩; (next => (intro w1 hw1; go_at_call 97; exact (above1_any _ w1).mono (fun e w2 ⟨he, hb⟩ => ⟨_, he, SecF_a1 _ _ _ _ _ _, hb ▸ hw1⟩))); intro v hv; obtain rfl := hv.2.1 rfl _ rfl; go_simp; refine hK _ ?_; clear hv hK K hw' w')
                  | (refine nq_same ?_; intro w' hw'; go_simp; (try go_bits); refine hK _ ?_; clear hK K hw' w')
                  | (refine nq_same ?_; intro w' hw'; go_simp; rw [if_pos (by omega)]; go_simp; (try go_bits); refine hK _ ?_; clear hK K hw' w')
                  | (go_simp; refine hK _ ?_; clear hK K))
              refine nqW_nil (hR _ ?_)
              clear hc hb' hb2 hd hR
              intro w' hw'
              simp only [List.drop_succ_cons, List.drop_zero, List.drop_nil]
              go_wp2
              go_roundw
              case rel =>
                refine ⟨low, m, many + 1, rfl, rfl, by go_num, ?_, by omega, by omega, ?_, below_step hBr hBr.size hw'⟩
                · have htt : testS ds zs rho k (low + (high - low) / 2) = true := by
                    rw [← HM.out]; unfold testS aboveS sgnS; rw [hng]; exact ht
                  unfold Hid
                  rw [← hbis.out, bis_high _ hlt htt, ← HM.out]
                · unfold Hid
                  rw [HM.out]
                  exact gap_high hlt hmany.out
              case measure => have := HM.out; simp [intOf]; omega
            case false =>
              refine wp_region_nqb 11 (SecF ds zs rho (atS ds zs rho k) (.agg #[.slice da ds.length dc, .slice za zs.length zc, .float .f64 rho])) (by kernel_rfl) (by kernel_rfl) ?_
              intro C R hc hb' hb2 hd hR
              simp only [List.take_succ_cons, List.take_zero]
              repeat (
                first
                  | (refine nqW_plain (fun K hK => ?_))
                  | (refine nqW_step (fun K hK => ?_); go_simp)
                first
                  | (refine nq_move rfl ?_; go_simp; refine hK _ ?_; clear hK K)
                  | (refine nq_assign rfl ?_; go_simp; refine hK _ ?_; clear hK K)
                  | (refine nq_flt rfl rfl rfl rfl hd ?_; intro _; go_frame; refine hK _ ?_; clear hK K)
                  | (refine nq_in ?_; intro w' hw'; go_simp; refine ⟨?_, ?_⟩; (next => (intro w1 hw1; go_at_call 69; exact (HS.out w1 _ (below_step hBw hBw.size (hb' _ hw1))).mono (fun e w2 ⟨⟨s', he⟩, hb⟩ => ⟨_, he, SecF_side _ _ _ _ _ _ _, hb2 _ _ hw1 hb⟩))); intro v hv; obtain ⟨s', rfl⟩ := hv.1 rfl _ rfl; refine hK _ ?_; clear hv hK K hw' w')
                  | (refine nq_in ?_; intro w' hw'; go_simp; refine ⟨?_, ?_⟩; (next => (intro w1 hw1; go_at_call 97; exact (above1_any _ w1).mono (fun e w2 ⟨he, hb⟩ => ⟨_, he, SecF_a1 _ _ _ _ _ _, hb ▸ hw1⟩))); intro v hv; obtain rfl := hv.2.1 rfl _ rfl; go_simp; refine hK _ ?_; clear hv hK K hw' w')
                  | (refine nq_same ?_; intro w' hw'; go_simp; (try go_bits); refine hK _ ?_; clear hK K hw' w')
                  | (refine nq_same ?_; intro w' hw'; go_simp; rw [if_pos (by omega)]; go_simp; (try go_bits); refine hK _ ?_; clear hK K hw' w')
                  | (go_simp; refine hK _ ?_; clear hK K))
              refine nqW_nil (hR _ ?_)
              clear hc hb' hb2 hd hR
              intro w' hw'
              simp only [List.drop_succ_cons, List.drop_zero, List.drop_nil]
              go_wp2
              go_roundw
              case rel =>
                refine ⟨m, high, many + 1, rfl, rfl, by go_num, ?_, by omega, by omega, ?_, below_step hBr hBr.size hw'⟩
                · have htt : testS ds zs rho k (low + (high - low) / 2) = false := by
                    rw [← HM.out]; unfold testS aboveS sgnS; rw [hng]; exact ht
                  unfold Hid
                  rw [← hbis.out, bis_low _ hlt htt, ← HM.out]
                · unfold Hid
                  rw [HM.out]
                  exact gap_low hlt hmany.out
              case measure => have := HM.out; simp [intOf]; omega
          · have HL := Lib.hid hlt
            by_cases hlt2 : low < high
            · have tt1 : decide ((low : Int) < (high : Int)) = true := by simp; omega
              have tt2 : decide (low < high) = true := by simp; omega
              have tt3 : decide ((1 : Int) < (high : Int) - (low : Int)) = false := by simp; omega
              go_wp2_with (first | (refine wpList_flt rfl rfl rfl rfl rfl ?_; intro K hK _ _; go_frame; refine hK _ _ ?_; clear hK K))
              refine bodyPost_ret (results_three rfl (rv_cell (g := w.heap.size + 1) rfl (((((y2.below hBr).drewN _).set_other (by omega) _ _).set 0 _).set 1 _) rfl Try.underlying28 (by kernel_rfl)) (rv_tmp rfl) (rv_tmp rfl)) rfl ⟨?_, ?_⟩
              · unfold FindR
                rw [f1]
                apply Exists.intro
                rw [← hbis.out, bis_end _ hlt, hng]
                rfl
              · exact (((below_drewN _ hBw).setCell (by simp; omega) _).setCell (by simp) _).setCell (by simp) _
            · have tt1 : decide ((low : Int) < (high : Int)) = false := by simp; omega
              have tt2 : decide (low < high) = false := by simp; omega
              go_wp2_with (first | (refine wpList_flt rfl rfl rfl rfl rfl ?_; intro K hK _ _; go_frame; refine hK _ _ ?_; clear hK K))
              refine bodyPost_ret (results_three rfl (rv_cell (g := w.heap.size + 1) rfl (((((y2.below hBr).drewN _).set_other (by omega) _ _).set 0 _).set 1 _) rfl Try.underlying28 (by kernel_rfl)) (rv_tmp rfl) (rv_tmp rfl)) rfl ⟨?_, ?_⟩
              · unfold FindR
                rw [f1]
                apply Exists.intro
                rw [← hbis.out, bis_end _ hlt, hng]
                rfl
              · exact (((below_drewN _ hBw).setCell (by simp; omega) _).setCell (by simp) _).setCell (by simp) _
      case inr =>
        go_wp2_with (first | (go_at_call 95; refine (infinite_any _ (greatS_lt ds zs rho k) _).mono ?_; rintro e w2 ⟨rfl, rfl⟩; rw [f1]) | (refine wpList_flt rfl rfl rfl rfl rfl ?_; intro K hK _ _; go_frame; refine hK _ _ ?_; clear hK K))
        go_loopw [15, 16, 17] (fun s15 s16 s17 wr => ∃ low high many : Nat, s15 = .int .u64 low ∧ s16 = .int .u64 high ∧ s17 = .int .i64 many ∧ Hid (bis (testS ds zs rho k) low high many = bis (testS ds zs rho k) 0 (greatS ds zs rho k) 0) ∧ low < 18446744073709551616 ∧ high < 18446744073709551616 ∧ Hid ((high - low - 1) * 2 ^ many < 18446744073709551616) ∧ Below wc.heap.size wc wr) (fun s15 s16 s17 _ => (intOf s16).toNat - (intOf s15).toNat)
        case atStart => exact ⟨0, greatS ds zs rho k, 0, rfl, rfl, rfl, rfl, by decide, hglt, by unfold Hid; omega, Below.refl _ _⟩
        case round =>
          obtain ⟨low, high, many, rfl, rfl, rfl, hbis, hlo, hhi, hmany, hBr⟩ := hrel
          obtain ⟨b1, b2, b3⟩ := (y1.below hBr).facts
          obtain ⟨b4, b5, b6⟩ := (y3.below hBr).facts
          obtain ⟨b7, b8, b9⟩ := (y2.below hBr).facts
          have hBw := below_step hB hB.size hBr
          by_cases hlt : low + 1 < high
          · have tt1 : decide ((low : Int) < (high : Int)) = true := by simp; omega
            have tt2 : decide (low < high) = true := by simp; omega
            have tt3 : decide ((1 : Int) < (high : Int) - (low : Int)) = true := by simp; omega
            obtain ⟨m, hm⟩ : ∃ m, m = low + (high - low) / 2 := ⟨_, rfl⟩
            have em : (low : Int) + ((high : Int) - (low : Int)) / 2 = (m : Int) := by omega
            have em2 : (low : Int) + ((high - low : Nat) : Int) / 2 = (m : Int) := by omega
            have hmhi : m < high := by omega
            have hmlo : low < m := by omega
            have hm64 := gap_many hlt hmany.out
            have HM := Lib.hid hm
            clear hm
            go_wp2
            clear em em2
            cases ht : fle (sideS ds zs rho (atS ds zs rho k) (fmul 13830554455654793216 m)) 0
            case true =>
              refine wp_region_nqb 11 (SecF ds zs rho (atS ds zs rho k) (.agg #[.slice da ds.length dc, .slice za zs.length zc, .float .f64 rho])) (by kernel_rfl) (by kernel_rfl) ?_
              intro C R hc hb' hb2 hd hR
              simp only [List.take_succ_cons, List.take_zero]
              repeat (
                first
                  | (refine nqW_plain (fun K hK => ?_))
                  | (refine nqW_step (fun K hK => ?_); go_simp)
                first
                  | (refine nq_move rfl ?_; go_simp; refine hK _ ?_; clear hK K)
                  | (refine nq_assign rfl ?_; go_simp; refine hK _ ?_; clear hK K)
                  | (refine nq_flt rfl rfl rfl rfl hd ?_; intro _; go_frame; refine hK _ ?_; clear hK K)
                  | (refine nq_in ?_; intro w' hw'; go_simp; refine ⟨?_, ?_⟩; (next => (intro w1 hw1; go_at_call 69; exact (HS.out w1 _ (below_step hBw hBw.size (hb' _ hw1))).mono (fun e w2 ⟨⟨s', he⟩, hb⟩ => ⟨_, he, SecF_side _ _ _ _ _ _ _, hb2 _ _ hw1 hb⟩))); intro v hv; obtain ⟨s', rfl⟩ := hv.1 rfl _ rfl; refine hK _ ?_; clear hv hK K hw' w')
                  | (refine nq_in ?_; intro w' hw'; go_simp; refine ⟨?_, ?_⟩; (next => (intro w1 hw1; go_at_call 98; exact (above2_any _ w1).mono (fun e w2 ⟨he, hb⟩ => ⟨_, he, SecF_a2 _ _ _ _ _ _, hb ▸ hw1⟩))); intro v hv; obtain rfl := hv.2.2 rfl _ rfl; go_simp; refine hK _ ?_; clear hv hK K hw' w')
                  | (refine nq_same ?_; intro w' hw'; go_simp; (try go_bits); refine hK _ ?_; clear hK K hw' w')
                  | (refine nq_same ?_; intro w' hw'; go_simp; rw [if_pos (by omega)]; go_simp; (try go_bits); refine hK _ ?_; clear hK K hw' w')
                  | (go_simp; refine hK _ ?_; clear hK K))
              refine nqW_nil (hR _ ?_)
              clear hc hb' hb2 hd hR
              intro w' hw'
              simp only [List.drop_succ_cons, List.drop_zero, List.drop_nil]
              go_wp2
              go_roundw
              case rel =>
                refine ⟨low, m, many + 1, rfl, rfl, by go_num, ?_, by omega, by omega, ?_, below_step hBr hBr.size hw'⟩
                · have htt : testS ds zs rho k (low + (high - low) / 2) = true := by
                    rw [← HM.out]; unfold testS aboveS sgnS; rw [hng]; exact ht
                  unfold Hid
                  rw [← hbis.out, bis_high _ hlt htt, ← HM.out]
                · unfold Hid
                  rw [HM.out]
                  exact gap_high hlt hmany.out
              case measure => have := HM.out; simp [intOf]; omega
            case false =>
              refine wp_region_nqb 11 (SecF ds zs rho (atS ds zs rho k) (.agg #[.slice da ds.length dc, .slice za zs.length zc, .float .f64 rho])) (by kernel_rfl) (by kernel_rfl) ?_
              intro C R hc hb' hb2 hd hR
              simp only [List.take_succ_cons, List.take_zero]
              repeat (
                first
                  | (refine nqW_plain (fun K hK => ?_))
                  | (refine nqW_step (fun K hK => ?_); go_simp)
                first
                  | (refine nq_move rfl ?_; go_simp; refine hK _ ?_; clear hK K)
                  | (refine nq_assign rfl ?_; go_simp; refine hK _ ?_; clear hK K)
                  | (refine nq_flt rfl rfl rfl rfl hd ?_; intro _; go_frame; refine hK _ ?_; clear hK K)
                  | (refine nq_in ?_; intro w' hw'; go_simp; refine ⟨?_, ?_⟩; (next => (intro w1 hw1; go_at_call 69; exact (HS.out w1 _ (below_step hBw hBw.size (hb' _ hw1))).mono (fun e w2 ⟨⟨s', he⟩, hb⟩ => ⟨_, he, SecF_side _ _ _ _ _ _ _, hb2 _ _ hw1 hb⟩))); intro v hv; obtain ⟨s', rfl⟩ := hv.1 rfl _ rfl; refine hK _ ?_; clear hv hK K hw' w')
                  | (refine nq_in ?_; intro w' hw'; go_simp; refine ⟨?_, ?_⟩; (next => (intro w1 hw1; go_at_call 98; exact (above2_any _ w1).mono (fun e w2 ⟨he, hb⟩ => ⟨_, he, SecF_a2 _ _ _ _ _ _, hb ▸ hw1⟩))); intro v hv; obtain rfl := hv.2.2 rfl _ rfl; go_simp; refine hK _ ?_; clear hv hK K hw' w')
                  | (refine nq_same ?_; intro w' hw'; go_simp; (try go_bits); refine hK _ ?_; clear hK K hw' w')
                  | (refine nq_same ?_; intro w' hw'; go_simp; rw [if_pos (by omega)]; go_simp; (try go_bits); refine hK _ ?_; clear hK K hw' w')
                  | (go_simp; refine hK _ ?_; clear hK K))
              refine nqW_nil (hR _ ?_)
              clear hc hb' hb2 hd hR
              intro w' hw'
              simp only [List.drop_succ_cons, List.drop_zero, List.drop_nil]
              go_wp2
              go_roundw
              case rel =>
                refine ⟨m, high, many + 1, rfl, rfl, by go_num, ?_, by omega, by omega, ?_, below_step hBr hBr.size hw'⟩
                · have htt : testS ds zs rho k (low + (high - low) / 2) = false := by
                    rw [← HM.out]; unfold testS aboveS sgnS; rw [hng]; exact ht
                  unfold Hid
                  rw [← hbis.out, bis_low _ hlt htt, ← HM.out]
                · unfold Hid
                  rw [HM.out]
                  exact gap_low hlt hmany.out
              case measure => have := HM.out; simp [intOf]; omega
          · have HL := Lib.hid hlt
            by_cases hlt2 : low < high
            · have tt1 : decide ((low : Int) < (high : Int)) = true := by simp; omega
              have tt2 : decide (low < high) = true := by simp; omega
              have tt3 : decide ((1 : Int) < (high : Int) - (low : Int)) = false := by simp; omega
              go_wp2_with (first | (refine wpList_flt rfl rfl rfl rfl rfl ?_; intro K hK _ _; go_frame; refine hK _ _ ?_; clear hK K))
              refine bodyPost_ret (results_three rfl (rv_cell (g := w.heap.size + 1) rfl (((((y2.below hBr).drewN _).set_other (by omega) _ _).set 0 _).set 1 _) rfl Try.underlying28 (by kernel_rfl)) (rv_tmp rfl) (rv_tmp rfl)) rfl ⟨?_, ?_⟩
              · unfold FindR
                rw [f1]
                apply Exists.intro
                rw [← hbis.out, bis_end _ hlt, hng]
                rfl
              · exact (((below_drewN _ hBw).setCell (by simp; omega) _).setCell (by simp) _).setCell (by simp) _
            · have tt1 : decide ((low : Int) < (high : Int)) = false := by simp; omega
              have tt2 : decide (low < high) = false := by simp; omega
              go_wp2_with (first | (refine wpList_flt rfl rfl rfl rfl rfl ?_; intro K hK _ _; go_frame; refine hK _ _ ?_; clear hK K))
              refine bodyPost_ret (results_three rfl (rv_cell (g := w.heap.size + 1) rfl (((((y2.below hBr).drewN _).set_other (by omega) _ _).set 0 _).set 1 _) rfl Try.underlying28 (by kernel_rfl)) (rv_tmp rfl) (rv_tmp rfl)) rfl ⟨?_, ?_⟩
              · unfold FindR
                rw [f1]
                apply Exists.intro
                rw [← hbis.out, bis_end _ hlt, hng]
                rfl
              · exact (((below_drewN _ hBw).setCell (by simp; omega) _).setCell (by simp) _).setCell (by simp) _
end Go.Proofs.Ytpjdibanjmmbkaa
