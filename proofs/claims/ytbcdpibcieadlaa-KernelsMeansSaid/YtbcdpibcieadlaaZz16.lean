/- Layer 8: the document's sums. No condition but on lengths. -/
import Derived.Test.YtbcdpibcieadlaaZz15
namespace Go.Proofs.Ytbcdpibcieadlaa
open Go Go.RowKit
set_option maxRecDepth 1000000

theorem Cel.at8 {w : World} {a : Option Addr} {zs : List Nat} (h : Cel w a zs) {i : Nat} (hi : i < zs.length) : ∃ b off, a = some ⟨b, off, none⟩ ∧ b < w.heap.size ∧ w.cell? ⟨b, off + i, none⟩ = some (.float .f64 (zs.getD i 0)) := by
  obtain ⟨b, off, k1, k2, k3⟩ := h (by intro e; rw [e] at hi; exact absurd hi (Nat.not_lt_zero _))
  exact ⟨b, off, k1, k2, k3 i _ (by rw [List.getD_eq_getElem?_getD, List.getElem?_eq_getElem hi]; rfl)⟩
def atL (zs : List Nat) (k : Nat) : Nat := zs.getD k 0
set_option maxHeartbeats 4000000 in
theorem RDot_any (w : World) (za ya : Option Addr) (zs ys : List Nat) (zc yc : Nat) (hZ : Cel w za zs) (hY : Cel w ya ys) (hl : zs.length ≤ 262144) (he : ys.length = zs.length) :
    Calls Try.prog 26 #[.slice za zs.length zc, .slice ya ys.length yc] w fun e w' => (∃ s, e = .returned (.float .f64 (raw (sumG (atL zs) (atL ys) 0 zs.length) s))) ∧ Below w.heap.size w w' := by
  rw [he]
  obtain ⟨n, hn⟩ : ∃ n, n = zs.length := ⟨_, rfl⟩
  have HZ := Lib.hid (show ∀ W k, Below w.heap.size w W → k < n → ∃ b off, za = some ⟨b, off, none⟩ ∧ b < W.heap.size ∧ W.cell? ⟨b, off + k, none⟩ = some (.float .f64 (atL zs k)) from fun W k h hk => (hZ.below h).at8 (by omega))
  have HY := Lib.hid (show ∀ W k, Below w.heap.size w W → k < n → ∃ b off, ya = some ⟨b, off, none⟩ ∧ b < W.heap.size ∧ W.cell? ⟨b, off + k, none⟩ = some (.float .f64 (atL ys k)) from fun W k h hk => (hY.below h).at8 (by omega))
  rw [← hn] at hl ⊢
  generalize atL zs = x at *
  generalize atL ys = y at *
  clear hZ hY he hn
  go_enter Try.func26, Try.ntmps26
  go_wp2_with fail
  go_loopw [5, 6] (fun s5 s6 wr => ∃ k s : Nat, k ≤ n ∧ s5 = .float .f64 (raw (sumG x y 0 k) s) ∧ s6 = .int .i64 k ∧ Below w.heap.size w wr) (fun _ s6 _ => n - (intOf s6).toNat)
  case atStart => exact ⟨0, 0, Nat.zero_le _, by rw [sumG, raw_of_not (by kernel_rfl)], rfl, Below.refl _ _⟩
  case round =>
    obtain ⟨k, s, hk, rfl, rfl, hB⟩ := hrel
    by_cases hlt : k < n
    · obtain ⟨b1, o1, e1, c1, d1⟩ := HZ.out wr k hB hlt
      obtain ⟨b2, o2, e2, c2, d2⟩ := HY.out wr k hB hlt
      subst e1 e2
      have HB := Lib.hid (show _ ∧ _ from ⟨hB, hlt⟩)
      have hdr : Below wr.heap.size wr wr.drew := below_drewN 1 (Below.refl _ wr)
      have HS := Lib.hid (show wr.drew.cell? ⟨b1, o1 + k, none⟩ = some (.float .f64 (x k)) ∧ wr.drew.cell? ⟨b2, o2 + k, none⟩ = some (.float .f64 (y k)) from ⟨cells_of_below hdr _ _ _ d1, cells_of_below hdr _ _ _ d2⟩)
      have HB2 := Lib.hid (below_step hB hB.size hdr)
      clear hB hk HZ HY hdr d1 d2
      go_upto_region 5 with (fail)
      refine wp_region_items 8 [(true, 0), (true, 1), (true, 2), (true, 3), (true, 4), (true, 5), (true, 6), (true, 7)] (fun W => W.cell? ⟨b1, o1 + k, none⟩ = some (.float .f64 (x k)) ∧ W.cell? ⟨b2, o2 + k, none⟩ = some (.float .f64 (y k))) (by kernel_rfl) (by kernel_rfl) HS.out ?_
      generalize wr.drew = w2 at *
      iterate 8 (refine iW_take (v := ?_) rfl rfl ?_ ?_; rotate_left; (next => (intro w' hSw; (try dsimp only at hSw); go_simp; (try (rw [if_pos (by omega)]; go_simp)); (try with_reducible rfl))); (simp only [Act.put, List.setIfInBounds_toArray, List.set_cons_zero, List.set_cons_succ]))
      refine iW_nil ?_
      go_simp
      go_wp2_with (first | (fail) | (refine wpList_flt rfl rfl rfl rfl rfl ?_; intro K hK _ _; go_frame; refine hK _ _ ?_; clear hK K))
      refine NoPanic.normal ?_
      go_wp2_with (first | (fail) | (refine wpList_flt rfl rfl rfl rfl rfl ?_; intro K hK _ _; go_frame; refine hK _ _ ?_; clear hK K))
      go_roundw
      case rel => exact ⟨k + 1, _, HB.out.2, by rw [sumG, Nat.zero_add]; simp only [fadd_rawl, fadd_rawr, fmul_rawl, fmul_rawr]; rfl, by go_num, below_drewN _ HB2.out⟩
      case measure => have := HB.out.2; simp [intOf]; omega
    · obtain rfl : k = n := by omega
      have HB := Lib.hid hB
      clear hB hk
      go_wp2_with fail
      go_ret
      exact ⟨⟨s, rfl⟩, HB.out⟩
set_option maxHeartbeats 4000000 in
theorem RAsum_any (w : World) (za : Option Addr) (zs : List Nat) (zc : Nat) (hZ : Cel w za zs) (hW : Words zs) (hl : zs.length ≤ 262144) :
    Calls Try.prog 25 #[.slice za zs.length zc] w fun e w' => (∃ s, e = .returned (.float .f64 (raw (asumG (atL zs) zs.length) s))) ∧ Below w.heap.size w w' := by
  obtain ⟨n, hn⟩ : ∃ n, n = zs.length := ⟨_, rfl⟩
  have HZ := Lib.hid (show ∀ W k, Below w.heap.size w W → k < n → ∃ b off, za = some ⟨b, off, none⟩ ∧ b < W.heap.size ∧ W.cell? ⟨b, off + k, none⟩ = some (.float .f64 (atL zs k)) from fun W k h hk => (hZ.below h).at8 (by omega))
  have HWx := Lib.hid (show ∀ k, atL zs k < 18446744073709551616 from fun k => hW.at k)
  rw [← hn] at hl ⊢
  generalize atL zs = x at *
  clear hZ hn hW
  go_enter Try.func25, Try.ntmps25
  go_wp2_with fail
  go_loopw [3, 4] (fun s3 s4 wr => ∃ k s : Nat, k ≤ n ∧ s3 = .float .f64 (raw (asumG x k) s) ∧ s4 = .int .i64 k ∧ Below w.heap.size w wr) (fun _ s4 _ => n - (intOf s4).toNat)
  case atStart => exact ⟨0, 0, Nat.zero_le _, by rw [asumG, raw_of_not (by kernel_rfl)], rfl, Below.refl _ _⟩
  case round =>
    obtain ⟨k, s, hk, rfl, rfl, hB⟩ := hrel
    by_cases hlt : k < n
    · obtain ⟨b1, o1, e1, c1, d1⟩ := HZ.out wr k hB hlt
      subst e1
      have HB := Lib.hid (show _ ∧ _ from ⟨hB, hlt⟩)
      have hlt64 := HWx.out k
      clear hB hk HZ
      go_wp2_with fail
      refine (Abs_any _ hlt64 wr).mono ?_
      rintro e w5 ⟨rfl, rfl⟩
      clear hlt64
      dsimp only
      go_wp2_with (first | (fail) | (refine wpList_flt rfl rfl rfl rfl rfl ?_; intro K hK _ _; go_frame; refine hK _ _ ?_; clear hK K))
      go_roundw
      case rel => exact ⟨k + 1, _, HB.out.2, by rw [asumG]; simp only [fadd_rawl]; rfl, by go_num, below_drewN _ HB.out.1⟩
      case measure => have := HB.out.2; simp [intOf]; omega
    · obtain rfl : k = n := by omega
      have HB := Lib.hid hB
      clear hB hk
      go_wp2_with fail
      go_ret
      exact ⟨⟨s, rfl⟩, HB.out⟩
theorem amax_step (x : Nat → Nat) (n : Nat) : amaxG x (n + 1) = if feq (fabs (x n)) (fabs (x n)) && ((amaxG x n).1 == 0 || flt (amaxG x n).2 (fabs (x n))) then (n + 1, fabs (x n)) else amaxG x n := by
  rw [amaxG]
  generalize amaxG x n = g
  generalize fabs (x n) = v
  have h : (flt g.2 v || (g.1 == 0 && feq v v)) = (feq v v && (g.1 == 0 || flt g.2 v)) := by
    cases hv : isnan v
    · rw [feq_self, hv]
      cases flt g.2 v <;> cases (g.1 == 0) <;> rfl
    · rw [flt_nan (.inr hv), feq_nan (.inr hv)]
      cases (g.1 == 0) <;> rfl
  rw [h]
set_option maxHeartbeats 4000000 in
theorem RAmax_any (w : World) (za : Option Addr) (zs : List Nat) (zc : Nat) (hZ : Cel w za zs) (hW : Words zs) (hl : zs.length ≤ 262144) :
    Calls Try.prog 24 #[.slice za zs.length zc] w fun e w' => (∃ s, e = .returned (.tuple #[.int .i64 ((amaxG (atL zs) zs.length).1 - 1 : Int), .float .f64 (raw (amaxG (atL zs) zs.length).2 s)])) ∧ Below w.heap.size w w' := by
  obtain ⟨n, hn⟩ : ∃ n, n = zs.length := ⟨_, rfl⟩
  have HZ := Lib.hid (show ∀ W k, Below w.heap.size w W → k < n → ∃ b off, za = some ⟨b, off, none⟩ ∧ b < W.heap.size ∧ W.cell? ⟨b, off + k, none⟩ = some (.float .f64 (atL zs k)) from fun W k h hk => (hZ.below h).at8 (by omega))
  have HWx := Lib.hid (show ∀ k, atL zs k < 18446744073709551616 from fun k => hW.at k)
  rw [← hn] at hl ⊢
  generalize atL zs = x at *
  clear hZ hn hW
  go_enter Try.func24, Try.ntmps24
  go_wp2_with fail
  go_loopw [4, 5, 6] (fun s4 s5 s6 wr => ∃ k s : Nat, k ≤ n ∧ s4 = .int .i64 ((amaxG x k).1 - 1 : Int) ∧ s5 = .float .f64 (raw (amaxG x k).2 s) ∧ s6 = .int .i64 k ∧ Below w.heap.size w wr ∧ (amaxG x k).1 ≤ k) (fun _ _ s6 _ => n - (intOf s6).toNat)
  case atStart => exact ⟨0, 0, Nat.zero_le _, rfl, by rw [amaxG, raw_of_not (by kernel_rfl)], rfl, Below.refl _ _, Nat.le_refl _⟩
  case round =>
    obtain ⟨k, s, hk, rfl, rfl, rfl, hB, hle⟩ := hrel
    by_cases hlt : k < n
    · obtain ⟨b1, o1, e1, c1, d1⟩ := HZ.out wr k hB hlt
      subst e1
      have hlt64 := HWx.out k
      have hnx := amax_step x k
      obtain ⟨ga, hga⟩ : ∃ g, g = amaxG x k := ⟨_, rfl⟩
      rw [← hga] at hle hnx ⊢
      have HB := Lib.hid (show _ ∧ _ ∧ _ from ⟨hB, hlt, hle⟩)
      have HNX0 := Lib.hid hnx
      have hg0 : decide ((ga.1 : Int) - 1 < 0) = (ga.1 == 0) := by rw [Bool.eq_iff_iff]; simp; omega
      clear hB hk hga hnx hle HZ HWx
      generalize x k = v at *
      obtain ⟨g1, g2⟩ := ga
      dsimp only at *
      go_wp2_with fail
      refine (Abs_any _ hlt64 wr).mono ?_
      rintro e w5 ⟨rfl, rfl⟩
      clear hlt64
      dsimp only
      obtain ⟨s', hs'⟩ := raw_self (b := fabs v) (by unfold fabs; omega)
      have HS' := Lib.hid hs'
      clear hs'
      have hnx := HNX0.out
      cases h3 : feq (fabs v) (fabs v)
      · rw [h3, Bool.false_and, if_neg (by decide)] at hnx
        have HNX := Lib.hid hnx
        clear hnx
        go_wp2_with fail
        go_roundw
        case rel => exact ⟨k + 1, s, HB.out.2.1, by rw [HNX.out], by rw [HNX.out], by go_num, HB.out.1, by rw [HNX.out]; have := HB.out.2.2; omega⟩
        case measure => have := HB.out.2.1; simp [intOf]; omega
      · cases h2 : (g1 == 0)
        · rw [h2] at hg0
          cases h1 : flt g2 (fabs v)
          · rw [h3, h2, h1, Bool.true_and, Bool.false_or, if_neg (by decide)] at hnx
            have HNX := Lib.hid hnx
            clear hnx
            go_wp2_with fail
            go_roundw
            case rel => exact ⟨k + 1, s, HB.out.2.1, by rw [HNX.out], by rw [HNX.out], by go_num, HB.out.1, by rw [HNX.out]; have := HB.out.2.2; omega⟩
            case measure => have := HB.out.2.1; simp [intOf]; omega
          · rw [h3, h2, h1, Bool.true_and, Bool.false_or, if_pos rfl] at hnx
            have HNX := Lib.hid hnx
            clear hnx
            go_wp2_with fail
            go_roundw
            case rel => exact ⟨k + 1, s', HB.out.2.1, by rw [HNX.out]; congr 1; simp, by rw [HNX.out]; exact congrArg _ HS'.out, by go_num, HB.out.1, by rw [HNX.out]; exact Nat.le_refl _⟩
            case measure => have := HB.out.2.1; simp [intOf]; omega
        · rw [h2] at hg0
          rw [h3, h2, Bool.true_and, Bool.true_or, if_pos rfl] at hnx
          have HNX := Lib.hid hnx
          clear hnx
          go_wp2_with fail
          go_roundw
          case rel => exact ⟨k + 1, s', HB.out.2.1, by rw [HNX.out]; congr 1; simp, by rw [HNX.out]; exact congrArg _ HS'.out, by go_num, HB.out.1, by rw [HNX.out]; exact Nat.le_refl _⟩
          case measure => have := HB.out.2.1; simp [intOf]; omega
    · obtain rfl : k = n := by omega
      have HB := Lib.hid hB
      clear hB hk hle
      go_wp2_with fail
      exact bodyPost_ret (results_two rfl (rv_tmp rfl) (rv_tmp rfl)) rfl ⟨⟨s, rfl⟩, HB.out⟩
end Go.Proofs.Ytbcdpibcieadlaa

/- Layer 8: Gemm's test (printed by gen_ko.py). No condition but on lengths. -/
namespace Go.Proofs.Ytbcdpibcieadlaa
open Go Go.RowKit
set_option maxRecDepth 100000

def fits_Gemm (m n y : Vw) : Bool := decide (m.c = n.r) && (decide (y.r = m.r) && decide (y.c = n.c))
set_option maxHeartbeats 8000000 in
theorem Gemmf_any (w : World) (m n y : Vw) (km kn ky : Nat) (hm : Box w km m.cs) (hn : Box w kn n.cs) (hy : Box w ky y.cs) :
    Calls Try.prog 78 #[.pointer (some ⟨km, 0, none⟩), .pointer (some ⟨kn, 0, none⟩), .pointer (some ⟨ky, 0, none⟩)] w fun e w' => e = .returned (.bool (fits_Gemm m n y)) ∧ Below w.heap.size w w' := by
  have t1 : ((m.c : Int) == (n.r : Int)) = decide (m.c = n.r) := by rw [Bool.eq_iff_iff]; simp; omega
  have t2 : ((y.r : Int) == (m.r : Int)) = decide (y.r = m.r) := by rw [Bool.eq_iff_iff]; simp; omega
  have t3 : ((y.c : Int) == (n.c : Int)) = decide (y.c = n.c) := by rw [Bool.eq_iff_iff]; simp; omega
  unfold fits_Gemm
  have HS := Lib.hid (show ∀ W, Below w.heap.size w W → (fun W => (∀ i, W.cell? ⟨km, i, none⟩ = ([.pointer m.p, .int .i64 m.r, .int .i64 m.c, .int .i64 m.o, .int .i64 m.d, .int .i64 m.u] : List Value)[i]?) ∧ (∀ i, W.cell? ⟨kn, i, none⟩ = ([.pointer n.p, .int .i64 n.r, .int .i64 n.c, .int .i64 n.o, .int .i64 n.d, .int .i64 n.u] : List Value)[i]?) ∧ (∀ i, W.cell? ⟨ky, i, none⟩ = ([.pointer y.p, .int .i64 y.r, .int .i64 y.c, .int .i64 y.o, .int .i64 y.d, .int .i64 y.u] : List Value)[i]?)) W from fun W h => ⟨(hm.below h).cell, (hn.below h).cell, (hy.below h).cell⟩)
  have HB1 := Lib.hid (show Below w.heap.size w w.drew from below_drewN 1 (Below.refl w.heap.size w))
  clear hm hn hy
  generalize decide (m.c = n.r) = q1 at *
  generalize decide (y.r = m.r) = q2 at *
  generalize decide (y.c = n.c) = q3 at *
  cases q1
  · go_enter Try.func78, Try.ntmps78
    go_upto_region 1 with (fail)
    refine wp_region_many 19 40 [(0, 0), (0, 2), (1, 1), (1, 3), (0, 4), (0, 5), (0, 6), (0, 7), (0, 8), (0, 9), (0, 10), (0, 11), (0, 12), (0, 13), (0, 14), (0, 15), (0, 16), (0, 17), (0, 18)] (fun W => (∀ i, W.cell? ⟨km, i, none⟩ = ([.pointer m.p, .int .i64 m.r, .int .i64 m.c, .int .i64 m.o, .int .i64 m.d, .int .i64 m.u] : List Value)[i]?) ∧ (∀ i, W.cell? ⟨kn, i, none⟩ = ([.pointer n.p, .int .i64 n.r, .int .i64 n.c, .int .i64 n.o, .int .i64 n.d, .int .i64 n.u] : List Value)[i]?) ∧ (∀ i, W.cell? ⟨ky, i, none⟩ = ([.pointer y.p, .int .i64 y.r, .int .i64 y.c, .int .i64 y.o, .int .i64 y.d, .int .i64 y.u] : List Value)[i]?)) (by kernel_rfl) (by kernel_rfl) (HS.out _ HB1.out) ?_
    generalize w.drew = w1 at *
    iterate 1 (refine fm_take (v := ?_) rfl rfl ?_ ?_; rotate_left; (next => (intro w' hSw; (try dsimp only at hSw); go_simp; (try (rw [if_pos (by omega)]; go_simp)); (try with_reducible rfl))); (simp only [Act.put, List.setIfInBounds_toArray, List.set_cons_zero, List.set_cons_succ]))
    iterate 1 (refine fm_take (v := ?_) rfl rfl ?_ ?_; rotate_left; (next => (intro w' hSw; (try dsimp only at hSw); go_simp; (try (rw [if_pos (by omega)]; go_simp)); (try with_reducible rfl))); (simp only [Act.put, List.setIfInBounds_toArray, List.set_cons_zero, List.set_cons_succ]))
    refine fm_one ?_
    refine opW_take rfl rfl ?_
    go_simp
    refine (Cols_any m.p m.r m.c m.o m.d m.u w1).mono ?_
    rintro e v1 ⟨rfl, hb⟩
    have hB1 := Lib.hid (below_step HB1.out HB1.out.size hb)
    clear hb
    refine ⟨HS.out _ hB1.out, ?_⟩
    refine fm_one ?_
    refine opW_take rfl rfl ?_
    go_simp
    refine (Rows_any n.p n.r n.c n.o n.d n.u v1).mono ?_
    rintro e v2 ⟨rfl, hb⟩
    have hB2 := Lib.hid (below_step hB1.out hB1.out.size hb)
    clear hb
    refine ⟨HS.out _ hB2.out, ?_⟩
    iterate 1 (refine fm_take (v := ?_) rfl rfl ?_ ?_; rotate_left; (next => (intro w' hSw; (try dsimp only at hSw); go_simp; (try (rw [if_pos (by omega)]; go_simp)); (try with_reducible rfl))); (simp only [Act.put, List.setIfInBounds_toArray, List.set_cons_zero, List.set_cons_succ]))
    iterate 1 (refine fm_take (v := ?_) rfl rfl ?_ ?_; rotate_left; (next => (intro w' hSw; (try dsimp only at hSw); go_simp; (try (rw [if_pos (by omega)]; go_simp)); (try with_reducible rfl))); (simp only [Act.put, List.setIfInBounds_toArray, List.set_cons_zero, List.set_cons_succ]))
    iterate 1 (refine fm_out rfl rfl ?_; (simp only [Act.put, List.setIfInBounds_toArray, List.set_cons_zero, List.set_cons_succ]))
    iterate 1 (refine fm_out rfl rfl ?_; (simp only [Act.put, List.setIfInBounds_toArray, List.set_cons_zero, List.set_cons_succ]))
    iterate 1 (refine fm_out rfl rfl ?_; (simp only [Act.put, List.setIfInBounds_toArray, List.set_cons_zero, List.set_cons_succ]))
    iterate 1 (refine fm_out rfl rfl ?_; (simp only [Act.put, List.setIfInBounds_toArray, List.set_cons_zero, List.set_cons_succ]))
    iterate 1 (refine fm_out rfl rfl ?_; (simp only [Act.put, List.setIfInBounds_toArray, List.set_cons_zero, List.set_cons_succ]))
    iterate 1 (refine fm_take (v := ?_) rfl rfl ?_ ?_; rotate_left; (next => (intro w' hSw; (try dsimp only at hSw); go_simp; (try (rw [if_pos (by omega)]; go_simp)); (try with_reducible rfl))); (simp only [Act.put, List.setIfInBounds_toArray, List.set_cons_zero, List.set_cons_succ]))
    iterate 1 (refine fm_take (v := ?_) rfl rfl ?_ ?_; rotate_left; (next => (intro w' hSw; (try dsimp only at hSw); go_simp; (try (rw [if_pos (by omega)]; go_simp)); (try with_reducible rfl))); (simp only [Act.put, List.setIfInBounds_toArray, List.set_cons_zero, List.set_cons_succ]))
    iterate 1 (refine fm_out rfl rfl ?_; (simp only [Act.put, List.setIfInBounds_toArray, List.set_cons_zero, List.set_cons_succ]))
    iterate 1 (refine fm_out rfl rfl ?_; (simp only [Act.put, List.setIfInBounds_toArray, List.set_cons_zero, List.set_cons_succ]))
    iterate 1 (refine fm_out rfl rfl ?_; (simp only [Act.put, List.setIfInBounds_toArray, List.set_cons_zero, List.set_cons_succ]))
    iterate 1 (refine fm_out rfl rfl ?_; (simp only [Act.put, List.setIfInBounds_toArray, List.set_cons_zero, List.set_cons_succ]))
    iterate 1 (refine fm_out rfl rfl ?_; (simp only [Act.put, List.setIfInBounds_toArray, List.set_cons_zero, List.set_cons_succ]))
    iterate 1 (refine fm_take (v := ?_) rfl rfl ?_ ?_; rotate_left; (next => (intro w' hSw; (try dsimp only at hSw); go_simp; (try (rw [if_pos (by omega)]; go_simp)); (try with_reducible rfl))); (simp only [Act.put, List.setIfInBounds_toArray, List.set_cons_zero, List.set_cons_succ]))
    refine fm_nil ?_
    go_simp
    go_wp2
    refine NoPanic.normal ?_
    go_wp2_with fail
    go_ret
    exact ⟨by simp, hB2.out⟩
  · cases q2
    · go_enter Try.func78, Try.ntmps78
      go_upto_region 1 with (fail)
      refine wp_region_many 19 40 [(0, 0), (0, 2), (1, 1), (1, 3), (0, 4), (0, 5), (0, 6), (0, 8), (1, 7), (1, 9), (0, 10), (0, 11), (0, 12), (0, 13), (0, 14), (0, 15), (0, 16), (0, 17), (0, 18)] (fun W => (∀ i, W.cell? ⟨km, i, none⟩ = ([.pointer m.p, .int .i64 m.r, .int .i64 m.c, .int .i64 m.o, .int .i64 m.d, .int .i64 m.u] : List Value)[i]?) ∧ (∀ i, W.cell? ⟨kn, i, none⟩ = ([.pointer n.p, .int .i64 n.r, .int .i64 n.c, .int .i64 n.o, .int .i64 n.d, .int .i64 n.u] : List Value)[i]?) ∧ (∀ i, W.cell? ⟨ky, i, none⟩ = ([.pointer y.p, .int .i64 y.r, .int .i64 y.c, .int .i64 y.o, .int .i64 y.d, .int .i64 y.u] : List Value)[i]?)) (by kernel_rfl) (by kernel_rfl) (HS.out _ HB1.out) ?_
      generalize w.drew = w1 at *
      iterate 1 (refine fm_take (v := ?_) rfl rfl ?_ ?_; rotate_left; (next => (intro w' hSw; (try dsimp only at hSw); go_simp; (try (rw [if_pos (by omega)]; go_simp)); (try with_reducible rfl))); (simp only [Act.put, List.setIfInBounds_toArray, List.set_cons_zero, List.set_cons_succ]))
      iterate 1 (refine fm_take (v := ?_) rfl rfl ?_ ?_; rotate_left; (next => (intro w' hSw; (try dsimp only at hSw); go_simp; (try (rw [if_pos (by omega)]; go_simp)); (try with_reducible rfl))); (simp only [Act.put, List.setIfInBounds_toArray, List.set_cons_zero, List.set_cons_succ]))
      refine fm_one ?_
      refine opW_take rfl rfl ?_
      go_simp
      refine (Cols_any m.p m.r m.c m.o m.d m.u w1).mono ?_
      rintro e v1 ⟨rfl, hb⟩
      have hB1 := Lib.hid (below_step HB1.out HB1.out.size hb)
      clear hb
      refine ⟨HS.out _ hB1.out, ?_⟩
      refine fm_one ?_
      refine opW_take rfl rfl ?_
      go_simp
      refine (Rows_any n.p n.r n.c n.o n.d n.u v1).mono ?_
      rintro e v2 ⟨rfl, hb⟩
      have hB2 := Lib.hid (below_step hB1.out hB1.out.size hb)
      clear hb
      refine ⟨HS.out _ hB2.out, ?_⟩
      iterate 1 (refine fm_take (v := ?_) rfl rfl ?_ ?_; rotate_left; (next => (intro w' hSw; (try dsimp only at hSw); go_simp; (try (rw [if_pos (by omega)]; go_simp)); (try with_reducible rfl))); (simp only [Act.put, List.setIfInBounds_toArray, List.set_cons_zero, List.set_cons_succ]))
      iterate 1 (refine fm_take (v := ?_) rfl rfl ?_ ?_; rotate_left; (next => (intro w' hSw; (try dsimp only at hSw); go_simp; (try (rw [if_pos (by omega)]; go_simp)); (try with_reducible rfl))); (simp only [Act.put, List.setIfInBounds_toArray, List.set_cons_zero, List.set_cons_succ]))
      iterate 1 (refine fm_take (v := ?_) rfl rfl ?_ ?_; rotate_left; (next => (intro w' hSw; (try dsimp only at hSw); go_simp; (try (rw [if_pos (by omega)]; go_simp)); (try with_reducible rfl))); (simp only [Act.put, List.setIfInBounds_toArray, List.set_cons_zero, List.set_cons_succ]))
      iterate 1 (refine fm_take (v := ?_) rfl rfl ?_ ?_; rotate_left; (next => (intro w' hSw; (try dsimp only at hSw); go_simp; (try (rw [if_pos (by omega)]; go_simp)); (try with_reducible rfl))); (simp only [Act.put, List.setIfInBounds_toArray, List.set_cons_zero, List.set_cons_succ]))
      refine fm_one ?_
      refine opW_take rfl rfl ?_
      go_simp
      refine (Rows_any y.p y.r y.c y.o y.d y.u v2).mono ?_
      rintro e v3 ⟨rfl, hb⟩
      have hB3 := Lib.hid (below_step hB2.out hB2.out.size hb)
      clear hb
      refine ⟨HS.out _ hB3.out, ?_⟩
      refine fm_one ?_
      refine opW_take rfl rfl ?_
      go_simp
      refine (Rows_any m.p m.r m.c m.o m.d m.u v3).mono ?_
      rintro e v4 ⟨rfl, hb⟩
      have hB4 := Lib.hid (below_step hB3.out hB3.out.size hb)
      clear hb
      refine ⟨HS.out _ hB4.out, ?_⟩
      iterate 1 (refine fm_take (v := ?_) rfl rfl ?_ ?_; rotate_left; (next => (intro w' hSw; (try dsimp only at hSw); go_simp; (try (rw [if_pos (by omega)]; go_simp)); (try with_reducible rfl))); (simp only [Act.put, List.setIfInBounds_toArray, List.set_cons_zero, List.set_cons_succ]))
      iterate 1 (refine fm_take (v := ?_) rfl rfl ?_ ?_; rotate_left; (next => (intro w' hSw; (try dsimp only at hSw); go_simp; (try (rw [if_pos (by omega)]; go_simp)); (try with_reducible rfl))); (simp only [Act.put, List.setIfInBounds_toArray, List.set_cons_zero, List.set_cons_succ]))
      iterate 1 (refine fm_take (v := ?_) rfl rfl ?_ ?_; rotate_left; (next => (intro w' hSw; (try dsimp only at hSw); go_simp; (try (rw [if_pos (by omega)]; go_simp)); (try with_reducible rfl))); (simp only [Act.put, List.setIfInBounds_toArray, List.set_cons_zero, List.set_cons_succ]))
      iterate 1 (refine fm_out rfl rfl ?_; (simp only [Act.put, List.setIfInBounds_toArray, List.set_cons_zero, List.set_cons_succ]))
      iterate 1 (refine fm_out rfl rfl ?_; (simp only [Act.put, List.setIfInBounds_toArray, List.set_cons_zero, List.set_cons_succ]))
      iterate 1 (refine fm_out rfl rfl ?_; (simp only [Act.put, List.setIfInBounds_toArray, List.set_cons_zero, List.set_cons_succ]))
      iterate 1 (refine fm_out rfl rfl ?_; (simp only [Act.put, List.setIfInBounds_toArray, List.set_cons_zero, List.set_cons_succ]))
      iterate 1 (refine fm_out rfl rfl ?_; (simp only [Act.put, List.setIfInBounds_toArray, List.set_cons_zero, List.set_cons_succ]))
      iterate 1 (refine fm_take (v := ?_) rfl rfl ?_ ?_; rotate_left; (next => (intro w' hSw; (try dsimp only at hSw); go_simp; (try (rw [if_pos (by omega)]; go_simp)); (try with_reducible rfl))); (simp only [Act.put, List.setIfInBounds_toArray, List.set_cons_zero, List.set_cons_succ]))
      refine fm_nil ?_
      go_simp
      go_wp2
      refine NoPanic.normal ?_
      go_wp2_with fail
      go_ret
      exact ⟨by simp, hB4.out⟩
    · go_enter Try.func78, Try.ntmps78
      go_upto_region 1 with (fail)
      refine wp_region_many 19 40 [(0, 0), (0, 2), (1, 1), (1, 3), (0, 4), (0, 5), (0, 6), (0, 8), (1, 7), (1, 9), (0, 10), (0, 11), (0, 12), (0, 13), (0, 15), (1, 14), (1, 16), (0, 17), (0, 18)] (fun W => (∀ i, W.cell? ⟨km, i, none⟩ = ([.pointer m.p, .int .i64 m.r, .int .i64 m.c, .int .i64 m.o, .int .i64 m.d, .int .i64 m.u] : List Value)[i]?) ∧ (∀ i, W.cell? ⟨kn, i, none⟩ = ([.pointer n.p, .int .i64 n.r, .int .i64 n.c, .int .i64 n.o, .int .i64 n.d, .int .i64 n.u] : List Value)[i]?) ∧ (∀ i, W.cell? ⟨ky, i, none⟩ = ([.pointer y.p, .int .i64 y.r, .int .i64 y.c, .int .i64 y.o, .int .i64 y.d, .int .i64 y.u] : List Value)[i]?)) (by kernel_rfl) (by kernel_rfl) (HS.out _ HB1.out) ?_
      generalize w.drew = w1 at *
      iterate 1 (refine fm_take (v := ?_) rfl rfl ?_ ?_; rotate_left; (next => (intro w' hSw; (try dsimp only at hSw); go_simp; (try (rw [if_pos (by omega)]; go_simp)); (try with_reducible rfl))); (simp only [Act.put, List.setIfInBounds_toArray, List.set_cons_zero, List.set_cons_succ]))
      iterate 1 (refine fm_take (v := ?_) rfl rfl ?_ ?_; rotate_left; (next => (intro w' hSw; (try dsimp only at hSw); go_simp; (try (rw [if_pos (by omega)]; go_simp)); (try with_reducible rfl))); (simp only [Act.put, List.setIfInBounds_toArray, List.set_cons_zero, List.set_cons_succ]))
      refine fm_one ?_
      refine opW_take rfl rfl ?_
      go_simp
      refine (Cols_any m.p m.r m.c m.o m.d m.u w1).mono ?_
      rintro e v1 ⟨rfl, hb⟩
      have hB1 := Lib.hid (below_step HB1.out HB1.out.size hb)
      clear hb
      refine ⟨HS.out _ hB1.out, ?_⟩
      refine fm_one ?_
      refine opW_take rfl rfl ?_
      go_simp
      refine (Rows_any n.p n.r n.c n.o n.d n.u v1).mono ?_
      rintro e v2 ⟨rfl, hb⟩
      have hB2 := Lib.hid (below_step hB1.out hB1.out.size hb)
      clear hb
      refine ⟨HS.out _ hB2.out, ?_⟩
      iterate 1 (refine fm_take (v := ?_) rfl rfl ?_ ?_; rotate_left; (next => (intro w' hSw; (try dsimp only at hSw); go_simp; (try (rw [if_pos (by omega)]; go_simp)); (try with_reducible rfl))); (simp only [Act.put, List.setIfInBounds_toArray, List.set_cons_zero, List.set_cons_succ]))
      iterate 1 (refine fm_take (v := ?_) rfl rfl ?_ ?_; rotate_left; (next => (intro w' hSw; (try dsimp only at hSw); go_simp; (try (rw [if_pos (by omega)]; go_simp)); (try with_reducible rfl))); (simp only [Act.put, List.setIfInBounds_toArray, List.set_cons_zero, List.set_cons_succ]))
      iterate 1 (refine fm_take (v := ?_) rfl rfl ?_ ?_; rotate_left; (next => (intro w' hSw; (try dsimp only at hSw); go_simp; (try (rw [if_pos (by omega)]; go_simp)); (try with_reducible rfl))); (simp only [Act.put, List.setIfInBounds_toArray, List.set_cons_zero, List.set_cons_succ]))
      iterate 1 (refine fm_take (v := ?_) rfl rfl ?_ ?_; rotate_left; (next => (intro w' hSw; (try dsimp only at hSw); go_simp; (try (rw [if_pos (by omega)]; go_simp)); (try with_reducible rfl))); (simp only [Act.put, List.setIfInBounds_toArray, List.set_cons_zero, List.set_cons_succ]))
      refine fm_one ?_
      refine opW_take rfl rfl ?_
      go_simp
      refine (Rows_any y.p y.r y.c y.o y.d y.u v2).mono ?_
      rintro e v3 ⟨rfl, hb⟩
      have hB3 := Lib.hid (below_step hB2.out hB2.out.size hb)
      clear hb
      refine ⟨HS.out _ hB3.out, ?_⟩
      refine fm_one ?_
      refine opW_take rfl rfl ?_
      go_simp
      refine (Rows_any m.p m.r m.c m.o m.d m.u v3).mono ?_
      rintro e v4 ⟨rfl, hb⟩
      have hB4 := Lib.hid (below_step hB3.out hB3.out.size hb)
      clear hb
      refine ⟨HS.out _ hB4.out, ?_⟩
      iterate 1 (refine fm_take (v := ?_) rfl rfl ?_ ?_; rotate_left; (next => (intro w' hSw; (try dsimp only at hSw); go_simp; (try (rw [if_pos (by omega)]; go_simp)); (try with_reducible rfl))); (simp only [Act.put, List.setIfInBounds_toArray, List.set_cons_zero, List.set_cons_succ]))
      iterate 1 (refine fm_take (v := ?_) rfl rfl ?_ ?_; rotate_left; (next => (intro w' hSw; (try dsimp only at hSw); go_simp; (try (rw [if_pos (by omega)]; go_simp)); (try with_reducible rfl))); (simp only [Act.put, List.setIfInBounds_toArray, List.set_cons_zero, List.set_cons_succ]))
      iterate 1 (refine fm_take (v := ?_) rfl rfl ?_ ?_; rotate_left; (next => (intro w' hSw; (try dsimp only at hSw); go_simp; (try (rw [if_pos (by omega)]; go_simp)); (try with_reducible rfl))); (simp only [Act.put, List.setIfInBounds_toArray, List.set_cons_zero, List.set_cons_succ]))
      iterate 1 (refine fm_take (v := ?_) rfl rfl ?_ ?_; rotate_left; (next => (intro w' hSw; (try dsimp only at hSw); go_simp; (try (rw [if_pos (by omega)]; go_simp)); (try with_reducible rfl))); (simp only [Act.put, List.setIfInBounds_toArray, List.set_cons_zero, List.set_cons_succ]))
      iterate 1 (refine fm_take (v := ?_) rfl rfl ?_ ?_; rotate_left; (next => (intro w' hSw; (try dsimp only at hSw); go_simp; (try (rw [if_pos (by omega)]; go_simp)); (try with_reducible rfl))); (simp only [Act.put, List.setIfInBounds_toArray, List.set_cons_zero, List.set_cons_succ]))
      refine fm_one ?_
      refine opW_take rfl rfl ?_
      go_simp
      refine (Cols_any y.p y.r y.c y.o y.d y.u v4).mono ?_
      rintro e v5 ⟨rfl, hb⟩
      have hB5 := Lib.hid (below_step hB4.out hB4.out.size hb)
      clear hb
      refine ⟨HS.out _ hB5.out, ?_⟩
      refine fm_one ?_
      refine opW_take rfl rfl ?_
      go_simp
      refine (Cols_any n.p n.r n.c n.o n.d n.u v5).mono ?_
      rintro e v6 ⟨rfl, hb⟩
      have hB6 := Lib.hid (below_step hB5.out hB5.out.size hb)
      clear hb
      refine ⟨HS.out _ hB6.out, ?_⟩
      iterate 1 (refine fm_take (v := ?_) rfl rfl ?_ ?_; rotate_left; (next => (intro w' hSw; (try dsimp only at hSw); go_simp; (try (rw [if_pos (by omega)]; go_simp)); (try with_reducible rfl))); (simp only [Act.put, List.setIfInBounds_toArray, List.set_cons_zero, List.set_cons_succ]))
      iterate 1 (refine fm_take (v := ?_) rfl rfl ?_ ?_; rotate_left; (next => (intro w' hSw; (try dsimp only at hSw); go_simp; (try (rw [if_pos (by omega)]; go_simp)); (try with_reducible rfl))); (simp only [Act.put, List.setIfInBounds_toArray, List.set_cons_zero, List.set_cons_succ]))
      refine fm_nil ?_
      go_simp
      go_wp2
      refine NoPanic.normal ?_
      go_wp2_with fail
      go_ret
      exact ⟨by simp, hB6.out⟩
set_option maxHeartbeats 4000000 in
theorem Gemm_bad (w : World) (a b : Nat) (m n y : Vw) (sm sn sy : Nat) (wm wn wy : List Nat) (hm : m.Ok w sm wm) (hn : n.Ok w sn wn) (hy : y.Ok w sy wy) (hE : openE [m, n, y] (fits_Gemm m n y) ≠ 0) :
    Calls Try.prog 31 #[.float .f64 a, m.val, n.val, .float .f64 b, y.val] w fun e w' => e = .returned (.int .i64 (openE [m, n, y] (fits_Gemm m n y))) ∧ Below w.heap.size w w' := by
  have HO := Lib.hid (fun W (h : Below w.heap.size w W) km kn ky b hbm hbn hby hb => open_any W 78 #[.pointer (some ⟨km, 0, none⟩), .pointer (some ⟨kn, 0, none⟩), .pointer (some ⟨ky, 0, none⟩)] b [m, n, y] (fits_Gemm m n y) hb (fun v hv => by
    simp only [List.mem_cons, List.not_mem_nil, or_false] at hv
    rcases hv with rfl | rfl | rfl
    · exact ⟨sm, wm, hm.below h⟩
    · exact ⟨sn, wn, hn.below h⟩
    · exact ⟨sy, wy, hy.below h⟩) (by simp) (enters_of Try.func78 (by kernel_rfl) rfl) (fun _ W' h' => Gemmf_any W' m n y km kn ky (Box.below hbm h') (Box.below hbn h') (Box.below hby h')))
  generalize openE [m, n, y] (fits_Gemm m n y) = E at *
  have t1 : (E != 0) = true := by simp [hE]
  obtain ⟨W0, hW0⟩ : ∃ W0, W0 = ((((w.alloc (.cells #[.float .f64 a] 31)).alloc (.cells #[.pointer m.p, .int .i64 m.r, .int .i64 m.c, .int .i64 m.o, .int .i64 m.d, .int .i64 m.u] 29)).alloc (.cells #[.pointer n.p, .int .i64 n.r, .int .i64 n.c, .int .i64 n.o, .int .i64 n.d, .int .i64 n.u] 29)).alloc (.cells #[.float .f64 b] 31)).alloc (.cells #[.pointer y.p, .int .i64 y.r, .int .i64 y.c, .int .i64 y.o, .int .i64 y.d, .int .i64 y.u] 29) := ⟨_, rfl⟩
  have hB0 : Below w.heap.size w W0 := hW0 ▸ (((((Below.refl _ _).alloc (Nat.le_refl _) _).alloc (by simp) _).alloc (by simp; omega) _).alloc (by simp; omega) _).alloc (by simp; omega) _
  have x2 : Box W0 (w.heap.size + 1) [.pointer m.p, .int .i64 m.r, .int .i64 m.c, .int .i64 m.o, .int .i64 m.d, .int .i64 m.u] := hW0 ▸ (((Box.newA _ [.pointer m.p, .int .i64 m.r, .int .i64 m.c, .int .i64 m.o, .int .i64 m.d, .int .i64 m.u] _ (by simp)).alloc _).alloc _).alloc _
  have x3 : Box W0 (w.heap.size + 1 + 1) [.pointer n.p, .int .i64 n.r, .int .i64 n.c, .int .i64 n.o, .int .i64 n.d, .int .i64 n.u] := hW0 ▸ ((Box.newA _ [.pointer n.p, .int .i64 n.r, .int .i64 n.c, .int .i64 n.o, .int .i64 n.d, .int .i64 n.u] _ (by simp)).alloc _).alloc _
  have x4 : Box W0 (w.heap.size + 1 + 1 + 1 + 1) [.pointer y.p, .int .i64 y.r, .int .i64 y.c, .int .i64 y.o, .int .i64 y.d, .int .i64 y.u] := hW0 ▸ Box.newA _ [.pointer y.p, .int .i64 y.r, .int .i64 y.c, .int .i64 y.o, .int .i64 y.d, .int .i64 y.u] _ (by simp)
  have HX := Lib.hid (show _ ∧ _ ∧ _ ∧ _ from ⟨hB0, x2, x3, x4⟩)
  clear hm hn hy hB0 x2 x3 x4 hE
  show Calls Try.prog 31 #[.float .f64 a, (.agg #[.pointer m.p, .int .i64 m.r, .int .i64 m.c, .int .i64 m.o, .int .i64 m.d, .int .i64 m.u]), (.agg #[.pointer n.p, .int .i64 n.r, .int .i64 n.c, .int .i64 n.o, .int .i64 n.d, .int .i64 n.u]), .float .f64 b, (.agg #[.pointer y.p, .int .i64 y.r, .int .i64 y.c, .int .i64 y.o, .int .i64 y.d, .int .i64 y.u])] w _
  go_enter Try.func31, Try.ntmps31
  go_upto_region 1 with (fail)
  rw [← hW0]
  clear hW0
  obtain ⟨hB0, x2, x3, x4⟩ := HX.out
  have hbA : Below W0.heap.size W0 (W0.alloc (.cells #[.pointer m.p, .int .i64 m.r, .int .i64 m.c, .int .i64 m.o, .int .i64 m.d, .int .i64 m.u, .pointer n.p, .int .i64 n.r, .int .i64 n.c, .int .i64 n.o, .int .i64 n.d, .int .i64 n.u, .pointer y.p, .int .i64 y.r, .int .i64 y.c, .int .i64 y.o, .int .i64 y.d, .int .i64 y.u] 29)) := (Below.refl _ _).alloc (Nat.le_refl _) _
  have hz : Box (W0.alloc (.cells #[.pointer m.p, .int .i64 m.r, .int .i64 m.c, .int .i64 m.o, .int .i64 m.d, .int .i64 m.u, .pointer n.p, .int .i64 n.r, .int .i64 n.c, .int .i64 n.o, .int .i64 n.d, .int .i64 n.u, .pointer y.p, .int .i64 y.r, .int .i64 y.c, .int .i64 y.o, .int .i64 y.d, .int .i64 y.u] 29)) W0.heap.size ([m, n, y].flatMap Vw.cs) := Box.newA W0 ([m, n, y].flatMap Vw.cs) _ rfl
  have hB1 := below_step hB0 hB0.size hbA
  have HC := Lib.hid (HO.out _ hB1 _ _ _ _ (x2.below hbA) (x3.below hbA) (x4.below hbA) hz)
  obtain ⟨p1, p2, p3⟩ := x2.facts
  obtain ⟨q1, q2, q3⟩ := x3.facts
  obtain ⟨r1, r2, r3⟩ := x4.facts
  have HB1 := Lib.hid hB1
  clear hB0 x2 x3 x4 hbA hz hB1 HO HX
  go_wp2_with fail
  refine HC.out.mono ?_
  rintro e w1 ⟨rfl, hb1⟩
  have HB2 := Lib.hid (below_step HB1.out HB1.out.size hb1)
  clear p1 p2 p3 q1 q2 q3 r1 r2 r3 hb1 HB1 HC
  dsimp only
  go_wp2_with fail
  go_ret
  exact ⟨rfl, HB2.out⟩
end Go.Proofs.Ytbcdpibcieadlaa
