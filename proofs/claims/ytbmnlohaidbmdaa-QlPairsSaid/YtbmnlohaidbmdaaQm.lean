/- The document's layers 6, 9, 10, 12: when floats, lists, matrices are the same; copies; what may be; what is finite. No condition but on lengths. -/
import Derived.Test.YtbmnlohaidbmdaaQl
import Derived.Test.YtbmnlohaidbmdaaFd
namespace Go.Proofs.Ytbmnlohaidbmdaa
open Go Go.RowKit
set_option maxRecDepth 1000000
theorem Same06_any (x y : Nat) (w : World) : Calls Try.prog 22 #[.float .f64 x, .float .f64 y] w fun e w' => e = .returned (.bool (sameF x y)) ∧ w = w' := by
  have hx := feq_self x
  have hy := feq_self y
  have e1 : ((x : Int) == (y : Int)) = decide (x = y) := by rw [Bool.eq_iff_iff]; simp; omega
  have e0 : sameF x y = (decide (x = y) || (isnan x && isnan y)) := rfl
  rw [e0]
  clear e0
  generalize decide (x = y) = q at *
  cases h1 : isnan x
  · rw [h1] at hx
    go_enter Try.func22, Try.ntmps22
    go_wp2
    go_ret
    exact ⟨by simp, rfl⟩
  · rw [h1] at hx
    cases h2 : isnan y
    · rw [h2] at hy
      go_enter Try.func22, Try.ntmps22
      go_wp2
      go_ret
      exact ⟨by simp, rfl⟩
    · rw [h2] at hy
      go_enter Try.func22, Try.ntmps22
      go_wp2
      go_ret
      exact ⟨by simp, rfl⟩
theorem sameF_refl (x : Nat) : sameF x x = true := by unfold sameF; simp
theorem sameF_raw (x s t : Nat) : sameF (raw x s) (raw x t) = true := by
  cases h : isnan x
  · rw [raw_of_not h, raw_of_not h, sameF_refl]
  · unfold sameF
    rw [isnan_raw, isnan_raw, h]
    simp
set_option maxHeartbeats 2000000 in
theorem SameAllF (w : World) (a b : Option Addr) (xs : List Nat) (ca cb : Nat) (hX : Fls w a xs) (hY : Fls w b xs) (hlx : xs.length ≤ 262144) :
    Calls Try.prog 12 #[.slice a xs.length ca, .slice b xs.length cb] w fun e w' => e = .returned (.bool true) ∧ Below w.heap.size w w' := by
  have t1 : ((xs.length : Int) != (xs.length : Int)) = false := bne_self_eq_false _
  go_enter Try.func12, Try.ntmps12
  go_wp2
  clear t1
  go_loopw [5] (fun s wr => ∃ k : Nat, k ≤ xs.length ∧ s = .int .i64 k ∧ Below w.heap.size w wr) (fun s _ => xs.length - (intOf s).toNat)
  case atStart => exact ⟨0, Nat.zero_le _, rfl, Below.refl _ _⟩
  case round =>
    obtain ⟨k, hk, rfl, hB⟩ := hrel
    by_cases hlt : k < xs.length
    · obtain ⟨ba, oa, s1, rfl, hba, c1⟩ := (hX.below hB).at hlt
      obtain ⟨bb, ob, s2, rfl, hbb, c2⟩ := (hY.below hB).at hlt
      have HS := Lib.hid (fun W => sameF_raw (xs.getD k 0) s1 s2 ▸ Same06_any (raw (xs.getD k 0) s1) (raw (xs.getD k 0) s2) W)
      clear hX hY
      generalize raw (xs.getD k 0) s1 = x at *
      generalize raw (xs.getD k 0) s2 = y at *
      have i1 : (0 : Int) ≤ (k : Int) := by omega
      have i2 : (k : Int) < (xs.length : Int) := by omega
      have hkl : k + 1 ≤ 262144 := by omega
      go_wp2
      refine wp_region_nqd 9  (by kernel_rfl) (by kernel_rfl) ?_
      intro Cw Rw hc hb' hb2 hd hRw
      simp only [List.take_succ_cons, List.take_zero]
      repeat (
        first
          | (refine nqW_skip rfl (fun K hK => ?_); go_frame; refine hK _ ?_; clear hK K)
          | ((first | (refine nqW_plain (fun K hK => ?_)) | (refine nqW_want rfl (fun K hK => ?_)) | (refine nqW_step (fun K hK => ?_); go_simp))
             first
               | (refine nq_move rfl ?_; go_simp; refine hK _ ?_; clear hK K)
               | (refine nq_assign rfl ?_; go_simp; refine hK _ ?_; clear hK K)
               | (refine nq_flt rfl rfl rfl rfl hd ?_; intro _; go_frame; refine hK _ ?_; clear hK K)
               | (refine nq_inC rfl ?_; intro w' hw'; go_simp; refine fd_both (V := (.bool true)) (by kernel_rfl) (fun w2 hw2 => ?_) ?_; (next => (go_at_call 22; exact (((HS.out w2).mono fun e w' (⟨h1, h2⟩ : e = Ending.returned (.bool true) ∧ w2 = w') => (⟨h1, h2 ▸ Below.refl _ _⟩ : e = Ending.returned (.bool true) ∧ Below w2.heap.size w2 w'))).mono (fun e w3 ⟨he, hb⟩ => ⟨he, hb2 _ _ hw2 hb⟩))); (try go_simp); refine hK _ ?_; clear hK K hw' w')
               | (refine nq_same ?_; intro w' hw'; go_simp; (try go_bits); refine hK _ ?_; clear hK K hw' w')
               | (refine nq_same ?_; intro w' hw'; go_simp; rw [if_pos (by omega)]; go_simp; (try go_bits); refine hK _ ?_; clear hK K hw' w')
               | (go_simp; refine hK _ ?_; clear hK K)))
      refine nqW_nil (hRw _ ?_)
      clear hc hb' hb2 hd hRw
      intro w' hw'
      simp only [List.drop]
      clear c1 c2 i1 i2
      go_wp2
      go_roundw
      case rel => exact ⟨k + 1, by omega, by go_num, below_step hB hB.size hw'⟩
      case measure => simp [intOf]; omega
    · obtain rfl : k = xs.length := by omega
      go_wp2
      go_ret
      exact ⟨rfl, hB⟩
set_option maxHeartbeats 2000000 in
theorem Same9F (w : World) (r c : Int) (a b : Option Addr) (xs : List Nat) (ca cb : Nat) (hX : Fls w a xs) (hY : Fls w b xs) (hlx : xs.length ≤ 262144) :
    Calls Try.prog 11 #[.agg #[.int .i64 r, .int .i64 c, .slice a xs.length ca], .agg #[.int .i64 r, .int .i64 c, .slice b xs.length cb]] w fun e w' => e = .returned (.bool true) ∧ Below w.heap.size w w' := by
  have hB0 : Below w.heap.size w ((w.alloc (.cells #[.int .i64 r, .int .i64 c, .slice a xs.length ca] 26)).alloc (.cells #[.int .i64 r, .int .i64 c, .slice b xs.length cb] 26)) := ((Below.refl _ _).alloc (Nat.le_refl _) _).alloc (by simp) _
  have HS := Lib.hid (SameAllF _ a b xs ca cb (hX.below hB0) (hY.below hB0) hlx)
  have HB := Lib.hid hB0
  have t1 : (r == r) = true := beq_self_eq_true _
  have t2 : (c == c) = true := beq_self_eq_true _
  clear hX hY hB0
  go_enter Try.func11, Try.ntmps11
  go_wp2_with fail
  refine HS.out.mono ?_
  rintro e w' ⟨rfl, hb⟩
  go_wp2
  go_ret
  exact ⟨rfl, below_step HB.out HB.out.size hb⟩
/-- A copy. -/
def CopyP (w : World) (r c : Int) (l : List Nat) (e : Ending) (w' : World) : Prop := ∃ a b cap, e = .returned (.agg #[.int .i64 r, .int .i64 c, .slice a l.length cap]) ∧ FS w' a b l ∧ w.heap.size ≤ b ∧ (l ≠ [] → b < w'.heap.size) ∧ l.length ≤ cap ∧ cap ≤ maxLen ∧ Below w.heap.size w w'
set_option maxHeartbeats 4000000 in
theorem Copy9 (w : World) (r c : Int) (a : Option Addr) (l : List Nat) (cap : Nat) (hZ : Fls w a l) (hl : l.length ≤ 262144) (hn : a = none → l = [] ∧ cap = 0) :
    Calls Try.prog 9 #[.agg #[.int .i64 r, .int .i64 c, .slice a l.length cap]] w (CopyP w r c l) := by
  obtain ⟨W0, hW0⟩ : ∃ W0, W0 = ((w.alloc (.cells #[.int .i64 r, .int .i64 c, .slice a l.length cap] 26)).alloc (.cells #[.int .i64 0, .int .i64 0, .slice none 0 0] 26)) := ⟨_, rfl⟩
  have hB0 : Below w.heap.size w W0 := hW0 ▸ ((Below.refl _ _).alloc (Nat.le_refl _) _).alloc (by simp) _
  have x1 : Box W0 w.heap.size [.int .i64 r, .int .i64 c, .slice a l.length cap] := hW0 ▸ (Box.newA w [_, _, _] _ rfl).alloc _
  have x2 : Box W0 (w.heap.size + 1) [.int .i64 0, .int .i64 0, .slice none 0 0] := hW0 ▸ Box.newA _ [_, _, _] _ (by simp)
  have HX := Lib.hid (show _ ∧ _ ∧ _ ∧ _ from ⟨hB0, x1, x2, hZ.below hB0⟩)
  clear hB0 x1 x2 hZ
  go_enter Try.func9, Try.ntmps9
  go_wp2_with fail
  rw [← hW0]
  clear hW0
  obtain ⟨hB0, x1, x2, hZ⟩ := HX.out
  have hdr : Below W0.heap.size W0 W0.drew := below_drewN 1 (Below.refl _ W0)
  have hx1 := x1.below hdr
  have hx2 := x2.below hdr
  have HZ := Lib.hid (hZ.below hdr)
  have hBd := below_step hB0 hB0.size hdr
  have hsz := hx2.lt
  refine wp_region_items 7 [(true, 0), (true, 1), (true, 2), (true, 3), (true, 4), (true, 5), (false, 6)] (fun W => ∀ i, W.cell? ⟨w.heap.size, i, none⟩ = ([.int .i64 r, .int .i64 c, .slice a l.length cap] : List Value)[i]?) (by kernel_rfl) (by kernel_rfl) hx1.cell ?_
  generalize W0.drew = W1 at *
  clear HX x1 x2 hZ hdr hB0
  iterate 6 (refine iW_take (v := ?_) rfl rfl ?_ ?_; rotate_left; (next => (intro w' hSw; (try dsimp only at hSw); go_simp; (try with_reducible rfl))); (simp only [Act.put, List.setIfInBounds_toArray, List.set_cons_zero, List.set_cons_succ]))
  refine iW_mid rfl rfl ?_
  refine wp_append_anyF (.const (.slice none 0 0)) (.tmp 8) rfl W1.heap.size (.slice none 0 0) [] rfl (OwnF.nil _ _) a l cap rfl HZ.out hn (by simpa using hl) (Nat.le_refl _) ?_
  rintro v W2 hO hb
  refine ⟨(hx1.below hb).cell, ?_⟩
  refine iW_nil ?_
  have hy2 := hx2.below hb
  have hBw := below_step hBd hBd.size hb
  obtain ⟨a1, b1, cap1, rfl, k1, k2, k3, hF, k4⟩ := hO.fs
  have HE := Lib.hid (show _ ∧ _ ∧ _ from ⟨hy2, hBw, hF⟩)
  have hs0 := hBd.size
  have hs2 := hb.size
  obtain ⟨q1, q2, q3⟩ := hy2.facts
  clear hy2 hBw hF hb hO HZ hx1 hx2 hBd
  go_simp
  go_wp2
  refine NoPanic.normal ?_
  go_wp2
  have hne : w.heap.size ≤ w.heap.size + 1 := Nat.le_succ _
  refine bodyPost_ret (results_one rfl (rv_cell (g := w.heap.size + 1) rfl (HE.out.1.put3 _ _ _) rfl Try.underlying26 (by kernel_rfl))) rfl ⟨a1, b1, cap1, rfl, FS.put3 HE.out.2.2 (by omega) _ _ _, by omega, fun h => by simp; exact k4 h, k1, k2, below_put3 HE.out.2.1 hne _ _ _⟩
set_option maxHeartbeats 4000000 in
theorem RMay9_any (w : World) (r c : Int) (a : Option Addr) (n ac : Nat) (hn : n ≤ maxLen) :
    Calls Try.prog 19 #[.agg #[.int .i64 r, .int .i64 c, .slice a n ac]] w fun e w' => e = .returned (.bool (mayB r c n)) ∧ Below w.heap.size w w' := by
  unfold maxLen at hn
  have hB0 : Below w.heap.size w (w.alloc (.cells #[.int .i64 r, .int .i64 c, .slice a n ac] 26)) := (Below.refl _ _).alloc (Nat.le_refl _) _
  unfold mayB
  cases hs : szB r c
  · unfold szB at hs
    cases d1 : decide (0 ≤ r)
    · go_enter Try.func19, Try.ntmps19
      go_wp2
      go_ret
      exact ⟨rfl, hB0⟩
    · cases d2 : decide (r ≤ 512)
      · go_enter Try.func19, Try.ntmps19
        go_wp2
        go_ret
        exact ⟨rfl, hB0⟩
      · cases d3 : decide (0 ≤ c)
        · go_enter Try.func19, Try.ntmps19
          go_wp2
          go_ret
          exact ⟨rfl, hB0⟩
        · cases d4 : decide (c ≤ 512)
          · go_enter Try.func19, Try.ntmps19
            go_wp2
            go_ret
            exact ⟨rfl, hB0⟩
          · rw [d1, d2, d3, d4] at hs
            cases hs
  · have hsz : ∃ p q : Nat, r = p ∧ c = q ∧ p ≤ 512 ∧ q ≤ 512 := by
      unfold szB at hs
      simp only [Bool.and_eq_true, decide_eq_true_eq] at hs
      exact ⟨r.toNat, c.toNat, by omega, by omega, by omega, by omega⟩
    obtain ⟨p, q, rfl, rfl, hp, hq⟩ := hsz
    have hpq : p * q ≤ 512 * 512 := Nat.mul_le_mul hp hq
    have e1 : (p : Int) * (q : Int) = ((p * q : Nat) : Int) := (Int.natCast_mul _ _).symm
    generalize p * q = z at *
    have e2 : ((n : Int) == (z : Int)) = decide ((n : Int) = (p : Int) * (q : Int)) := by rw [Bool.eq_iff_iff, e1]; simp
    have d1 : decide (0 ≤ (p : Int)) = true := decide_eq_true (by omega)
    have d2 : decide ((p : Int) ≤ 512) = true := decide_eq_true (by omega)
    have d3 : decide (0 ≤ (q : Int)) = true := decide_eq_true (by omega)
    have d4 : decide ((q : Int) ≤ 512) = true := decide_eq_true (by omega)
    clear hs
    have HE := Lib.hid e2
    clear e2
    go_enter Try.func19, Try.ntmps19
    go_wp2
    go_ret
    refine ⟨?_, hB0⟩
    rw [← HE.out]
    rfl
end Go.Proofs.Ytbmnlohaidbmdaa
