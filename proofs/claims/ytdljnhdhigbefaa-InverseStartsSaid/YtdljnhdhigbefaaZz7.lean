/- Layer 17: rotations as function values; two columns of a matrix that is written; is a size nothing? No condition but on lengths. -/
import Derived.Test.YtdljnhdhigbefaaZz3
import Derived.Test.YtdljnhdhigbefaaZz5
import Derived.Test.YtdljnhdhigbefaaZz6
import Derived.Test.YtdljnhdhigbefaaZz4
namespace Go.Proofs.Ytdljnhdhigbefaa
open Go Go.RowKit
set_option maxRecDepth 1000000

@[go_sem] theorem run_neg_f64 {P : Program} (x : Nat) (w : World) : (Op.unary .neg (.float .f64 x)).run P w = .ok (.float .f64 (Op.negFloat .f64 x)) w := rfl
theorem neg_raw (v s : Nat) (hv : v < 18446744073709551616) : ∃ t, Op.negFloat .f64 (raw v s) = raw (fneg v) t := by
  have hb := raw_lt hv s
  have hx : raw v s ^^^ 9223372036854775808 < 18446744073709551616 := by
    have h1 : raw v s < 2 ^ 64 := by rw [show (2 : Nat) ^ 64 = 18446744073709551616 from by decide]; exact hb
    have := Nat.xor_lt_two_pow h1 (show 9223372036854775808 < 2 ^ 64 by decide)
    rwa [show (2 : Nat) ^ 64 = 18446744073709551616 from by decide] at this
  obtain ⟨t, ht⟩ := raw_nm hx
  refine ⟨t, ?_⟩
  show raw v s ^^^ 9223372036854775808 = _
  rw [ht]
  congr 1
  unfold fneg
  cases h : isnan v
  · rw [raw_of_not h]
  · rw [nm_of_isnan (by rw [isnan_xor, isnan_raw, h]), nm_of_isnan (by rw [isnan_xor, h])]
theorem fneg_lt {v : Nat} (hv : v < 18446744073709551616) : fneg v < 18446744073709551616 := by
  unfold fneg
  refine nm_lt ?_
  have h1 : v < 2 ^ 64 := by rw [show (2 : Nat) ^ 64 = 18446744073709551616 from by decide]; exact hv
  have := Nat.xor_lt_two_pow h1 (show 9223372036854775808 < 2 ^ 64 by decide)
  rwa [show (2 : Nat) ^ 64 = 18446744073709551616 from by decide] at this
/-- A function value that tells two floats, in worlds that differ in one block. -/
def ToF (w : World) (zb : Nat) (v : Value) (A B : Nat → Nat → Nat) : Prop :=
  ∃ f first cap, v = .func (.func f) first cap ∧ Enters Try.prog f ∧ ∀ x sx y sy W, x < 18446744073709551616 → y < 18446744073709551616 → Bel w.heap.size zb w W → Calls Try.prog f (first ++ (#[.float .f64 (raw x sx), .float .f64 (raw y sy)] ++ cap)) W fun e w' => (∃ s t, e = .returned (.tuple #[.float .f64 (raw (A x y) s), .float .f64 (raw (B x y) t)])) ∧ Below W.heap.size W w'
theorem by1_any (w : World) (x sx y sy c sc s ss b1 b2 : Nat) (h1 : Box w b1 [.float .f64 (raw c sc)]) (h2 : Box w b2 [.float .f64 (raw s ss)]) :
    Calls Try.prog 116 #[.float .f64 (raw x sx), .float .f64 (raw y sy), .pointer (some ⟨b1, 0, none⟩), .pointer (some ⟨b2, 0, none⟩)] w fun e w' => (∃ u t, e = .returned (.tuple #[.float .f64 (raw (rotA c s x y) u), .float .f64 (raw (rotB c s x y) t)])) ∧ Below w.heap.size w w' := by
  obtain ⟨p1, p2, p3⟩ := h1.facts
  obtain ⟨q1, q2, q3⟩ := h2.facts
  go_enter Try.func116, Try.ntmps116
  go_wp2_with fail
  refine wp_region_nqb 16 (fun _ _ _ => False) (by kernel_rfl) (by kernel_rfl) ?_
  intro C R hc hb' hb2 hd hR
  simp only [List.take_succ_cons, List.take_zero]
  repeat (
    first
      | (refine nqW_plain (fun K hK => ?_))
      | (refine nqW_step (fun K hK => ?_); go_simp)
    first
      | (refine nq_move rfl ?_; go_simp; refine hK _ ?_; clear hK K)
      | (refine nq_assign rfl ?_; go_simp; refine hK _ ?_; clear hK K)
      | (refine nq_flt rfl rfl rfl rfl hd ?_; intro _; go_frame; refine hK _ ?_; clear hK K)
      | (refine nq_same ?_; intro w' hw'; go_simp; (try go_bits); refine hK _ ?_; clear hK K hw' w')
      | (refine nq_same ?_; intro w' hw'; go_simp; rw [if_pos (by omega)]; go_simp; (try go_bits); refine hK _ ?_; clear hK K hw' w')
      | (go_simp; refine hK _ ?_; clear hK K))
  refine nqW_nil (hR _ ?_)
  clear hc hb' hb2 hd hR
  intro w' hw'
  simp only [List.drop]
  go_wp2_with fail
  go_ret2
  refine ⟨⟨_, _, by unfold rotA rotB; simp only [fadd_rawl, fadd_rawr, fmul_rawl, fmul_rawr, fsub_rawl, fsub_rawr]; rfl⟩, hw'⟩
theorem by_any (w : World) (c sc s ss : Nat) :
    Calls Try.prog 91 #[.float .f64 (raw c sc), .float .f64 (raw s ss)] w fun e w' => (∃ v, e = .returned v ∧ ∀ zb, zb < w.heap.size → ToF w' zb v (rotA c s) (rotB c s)) ∧ Below w.heap.size w w' := by
  obtain ⟨W2, hW2⟩ : ∃ W2, W2 = (w.alloc (.cells #[.float .f64 (raw c sc)] 40)).alloc (.cells #[.float .f64 (raw s ss)] 40) := ⟨_, rfl⟩
  have hb : Below w.heap.size w W2 := hW2 ▸ ((Below.refl _ _).alloc (Nat.le_refl _) _).alloc (by simp) _
  have h1 : Box W2 w.heap.size [.float .f64 (raw c sc)] := hW2 ▸ (Box.newA w [.float .f64 (raw c sc)] _ rfl).alloc _
  have h2 : Box W2 (w.heap.size + 1) [.float .f64 (raw s ss)] := hW2 ▸ Box.newA _ [.float .f64 (raw s ss)] _ (by simp)
  have HX := Lib.hid (show _ ∧ _ ∧ _ from ⟨h1, h2, hb⟩)
  clear h1 h2 hb
  go_enter Try.func91, Try.ntmps91
  go_wp2_with fail
  rw [← hW2]
  clear hW2
  go_ret
  obtain ⟨h1, h2, hb⟩ := HX.out
  refine ⟨⟨_, rfl, fun zb hz => ⟨_, _, _, rfl, enters_of Try.func116 (by kernel_rfl) rfl, fun x sx y sy W hx hy hB => ?_⟩⟩, hb⟩
  exact by1_any W x sx y sy c sc s ss w.heap.size (w.heap.size + 1) (h1.belB h1.lt (by omega) hB) (h2.belB h2.lt (by omega) hB)
end Go.Proofs.Ytdljnhdhigbefaa

/- Layer 17: two columns of a matrix that is written (printed by gen_ub.py). No condition but on lengths. -/
namespace Go.Proofs.Ytdljnhdhigbefaa
open Go Go.RowKit
set_option maxRecDepth 1000000

theorem words_setG {ws : List Nat} (h : Words ws) {k x : Nat} (hx : x < 18446744073709551616) : Words (ws.set k x) := fun v hv => by
  rcases List.mem_or_eq_of_mem_set hv with h1 | rfl
  · exact h v h1
  · exact hx
theorem colsL_words {z : List Nat} {n i k : Nat} {A B : Nat → Nat → Nat} (hz : Words z) (hAB : ∀ x y, x < 18446744073709551616 → y < 18446744073709551616 → A x y < 18446744073709551616 ∧ B x y < 18446744073709551616) : ∀ r, Words (colsL z n i k A B r)
  | 0 => hz
  | r + 1 => by
    have h := colsL_words hz hAB (n := n) (i := i) (k := k) r
    rw [colsL, colsR]
    have hw := hAB _ _ (h.at (r * n + i)) (h.at (r * n + k))
    exact words_setG (words_setG h hw.1) hw.2
theorem idxU {r n i N : Nat} (h : r * n + i < N) (hN : N ≤ 262144) : wrap64 ((r : Int) * (n : Int)) = ((r * n : Nat) : Int) ∧ IntKind.i64.wrap ((r : Int) * (n : Int)) = ((r * n : Nat) : Int) := by
  have h1 : (r : Int) * (n : Int) = ((r * n : Nat) : Int) := (Int.natCast_mul _ _).symm
  rw [h1]
  clear h1
  generalize r * n = P at *
  exact ⟨by unfold wrap64; omega, by rw [IntKind.wrap_i64]; omega⟩
set_option maxHeartbeats 8000000 in
theorem columns_any (w : World) (rows cols i k zb zc : Nat) (z : List Nat) (tv : Value) (A B : Nat → Nat → Nat) (hF : Flb w zb z) (hw : Words z) (hl : z.length = rows * cols) (hlc : z.length ≤ zc) (hcap : zc ≤ maxLen) (hi : i < cols) (hk : k < cols) (hr : rows ≤ 512) (hc : cols ≤ 512) (hT : ToF w zb tv A B) (hAB : ∀ x y, x < 18446744073709551616 → y < 18446744073709551616 → A x y < 18446744073709551616 ∧ B x y < 18446744073709551616) :
    Calls Try.prog 57 #[.agg #[.int .i64 rows, .int .i64 cols, .slice (some ⟨zb, 0, none⟩) z.length zc], .int .i64 i, .int .i64 k, tv] w fun e w' => e = .returned (.tuple #[]) ∧ Flb w' zb (colsL z cols i k A B rows) ∧ Bel w.heap.size zb w w' := by
  unfold maxLen at hcap
  obtain ⟨f, first, cap, rfl, hE, hC⟩ := hT
  have HE := Lib.hid hE
  have HC := Lib.hid hC
  have HW := Lib.hid (fun r => colsL_words (n := cols) (i := i) (k := k) hw hAB r)
  have HZ := Lib.hid (show _ ∧ _ ∧ _ ∧ _ ∧ _ from ⟨hl, hi, hk, hr, hc⟩)
  have HLC := Lib.hid (And.intro hlc hcap)
  have hszb : z.length ≤ 262144 := by rw [hl]; exact Nat.le_trans (Nat.mul_le_mul hr hc) (by decide)
  have HSZ := Lib.hid hszb
  clear hE hC hw hAB hl hi hk hr hc hlc hszb
  obtain ⟨W0, hW0⟩ : ∃ W0, W0 = (w.alloc (.cells #[.int .i64 rows, .int .i64 cols, .slice (some ⟨zb, 0, none⟩) z.length zc] 26)) := ⟨_, rfl⟩
  have hB0 : Below w.heap.size w W0 := hW0 ▸ (Below.refl _ _).alloc (Nat.le_refl _) _
  have x0 : Box W0 w.heap.size [.int .i64 rows, .int .i64 cols, .slice (some ⟨zb, 0, none⟩) z.length zc] := hW0 ▸ (Box.newA w [.int .i64 rows, .int .i64 cols, .slice (some ⟨zb, 0, none⟩) z.length zc] _ rfl)
  have hne : w.heap.size ≠ zb := by have := hF.lt; omega
  have X0 := Lib.hid (show _ ∧ _ ∧ _ ∧ _ from ⟨x0, hF.below hB0, (Bel.of hB0 : Bel w.heap.size zb w W0), hne⟩)
  clear hB0 x0 hF hcap hne
  go_enter Try.func57, Try.ntmps57
  go_upto_region 1 with (fail)
  rw [← hW0]
  clear hW0
  obtain ⟨f01, f02, f03⟩ := X0.out.1.facts
  go_wp2_with fail
  clear f01 f02 f03
  go_loopw [12] (fun si wr => ∃ r : Nat, r ≤ rows ∧ si = .int .i64 r ∧ Box wr w.heap.size [.int .i64 rows, .int .i64 cols, .slice (some ⟨zb, 0, none⟩) z.length zc] ∧ Flb wr zb (colsL z cols i k A B r) ∧ Bel w.heap.size zb w wr) (fun si _ => rows - (intOf si).toNat)
  case atStart => exact ⟨0, Nat.zero_le _, rfl, X0.out.1, X0.out.2.1, X0.out.2.2.1⟩
  case round =>
    obtain ⟨r, hrr, rfl, hX, hF, hB⟩ := hrel
    have R1 := Lib.hid (show _ ∧ _ ∧ _ from ⟨hX, hF, hB⟩)
    clear hX hF hB
    by_cases hlt : r < rows
    case pos =>
      have HLT := Lib.hid hlt
      have hr9 : r < 1000 := by have := HZ.out.2.2.2.1; omega
      obtain ⟨L, hL⟩ : ∃ L, L = colsL z cols i k A B r := ⟨_, rfl⟩
      have hlen : L.length = z.length := by rw [hL, colsL_len]
      have hwL : Words L := hL ▸ HW.out r
      rw [← hL] at R1
      have HL := Lib.hid hL
      clear hL
      have hp1 := place_ltq hlt HZ.out.2.1
      have hp2 := place_ltq hlt HZ.out.2.2.1
      rw [← HZ.out.1] at hp1 hp2
      obtain ⟨w1, w2⟩ := idxU hp1 HSZ.out
      obtain ⟨P, hP⟩ : ∃ P, P = r * cols := ⟨_, rfl⟩
      rw [← hP] at hp1 hp2 w1 w2
      have HP := Lib.hid hP
      clear hP
      obtain ⟨sx, cx⟩ := R1.out.2.1.at (i := P + i) (by rw [hlen]; exact hp1)
      obtain ⟨sy, cy⟩ := R1.out.2.1.at (i := P + k) (by rw [hlen]; exact hp2)
      obtain ⟨x, hx⟩ : ∃ x, x = L.getD (P + i) 0 := ⟨_, rfl⟩
      obtain ⟨y, hy⟩ : ∃ y, y = L.getD (P + k) 0 := ⟨_, rfl⟩
      rw [← hx] at cx
      rw [← hy] at cy
      have HXY := Lib.hid (show x = L.getD (P + i) 0 ∧ y = L.getD (P + k) 0 ∧ x < 18446744073709551616 ∧ y < 18446744073709551616 from ⟨hx, hy, hx ▸ hwL.at _, hy ▸ hwL.at _⟩)
      have HLen := Lib.hid hlen
      clear hx hy hwL hlen
      have hlc := HLC.out.1
      have hcm := HLC.out.2
      have hz2 := HSZ.out
      have b1 : i < z.length - P := by omega
      have b2 : k < z.length - P := by omega
      have b3 : P ≤ z.length := by omega
      have b4 : P ≤ zc := by omega
      have b5 : ¬ zc = P := by omega
      have b6 : 0 ≤ (P : Int) := by omega
      have b7 : (P : Int) ≤ (z.length : Int) := by omega
      have b8 : (P : Int) ≤ (zc : Int) := by omega
      have HPB := Lib.hid (And.intro hp1 hp2)
      clear hlc hcm hp1 hp2 hz2
      obtain ⟨f01, f02, f03⟩ := R1.out.1.facts
      go_upto_region 5 with (fail)
      clear f01 f02 f03 w1 w2
      have hdr : Below wr.heap.size wr wr.drew := below_drewN 1 (Below.refl _ wr)
      have R2 := Lib.hid (show _ ∧ _ ∧ _ from ⟨R1.out.1.below hdr, R1.out.2.1.below hdr, bel_step R1.out.2.2 R1.out.2.2.size (Bel.of hdr)⟩)
      rw [← (below_cells hdr).1 _ _ R1.out.2.1.lt] at cx cy
      clear R1 hdr
      refine wp_region_many 19 60 [(0, 0), (0, 1), (0, 2), (0, 3), (0, 4), (0, 5), (0, 6), (0, 7), (0, 9), (0, 10), (0, 11), (3, 12), (1, 8), (2, 12), (1, 13), (0, 14), (0, 15), (0, 16), (0, 17), (1, 18)] (fun _ => Hid True) (by kernel_rfl) (by kernel_rfl) (Lib.hid trivial) ?_
      generalize wr.drew = y0 at *
      iterate 11 (refine fm_take (v := ?_) rfl rfl ?_ ?_; rotate_left; (next => (intro w' hSw; (try dsimp only at hSw); go_simp; (try (rw [if_pos (by omega)]; go_simp)); (try with_reducible rfl))); (simp only [Act.put, List.setIfInBounds_toArray, List.set_cons_zero, List.set_cons_succ]))
      refine fm_from ?_
      refine fm_one1 ?_ ?_
      · skip
        refine opW_take rfl rfl ?_
        go_simp
        refine ⟨Lib.hid trivial, ?_⟩
        try (simp only [Act.put, List.setIfInBounds_toArray, List.set_cons_zero, List.set_cons_succ])
        refine fm_now ?_
        refine opW_take rfl rfl ?_
        go_simp
        refine ⟨Lib.hid trivial, ?_⟩
        try (simp only [Act.put, List.setIfInBounds_toArray, List.set_cons_zero, List.set_cons_succ])
        refine fm_one ?_
        refine opW_take rfl rfl ?_
        go_simp
        rw [HE.out _ _]
        go_simp
        refine (HC.out x sx y sy _ HXY.out.2.2.1 HXY.out.2.2.2 R2.out.2.2).mono ?_
        rintro e y1 ⟨⟨s, t, rfl⟩, hb⟩
        have R3 := Lib.hid (show _ ∧ _ ∧ _ from ⟨R2.out.1.below hb, R2.out.2.1.below hb, bel_step R2.out.2.2 R2.out.2.2.size (Bel.of hb)⟩)
        clear R2 hb cx cy
        refine ⟨Lib.hid trivial, ?_⟩
        try (simp only [Act.put, List.setIfInBounds_toArray, List.set_cons_zero, List.set_cons_succ])
        iterate 4 (refine fm_take (v := ?_) rfl rfl ?_ ?_; rotate_left; (next => (intro w' hSw; (try dsimp only at hSw); go_simp; (try (rw [if_pos (by omega)]; go_simp)); (try with_reducible rfl))); (simp only [Act.put, List.setIfInBounds_toArray, List.set_cons_zero, List.set_cons_succ]))
        have g1 := R3.out.2.1.lt
        have g2 := R3.out.2.1.frozen
        obtain ⟨sp, g3⟩ := R3.out.2.1.at (i := P + i) (by rw [HLen.out]; exact HPB.out.1)
        refine fm_one ?_
        refine opW_take rfl rfl ?_
        go_simp
        refine ⟨Lib.hid trivial, ?_⟩
        obtain ⟨y2, hy2⟩ : ∃ y2, y2 = y1.setCell ⟨zb, P + i, none⟩ (.float .f64 (raw (A x y) s)) := ⟨_, rfl⟩
        rw [← hy2]
        have R4 := Lib.hid (show Box y2 w.heap.size [.int .i64 rows, .int .i64 cols, .slice (some ⟨zb, 0, none⟩) z.length zc] ∧ Flb y2 zb (L.set (P + i) (A x y)) ∧ Bel w.heap.size zb w y2 from hy2 ▸ ⟨R3.out.1.set_other X0.out.2.2.2 _ _, R3.out.2.1.set _ _ _, R3.out.2.2.set _ _⟩)
        clear R3 hy2 g1 g2 g3
        have g1 := R4.out.2.1.lt
        have g2 := R4.out.2.1.frozen
        obtain ⟨sq, g3⟩ := R4.out.2.1.at (i := P + k) (by rw [List.length_set, HLen.out]; exact HPB.out.2)
        refine fm_nil ?_
        go_simp
        go_wp2_with fail
        refine NoPanic.normal ?_
        go_wp2_with fail
        go_roundw
        case rel => exact ⟨r + 1, HLT.out, by go_num, R4.out.1.set_other X0.out.2.2.2 _ _, by rw [colsL, colsR, ← HL.out, ← HP.out, ← HXY.out.1, ← HXY.out.2.1]; exact R4.out.2.1.set _ _ _, R4.out.2.2.set _ _⟩
        case measure => simp [intOf]; omega
      · skip
        refine opW_take rfl rfl ?_
        go_simp
        refine ⟨Lib.hid trivial, ?_⟩
        try (simp only [Act.put, List.setIfInBounds_toArray, List.set_cons_zero, List.set_cons_succ])
        refine fm_one ?_
        refine opW_take rfl rfl ?_
        go_simp
        refine ⟨Lib.hid trivial, ?_⟩
        try (simp only [Act.put, List.setIfInBounds_toArray, List.set_cons_zero, List.set_cons_succ])
        refine fm_skip rfl ?_
        refine fm_one ?_
        refine opW_take rfl rfl ?_
        go_simp
        rw [HE.out _ _]
        go_simp
        refine (HC.out x sx y sy _ HXY.out.2.2.1 HXY.out.2.2.2 R2.out.2.2).mono ?_
        rintro e y1 ⟨⟨s, t, rfl⟩, hb⟩
        have R3 := Lib.hid (show _ ∧ _ ∧ _ from ⟨R2.out.1.below hb, R2.out.2.1.below hb, bel_step R2.out.2.2 R2.out.2.2.size (Bel.of hb)⟩)
        clear R2 hb cx cy
        refine ⟨Lib.hid trivial, ?_⟩
        try (simp only [Act.put, List.setIfInBounds_toArray, List.set_cons_zero, List.set_cons_succ])
        iterate 4 (refine fm_take (v := ?_) rfl rfl ?_ ?_; rotate_left; (next => (intro w' hSw; (try dsimp only at hSw); go_simp; (try (rw [if_pos (by omega)]; go_simp)); (try with_reducible rfl))); (simp only [Act.put, List.setIfInBounds_toArray, List.set_cons_zero, List.set_cons_succ]))
        have g1 := R3.out.2.1.lt
        have g2 := R3.out.2.1.frozen
        obtain ⟨sp, g3⟩ := R3.out.2.1.at (i := P + i) (by rw [HLen.out]; exact HPB.out.1)
        refine fm_one ?_
        refine opW_take rfl rfl ?_
        go_simp
        refine ⟨Lib.hid trivial, ?_⟩
        obtain ⟨y2, hy2⟩ : ∃ y2, y2 = y1.setCell ⟨zb, P + i, none⟩ (.float .f64 (raw (A x y) s)) := ⟨_, rfl⟩
        rw [← hy2]
        have R4 := Lib.hid (show Box y2 w.heap.size [.int .i64 rows, .int .i64 cols, .slice (some ⟨zb, 0, none⟩) z.length zc] ∧ Flb y2 zb (L.set (P + i) (A x y)) ∧ Bel w.heap.size zb w y2 from hy2 ▸ ⟨R3.out.1.set_other X0.out.2.2.2 _ _, R3.out.2.1.set _ _ _, R3.out.2.2.set _ _⟩)
        clear R3 hy2 g1 g2 g3
        have g1 := R4.out.2.1.lt
        have g2 := R4.out.2.1.frozen
        obtain ⟨sq, g3⟩ := R4.out.2.1.at (i := P + k) (by rw [List.length_set, HLen.out]; exact HPB.out.2)
        refine fm_nil ?_
        go_simp
        go_wp2_with fail
        refine NoPanic.normal ?_
        go_wp2_with fail
        go_roundw
        case rel => exact ⟨r + 1, HLT.out, by go_num, R4.out.1.set_other X0.out.2.2.2 _ _, by rw [colsL, colsR, ← HL.out, ← HP.out, ← HXY.out.1, ← HXY.out.2.1]; exact R4.out.2.1.set _ _ _, R4.out.2.2.set _ _⟩
        case measure => simp [intOf]; omega
    case neg =>
      obtain rfl : rows = r := by omega
      go_wp2_with fail
      exact bodyPost_end (results_none rfl _ _ _) rfl ⟨rfl, R1.out.2.1, R1.out.2.2⟩
end Go.Proofs.Ytdljnhdhigbefaa

/- Layer 17: two columns of a matrix, or none; is a size nothing; the state. No condition but on lengths. -/
namespace Go.Proofs.Ytdljnhdhigbefaa
open Go Go.RowKit
set_option maxRecDepth 1000000

set_option maxHeartbeats 4000000 in
theorem columns_none (w : World) (cols i k : Nat) (sv tv : Value) :
    Calls Try.prog 57 #[.agg #[.int .i64 (0 : Nat), .int .i64 cols, sv], .int .i64 i, .int .i64 k, tv] w fun e w' => e = .returned (.tuple #[]) ∧ Below w.heap.size w w' := by
  have hb : Below w.heap.size w (w.alloc (.cells #[.int .i64 (0 : Nat), .int .i64 cols, sv] 26)) := (Below.refl _ _).alloc (Nat.le_refl _) _
  go_enter Try.func57, Try.ntmps57
  go_wp2_with fail
  go_loopw [12] (fun si wr => si = .int .i64 0 ∧ Below w.heap.size w wr) (fun si _ => 0)
  case atStart => exact ⟨rfl, hb⟩
  case round =>
    obtain ⟨rfl, hB⟩ := hrel
    go_wp2_with fail
    exact bodyPost_end (results_none rfl _ _ _) rfl ⟨rfl, hB⟩
/-- A matrix's floats, in block zb; or it has none. -/
structure MxF (W : World) (rows cols : Nat) (za : Option Addr) (zc zb : Nat) (z : List Nat) : Prop where
  fs : FS W za zb z
  len : z.length = rows * cols
  cap : z.length ≤ zc ∧ zc ≤ maxLen
  words : Words z
section
variable {W W' : World} {rows cols zc zb : Nat} {za : Option Addr} {z : List Nat}
theorem MxF.below (h : MxF W rows cols za zc zb z) (hb : Below W.heap.size W W') : MxF W' rows cols za zc zb z := ⟨h.fs.below hb, h.len, h.cap, h.words⟩
theorem MxF.bel {s : Nat} (h : MxF W rows cols za zc zb z) (hs : z ≠ [] → zb ≠ s) (hb : Bel W.heap.size s W W') : MxF W' rows cols za zc zb z := ⟨by
  by_cases h0 : z = []
  · exact .inl h0
  · rcases h.fs with h1 | ⟨h1, h2⟩
    · exact absurd h1 h0
    · exact .inr ⟨h1, h2.bel (hs h0) hb⟩, h.len, h.cap, h.words⟩
theorem cols_any (w : World) (i k : Nat) (tv : Value) (A B : Nat → Nat → Nat) (h : MxF w rows cols za zc zb z) (hi : i < cols) (hk : k < cols) (hr : rows ≤ 512) (hc : cols ≤ 512) (hT : z ≠ [] → ToF w zb tv A B) (hAB : ∀ x y, x < 18446744073709551616 → y < 18446744073709551616 → A x y < 18446744073709551616 ∧ B x y < 18446744073709551616) :
    Calls Try.prog 57 #[.agg #[.int .i64 rows, .int .i64 cols, .slice za z.length zc], .int .i64 i, .int .i64 k, tv] w fun e w' => e = .returned (.tuple #[]) ∧ MxF w' rows cols za zc zb (colsL z cols i k A B rows) ∧ Bel w.heap.size zb w w' := by
  have hlen := colsL_len z cols i k A B rows
  have hww := colsL_words (n := cols) (i := i) (k := k) h.words hAB rows
  by_cases h0 : z = []
  · have hr0 : rows = 0 := by
      have := h.len
      rw [h0] at this
      rcases Nat.mul_eq_zero.1 this.symm with h1 | h1
      · exact h1
      · omega
    subst hr0
    refine (columns_none w cols i k (.slice za z.length zc) tv).mono ?_
    rintro e w' ⟨rfl, hb⟩
    exact ⟨rfl, ⟨.inl h0, h.len, h.cap, h.words⟩, Bel.of hb⟩
  · rcases h.fs with h1 | ⟨rfl, h2⟩
    · exact absurd h1 h0
    · refine (columns_any w rows cols i k zb zc z tv A B h2 h.words h.len h.cap.1 h.cap.2 hi hk hr hc (hT h0) hAB).mono ?_
      rintro e w' ⟨rfl, hF, hb⟩
      exact ⟨rfl, ⟨.inr ⟨rfl, hF⟩, by rw [hlen]; exact h.len, by rw [hlen]; exact h.cap, hww⟩, hb⟩
end
theorem rotAB (c s : Nat) : ∀ x y, x < 18446744073709551616 → y < 18446744073709551616 → rotA c s x y < 18446744073709551616 ∧ rotB c s x y < 18446744073709551616 := fun _ _ _ _ => ⟨fadd_lt _ _, fsub_lt _ _⟩
/-- The state's cells. -/
def stC (n ne ru rv bd be : Nat) (dc ec : Nat) (ua va : Option Addr) (lu uc lv vc : Nat) (big sb : Nat) : List Value :=
  [.slice (some ⟨bd, 0, none⟩) n dc, .slice (some ⟨be, 0, none⟩) ne ec, .int .i64 ru, .int .i64 n, .slice ua lu uc, .int .i64 rv, .int .i64 n, .slice va lv vc, .float .f64 (raw big sb)]
set_option maxHeartbeats 2000000 in
theorem nothing_any (w : World) (X f sf big sb : Nat) (hX : w.cell? ⟨X, 8, none⟩ = some (.float .f64 (raw big sb))) (hf : f < 18446744073709551616) :
    Calls Try.prog 89 #[.pointer (some ⟨X, 0, none⟩), .float .f64 (raw f sf)] w fun e w' => e = .returned (.bool (nthG f big)) ∧ Below w.heap.size w w' := by
  have HA := Lib.hid (fun w => AbsF f sf hf w)
  go_enter Try.func89, Try.ntmps89
  go_upto_region 1 with (fail)
  have hlt := (show X < w.heap.size from by unfold World.cell? at hX; cases hh : w.heap[X]? with | none => rw [hh] at hX; cases hX | some x => exact (Array.getElem?_eq_some_iff.1 hh).1)
  have hdr : Below w.heap.size w w.drew := below_drewN 1 (Below.refl _ w)
  have HX := Lib.hid (show w.drew.cell? ⟨X, 8, none⟩ = some (.float .f64 (raw big sb)) by rw [(below_cells hdr).1 _ _ hlt]; exact hX)
  have HB := Lib.hid hdr
  refine wp_region_items 12 [(true, 0), (true, 2), (true, 3), (true, 4), (true, 5), (true, 7), (true, 8), (true, 9), (true, 10), (false, 1), (false, 6), (true, 11)] (fun W => W.cell? ⟨X, 8, none⟩ = some (.float .f64 (raw big sb))) (by kernel_rfl) (by kernel_rfl) HX.out ?_
  clear hX hdr
  generalize w.drew = w1 at *
  iterate 9 (refine iW_take (v := ?_) rfl rfl ?_ ?_; rotate_left; (next => (intro w' hSw; (try dsimp only at hSw); go_simp; (try (rw [if_pos (by omega)]; go_simp)); (try with_reducible rfl))); (simp only [Act.put, List.setIfInBounds_toArray, List.set_cons_zero, List.set_cons_succ]))
  refine iW_mid rfl rfl ?_
  go_simp
  refine (HA.out w1).mono ?_
  rintro e w' ⟨⟨s1, rfl⟩, rfl⟩
  refine ⟨HX.out, ?_⟩
  refine iW_mid rfl rfl ?_
  refine wp_flt rfl rfl rfl rfl ?_
  intro s2 n2
  have hb : Below w1.heap.size w1 (w1.drewN n2) := below_drewN n2 (Below.refl _ _)
  refine ⟨(below_cells hb).1 _ _ (by have h := HX.out; unfold World.cell? at h; cases hh : w1.heap[X]? with | none => rw [hh] at h; cases h | some x => exact (Array.getElem?_eq_some_iff.1 hh).1) ▸ HX.out, ?_⟩
  have HB2 := Lib.hid (below_step HB.out HB.out.size hb)
  generalize w1.drewN n2 = w2 at *
  clear hb
  iterate 1 (refine iW_take (v := ?_) rfl rfl ?_ ?_; rotate_left; (next => (intro w' hSw; (try dsimp only at hSw); go_simp; (try (rw [if_pos (by omega)]; go_simp)); (try with_reducible rfl))); (simp only [Act.put, List.setIfInBounds_toArray, List.set_cons_zero, List.set_cons_succ]))
  refine iW_nil ?_
  go_simp
  go_wp2_with fail
  refine NoPanic.normal ?_
  go_wp2_with fail
  go_ret
  exact ⟨rfl, HB2.out⟩
end Go.Proofs.Ytdljnhdhigbefaa

/- Layer 17: the state in memory. No condition but on lengths. -/
namespace Go.Proofs.Ytdljnhdhigbefaa
open Go Go.RowKit
set_option maxRecDepth 1000000

/-- Where the state's parts lie. -/
structure GkP where
  n : Nat
  ne : Nat
  ru : Nat
  rv : Nat
  bd : Nat
  be : Nat
  bu : Nat
  bv : Nat
  dc : Nat
  ec : Nat
  uc : Nat
  vc : Nat
  ua : Option Addr
  va : Option Addr
  big : Nat
  sb : Nat
def GkP.cs (q : GkP) : List Value :=
  [.slice (some ⟨q.bd, 0, none⟩) q.n q.dc, .slice (some ⟨q.be, 0, none⟩) q.ne q.ec, .int .i64 q.ru, .int .i64 q.n, .slice q.ua (q.ru * q.n) q.uc, .int .i64 q.rv, .int .i64 q.n, .slice q.va (q.rv * q.n) q.vc, .float .f64 (raw q.big q.sb)]
structure StW (W : World) (X : Nat) (q : GkP) (g : GkS) : Prop where
  box : Box W X q.cs
  d : Flb W q.bd g.d
  e : Flb W q.be g.e
  u : MxF W q.ru q.n q.ua q.uc q.bu g.u
  v : MxF W q.rv q.n q.va q.vc q.bv g.v
  ld : g.d.length = q.n
  le : g.e.length = q.ne
  hn : q.n ≤ q.ne ∧ q.ne ≤ 600 ∧ q.n ≤ 512 ∧ q.ru ≤ 512 ∧ q.rv ≤ 512
  wd : Words g.d
  we : Words g.e
  wb : q.big < 18446744073709551616
  nd : [X, q.bd, q.be, q.bu, q.bv].Nodup
section
variable {W W' : World} {X : Nat} {q : GkP} {g : GkS}
theorem StW.ne (h : StW W X q g) : (X ≠ q.bd ∧ X ≠ q.be ∧ X ≠ q.bu ∧ X ≠ q.bv) ∧ (q.bd ≠ q.be ∧ q.bd ≠ q.bu ∧ q.bd ≠ q.bv) ∧ (q.be ≠ q.bu ∧ q.be ≠ q.bv) ∧ q.bu ≠ q.bv := by
  have h := h.nd
  simp only [List.nodup_cons, List.mem_cons, List.not_mem_nil, or_false, not_or, not_false_eq_true, List.nodup_nil, and_true] at h
  exact ⟨h.1, h.2.1, h.2.2.1, h.2.2.2⟩
theorem StW.below (h : StW W X q g) (hb : Below W.heap.size W W') : StW W' X q g := ⟨h.box.below hb, h.d.below hb, h.e.below hb, h.u.below hb, h.v.below hb, h.ld, h.le, h.hn, h.wd, h.we, h.wb, h.nd⟩
theorem StW.bigc (h : StW W X q g) : W.cell? ⟨X, 8, none⟩ = some (.float .f64 (raw q.big q.sb)) := (h.box.cell 8).trans rfl
theorem StW.setD (h : StW W X q g) (i x s : Nat) (hx : x < 18446744073709551616) : StW (W.setCell ⟨q.bd, i, none⟩ (.float .f64 (raw x s))) X q { g with d := g.d.set i x } := by
  obtain ⟨⟨n1, n2, n3, n4⟩, ⟨n5, n6, n7⟩, _, _⟩ := h.ne
  have hb : Bel W.heap.size q.bd W (W.setCell ⟨q.bd, i, none⟩ (.float .f64 (raw x s))) := (Bel.refl _ _ _).set _ _
  exact ⟨h.box.set_other n1 _ _, h.d.set i x s, h.e.other (fun e => n5 e.symm) _ _, h.u.bel (fun _ e => n6 e.symm) hb, h.v.bel (fun _ e => n7 e.symm) hb, by rw [List.length_set]; exact h.ld, h.le, h.hn, words_setG h.wd hx, h.we, h.wb, h.nd⟩
theorem StW.setE (h : StW W X q g) (i x s : Nat) (hx : x < 18446744073709551616) : StW (W.setCell ⟨q.be, i, none⟩ (.float .f64 (raw x s))) X q { g with e := g.e.set i x } := by
  obtain ⟨⟨n1, n2, n3, n4⟩, ⟨n5, n6, n7⟩, ⟨n8, n9⟩, _⟩ := h.ne
  have hb : Bel W.heap.size q.be W (W.setCell ⟨q.be, i, none⟩ (.float .f64 (raw x s))) := (Bel.refl _ _ _).set _ _
  exact ⟨h.box.set_other n2 _ _, h.d.other n5 _ _, h.e.set i x s, h.u.bel (fun _ e => n8 e.symm) hb, h.v.bel (fun _ e => n9 e.symm) hb, h.ld, by rw [List.length_set]; exact h.le, h.hn, h.wd, words_setG h.we hx, h.wb, h.nd⟩
theorem StW.putU (h : StW W X q g) {u' : List Nat} (hu : MxF W' q.ru q.n q.ua q.uc q.bu u') (hb : Bel W.heap.size q.bu W W') : StW W' X q { g with u := u' } := by
  obtain ⟨⟨n1, n2, n3, n4⟩, ⟨n5, n6, n7⟩, ⟨n8, n9⟩, n10⟩ := h.ne
  exact ⟨h.box.bel n3 hb, h.d.bel n6 hb, h.e.bel n8 hb, hu, h.v.bel (fun _ e => n10 e.symm) hb, h.ld, h.le, h.hn, h.wd, h.we, h.wb, h.nd⟩
theorem StW.putV (h : StW W X q g) {v' : List Nat} (hv : MxF W' q.rv q.n q.va q.vc q.bv v') (hb : Bel W.heap.size q.bv W W') : StW W' X q { g with v := v' } := by
  obtain ⟨⟨n1, n2, n3, n4⟩, ⟨n5, n6, n7⟩, ⟨n8, n9⟩, n10⟩ := h.ne
  exact ⟨h.box.bel n4 hb, h.d.bel n7 hb, h.e.bel n9 hb, h.u.bel (fun _ e => n10 e) hb, hv, h.ld, h.le, h.hn, h.wd, h.we, h.wb, h.nd⟩
theorem StW.ult (h : StW W X q g) (h0 : g.u ≠ []) : q.bu < W.heap.size := by
  rcases h.u.fs with h1 | ⟨_, h2⟩
  · exact absurd h1 h0
  · exact h2.lt
theorem StW.vlt (h : StW W X q g) (h0 : g.v ≠ []) : q.bv < W.heap.size := by
  rcases h.v.fs with h1 | ⟨_, h2⟩
  · exact absurd h1 h0
  · exact h2.lt
theorem StW.cells (h : StW W X q g) : Box W X [.slice (some ⟨q.bd, 0, none⟩) q.n q.dc, .slice (some ⟨q.be, 0, none⟩) q.ne q.ec, .int .i64 q.ru, .int .i64 q.n, .slice q.ua (q.ru * q.n) q.uc, .int .i64 q.rv, .int .i64 q.n, .slice q.va (q.rv * q.n) q.vc, .float .f64 (raw q.big q.sb)] := h.box
theorem StW.atD (h : StW W X q g) {i : Nat} (hi : i < q.n) : ∃ s, W.cell? ⟨q.bd, i, none⟩ = some (.float .f64 (raw (g.d.getD i 0) s)) := h.d.at (by rw [h.ld]; exact hi)
theorem StW.atE (h : StW W X q g) {i : Nat} (hi : i < q.ne) : ∃ s, W.cell? ⟨q.be, i, none⟩ = some (.float .f64 (raw (g.e.getD i 0) s)) := h.e.at (by rw [h.le]; exact hi)
end
theorem startG_pos (d e : List Nat) (big l m : Nat) (h : l = m + 1) : startG d e big l = if nthG (e.getD l 0) big then (l, false) else if nthG (d.getD m 0) big then (l, true) else startG d e big m := by
  subst h; rfl
set_option maxHeartbeats 8000000 in
theorem start_any (w : World) (X k : Nat) (q : GkP) (g : GkS) (h : StW w X q g) (hk : k < q.n) :
    Calls Try.prog 55 #[.pointer (some ⟨X, 0, none⟩), .int .i64 k] w fun r w' => r = .returned (.tuple #[.int .i64 (startG g.d g.e q.big k).1, .bool (startG g.d g.e q.big k).2]) ∧ Below w.heap.size w w' := by
  obtain ⟨R, hR⟩ : ∃ R, R = startG g.d g.e q.big k := ⟨_, rfl⟩
  rw [← hR]
  have H0 := Lib.hid h
  have HR0 := Lib.hid hR
  have hk5 : k < 512 := by have := h.hn; omega
  have HK := Lib.hid (And.intro hk hk5)
  have HN := Lib.hid (fun (W : World) f sf hX hf => nothing_any W X f sf q.big q.sb hX hf)
  clear h hR
  go_enter Try.func55, Try.ntmps55
  go_wp2_with fail
  go_step3
  go_wp2_with fail
  go_step3
  go_wp2_with fail
  go_loopw [6] (fun s6 wr => ∃ l : Nat, l ≤ k ∧ s6 = .int .i64 l ∧ R = startG g.d g.e q.big l ∧ Below w.heap.size w wr) (fun s6 _ => (intOf s6).toNat)
  case atStart => exact ⟨k, Nat.le_refl _, rfl, HR0.out, Below.refl _ _⟩
  case round =>
    obtain ⟨l, hl, rfl, hR, hB⟩ := hrel
    have HB := Lib.hid hB
    have HR1 := Lib.hid hR
    have HL := Lib.hid hl
    clear hR hB hl
    by_cases h0 : 0 < l
    · obtain ⟨m, hm⟩ : ∃ m, l = m + 1 := ⟨l - 1, by omega⟩
      have hml : m < l := by omega
      have hl5 : l < 512 := by have := HL.out; omega
      have hi1 : wrap64 ((l : Int) - 1) = (m : Int) := by unfold wrap64; omega
      have hi2 : IntKind.i64.wrap ((l : Int) - 1) = (m : Int) := by rw [IntKind.wrap_i64]; omega
      have HM := Lib.hid (And.intro hm hml)
      clear hm hml
      have HS := Lib.hid (H0.out.below HB.out)
      obtain ⟨a1, a2, a3⟩ := HS.out.cells.facts
      obtain ⟨s1, c1⟩ := HS.out.atE (i := l) (by have := HS.out.hn; have := HK.out; have := HL.out; omega)
      obtain ⟨s2, c2⟩ := HS.out.atD (i := m) (by have := HS.out.hn; have := HK.out; have := HL.out; have := HM.out; omega)
      have hln : l < q.ne := by have := HS.out.hn; have := HK.out; have := HL.out; omega
      have hmn : m < q.n := by have := HK.out; have := HL.out; have := HM.out; omega
      obtain ⟨x1, hx1⟩ : ∃ x, x = g.e.getD l 0 := ⟨_, rfl⟩
      obtain ⟨x2, hx2⟩ : ∃ x, x = g.d.getD m 0 := ⟨_, rfl⟩
      rw [← hx1] at c1
      rw [← hx2] at c2
      have HX := Lib.hid (show x1 < 18446744073709551616 ∧ x2 < 18446744073709551616 ∧ g.e.getD l 0 = x1 ∧ g.d.getD m 0 = x2 from ⟨hx1 ▸ HS.out.we.at _, hx2 ▸ HS.out.wd.at _, hx1.symm, hx2.symm⟩)
      have HR2 := Lib.hid (show R = if nthG x1 q.big then (l, false) else if nthG x2 q.big then (l, true) else startG g.d g.e q.big m by rw [hx1, hx2, HR1.out]; exact startG_pos _ _ _ _ _ HM.out.1)
      clear hx1 hx2
      go_wp2_with fail
      refine (HN.out _ _ s1 HS.out.bigc HX.out.1).mono ?_
      rintro r w1 ⟨rfl, hb1⟩
      have HS1 := Lib.hid (HS.out.below hb1)
      have HB1 := Lib.hid (below_step HB.out HB.out.size hb1)
      clear a1 a2 a3 c1 c2
      obtain ⟨a1, a2, a3⟩ := HS1.out.cells.facts
      obtain ⟨s3, c3⟩ := HS1.out.atD (i := m) hmn
      rw [HX.out.2.2.2] at c3
      clear hb1
      dsimp only
      cases hq1 : nthG x1 q.big
      · have HR3 := HR2.out
        rw [hq1, if_neg (by decide)] at HR3
        have HR4 := Lib.hid HR3
        clear HR3
        go_wp2_with fail
        refine (HN.out _ _ s3 HS1.out.bigc HX.out.2.1).mono ?_
        rintro r w2 ⟨rfl, hb2⟩
        have HB2 := Lib.hid (below_step HB1.out HB1.out.size hb2)
        clear a1 a2 a3 c3 hb2
        dsimp only
        cases hq2 : nthG x2 q.big
        · have HR5 := Lib.hid (show R = startG g.d g.e q.big m by have h := HR4.out; rw [hq2, if_neg (by decide)] at h; exact h)
          go_wp2_with fail
          go_roundw
          case rel => exact ⟨m, by have := HL.out; have := HM.out; omega, by first | rfl | rw [hi1], HR5.out, HB2.out⟩
          case measure => have := HM.out.2; first | (simp [intOf]; done) | (simp [intOf, hi1]; omega) | (simp [intOf]; omega)
        · have HR5 := Lib.hid (show R = (l, true) by have h := HR4.out; rw [hq2, if_pos rfl] at h; exact h)
          go_wp2_with fail
          refine noGoto_ret ?_
          go_ret2
          exact ⟨by rw [HR5.out]; rfl, HB2.out⟩
      · have HR3 := HR2.out
        rw [hq1, if_pos rfl] at HR3
        have HR4 := Lib.hid HR3
        clear HR3 a1 a2 a3 c3
        go_wp2_with fail
        refine noGoto_ret ?_
        go_ret2
        exact ⟨by rw [HR4.out]; rfl, HB1.out⟩
    · have HR3 := Lib.hid (show R = (l, false) by rw [HR1.out]; obtain rfl : l = 0 := by omega
                                                  rfl)
      go_wp2_with fail
      refine noGoto_ret ?_
      go_ret2
      exact ⟨by rw [HR3.out]; rfl, HB.out⟩
end Go.Proofs.Ytdljnhdhigbefaa
