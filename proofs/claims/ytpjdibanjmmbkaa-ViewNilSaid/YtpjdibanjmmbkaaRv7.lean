/- The document's views: columns; matrices; places. -/
import Derived.Test.YtpjdibanjmmbkaaRv6
namespace Go.Proofs.Ytpjdibanjmmbkaa
open Go Go.RowKit
set_option maxRecDepth 100000

set_option maxHeartbeats 4000000 in
theorem RCol_ref (w : World) (v : Vw) (da : Option Addr) (dn dc : Nat) (x : Value) (i : Int) {P : Nat → Prop} (h : RefV P w da dn dc v x) (hr : v.r ≤ 512) (hc : v.c ≤ 512) :
    Calls Try.prog 73 #[x, .int .i64 i] w fun e w' => ∃ x', e = .returned x' ∧ RefV (fun b => w.heap.size ≤ b) w' da dn dc (v.col i) x' ∧ Below w.heap.size w w' := by
  have HP := Lib.hid (fun (W : World) (hW : Below w.heap.size w W) => RPart_ref W v da dn dc x 0 i v.r 1 (h.below hW) hr hc)
  have HN : Hid (v.part 0 i v.r 1 = v.col i) := rfl
  have hno : (i < 0 ∨ (v.c : Int) ≤ i) → v.col i = Vw.none := fun hi => by
    unfold Vw.col Vw.part
    rw [if_neg]
    simp only [Bool.and_eq_true, not_and]
    intro hp hp2
    exfalso
    have := hp2
    unfold fitsV at this
    simp at this
    omega
  have HNo := Lib.hid hno
  clear hno
  obtain ⟨ea, en, ec, aa, ac, rfl, h2, h3, h4, _⟩ := h
  clear h2 h3 h4
  generalize v.p.isSome = is at *
  generalize v.part 0 i v.r 1 = vp at *
  generalize v.col i = vr at *
  generalize v.r * v.c = an at *
  generalize v.r = r at *
  generalize v.c = c at *
  have hB0 : Below w.heap.size w ((w.alloc (.cells #[.slice ea en ec, .int .i64 r, .int .i64 c, .slice aa an ac, .bool is] 48)).alloc (.cells #[.slice none 0 0, .int .i64 0, .int .i64 0, .slice none 0 0, .bool false] 48)) := ((Below.refl _ _).alloc (Nat.le_refl _) _).alloc (by simp) _
  have x0 : Box ((w.alloc (.cells #[.slice ea en ec, .int .i64 r, .int .i64 c, .slice aa an ac, .bool is] 48)).alloc (.cells #[.slice none 0 0, .int .i64 0, .int .i64 0, .slice none 0 0, .bool false] 48)) w.heap.size [.slice ea en ec, .int .i64 r, .int .i64 c, .slice aa an ac, .bool is] := (Box.newA w [_, _, _, _, _] _ rfl).alloc _
  have x1 : Box ((w.alloc (.cells #[.slice ea en ec, .int .i64 r, .int .i64 c, .slice aa an ac, .bool is] 48)).alloc (.cells #[.slice none 0 0, .int .i64 0, .int .i64 0, .slice none 0 0, .bool false] 48)) (w.heap.size + 1) [.slice none 0 0, .int .i64 0, .int .i64 0, .slice none 0 0, .bool false] := Box.newA _ [_, _, _, _, _] _ (by simp)
  have hs0 : ((w.alloc (.cells #[.slice ea en ec, .int .i64 r, .int .i64 c, .slice aa an ac, .bool is] 48)).alloc (.cells #[.slice none 0 0, .int .i64 0, .int .i64 0, .slice none 0 0, .bool false] 48)).heap.size = w.heap.size + 2 := by simp
  rcases (by omega : i < 0 ∨ (0 ≤ i ∧ (c : Int) ≤ i) ∨ (0 ≤ i ∧ i < c)) with hi | ⟨hi, hi2⟩ | ⟨hi, hi2⟩
  · have t1 : decide (i < 0) = true := decide_eq_true hi
    rw [HNo.out (.inl hi)]
    clear hi
    go_enter Try.func73, Try.ntmps73
    go_wp2
    generalize ((w.alloc (.cells #[.slice ea en ec, .int .i64 r, .int .i64 c, .slice aa an ac, .bool is] 48)).alloc (.cells #[.slice none 0 0, .int .i64 0, .int .i64 0, .slice none 0 0, .bool false] 48)) = W0 at x1 hB0 ⊢
    refine bodyPost_ret (results_one rfl (rv_cell (g := w.heap.size + 1) rfl x1 rfl Try.underlying48 (by kernel_rfl))) rfl ⟨_, rfl, RefV.none _ _ _ _ _, hB0⟩
  · have t1 : decide (i < 0) = false := decide_eq_false (by omega)
    have t2 : decide ((c : Int) ≤ i) = true := decide_eq_true hi2
    rw [HNo.out (.inr hi2)]
    clear hi hi2
    go_enter Try.func73, Try.ntmps73
    go_wp2
    generalize ((w.alloc (.cells #[.slice ea en ec, .int .i64 r, .int .i64 c, .slice aa an ac, .bool is] 48)).alloc (.cells #[.slice none 0 0, .int .i64 0, .int .i64 0, .slice none 0 0, .bool false] 48)) = W0 at x1 hB0 ⊢
    refine bodyPost_ret (results_one rfl (rv_cell (g := w.heap.size + 1) rfl x1 rfl Try.underlying48 (by kernel_rfl))) rfl ⟨_, rfl, RefV.none _ _ _ _ _, hB0⟩
  · have t1 : decide (i < 0) = false := decide_eq_false (by omega)
    have t2 : decide ((c : Int) ≤ i) = false := decide_eq_false (by omega)
    clear hi hi2 HNo
    go_enter Try.func73, Try.ntmps73
    go_wp2_with fail
    refine (HP.out _ hB0).mono ?_
    rintro e w2 ⟨x', rfl, hR, hb2⟩
    rw [HN] at hR
    have y1 := x1.below hb2
    have hB2 := below_step hB0 hB0.size hb2
    clear HP HN hB0 x0 x1 hb2
    obtain ⟨fa, fn, fc, ba, bc, rfl, g1, g2, g3, g5⟩ := hR
    obtain ⟨a1, a2, a3⟩ := y1.facts
    go_wp2
    refine bodyPost_ret (results_one rfl (rv_cell (g := w.heap.size + 1) rfl (y1.put5 _ _ _ _ _) rfl Try.underlying48 (by kernel_rfl))) rfl ⟨_, rfl, ⟨fa, fn, fc, ba, bc, rfl, g1, g2, ?_, fun hz => ?_⟩, ?_⟩
    · exact g3.bel g5 (by omega) (Bel.refl5 _ _ _ _ _ _)
    · obtain ⟨b, off, e, hb⟩ := g5 hz; exact ⟨b, off, e, by omega⟩
    · exact hB2.trans ((Bel.refl5 _ _ _ _ _ _).below (by omega))

theorem ref_list (w : World) (v : Vw) (da : Option Addr) (ws : List Nat) (dc : Nat) (x : Value) {P : Nat → Prop} (h : RefV P w da ws.length dc v x) (hD : Cel w da ws) (hin : ∀ p ∈ v.pls, p < ws.length) (hr : v.r ≤ 512) (hc : v.c ≤ 512) :
    Calls Try.prog 36 #[x] w fun e w' => ∃ sv, e = .returned sv ∧ w'.ownsRow w.heap.size 23 1 sv (v.list ws).length ((v.list ws).map (Value.float .f64)) ∧ Below w.heap.size w w' := by
  obtain ⟨ea, en, ec, aa, ac, rfl, h2, h3, h4, _⟩ := h
  have hl : v.pls.length ≤ 262144 := by rw [pls_length]; exact Nat.mul_le_mul hr hc
  have e1 : v.list ws = v.pls.map fun p => ws.getD p 0 := list_pls v ws
  cases hp : v.p.isSome
  case true =>
    obtain ⟨rfl, rfl, rfl⟩ := h2 hp
    have hk := List07_any w ea ws ec v.r v.c aa v.pls ac true hD h4 hin hl
    rw [pls_length] at hk
    rw [e1, List.length_map, pls_length]
    exact hk
  case false =>
    obtain ⟨rfl, rfl, rfl, hv⟩ := h3 hp
    have e2 : v.pls = [] := by rw [hv]; rfl
    have hk := List07_any w none [] 0 v.r v.c aa v.pls ac false (fun hz => absurd rfl hz) h4 (by rw [e2]; intro p hp; cases hp) hl
    rw [pls_length] at hk
    rw [e1, List.length_map, pls_length]
    rw [e2] at hk ⊢
    exact hk

set_option maxHeartbeats 4000000 in
theorem ref_matrix (w : World) (v : Vw) (da : Option Addr) (ws : List Nat) (dc : Nat) (x : Value) {P : Nat → Prop} (h : RefV P w da ws.length dc v x) (hD : Cel w da ws) (hin : ∀ p ∈ v.pls, p < ws.length) (hr : v.r ≤ 512) (hc : v.c ≤ 512) :
    Calls Try.prog 25 #[x] w fun e w' => ∃ sv, e = .returned (.agg #[.int .i64 v.r, .int .i64 v.c, sv]) ∧ w'.ownsRow w.heap.size 23 1 sv (v.list ws).length ((v.list ws).map (Value.float .f64)) ∧ Below w.heap.size w w' := by
  have HL := Lib.hid (fun (W : World) (hW : Below w.heap.size w W) => ref_list W v da ws dc x (h.below hW) (hD.below hW) hin hr hc)
  obtain ⟨ea, en, ec, aa, ac, rfl, h2, h3, h4, _⟩ := h
  clear h2 h3 h4 hin hD
  generalize v.p.isSome = is at *
  generalize v.list ws = zs at *
  generalize v.r * v.c = an at *
  generalize v.r = r at *
  generalize v.c = c at *
  have hB0 : Below w.heap.size w ((w.alloc (.cells #[.slice ea en ec, .int .i64 r, .int .i64 c, .slice aa an ac, .bool is] 48)).alloc (.cells #[.int .i64 0, .int .i64 0, .slice none 0 0] 40)) := ((Below.refl _ _).alloc (Nat.le_refl _) _).alloc (by simp) _
  have x0 : Box ((w.alloc (.cells #[.slice ea en ec, .int .i64 r, .int .i64 c, .slice aa an ac, .bool is] 48)).alloc (.cells #[.int .i64 0, .int .i64 0, .slice none 0 0] 40)) w.heap.size [.slice ea en ec, .int .i64 r, .int .i64 c, .slice aa an ac, .bool is] := (Box.newA w [_, _, _, _, _] _ rfl).alloc _
  have x1 : Box ((w.alloc (.cells #[.slice ea en ec, .int .i64 r, .int .i64 c, .slice aa an ac, .bool is] 48)).alloc (.cells #[.int .i64 0, .int .i64 0, .slice none 0 0] 40)) (w.heap.size + 1) [.int .i64 0, .int .i64 0, .slice none 0 0] := Box.newA _ [_, _, _] _ (by simp)
  have hs0 : ((w.alloc (.cells #[.slice ea en ec, .int .i64 r, .int .i64 c, .slice aa an ac, .bool is] 48)).alloc (.cells #[.int .i64 0, .int .i64 0, .slice none 0 0] 40)).heap.size = w.heap.size + 2 := by simp
  go_enter Try.func25, Try.ntmps25
  go_wp2
  generalize ((w.alloc (.cells #[.slice ea en ec, .int .i64 r, .int .i64 c, .slice aa an ac, .bool is] 48)).alloc (.cells #[.int .i64 0, .int .i64 0, .slice none 0 0] 40)) = W0 at *
  obtain ⟨a1, a2, a3⟩ := x0.facts
  have s0 : SBS (w.heap.size + 2) W0 W0 := (SB.refl (by omega)).S
  have hl0 : w.heap.size < W0.heap.size := by omega
  refine wp_region_first 7 [0, 1, 2, 3, 4] [5, 6] (fun W => SB (w.heap.size + 2) W0 W ∧ ∀ b o, b < w.heap.size + 2 → W.cell? ⟨b, o, none⟩ = W0.cell? ⟨b, o, none⟩) (by kernel_rfl) (by kernel_rfl) (SBS.drew s0) ?_
  iterate 5 (refine pW_take (v := ?_) rfl rfl ?_ ?_; rotate_left; (next => (intro w' hSw; (try dsimp only at hSw); go_simp; (try with_reducible rfl))); (simp only [Act.put, List.setIfInBounds_toArray, List.set_cons_zero, List.set_cons_succ]))
  refine pW_nil ?_
  refine mW_take rfl rfl ?_
  go_simp
  refine (HL.out _ (below_drewN 1 hB0)).mono ?_
  rintro e w2 ⟨sv, rfl, hrow, hb2⟩
  obtain ⟨sa, scap, rfl⟩ := ownsRow_slice hrow
  have hb3 : Below W0.heap.size W0 w2 := ⟨hb2.os, hb2.tape, hb2.output, hb2.size, hb2.block⟩
  have s2 : SBS (w.heap.size + 2) W0 w2 := by rw [← hs0]; exact (SB.of hb3 hb3.size).S
  refine ⟨s2, ?_⟩
  refine mW_take rfl rfl ?_
  go_simp
  refine ⟨by first | exact s2 | exact s2.2, ?_⟩
  refine mW_nil ?_
  clear s2 s0
  have y1 := x1.below hb3
  obtain ⟨a4, a5, a6⟩ := y1.facts
  have HR := Lib.hid hrow
  clear hrow
  try simp only [List.drop]
  go_wp2
  refine NoPanic.normal ?_
  go_wp2
  have hset : ∀ B, Bel B (w.heap.size + 1) w2 (((w2.setCell ⟨w.heap.size + 1, 0, none⟩ (.int .i64 r)).setCell ⟨w.heap.size + 1, 1, none⟩ (.int .i64 c)).setCell ⟨w.heap.size + 1, 2, none⟩ (.slice sa zs.length scap)) := fun B => (((Bel.refl _ _ _).set _ _).set _ _).set _ _
  refine bodyPost_ret (results_one rfl (rv_cell (g := w.heap.size + 1) rfl (((y1.set 0 _).set 1 _).set 2 _) rfl Try.underlying40 (by kernel_rfl))) rfl ⟨_, rfl, ?_, ?_⟩
  · exact ownsRow_mono (ownsRow_bel HR.out (hset _) (by show w.heap.size + 1 < W0.heap.size; omega)) (by show w.heap.size ≤ W0.heap.size; omega)
  · exact (hB0.trans (hb3.mono (by omega))).trans ((hset _).below (by omega))

end Go.Proofs.Ytpjdibanjmmbkaa
