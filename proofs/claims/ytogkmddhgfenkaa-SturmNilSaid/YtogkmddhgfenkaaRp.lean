/- The document's sturm: pivots, and how many are below nought. -/
import Derived.Test.YtogkmddhgfenkaaRb
import Derived.Test.YtogkmddhgfenkaaSt12
import Derived.Test.YtogkmddhgfenkaaGg
namespace Go.Proofs.Ytogkmddhgfenkaa
open Go Go.RowKit
set_option maxRecDepth 100000

theorem grd_times : timesW 4607182418800017408 (-1000) = 103582791429521408 := by kernel_rfl
set_option maxHeartbeats 1000000 in
theorem RGuard_any (q s : Nat) (w : World) :
    Calls Try.prog 84 #[.float .f64 (raw q s)] w fun e w' => FR e (grd q) ∧ Below w.heap.size w w' := by
  have HL := Lib.hid (Ldexp_any 4607182418800017408 (-1000) (by decide) (by decide) (by decide) w)
  rw [grd_times] at HL
  cases hz : feq q 0
  · have hg : grd q = q := by unfold grd; rw [hz]; rfl
    rw [hg]
    clear HL hg
    go_enter Try.func84, Try.ntmps84
    go_wp2
    go_ret
    exact ⟨⟨s, rfl⟩, Below.refl _ _⟩
  · have hg : grd q = 103582791429521408 := by unfold grd; rw [hz]; rfl
    rw [hg]
    clear hg
    go_enter Try.func84, Try.ntmps84
    go_wp2_with fail
    refine HL.out.mono ?_
    rintro e w1 ⟨rfl, hb1⟩
    go_wp2
    go_ret
    refine ⟨⟨0, ?_⟩, hb1⟩
    rw [raw_of_not (v := 103582791429521408) (by kernel_rfl) 0]
    rfl

/-- The pivots, with their NaNs' bits. -/
def pRow (ds es : List Nat) (x : Nat) (σ : Nat → Nat) (k : Nat) : List Value := (List.range k).map fun i => .float .f64 (raw (pivQ ds es x (i + 1)) (σ i))
def pivL (ds es : List Nat) (x : Nat) : List Nat := (List.range ds.length).map fun i => pivQ ds es x (i + 1)
theorem pRow_snoc (ds es : List Nat) (x : Nat) (σ : Nat → Nat) (k s : Nat) :
    pRow ds es x (fun i => if i = k then s else σ i) (k + 1) = pRow ds es x σ k ++ [.float .f64 (raw (pivQ ds es x (k + 1)) s)] := by
  unfold pRow
  rw [List.range_succ, List.map_append]
  congr 1
  · refine List.map_congr_left fun i hi => ?_
    have hi' := List.mem_range.1 hi
    dsimp only
    rw [if_neg (by omega)]
  · simp
theorem pRow_get {ds es : List Nat} {x : Nat} {σ : Nat → Nat} {k i : Nat} (h : i < k) : (pRow ds es x σ k)[i]? = some (.float .f64 (raw (pivQ ds es x (i + 1)) (σ i))) := by
  unfold pRow
  rw [List.getElem?_map, List.getElem?_range h]
  rfl
theorem pRow_fls {W : World} {base : Nat} {v : Value} {ds es : List Nat} {x : Nat} {σ : Nat → Nat} (h : W.ownsRow base 35 1 v ds.length (pRow ds es x σ ds.length)) : ∃ a c, v = .slice a ds.length c ∧ Fls W a (pivL ds es x) := by
  obtain ⟨a, c, rfl⟩ := ownsRow_slice h
  refine ⟨a, c, rfl, fun hz => ?_⟩
  have hn : 0 < ds.length := by
    rcases Nat.eq_zero_or_pos ds.length with h0 | h0
    · exfalso; apply hz; unfold pivL; rw [h0]; rfl
    · exact h0
  obtain ⟨g, cap, he, _, hg⟩ := ownsRow_atS h hn
  injection he with h1 h2 h3
  subst h1; subst h3
  refine ⟨g, 0, rfl, hg, fun i z hi => ?_⟩
  unfold pivL at hi
  have hil : i < ds.length := by
    have := (List.getElem?_eq_some_iff.1 hi).1
    simpa using this
  obtain ⟨g', cap', he', hc, _⟩ := ownsRow_atS h hil
  injection he' with h4 h5 h6
  injection h4 with h7
  injection h7 with h8
  subst h8
  rw [List.getElem?_map, List.getElem?_range hil] at hi
  injection hi with hi
  subst hi
  refine ⟨σ i, ?_⟩
  rw [Nat.zero_add, hc, pRow_get hil]
set_option maxHeartbeats 8000000 in
theorem RPivots_any (w : World) (da ea : Option Addr) (ds es : List Nat) (dc ec x sx : Nat) (hD : Fls w da ds) (hE : Fls w ea es) (hl : ds.length ≤ 1000) (hlen : es.length = ds.length - 1) :
    Calls Try.prog 53 #[.agg #[.slice da ds.length dc, .slice ea es.length ec], .float .f64 (raw x sx)] w fun e w' => (∃ a c, e = .returned (.slice a ds.length c) ∧ Fls w' a (pivL ds es x)) ∧ Below w.heap.size w w' := by
  obtain ⟨i0, hi0, hz0, hz1, hz2⟩ := info_parts info_f64
  have x0 : Box (w.alloc (.cells #[.slice da ds.length dc, .slice ea es.length ec] 51)) w.heap.size [.slice da ds.length dc, .slice ea es.length ec] := Box.newA w [_, _] _ rfl
  have hB0 : Below w.heap.size w (w.alloc (.cells #[.slice da ds.length dc, .slice ea es.length ec] 51)) := (Below.refl _ _).alloc (Nat.le_refl _) _
  have HGrd := Lib.hid (fun q s W => RGuard_any q s W)
  have HLen := Lib.hid hlen
  have hD0 := hD.below hB0
  have hE0 := hE.below hB0
  have hl1 : ds.length ≤ 9223372036854775807 := by omega
  clear hD hE hlen
  go_enter Try.func53, Try.ntmps53
  go_wp2_with fail
  generalize w.alloc (.cells #[.slice da ds.length dc, .slice ea es.length ec] 51) = w0 at *
  have HW0 := Lib.hid x0.lt
  have HB0 := Lib.hid hB0
  clear hB0
  go_loopw [5, 6] (fun s5 s6 wr => ∃ (k : Nat) (σ : Nat → Nat), k ≤ ds.length ∧ s6 = .int .i64 k ∧ wr.ownsRow w0.heap.size 35 1 s5 k (pRow ds es x σ k) ∧ Below w0.heap.size w0 wr) (fun _ s6 _ => ds.length - (intOf s6).toNat)
  case atStart => exact ⟨0, fun _ => 0, Nat.zero_le _, rfl, World.ownsRow_nil _ _ _ _, Below.refl _ _⟩
  case round =>
    obtain ⟨k, σ, hk, rfl, hrow, hB⟩ := hrel
    have x1 := x0.below hB
    obtain ⟨a1, a2, a3⟩ := x1.facts
    have hsz := hB.size
    have hD1 := hD0.below hB
    have hE1 := hE0.below hB
    by_cases hlt : k < ds.length
    · obtain ⟨db, do', sd, rfl, hdb, c1⟩ := hD1.at hlt
      have hkb : k + 1 ≤ 1000 := by omega
      have HK : Hid (k + 1 ≤ ds.length) := hlt
      rcases Nat.eq_zero_or_pos k with h0 | h0
      · have t0 : decide ((0 : Int) < (k : Int)) = false := by simp; omega
        have t0' : decide (0 < k) = false := by simp; omega
        have hp : pivQ ds es x (k + 1) = grd (fsub (ds.getD k 0) x) := by rw [h0]; rfl
        have HP := Lib.hid hp
        have HS := Lib.hid (show _ ∧ _ ∧ _ from ⟨hB, hrow, hsz⟩)
        generalize ds.getD k 0 = d at *
        clear hB hrow hsz x1 hD1 hE1 hp h0 hk
        go_wp2_with (refine wpList_flt rfl rfl rfl rfl rfl ?_; intro K hK s1 n1; go_frame; refine hK _ _ ?_; clear hK K)
        have hb1 : Below wr.heap.size wr (wr.drewN n1) := below_drewN n1 (Below.refl _ _)
        refine (HGrd.out _ _ _).mono ?_
        rintro e w4 ⟨⟨s4, rfl⟩, hb4⟩
        have hb4' := below_step hb1 hb1.size hb4
        have row4 := ownsRow_bel HS.out.2.1 (Bel.of hb4') HW0.out
        have hbel4 := below_step HS.out.1 HS.out.2.2 hb4'
        have hsz4 := hbel4.size
        have HX := Lib.hid (show _ ∧ _ from ⟨row4, hbel4⟩)
        clear hb1 hb4 hb4' hbel4 row4
        go_wp2_with (at_builtin; refine wpList_append_lies _ rfl (.tmp 47) (.tmp 50) 24 rfl w0.heap.size 35 i0 (.float .f64 0) 1 8 Try.underlying24 hi0 hz0 hz1 hz2 rfl (by decide) _ (k) _ rfl (HX.out.1.alloc _) _ 1 1 [.float .f64 _] rfl rfl (cell_one_new _ _ _) (by simp [Value.oneCell']) (by decide) (by unfold maxLen; omega) (by omega) (by simp; omega) _ rfl ?_; intro g' cap' w5 hown hgrow hat hlt')
        go_roundw
        case rel =>
          obtain ⟨row4, hbel4⟩ := HX.out
          have hbA : Below w0.heap.size w4 (w4.alloc (.cells #[.float .f64 (raw (grd (fsub d x)) s4)] 35)) := (Below.refl _ _).alloc hsz4 _
          have hb5 : Below w0.heap.size w4 w5 := hbA.grown hgrow (by simp; omega) (fun r e => (row4.lt r e).1)
          refine ⟨k + 1, fun i => if i = k then s4 else σ i, HK.out, by go_num, ?_, hbel4.trans hb5⟩
          rw [pRow_snoc, HP.out]; exact hown
        case measure => simp [intOf]; omega
      · obtain ⟨j, rfl⟩ : ∃ j, k = j + 1 := ⟨k - 1, by omega⟩
        have hj : j < es.length := by rw [HLen.out]; omega
        obtain ⟨eb, eo, s2, rfl, heb, c2⟩ := hE1.at hj
        have t0 : decide ((0 : Int) < ((j + 1 : Nat) : Int)) = true := decide_eq_true (by omega)
        have t0' : decide (0 < j + 1) = true := by simp
        have hp : pivQ ds es x (j + 1 + 1) = grd (fsub (fsub (ds.getD (j + 1) 0) x) (fdiv (fmul (es.getD j 0) (es.getD j 0)) (pivQ ds es x (j + 1)))) := rfl
        have HP := Lib.hid hp
        obtain ⟨g, cap, rfl, hc, hgl⟩ := ownsRow_atS hrow (k := j) (by omega)
        rw [pRow_get (by omega)] at hc
        have HS := Lib.hid (show _ ∧ _ ∧ _ from ⟨hB, hrow, hsz⟩)
        generalize ds.getD (j + 1) 0 = d at *
        generalize es.getD j 0 = y0 at *
        generalize pivQ ds es x (j + 1) = q0 at *
        clear hB hrow hsz hD1 hE1 hp h0 hk
        go_upto_region 7 with (refine wpList_flt rfl rfl rfl rfl rfl ?_; intro K hK s1 n1; go_frame; refine hK _ _ ?_; clear hK K)
        have hb1 : Below wr.heap.size wr (wr.drewN n1) := below_drewN n1 (Below.refl _ _)
        obtain ⟨f1, f2, f3⟩ := (x1.below hb1).facts
        have c3 := ((below_cells hb1).1 _ (eo + j) heb).trans c2
        have c4 := ((below_cells hb1).1 _ j hgl).trans hc
        have heb' : eb < (wr.drewN n1).heap.size := Nat.lt_of_lt_of_le heb hb1.size
        have hgl' : g < (wr.drewN n1).heap.size := Nat.lt_of_lt_of_le hgl hb1.size
        clear a1 a2 a3 c1 c2 hc heb hgl hdb x1
        generalize wr.drewN n1 = W1 at *
        refine wp_region_nqb 14 (fun _ _ _ => False) (by kernel_rfl) (by kernel_rfl) ?_
        intro C R hc hb' hb2 hd hR
        simp only [List.take_succ_cons, List.take_zero]
        repeat (
          first
            | (refine nqW_plain (fun K hK => ?_))
            | (refine nqW_step (fun K hK => ?_); go_simp)
          first
            | (refine nq_move rfl ?_; go_simp; refine hK _ ?_; clear hK K)
            | (refine nq_assign rfl ?_; go_simp; refine hK _ ?_; clear hK K)
            | (refine nq_flt rfl rfl rfl rfl hd ?_; intro _; go_frame; refine hK _ ?_; clear hK K)
            | (refine nq_same ?_; intro w' hw'; go_simp; (try go_bits); refine hK _ ?_; clear hK K hw' w')
            | (refine nq_same ?_; intro w' hw'; go_simp; rw [if_pos (by omega)]; go_simp; (try go_bits); refine hK _ ?_; clear hK K hw' w')
            | (go_simp; refine hK _ ?_; clear hK K))
        refine nqW_nil (hR _ ?_)
        clear hc hb' hb2 hd hR
        intro w' hw'
        simp only [List.drop]
        have c5 := ((below_cells hw').1 _ j hgl').trans c4
        have hb2 := below_step hb1 hb1.size hw'
        clear c3 c4 f1 f2 f3 hw' hb1
        go_wp2_with (first | (refine wpList_flt (op := .quo) rfl rfl rfl rfl rfl ?_; intro K hK _ n2; go_frame; refine hK _ _ ?_; clear hK K) | (refine wpList_flt (op := .sub) rfl rfl rfl rfl rfl ?_; intro K hK _ n3; go_frame; refine hK _ _ ?_; clear hK K))
        have hb3 : Below wr.heap.size wr (w'.drewN (n2 + n3)) := below_drewN (n2 + n3) hb2
        clear c5 hgl'
        refine (HGrd.out _ _ _).mono ?_
        rintro e w4 ⟨⟨s4, rfl⟩, hb4⟩
        have hb4' := below_step hb3 hb3.size hb4
        have row4 := ownsRow_bel HS.out.2.1 (Bel.of hb4') HW0.out
        have hbel4 := below_step HS.out.1 HS.out.2.2 hb4'
        have hsz4 := hbel4.size
        have HX := Lib.hid (show _ ∧ _ from ⟨row4, hbel4⟩)
        clear hb2 hb3 hb4 hb4' hbel4 row4
        go_wp2_with (at_builtin; refine wpList_append_lies _ rfl (.tmp 47) (.tmp 50) 24 rfl w0.heap.size 35 i0 (.float .f64 0) 1 8 Try.underlying24 hi0 hz0 hz1 hz2 rfl (by decide) _ (j + 1) _ rfl (HX.out.1.alloc _) _ 1 1 [.float .f64 _] rfl rfl (cell_one_new _ _ _) (by simp [Value.oneCell']) (by decide) (by unfold maxLen; omega) (by omega) (by simp; omega) _ rfl ?_; intro g' cap' w5 hown hgrow hat hlt')
        go_roundw
        case rel =>
          obtain ⟨row4, hbel4⟩ := HX.out
          have hbA : Below w0.heap.size w4 (w4.alloc (.cells #[.float .f64 (raw (grd (fsub (fsub d x) (fdiv (fmul y0 y0) q0))) s4)] 35)) := (Below.refl _ _).alloc hsz4 _
          have hb5 : Below w0.heap.size w4 w5 := hbA.grown hgrow (by simp; omega) (fun r e => (row4.lt r e).1)
          refine ⟨j + 1 + 1, fun i => if i = j + 1 then s4 else σ i, HK.out, by go_num, ?_, hbel4.trans hb5⟩
          rw [pRow_snoc, HP.out]; exact hown
        case measure => simp [intOf]; omega
    · obtain rfl : k = ds.length := by omega
      have HS := Lib.hid (show _ ∧ _ from ⟨hB, hrow⟩)
      clear hB hrow hD1 hE1
      go_wp2_with fail
      go_ret
      obtain ⟨a, c, he, hF⟩ := pRow_fls HS.out.2
      exact ⟨⟨a, c, by rw [← he]; rfl, hF⟩, below_step HB0.out HB0.out.size HS.out.1⟩
end Go.Proofs.Ytogkmddhgfenkaa
