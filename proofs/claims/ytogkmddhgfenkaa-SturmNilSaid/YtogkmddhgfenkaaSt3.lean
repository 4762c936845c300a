/- Package sturm: the range over the pivots. -/
import Derived.Test.YtogkmddhgfenkaaSt2
import Derived.Test.YtogkmddhgfenkaaGen
import Derived.Test.YtogkmddhgfenkaaNqJ
namespace Go.Proofs.Ytogkmddhgfenkaa
open Go Go.RowKit Go.Shelf
attribute [local go_sem] Oper.semAt_some
set_option maxRecDepth 100000

/-- What is put for a nought. -/
def grd (q : Nat) : Nat := if feq q 0 then 103582791429521408 else q
/-- The pivots; ahead of the first one: nought. -/
def pivQ (ds es : List Nat) (x : Nat) : Nat → Nat
  | 0 => 0
  | 1 => grd (fsub (ds.getD 0 0) x)
  | i + 2 => grd (fsub (fsub (ds.getD (i + 1) 0) x) (fdiv (fmul (es.getD i 0) (es.getD i 0)) (pivQ ds es x (i + 1))))
/-- A pivot's number, and its NaN's bits. -/
def pelV (ds es : List Nat) (x : Nat) (y : Nat × Nat) : Array Value := #[.int .i64 (y.1 : Int), .float .f64 (raw (pivQ ds es x (y.1 + 1)) y.2)]

theorem fls_one (W : World) (T : TypeId) (x sx : Nat) : Fls (W.alloc (.cells #[.float .f64 (raw x sx)] T)) (some ⟨W.heap.size, 0, none⟩) [x] := fun _ => ⟨W.heap.size, 0, rfl, by simp, fun i v hi => by
  have hb : Box (W.alloc (.cells #[.float .f64 (raw x sx)] T)) W.heap.size [.float .f64 (raw x sx)] := Box.newA W [_] T rfl
  cases i with
  | zero => simp at hi; subst hi; exact ⟨sx, by rw [hb.cell]; rfl⟩
  | succ i => simp at hi⟩
/-- What the range holds on to. -/
structure PivR (ds es : List Nat) (x sx : Nat) (da ea : Option Addr) (dc ec Bt Bx : Nat) (R : World → Prop) (Kp : World → World → Prop) : Prop where
  bt : ∀ W, R W → Box W Bt [.slice da ds.length dc, .slice ea es.length ec]
  bx : ∀ W, R W → Box W Bx [.float .f64 (raw x sx)]
  fd : ∀ W, R W → Fls W da ds
  fe : ∀ W, R W → Fls W ea es
  keep : ∀ A B, R A → Kp A B → R B
  below : ∀ A B, R A → Below A.heap.size A B → R B

set_option maxHeartbeats 8000000 in
theorem Piv_stops (n : Nat) (hn : 1 ≤ n) (ds es : List Nat) (x sx : Nat) (da ea : Option Addr) (dc ec Bt Bx : Nat) (R : World → Prop) (Kp : World → World → Prop) (hA : PivR ds es x sx da ea dc ec Bt Bx R Kp) (hl : ds.length ≤ maxLen) (hl' : es.length ≤ maxLen) (w : World) (hw : R w) :
    SeqStopsK Fence.wide n Try.prog 98 #[.pointer (some ⟨Bt, 0, none⟩), .pointer (some ⟨Bx, 0, none⟩)] (pelV ds es x) Kp (fun xs => xs.map Prod.fst = if askS ds es [x] = 0 then List.range ds.length else []) (fun xs => askS ds es [x] = 0 ∧ ∃ k, xs.map Prod.fst = List.range k) ds.length w := by
  obtain ⟨Lr, hLr⟩ : ∃ Lr, Lr = if askS ds es [x] = 0 then List.range ds.length else [] := ⟨_, rfl⟩
  rw [← hLr]
  intro l J Jx W hW hJ hJx hY h0
  have hRW : R W := hA.below _ _ hw hW
  have b := (hA.bt _ hRW).facts
  have b' := (hA.bx _ hRW).facts
  obtain ⟨b1, b2, b3⟩ := b
  obtain ⟨b4, b5, b6⟩ := b'
  have hk := ask13_any (W.alloc (.cells #[.float .f64 (raw x sx)] 35)) da ea (some ⟨W.heap.size, 0, none⟩) ds es [x] dc ec 1 ((hA.fd _ hRW).below ((Below.refl _ _).alloc (Nat.le_refl _) _)) ((hA.fe _ hRW).below ((Below.refl _ _).alloc (Nat.le_refl _) _)) (fls_one _ _ _ _) hl hl' (by unfold maxLen; simp)
  have HK := Lib.hid hk
  clear hk
  refine callsIn_of_wp Try.func98 rfl trivial ?_ rfl
  simp only [Try.ntmps98, List.size_toArray, List.length_cons, List.length_nil, Nat.reduceAdd, Nat.reduceSub, Array.replicate_succ, Array.replicate_zero, List.push_toArray, List.append_toArray, List.nil_append, List.cons_append]
  gi_wp2_with fail
  refine ⟨trivial, (callsIn_wide.2 HK.out).mono ?_⟩
  rintro e w2 ⟨rfl, hb2⟩
  have hA0 : Below W.heap.size W (W.alloc (.cells #[.float .f64 (raw x sx)] 35)) := (Below.refl _ _).alloc (Nat.le_refl _) _
  have hb3 := below_step hA0 hA0.size hb2
  have hR2 := hA.below _ _ hRW hb3
  have hJ2 := hJ _ _ _ none h0 (grown_of_below hb3) (fun r e => by cases e)
  clear HK hA0 b1 b2 b3 b4 b5 b6 h0
  by_cases hz : askS ds es [x] = 0
  case neg =>
    rw [if_neg hz] at hLr
    have t1 : (askS ds es [x] != 0) = true := by simp [hz]
    generalize askS ds es [x] = q at *
    have HLr := Lib.hid hLr
    clear hz hLr
    gi_wp2
    refine bodyPost_ret (results_none rfl _ _ _) rfl ?_
    exact ⟨⟨_, rfl⟩, .inl ⟨[], HLr.out.symm, hJ2⟩⟩
  case pos =>
    rw [if_pos hz] at hLr
    have HZ := Lib.hid hz
    rw [hz]
    have HLr := Lib.hid hLr
    clear hz hLr
    have hlen : es.length = ds.length - 1 := by
      have := HZ.out
      unfold askS at this
      cases hm : mayS ds.length es.length
      · rw [hm] at this; cases this
      · unfold mayS at hm; simp at hm; exact hm.2
    have hl1 : ds.length ≤ 9223372036854775807 := by unfold maxLen at hl; omega
    have HLen := Lib.hid hlen
    clear hl hl' hlen
    obtain ⟨b1, b2, b3⟩ := (hA.bt _ hR2).facts
    gi_wp2
    clear b1 b2 b3 hb2 hb3
    gi_loopw [4, 17] (fun s4 s17 wr => ∃ (i : Nat) (pre : List (Nat × Nat)), i ≤ ds.length ∧ s17 = .int .i64 i ∧ pre.map Prod.fst = List.range i ∧ IsF s4 (pivQ ds es x i) ∧ J pre wr ∧ R wr) (fun _ s17 _ => ds.length - (intOf s17).toNat)
    case atStart => exact ⟨0, [], Nat.zero_le _, rfl, rfl, IsF.const (by kernel_rfl), hJ2, hR2⟩
    case round =>
      obtain ⟨i, pre, hi, rfl, hpre, ⟨sq, rfl⟩, hJs, hRs⟩ := hrel
      by_cases hlt : i < ds.length
      · obtain ⟨db, do', s1, rfl, hdb, c1⟩ := (hA.fd _ hRs).at hlt
        obtain ⟨e1, e2, e3⟩ := (hA.bt _ hRs).facts
        obtain ⟨e4, e5, e6⟩ := (hA.bx _ hRs).facts
        have HPre := Lib.hid hpre
        clear hpre hJ2 hR2
        have hnext : ∀ (W' : World) (s' : Nat), J (pre ++ [(i, s')]) W' → R W' → ∃ (k : Nat) (pre : List (Nat × Nat)), k ≤ ds.length ∧ Value.int .i64 ((i : Int) + 1) = .int .i64 k ∧ pre.map Prod.fst = List.range k ∧ IsF (.float .f64 (raw (pivQ ds es x (i + 1)) s')) (pivQ ds es x k) ∧ J pre W' ∧ R W' := fun W' s' hj hr => ⟨i + 1, _, hlt, rfl, by rw [List.map_append, HPre.out, List.range_succ]; rfl, ⟨s', rfl⟩, hj, hr⟩
        have HNext := Lib.hid hnext
        have HStop : Hid (∀ s' : Nat, ∃ k, (pre ++ [(i, s')]).map Prod.fst = List.range k) := fun s' => ⟨i + 1, by rw [List.map_append, HPre.out, List.range_succ]; rfl⟩
        clear hnext
        rcases Nat.eq_zero_or_pos i with h0 | h0
        · have t0 : decide ((0 : Int) < (i : Int)) = false := by simp; omega
          have t0' : decide (0 < i) = false := by simp; omega
          have hp : pivQ ds es x (i + 1) = grd (fsub (ds.getD i 0) x) := by rw [h0]; rfl
          generalize ds.getD i 0 = d0 at *
          cases hz : feq (fsub d0 x) 0
          · have hp2 : pivQ ds es x (i + 1) = fsub d0 x := by rw [hp]; unfold grd; rw [hz]; rfl
            have HP := Lib.hid hp2
            clear hp hp2 h0
            gi_wp2_with (first | (refine wpListIn_flt (op := .sub) rfl rfl rfl rfl rfl ?_; intro K hK s' n'; go_frame; refine hK _ _ ?_; clear hK K) | (refine wpListIn_flt rfl rfl rfl rfl rfl ?_; intro K hK _ _; go_frame; refine hK _ _ ?_; clear hK K))
            have hB3 : Below wr.heap.size wr (wr.drewN n') := below_drewN n' (Below.refl _ _)
            have hR3 := hA.below _ _ hRs hB3
            have hJ3 := hJ _ _ _ none hJs (grown_of_below hB3) (fun r e => by cases e)
            obtain ⟨fn, tmps, assign, body, hy, hR4⟩ := hY pre (i, s') (wr.drewN n') hJ3 (by have := congrArg List.length HPre.out; simp at this; omega)
            dsimp only [pelV] at hy
            rw [HP.out] at hy
            rw [hy]
            gi_wp2
            refine hR4.mono ?_
            rintro e W3 (⟨rfl, hJ4, hk4⟩ | ⟨rfl, hJx4⟩)
            · gi_wp2
              go_roundw
              case rel =>
                have := HNext.out W3 s' hJ4 (hA.keep _ _ hR3 hk4)
                rw [HP.out] at this
                exact this
              case measure => simp [intOf]; omega
            · gi_wp2
              refine bodyPost_ret (results_none rfl _ _ _) rfl ?_
              exact ⟨⟨_, rfl⟩, .inr ⟨_, ⟨HZ.out, HStop.out _⟩, hJx4⟩⟩
          · have hp2 : pivQ ds es x (i + 1) = 103582791429521408 := by rw [hp]; unfold grd; rw [hz]; rfl
            have HP := Lib.hid hp2
            clear hp hp2 h0
            have s' : Nat := 0
            gi_wp2_with (first | (refine wpListIn_flt (op := .sub) rfl rfl rfl rfl rfl ?_; intro K hK _ n'; go_frame; refine hK _ _ ?_; clear hK K) | (refine wpListIn_flt rfl rfl rfl rfl rfl ?_; intro K hK _ _; go_frame; refine hK _ _ ?_; clear hK K))
            have hB3 : Below wr.heap.size wr (wr.drewN n') := below_drewN n' (Below.refl _ _)
            have hR3 := hA.below _ _ hRs hB3
            have hJ3 := hJ _ _ _ none hJs (grown_of_below hB3) (fun r e => by cases e)
            obtain ⟨fn, tmps, assign, body, hy, hR4⟩ := hY pre (i, s') (wr.drewN n') hJ3 (by have := congrArg List.length HPre.out; simp at this; omega)
            dsimp only [pelV] at hy
            rw [HP.out, raw_of_not (by kernel_rfl)] at hy
            rw [hy]
            gi_wp2
            refine hR4.mono ?_
            rintro e W3 (⟨rfl, hJ4, hk4⟩ | ⟨rfl, hJx4⟩)
            · gi_wp2
              go_roundw
              case rel =>
                have := HNext.out W3 s' hJ4 (hA.keep _ _ hR3 hk4)
                rw [HP.out, raw_of_not (by kernel_rfl)] at this
                exact this
              case measure => simp [intOf]; omega
            · gi_wp2
              refine bodyPost_ret (results_none rfl _ _ _) rfl ?_
              exact ⟨⟨_, rfl⟩, .inr ⟨_, ⟨HZ.out, HStop.out _⟩, hJx4⟩⟩
        · obtain ⟨k, rfl⟩ : ∃ k, i = k + 1 := ⟨i - 1, by omega⟩
          have hl2 : k < es.length := by have := HLen.out; omega
          obtain ⟨eb, eo, s2, rfl, heb, c2⟩ := (hA.fe _ hRs).at hl2
          have hp : pivQ ds es x (k + 1 + 1) = grd (fsub (fsub (ds.getD (k + 1) 0) x) (fdiv (fmul (es.getD k 0) (es.getD k 0)) (pivQ ds es x (k + 1)))) := rfl
          generalize ds.getD (k + 1) 0 = d0 at *
          generalize es.getD k 0 = g0 at *
          generalize pivQ ds es x (k + 1) = q0 at *
          have hbm := lt_more heb
          have hbm2 := lt_more e1
          cases hz : feq (fsub (fsub d0 x) (fdiv (fmul g0 g0) q0)) 0
          · have hp2 : pivQ ds es x (k + 1 + 1) = fsub (fsub d0 x) (fdiv (fmul g0 g0) q0) := by rw [hp]; unfold grd; rw [hz]; rfl
            have HP := Lib.hid hp2
            clear hp hp2 h0
            gi_wp2_with (first | (refine wpListIn_flt (op := .sub) rfl rfl rfl rfl rfl ?_; intro K hK _ n1; go_frame; refine hK _ _ ?_; clear hK K) | (refine wpListIn_flt rfl rfl rfl rfl rfl ?_; intro K hK _ _; go_frame; refine hK _ _ ?_; clear hK K))
            have hb1 : Below wr.heap.size wr (wr.drewN n1) := below_drewN n1 (Below.refl _ _)
            obtain ⟨f1, f2, f3⟩ := ((hA.bt _ hRs).below hb1).facts
            have c3 := ((below_cells hb1).1 _ (eo + k) heb).trans c2
            have heb' : eb < (wr.drewN n1).heap.size := Nat.lt_of_lt_of_le heb hb1.size
            clear e1 e2 e3 e4 e5 e6 c1 c2 heb hbm hbm2
            generalize wr.drewN n1 = W1 at *
            refine wpIn_region_nqbW 13 (fun _ _ _ => False) (by kernel_rfl) (by kernel_rfl) ?_
            intro C R hc hb' hb2 hd hR
            simp only [List.take_succ_cons, List.take_zero]
            repeat (
              first
                | (refine nqW_plain (fun K hK => ?_))
                | (refine nqW_step (fun K hK => ?_); go_simp)
              first
                | (refine nq_move rfl ?_; go_simp; refine hK _ ?_; clear hK K)
                | (refine nq_assign rfl ?_; go_simp; refine hK _ ?_; clear hK K)
                | (refine nq_flt rfl rfl rfl rfl hd ?_; intro _; go_frame; refine hK _ ?_; clear hK K)
                | (refine nq_same ?_; intro w' hw'; go_simp; (try go_bits); refine hK _ ?_; clear hK K hw' w')
                | (refine nq_same ?_; intro w' hw'; go_simp; rw [if_pos (by omega)]; go_simp; (try go_bits); refine hK _ ?_; clear hK K hw' w')
                | (go_simp; refine hK _ ?_; clear hK K))
            refine nqW_nil (hR _ ?_)
            clear hc hb' hb2 hd hR
            intro w' hw'
            simp only [List.drop]
            gi_wp2_with (first | (refine wpListIn_flt (op := .quo) rfl rfl rfl rfl rfl ?_; intro K hK _ n2; go_frame; refine hK _ _ ?_; clear hK K) | (refine wpListIn_flt (op := .sub) rfl rfl rfl rfl rfl ?_; intro K hK s' n'; go_frame; refine hK _ _ ?_; clear hK K) | (refine wpListIn_flt rfl rfl rfl rfl rfl ?_; intro K hK _ _; go_frame; refine hK _ _ ?_; clear hK K))
            have hB3 : Below wr.heap.size wr (w'.drewN (n2 + n')) := below_drewN (n2 + n') (below_step hb1 hb1.size hw')
            have hR3 := hA.below _ _ hRs hB3
            have hJ3 := hJ _ _ _ none hJs (grown_of_below hB3) (fun r e => by cases e)
            obtain ⟨fn, tmps, assign, body, hy, hR4⟩ := hY pre (k + 1, s') (w'.drewN (n2 + n')) hJ3 (by have := congrArg List.length HPre.out; simp at this; omega)
            dsimp only [pelV] at hy
            rw [HP.out] at hy
            simp only [Int.natCast_add, Int.natCast_one] at hy
            rw [hy]
            gi_wp2
            refine hR4.mono ?_
            rintro e W3 (⟨rfl, hJ4, hk4⟩ | ⟨rfl, hJx4⟩)
            · gi_wp2
              go_roundw
              case rel =>
                have := HNext.out W3 s' hJ4 (hA.keep _ _ hR3 hk4)
                rw [HP.out] at this
                exact this
              case measure => simp [intOf]; omega
            · gi_wp2
              refine bodyPost_ret (results_none rfl _ _ _) rfl ?_
              exact ⟨⟨_, rfl⟩, .inr ⟨_, ⟨HZ.out, HStop.out _⟩, hJx4⟩⟩
          · have hp2 : pivQ ds es x (k + 1 + 1) = 103582791429521408 := by rw [hp]; unfold grd; rw [hz]; rfl
            have HP := Lib.hid hp2
            clear hp hp2 h0
            have s' : Nat := 0
            gi_wp2_with (first | (refine wpListIn_flt (op := .sub) rfl rfl rfl rfl rfl ?_; intro K hK _ n1; go_frame; refine hK _ _ ?_; clear hK K) | (refine wpListIn_flt rfl rfl rfl rfl rfl ?_; intro K hK _ _; go_frame; refine hK _ _ ?_; clear hK K))
            have hb1 : Below wr.heap.size wr (wr.drewN n1) := below_drewN n1 (Below.refl _ _)
            obtain ⟨f1, f2, f3⟩ := ((hA.bt _ hRs).below hb1).facts
            have c3 := ((below_cells hb1).1 _ (eo + k) heb).trans c2
            have heb' : eb < (wr.drewN n1).heap.size := Nat.lt_of_lt_of_le heb hb1.size
            clear e1 e2 e3 e4 e5 e6 c1 c2 heb hbm hbm2
            generalize wr.drewN n1 = W1 at *
            refine wpIn_region_nqbW 13 (fun _ _ _ => False) (by kernel_rfl) (by kernel_rfl) ?_
            intro C R hc hb' hb2 hd hR
            simp only [List.take_succ_cons, List.take_zero]
            repeat (
              first
                | (refine nqW_plain (fun K hK => ?_))
                | (refine nqW_step (fun K hK => ?_); go_simp)
              first
                | (refine nq_move rfl ?_; go_simp; refine hK _ ?_; clear hK K)
                | (refine nq_assign rfl ?_; go_simp; refine hK _ ?_; clear hK K)
                | (refine nq_flt rfl rfl rfl rfl hd ?_; intro _; go_frame; refine hK _ ?_; clear hK K)
                | (refine nq_same ?_; intro w' hw'; go_simp; (try go_bits); refine hK _ ?_; clear hK K hw' w')
                | (refine nq_same ?_; intro w' hw'; go_simp; rw [if_pos (by omega)]; go_simp; (try go_bits); refine hK _ ?_; clear hK K hw' w')
                | (go_simp; refine hK _ ?_; clear hK K))
            refine nqW_nil (hR _ ?_)
            clear hc hb' hb2 hd hR
            intro w' hw'
            simp only [List.drop]
            gi_wp2_with (first | (refine wpListIn_flt (op := .quo) rfl rfl rfl rfl rfl ?_; intro K hK _ n2; go_frame; refine hK _ _ ?_; clear hK K) | (refine wpListIn_flt (op := .sub) rfl rfl rfl rfl rfl ?_; intro K hK _ n'; go_frame; refine hK _ _ ?_; clear hK K) | (refine wpListIn_flt rfl rfl rfl rfl rfl ?_; intro K hK _ _; go_frame; refine hK _ _ ?_; clear hK K))
            have hB3 : Below wr.heap.size wr (w'.drewN (n2 + n')) := below_drewN (n2 + n') (below_step hb1 hb1.size hw')
            have hR3 := hA.below _ _ hRs hB3
            have hJ3 := hJ _ _ _ none hJs (grown_of_below hB3) (fun r e => by cases e)
            obtain ⟨fn, tmps, assign, body, hy, hR4⟩ := hY pre (k + 1, s') (w'.drewN (n2 + n')) hJ3 (by have := congrArg List.length HPre.out; simp at this; omega)
            dsimp only [pelV] at hy
            rw [HP.out, raw_of_not (by kernel_rfl)] at hy
            simp only [Int.natCast_add, Int.natCast_one] at hy
            rw [hy]
            gi_wp2
            refine hR4.mono ?_
            rintro e W3 (⟨rfl, hJ4, hk4⟩ | ⟨rfl, hJx4⟩)
            · gi_wp2
              go_roundw
              case rel =>
                have := HNext.out W3 s' hJ4 (hA.keep _ _ hR3 hk4)
                rw [HP.out, raw_of_not (by kernel_rfl)] at this
                exact this
              case measure => simp [intOf]; omega
            · gi_wp2
              refine bodyPost_ret (results_none rfl _ _ _) rfl ?_
              exact ⟨⟨_, rfl⟩, .inr ⟨_, ⟨HZ.out, HStop.out _⟩, hJx4⟩⟩
      · obtain rfl : i = ds.length := by omega
        have HPre := Lib.hid hpre
        clear hpre
        gi_wp2
        go_end0
        exact ⟨⟨_, rfl⟩, .inl ⟨pre, by rw [HPre.out, HLr.out], hJs⟩⟩
end Go.Proofs.Ytogkmddhgfenkaa
