/- Package sturm: the range over the pivots. -/
import Derived.Test.YtdljnhdhigbefaaZz18
import Derived.Test.YtdljnhdhigbefaaZz4
namespace Go.Proofs.Ytdljnhdhigbefaa
open Go Go.RowKit Go.Shelf
attribute [local go_sem] Oper.semAt_some
set_option maxRecDepth 100000

/-- What is put for a nought. -/
def grd (q : Nat) : Nat := if feq q 0 then 103582791429521408 else q
/-- The pivots; ahead of the first one: nought. -/
def pivQ (ds es : List Nat) (x : Nat) : Nat → Nat
  | 0 => 0
  | 1 => grd (fsub (ds.getD 0 0) x)
  | i + 2 => grd (fsub (fsub (ds.getD (i + 1) 0) x) (fdiv (fmul (es.getD i 0) (es.getD i 0)) (pivQ ds es x (i + 1))))
/-- A pivot's number, and its NaN's bits. -/
def pelV (ds es : List Nat) (x : Nat) (y : Nat × Nat) : Array Value := #[.int .i64 (y.1 : Int), .float .f64 (raw (pivQ ds es x (y.1 + 1)) y.2)]

theorem fls_one (W : World) (T : TypeId) (x sx : Nat) : Fls (W.alloc (.cells #[.float .f64 (raw x sx)] T)) (some ⟨W.heap.size, 0, none⟩) [x] := fun _ => ⟨W.heap.size, 0, rfl, by simp, fun i v hi => by
  have hb : Box (W.alloc (.cells #[.float .f64 (raw x sx)] T)) W.heap.size [.float .f64 (raw x sx)] := Box.newA W [_] T rfl
  cases i with
  | zero => simp at hi; subst hi; exact ⟨sx, by rw [hb.cell]; rfl⟩
  | succ i => simp at hi⟩
/-- What the range holds on to. -/
structure PivR (ds es : List Nat) (x sx : Nat) (da ea : Option Addr) (dc ec Bt Bx : Nat) (R : World → Prop) (Kp : World → World → Prop) : Prop where
  bt : ∀ W, R W → Box W Bt [.slice da ds.length dc, .slice ea es.length ec]
  bx : ∀ W, R W → Box W Bx [.float .f64 (raw x sx)]
  fd : ∀ W, R W → Fls W da ds
  fe : ∀ W, R W → Fls W ea es
  keep : ∀ A B, R A → Kp A B → R B
  below : ∀ A B, R A → Below A.heap.size A B → R B

set_option maxHeartbeats 8000000 in
theorem Piv_stops (n : Nat) (hn : 1 ≤ n) (ds es : List Nat) (x sx : Nat) (da ea : Option Addr) (dc ec Bt Bx : Nat) (R : World → Prop) (Kp : World → World → Prop) (hA : PivR ds es x sx da ea dc ec Bt Bx R Kp) (hl : ds.length ≤ maxLen) (hl' : es.length ≤ maxLen) (w : World) (hw : R w) :
    SeqStopsK Fence.wide n Try.prog 128 #[.pointer (some ⟨Bt, 0, none⟩), .pointer (some ⟨Bx, 0, none⟩)] (pelV ds es x) Kp (fun xs => xs.map Prod.fst = if askS ds es [x] = 0 then List.range ds.length else []) (fun xs => askS ds es [x] = 0 ∧ ∃ k, xs.map Prod.fst = List.range k) ds.length w := by
  obtain ⟨Lr, hLr⟩ : ∃ Lr, Lr = if askS ds es [x] = 0 then List.range ds.length else [] := ⟨_, rfl⟩
  rw [← hLr]
  intro l J Jx W hW hJ hJx hY h0
  have hRW : R W := hA.below _ _ hw hW
  have b := (hA.bt _ hRW).facts
  have b' := (hA.bx _ hRW).facts
  obtain ⟨b1, b2, b3⟩ := b
  obtain ⟨b4, b5, b6⟩ := b'
  have hk := ask13_any (W.alloc (.cells #[.float .f64 (raw x sx)] 40)) da ea (some ⟨W.heap.size, 0, none⟩) ds es [x] dc ec 1 ((hA.fd _ hRW).below ((Below.refl _ _).alloc (Nat.le_refl _) _)) ((hA.fe _ hRW).below ((Below.refl _ _).alloc (Nat.le_refl _) _)) (fls_one _ _ _ _) hl hl' (by unfold maxLen; simp)
  have HK := Lib.hid hk
  clear hk
  refine callsIn_of_wp Try.func128 rfl trivial ?_ rfl
  simp only [Try.ntmps128, List.size_toArray, List.length_cons, List.length_nil, Nat.reduceAdd, Nat.reduceSub, Array.replicate_succ, Array.replicate_zero, List.push_toArray, List.append_toArray, List.nil_append, List.cons_append]
  gi_wp2_with fail
  refine ⟨trivial, (callsIn_wide.2 HK.out).mono ?_⟩
  rintro e w2 ⟨rfl, hb2⟩
  have hA0 : Below W.heap.size W (W.alloc (.cells #[.float .f64 (raw x sx)] 40)) := (Below.refl _ _).alloc (Nat.le_refl _) _
  have hb3 := below_step hA0 hA0.size hb2
  have hR2 := hA.below _ _ hRW hb3
  have hJ2 := hJ _ _ _ none h0 (grown_of_below hb3) (fun r e => by cases e)
  clear HK hA0 b1 b2 b3 b4 b5 b6 h0
  by_cases hz : askS ds es [x] = 0
  case neg =>
    rw [if_neg hz] at hLr
    have t1 : (askS ds es [x] != 0) = true := by simp [hz]
    generalize askS ds es [x] = q at *
    have HLr := Lib.hid hLr
    clear hz hLr
    gi_wp2
    refine bodyPost_ret (results_none rfl _ _ _) rfl ?_
    exact ⟨⟨_, rfl⟩, .inl ⟨[], HLr.out.symm, hJ2⟩⟩
  case pos =>
    rw [if_pos hz] at hLr
    have HZ := Lib.hid hz
    rw [hz]
    have HLr := Lib.hid hLr
    clear hz hLr
    have hlen : es.length = ds.length - 1 := by
      have := HZ.out
      unfold askS at this
      cases hm : mayS ds.length es.length
      · rw [hm] at this; cases this
      · unfold mayS at hm; simp at hm; exact hm.2
    have hl1 : ds.length ≤ 9223372036854775807 := by unfold maxLen at hl; omega
    have HLen := Lib.hid hlen
    clear hl hl' hlen
    obtain ⟨b1, b2, b3⟩ := (hA.bt _ hR2).facts
    gi_wp2
    clear b1 b2 b3 hb2 hb3
    gi_loopw [4, 17] (fun s4 s17 wr => ∃ (i : Nat) (pre : List (Nat × Nat)), i ≤ ds.length ∧ s17 = .int .i64 i ∧ pre.map Prod.fst = List.range i ∧ IsF s4 (pivQ ds es x i) ∧ J pre wr ∧ R wr) (fun _ s17 _ => ds.length - (intOf s17).toNat)
    case atStart => exact ⟨0, [], Nat.zero_le _, rfl, rfl, IsF.const (by kernel_rfl), hJ2, hR2⟩
    case round =>
      obtain ⟨i, pre, hi, rfl, hpre, ⟨sq, rfl⟩, hJs, hRs⟩ := hrel
      by_cases hlt : i < ds.length
      · obtain ⟨db, do', s1, rfl, hdb, c1⟩ := (hA.fd _ hRs).at hlt
        obtain ⟨e1, e2, e3⟩ := (hA.bt _ hRs).facts
        obtain ⟨e4, e5, e6⟩ := (hA.bx _ hRs).facts
        have HPre := Lib.hid hpre
        clear hpre hJ2 hR2
        have hnext : ∀ (W' : World) (s' : Nat), J (pre ++ [(i, s')]) W' → R W' → ∃ (k : Nat) (pre : List (Nat × Nat)), k ≤ ds.length ∧ Value.int .i64 ((i : Int) + 1) = .int .i64 k ∧ pre.map Prod.fst = List.range k ∧ IsF (.float .f64 (raw (pivQ ds es x (i + 1)) s')) (pivQ ds es x k) ∧ J pre W' ∧ R W' := fun W' s' hj hr => ⟨i + 1, _, hlt, rfl, by rw [List.map_append, HPre.out, List.range_succ]; rfl, ⟨s', rfl⟩, hj, hr⟩
        have HNext := Lib.hid hnext
        have HStop : Hid (∀ s' : Nat, ∃ k, (pre ++ [(i, s')]).map Prod.fst = List.range k) := fun s' => ⟨i + 1, by rw [List.map_append, HPre.out, List.range_succ]; rfl⟩
        clear hnext
        rcases Nat.eq_zero_or_pos i with h0 | h0
        · have t0 : decide ((0 : Int) < (i : Int)) = false := by simp; omega
          have t0' : decide (0 < i) = false := by simp; omega
          have hp : pivQ ds es x (i + 1) = grd (fsub (ds.getD i 0) x) := by rw [h0]; rfl
          generalize ds.getD i 0 = d0 at *
          cases hz : feq (fsub d0 x) 0
          · have hp2 : pivQ ds es x (i + 1) = fsub d0 x := by rw [hp]; unfold grd; rw [hz]; rfl
            have HP := Lib.hid hp2
            clear hp hp2 h0
            gi_wp2_with (first | (refine wpListIn_flt (op := .sub) rfl rfl rfl rfl rfl ?_; intro K hK s' n'; go_frame; refine hK _ _ ?_; clear hK K) | (refine wpListIn_flt rfl rfl rfl rfl rfl ?_; intro K hK _ _; go_frame; refine hK _ _ ?_; clear hK K))
            have hB3 : Below wr.heap.size wr (wr.drewN n') := below_drewN n' (Below.refl _ _)
            have hR3 := hA.below _ _ hRs hB3
            have hJ3 := hJ _ _ _ none hJs (grown_of_below hB3) (fun r e => by cases e)
            obtain ⟨fn, tmps, assign, body, hy, hR4⟩ := hY pre (i, s') (wr.drewN n') hJ3 (by have := congrArg List.length HPre.out; simp at this; omega)
            dsimp only [pelV] at hy
            rw [HP.out] at hy
            rw [hy]
            gi_wp2
            refine hR4.mono ?_
            rintro e W3 (⟨rfl, hJ4, hk4⟩ | ⟨rfl, hJx4⟩)
            · gi_wp2
              go_roundw
              case rel =>
                have := HNext.out W3 s' hJ4 (hA.keep _ _ hR3 hk4)
                rw [HP.out] at this
                exact this
              case measure => simp [intOf]; omega
            · gi_wp2
              refine bodyPost_ret (results_none rfl _ _ _) rfl ?_
              exact ⟨⟨_, rfl⟩, .inr ⟨_, ⟨HZ.out, HStop.out _⟩, hJx4⟩⟩
          · have hp2 : pivQ ds es x (i + 1) = 103582791429521408 := by rw [hp]; unfold grd; rw [hz]; rfl
            have HP := Lib.hid hp2
            clear hp hp2 h0
            have s' : Nat := 0
            gi_wp2_with (first | (refine wpListIn_flt (op := .sub) rfl rfl rfl rfl rfl ?_; intro K hK _ n'; go_frame; refine hK _ _ ?_; clear hK K) | (refine wpListIn_flt rfl rfl rfl rfl rfl ?_; intro K hK _ _; go_frame; refine hK _ _ ?_; clear hK K))
            have hB3 : Below wr.heap.size wr (wr.drewN n') := below_drewN n' (Below.refl _ _)
            have hR3 := hA.below _ _ hRs hB3
            have hJ3 := hJ _ _ _ none hJs (grown_of_below hB3) (fun r e => by cases e)
            obtain ⟨fn, tmps, assign, body, hy, hR4⟩ := hY pre (i, s') (wr.drewN n') hJ3 (by have := congrArg List.length HPre.out; simp at this; omega)
            dsimp only [pelV] at hy
            rw [HP.out, raw_of_not (by kernel_rfl)] at hy
            rw [hy]
            gi_wp2
            refine hR4.mono ?_
            rintro e W3 (⟨rfl, hJ4, hk4⟩ | ⟨rfl, hJx4⟩)
            · gi_wp2
              go_roundw
              case rel =>
                have := HNext.out W3 s' hJ4 (hA.keep _ _ hR3 hk4)
                rw [HP.out, raw_of_not (by kernel_rfl)] at this
                exact this
              case measure => simp [intOf]; omega
            · gi_wp2
              refine bodyPost_ret (results_none rfl _ _ _) rfl ?_
              exact ⟨⟨_, rfl⟩, .inr ⟨_, ⟨HZ.out, HStop.out _⟩, hJx4⟩⟩
        · obtain ⟨k, rfl⟩ : ∃ k, i = k + 1 := ⟨i - 1, by omega⟩
          have hl2 : k < es.length := by have := HLen.out; omega
          obtain ⟨eb, eo, s2, rfl, heb, c2⟩ := (hA.fe _ hRs).at hl2
          have hp : pivQ ds es x (k + 1 + 1) = grd (fsub (fsub (ds.getD (k + 1) 0) x) (fdiv (fmul (es.getD k 0) (es.getD k 0)) (pivQ ds es x (k + 1)))) := rfl
          generalize ds.getD (k + 1) 0 = d0 at *
          generalize es.getD k 0 = g0 at *
          generalize pivQ ds es x (k + 1) = q0 at *
          have hbm := lt_more heb
          have hbm2 := lt_more e1
          cases hz : feq (fsub (fsub d0 x) (fdiv (fmul g0 g0) q0)) 0
          · have hp2 : pivQ ds es x (k + 1 + 1) = fsub (fsub d0 x) (fdiv (fmul g0 g0) q0) := by rw [hp]; unfold grd; rw [hz]; rfl
            have HP := Lib.hid hp2
            clear hp hp2 h0
            gi_wp2_with (first | (refine wpListIn_flt (op := .sub) rfl rfl rfl rfl rfl ?_; intro K hK _ n1; go_frame; refine hK _ _ ?_; clear hK K) | (refine wpListIn_flt rfl rfl rfl rfl rfl ?_; intro K hK _ _; go_frame; refine hK _ _ ?_; clear hK K))
            have hb1 : Below wr.heap.size wr (wr.drewN n1) := below_drewN n1 (Below.refl _ _)
            obtain ⟨f1, f2, f3⟩ := ((hA.bt _ hRs).below hb1).facts
            have c3 := ((below_cells hb1).1 _ (eo + k) heb).trans c2
            have heb' : eb < (wr.drewN n1).heap.size := Nat.lt_of_lt_of_le heb hb1.size
            clear e1 e2 e3 e4 e5 e6 c1 c2 heb hbm hbm2
            generalize wr.drewN n1 = W1 at *
            refine wpIn_region_nqbW 13 (fun _ _ _ => False) (by kernel_rfl) (by kernel_rfl) ?_
            intro C R hc hb' hb2 hd hR
            simp only [List.take_succ_cons, List.take_zero]
            repeat (
              first
                | (refine nqW_plain (fun K hK => ?_))
                | (refine nqW_step (fun K hK => ?_); go_simp)
              first
                | (refine nq_move rfl ?_; go_simp; refine hK _ ?_; clear hK K)
                | (refine nq_assign rfl ?_; go_simp; refine hK _ ?_; clear hK K)
                | (refine nq_flt rfl rfl rfl rfl hd ?_; intro _; go_frame; refine hK _ ?_; clear hK K)
                | (refine nq_same ?_; intro w' hw'; go_simp; (try go_bits); refine hK _ ?_; clear hK K hw' w')
                | (refine nq_same ?_; intro w' hw'; go_simp; rw [if_pos (by omega)]; go_simp; (try go_bits); refine hK _ ?_; clear hK K hw' w')
                | (go_simp; refine hK _ ?_; clear hK K))
            refine nqW_nil (hR _ ?_)
            clear hc hb' hb2 hd hR
            intro w' hw'
            simp only [List.drop]
            gi_wp2_with (first | (refine wpListIn_flt (op := .quo) rfl rfl rfl rfl rfl ?_; intro K hK _ n2; go_frame; refine hK _ _ ?_; clear hK K) | (refine wpListIn_flt (op := .sub) rfl rfl rfl rfl rfl ?_; intro K hK s' n'; go_frame; refine hK _ _ ?_; clear hK K) | (refine wpListIn_flt rfl rfl rfl rfl rfl ?_; intro K hK _ _; go_frame; refine hK _ _ ?_; clear hK K))
            have hB3 : Below wr.heap.size wr (w'.drewN (n2 + n')) := below_drewN (n2 + n') (below_step hb1 hb1.size hw')
            have hR3 := hA.below _ _ hRs hB3
            have hJ3 := hJ _ _ _ none hJs (grown_of_below hB3) (fun r e => by cases e)
            obtain ⟨fn, tmps, assign, body, hy, hR4⟩ := hY pre (k + 1, s') (w'.drewN (n2 + n')) hJ3 (by have := congrArg List.length HPre.out; simp at this; omega)
            dsimp only [pelV] at hy
            rw [HP.out] at hy
            simp only [Int.natCast_add, Int.natCast_one] at hy
            rw [hy]
            gi_wp2
            refine hR4.mono ?_
            rintro e W3 (⟨rfl, hJ4, hk4⟩ | ⟨rfl, hJx4⟩)
            · gi_wp2
              go_roundw
              case rel =>
                have := HNext.out W3 s' hJ4 (hA.keep _ _ hR3 hk4)
                rw [HP.out] at this
                exact this
              case measure => simp [intOf]; omega
            · gi_wp2
              refine bodyPost_ret (results_none rfl _ _ _) rfl ?_
              exact ⟨⟨_, rfl⟩, .inr ⟨_, ⟨HZ.out, HStop.out _⟩, hJx4⟩⟩
          · have hp2 : pivQ ds es x (k + 1 + 1) = 103582791429521408 := by rw [hp]; unfold grd; rw [hz]; rfl
            have HP := Lib.hid hp2
            clear hp hp2 h0
            have s' : Nat := 0
            gi_wp2_with (first | (refine wpListIn_flt (op := .sub) rfl rfl rfl rfl rfl ?_; intro K hK _ n1; go_frame; refine hK _ _ ?_; clear hK K) | (refine wpListIn_flt rfl rfl rfl rfl rfl ?_; intro K hK _ _; go_frame; refine hK _ _ ?_; clear hK K))
            have hb1 : Below wr.heap.size wr (wr.drewN n1) := below_drewN n1 (Below.refl _ _)
            obtain ⟨f1, f2, f3⟩ := ((hA.bt _ hRs).below hb1).facts
            have c3 := ((below_cells hb1).1 _ (eo + k) heb).trans c2
            have heb' : eb < (wr.drewN n1).heap.size := Nat.lt_of_lt_of_le heb hb1.size
            clear e1 e2 e3 e4 e5 e6 c1 c2 heb hbm hbm2
            generalize wr.drewN n1 = W1 at *
            refine wpIn_region_nqbW 13 (fun _ _ _ => False) (by kernel_rfl) (by kernel_rfl) ?_
            intro C R hc hb' hb2 hd hR
            simp only [List.take_succ_cons, List.take_zero]
            repeat (
              first
                | (refine nqW_plain (fun K hK => ?_))
                | (refine nqW_step (fun K hK => ?_); go_simp)
              first
                | (refine nq_move rfl ?_; go_simp; refine hK _ ?_; clear hK K)
                | (refine nq_assign rfl ?_; go_simp; refine hK _ ?_; clear hK K)
                | (refine nq_flt rfl rfl rfl rfl hd ?_; intro _; go_frame; refine hK _ ?_; clear hK K)
                | (refine nq_same ?_; intro w' hw'; go_simp; (try go_bits); refine hK _ ?_; clear hK K hw' w')
                | (refine nq_same ?_; intro w' hw'; go_simp; rw [if_pos (by omega)]; go_simp; (try go_bits); refine hK _ ?_; clear hK K hw' w')
                | (go_simp; refine hK _ ?_; clear hK K))
            refine nqW_nil (hR _ ?_)
            clear hc hb' hb2 hd hR
            intro w' hw'
            simp only [List.drop]
            gi_wp2_with (first | (refine wpListIn_flt (op := .quo) rfl rfl rfl rfl rfl ?_; intro K hK _ n2; go_frame; refine hK _ _ ?_; clear hK K) | (refine wpListIn_flt (op := .sub) rfl rfl rfl rfl rfl ?_; intro K hK _ n'; go_frame; refine hK _ _ ?_; clear hK K) | (refine wpListIn_flt rfl rfl rfl rfl rfl ?_; intro K hK _ _; go_frame; refine hK _ _ ?_; clear hK K))
            have hB3 : Below wr.heap.size wr (w'.drewN (n2 + n')) := below_drewN (n2 + n') (below_step hb1 hb1.size hw')
            have hR3 := hA.below _ _ hRs hB3
            have hJ3 := hJ _ _ _ none hJs (grown_of_below hB3) (fun r e => by cases e)
            obtain ⟨fn, tmps, assign, body, hy, hR4⟩ := hY pre (k + 1, s') (w'.drewN (n2 + n')) hJ3 (by have := congrArg List.length HPre.out; simp at this; omega)
            dsimp only [pelV] at hy
            rw [HP.out, raw_of_not (by kernel_rfl)] at hy
            simp only [Int.natCast_add, Int.natCast_one] at hy
            rw [hy]
            gi_wp2
            refine hR4.mono ?_
            rintro e W3 (⟨rfl, hJ4, hk4⟩ | ⟨rfl, hJx4⟩)
            · gi_wp2
              go_roundw
              case rel =>
                have := HNext.out W3 s' hJ4 (hA.keep _ _ hR3 hk4)
                rw [HP.out, raw_of_not (by kernel_rfl)] at this
                exact this
              case measure => simp [intOf]; omega
            · gi_wp2
              refine bodyPost_ret (results_none rfl _ _ _) rfl ?_
              exact ⟨⟨_, rfl⟩, .inr ⟨_, ⟨HZ.out, HStop.out _⟩, hJx4⟩⟩
      · obtain rfl : i = ds.length := by omega
        have HPre := Lib.hid hpre
        clear hpre
        gi_wp2
        go_end0
        exact ⟨⟨_, rfl⟩, .inl ⟨pre, by rw [HPre.out, HLr.out], hJs⟩⟩
end Go.Proofs.Ytdljnhdhigbefaa

/- Package sturm: how many pivots are below nought. -/
namespace Go.Proofs.Ytdljnhdhigbefaa
open Go Go.RowKit Go.Shelf
attribute [local go_sem] Oper.semAt_some
set_option maxRecDepth 100000

theorem piv_loop {g : Operand} {ps : Array Tmp} {assign body : Code} {Q : Exit → Act → World → Prop} {T : Array Value} {dd : List Deferred} {w : World} (n : Nat) (hn : 3 ≤ n) {ds es : List Nat} {x sx : Nat} {da ea : Option Addr} {dc ec Bt Bx : Nat} {R : World → Prop}
    (hA : PivR ds es x sx da ea dc ec Bt Bx R (ImpK R)) (hl : ds.length ≤ maxLen) (hl' : es.length ≤ maxLen) (hRw : R w) (hRs : ∀ A B, R A → StillC w.heap.size A B → R B)
    (hg : (Act.mk T dd).eval g = .func (.func 128) #[] #[.pointer (some ⟨Bt, 0, none⟩), .pointer (some ⟨Bx, 0, none⟩)]) (hps : ps.size = 2)
    (I : List (Nat × Nat) → World → Prop) (Ix : Code → List (Nat × Nat) → World → Prop)
    (hI : ∀ pre A, I pre A → w.heap.size ≤ A.heap.size) (hIs : ∀ pre A B, I pre A → StillC w.heap.size A B → I pre B)
    (hIx : ∀ c pre A, Ix c pre A → w.heap.size ≤ A.heap.size) (hIxs : ∀ c pre A B, Ix c pre A → StillC w.heap.size A B → Ix c pre B) (h0 : I [] w)
    (upd : Array Value → Nat × Nat → Array Value)
    (hassign : ∀ (l : Nat) (y : Nat × Nat) (W : World) (K : Act → World → Prop), K ⟨upd T y, []⟩ W →
      assign.wpIn (Fence.wide.inRound l) (n - 1 - 1) Try.prog (Exit.then K (fun _ _ _ => False)) { tmps := (ps.zip (pelV ds es x y)).foldl (fun t (p, v) => t.setIfInBounds p v) T, defers := [] } W)
    (hbody : ∀ (l : Nat) (pre : List (Nat × Nat)) (y : Nat × Nat) (W : World), I pre W → pre.length < ds.length →
      body.wpIn (Fence.wide.inRound l) (n - 1 - 1) Try.prog (ownPostG w.heap.size (ImpK R) I Ix (pre ++ [y]) W) ⟨upd T y, []⟩ W)
    (hdone : ∀ (D : Nat) (xs : List (Nat × Nat)) (W : World), w.heap.size ≤ D → (xs.map Prod.fst = if askS ds es [x] = 0 then List.range ds.length else []) → I xs W → W.heap[D]? = some (.deferred (some [])) → Q .normal ⟨T, { target := .collected D, args := #[] } :: dd⟩ W)
    (hstop : ∀ (D : Nat) (c : Code) (pre : List (Nat × Nat)) (W : World), w.heap.size ≤ D → (askS ds es [x] = 0 ∧ ∃ k, pre.map Prod.fst = List.range k) → Ix c pre W → W.heap[D]? = some (.deferred (some [])) → c.wpIn Fence.wide n Try.prog Q ⟨T, { target := .collected D, args := #[] } :: dd⟩ W) :
    (Code.rangeFunc g ps assign body).wpIn Fence.wide n Try.prog Q ⟨T, dd⟩ w :=
  wpIn_rangeFunc_ownG rfl (by omega) hg trivial (enters_of Try.func128 (by kernel_rfl) rfl)
    (Piv_stops (n - 1) (by omega) ds es x sx da ea dc ec Bt Bx R (ImpK R) hA hl hl' w hRw) (fun h k => h.t k) (fun W l o o' hl ho hc _ => fun hR => hRs _ _ hR (StillC.put hl ho hc)) (Below.refl _ _) (fun _ => by rw [hps]; rfl)
    I Ix (ownFrom_still hI hIs) (fun c => ownFrom_still (hIx c) (hIxs c)) h0 (fun y => ⟨upd T y, []⟩) hassign hbody hdone hstop

/-- All cells of W1 are as they were, but for one block. -/
structure CR (W1 : World) (nb : Nat) (W : World) : Prop where
  keep : ∀ (k : Nat) (o : Obj), W1.heap[k]? = some o → o.isCells = true → k ≠ nb → W.heap[k]? = some o
  size : W1.heap.size ≤ W.heap.size
section
variable {W1 A B : World} {nb : Nat}
theorem CR.refl : CR W1 nb W1 := ⟨fun _ _ h _ _ => h, Nat.le_refl _⟩
theorem CR.below (h : CR W1 nb A) (hb : Below A.heap.size A B) : CR W1 nb B := ⟨fun k o h1 h2 h3 => by have := h.keep k o h1 h2 h3; rw [hb.block k (Array.getElem?_eq_some_iff.1 this).1]; exact this, Nat.le_trans h.size hb.size⟩
theorem CR.still {b : Nat} (h : CR W1 nb A) (hs : StillC b A B) : CR W1 nb B := ⟨fun k o h1 h2 h3 => hs.2 k o (h.keep k o h1 h2 h3) h2, Nat.le_trans h.size hs.1.size⟩
theorem CR.bel (h : CR W1 nb A) (hb : Bel A.heap.size nb A B) : CR W1 nb B := ⟨fun k o h1 h2 h3 => by have := h.keep k o h1 h2 h3; rw [hb.block k (Array.getElem?_eq_some_iff.1 this).1 h3]; exact this, Nat.le_trans h.size hb.size⟩
theorem CR.box (h : CR W1 nb A) {n : Nat} {cs : List Value} (hb : Box W1 n cs) (hn : n ≠ nb) : Box A n cs := by
  obtain ⟨T, hT⟩ := hb
  exact ⟨T, h.keep _ _ hT rfl hn⟩
theorem CR.cell (h : CR W1 nb A) {b o : Nat} {v : Value} (hc : W1.cell? ⟨b, o, none⟩ = some v) (hn : b ≠ nb) : A.cell? ⟨b, o, none⟩ = some v := by
  unfold World.cell? at hc ⊢
  cases ho : W1.heap[b]? with
  | none => rw [show W1.heap[(⟨b, o, none⟩ : Addr).block]? = W1.heap[b]? from rfl, ho] at hc; cases hc
  | some ob =>
    rw [show W1.heap[(⟨b, o, none⟩ : Addr).block]? = W1.heap[b]? from rfl, ho] at hc
    cases ob with
    | cells cs t fz =>
      rw [show A.heap[(⟨b, o, none⟩ : Addr).block]? = A.heap[b]? from rfl, h.keep b _ ho rfl hn]
      exact hc
    | _ => cases hc
theorem CR.fls (h : CR W1 nb A) {da : Option Addr} {ds : List Nat} (hf : Fls W1 da ds) (hn : ds ≠ [] → ∀ b o, da = some ⟨b, o, none⟩ → b ≠ nb) : Fls A da ds := fun hz => by
  obtain ⟨b, o, e, hb, hc⟩ := hf hz
  refine ⟨b, o, e, Nat.lt_of_lt_of_le hb h.size, fun i v hi => ?_⟩
  obtain ⟨s, h1⟩ := hc i v hi
  exact ⟨s, h.cell h1 (hn hz b o e)⟩
end
end Go.Proofs.Ytdljnhdhigbefaa

/- Package sturm: counts. -/
namespace Go.Proofs.Ytdljnhdhigbefaa
open Go Go.RowKit Go.Shelf
attribute [local go_sem] Oper.semAt_some
set_option maxRecDepth 100000

set_option maxHeartbeats 1000000 in
theorem Pivots_any (w : World) (da ea : Option Addr) (n dc m ec x : Nat) :
    Calls Try.prog 125 #[.agg #[.slice da n dc, .slice ea m ec], .float .f64 x] w fun e w' => e = .returned (.func (.func 128) #[] #[.pointer (some ⟨w.heap.size, 0, none⟩), .pointer (some ⟨w.heap.size + 1, 0, none⟩)]) ∧ w' = (w.alloc (.cells #[.slice da n dc, .slice ea m ec] 54)).alloc (.cells #[.float .f64 x] 40) := by
  go_enter Try.func125, Try.ntmps125
  go_wp2
  go_ret
  exact ⟨rfl, rfl⟩

/-- How many of the first k pivots are below nought. -/
def cntK (ds es : List Nat) (x : Nat) (k : Nat) : Nat := ((List.range k).filter fun i => flt (pivQ ds es x (i + 1)) 0).length
def cntN (ds es : List Nat) (x : Nat) : Nat := if askS ds es [x] = 0 then cntK ds es x ds.length else 0
def cntL (ds es : List Nat) (x : Nat) (l : List Nat) : Nat := (l.filter fun i => flt (pivQ ds es x (i + 1)) 0).length

theorem cntL_snoc (ds es : List Nat) (x : Nat) (l : List Nat) (i : Nat) : cntL ds es x (l ++ [i]) = cntL ds es x l + (if flt (pivQ ds es x (i + 1)) 0 then 1 else 0) := by
  unfold cntL
  rw [List.filter_append, List.length_append]
  congr 1
  rw [List.filter_cons]
  cases flt (pivQ ds es x (i + 1)) 0 <;> rfl
theorem cntL_le (ds es : List Nat) (x : Nat) (l : List Nat) : cntL ds es x l ≤ l.length := List.length_filter_le _ _
set_option maxHeartbeats 4000000 in
theorem count_any (w : World) (da ea : Option Addr) (ds es : List Nat) (dc ec : Nat) (x sx : Nat) (hD : Fls w da ds) (hE : Fls w ea es) (hl : ds.length ≤ 1000) (hl' : es.length ≤ 1000) :
    Calls Try.prog 114 #[.agg #[.slice da ds.length dc, .slice ea es.length ec], .float .f64 (raw x sx)] w fun e w' => e = .returned (.int .i64 (cntN ds es x)) ∧ Below w.heap.size w w' := by
  have hm : ds.length ≤ maxLen := by unfold maxLen; omega
  have hm' : es.length ≤ maxLen := by unfold maxLen; omega
  refine (callsIn_wide (n := 9)).1 ?_
  refine callsIn_of_wp_marks Try.func114 rfl trivial ?_ rfl
  simp only [Try.ntmps114, List.size_toArray, List.length_cons, List.length_nil, Nat.reduceAdd, Nat.reduceSub, Array.replicate_succ, Array.replicate_zero, List.push_toArray, List.append_toArray, List.nil_append, List.cons_append]
  gi_wp2_with (refine ⟨trivial, ?_⟩; gi_at_call 125; refine (callsIn_wide.2 (Pivots_any _ _ _ _ _ _ _ _)).mono ?_; rintro e w1 ⟨rfl, rfl⟩)
  have hB0 : Below w.heap.size w ((((w.alloc (.cells #[.slice da ds.length dc, .slice ea es.length ec] 54)).alloc (.cells #[.int .i64 0] 3)).alloc (.cells #[.slice da ds.length dc, .slice ea es.length ec] 54)).alloc (.cells #[.float .f64 (raw x sx)] 40)) := ((((Below.refl _ _).alloc (Nat.le_refl _) _).alloc (by simp) _).alloc (by simp; omega) _).alloc (by simp; omega) _
  have x1 : Box ((((w.alloc (.cells #[.slice da ds.length dc, .slice ea es.length ec] 54)).alloc (.cells #[.int .i64 0] 3)).alloc (.cells #[.slice da ds.length dc, .slice ea es.length ec] 54)).alloc (.cells #[.float .f64 (raw x sx)] 40)) (w.heap.size + 1) [.int .i64 0] := ((Box.newA _ [_] _ (by simp)).alloc _).alloc _
  have x2 : Box ((((w.alloc (.cells #[.slice da ds.length dc, .slice ea es.length ec] 54)).alloc (.cells #[.int .i64 0] 3)).alloc (.cells #[.slice da ds.length dc, .slice ea es.length ec] 54)).alloc (.cells #[.float .f64 (raw x sx)] 40)) (w.heap.size + 1 + 1) [.slice da ds.length dc, .slice ea es.length ec] := (Box.newA _ [_, _] _ (by simp)).alloc _
  have x3 : Box ((((w.alloc (.cells #[.slice da ds.length dc, .slice ea es.length ec] 54)).alloc (.cells #[.int .i64 0] 3)).alloc (.cells #[.slice da ds.length dc, .slice ea es.length ec] 54)).alloc (.cells #[.float .f64 (raw x sx)] 40)) (w.heap.size + 1 + 1 + 1) [.float .f64 (raw x sx)] := Box.newA _ [_] _ (by simp)
  have hsz : ((((w.alloc (.cells #[.slice da ds.length dc, .slice ea es.length ec] 54)).alloc (.cells #[.int .i64 0] 3)).alloc (.cells #[.slice da ds.length dc, .slice ea es.length ec] 54)).alloc (.cells #[.float .f64 (raw x sx)] 40)).heap.size = w.heap.size + 4 := by simp
  generalize ((((w.alloc (.cells #[.slice da ds.length dc, .slice ea es.length ec] 54)).alloc (.cells #[.int .i64 0] 3)).alloc (.cells #[.slice da ds.length dc, .slice ea es.length ec] 54)).alloc (.cells #[.float .f64 (raw x sx)] 40)) = W1 at *
  have hne : ∀ {za : Option Addr} {zs : List Nat}, Fls w za zs → zs ≠ [] → ∀ b o, za = some ⟨b, o, none⟩ → b ≠ w.heap.size + 1 := by
    intro za zs hZ hz b o e
    obtain ⟨b', o', e', hb', _⟩ := hZ hz
    rw [e] at e'
    simp only [Option.some.injEq, Addr.mk.injEq] at e'
    omega
  have hA : PivR ds es x sx da ea dc ec (w.heap.size + 1 + 1) (w.heap.size + 1 + 1 + 1) (CR W1 (w.heap.size + 1)) (ImpK (CR W1 (w.heap.size + 1))) :=
    ⟨fun W h => h.box x2 (by omega), fun W h => h.box x3 (by omega), fun W h => h.fls (hD.below hB0) (hne hD), fun W h => h.fls (hE.below hB0) (hne hE), fun A B h k => k h, fun A B h k => h.below k⟩
  refine piv_loop 9 (by decide) hA hm hm' CR.refl (fun A B h hs => h.still hs) rfl rfl
    (fun pre W => CR W1 (w.heap.size + 1) W ∧ Box W (w.heap.size + 1) [.int .i64 (cntL ds es x (pre.map Prod.fst) : Nat)] ∧ Below w.heap.size w W)
    (fun _ _ _ => False) (fun _ _ h => h.1.size) (fun _ _ _ h hs => ⟨h.1.still hs, h.2.1.still hs, h.2.2.trans (hs.1.mono (by omega))⟩) (fun _ _ _ h => h.elim) (fun _ _ _ _ h _ => h) ⟨CR.refl, x1, hB0⟩
    (fun T y => ((T.setIfInBounds 11 (.int .i64 (y.1 : Int))).setIfInBounds 12 (.float .f64 (raw (pivQ ds es x (y.1 + 1)) y.2))).setIfInBounds 7 (.float .f64 (raw (pivQ ds es x (y.1 + 1)) y.2))) ?assign ?body ?done ?stop
  case assign =>
    intro l y W K hK
    unfold pelV
    gi_wp2
    exact hK
  case body =>
    rintro l pre ⟨yi, ys⟩ W ⟨hc, hb, hB⟩ hlt
    obtain ⟨q1, q2, q3⟩ := hb.facts
    have hcb : cntL ds es x (pre.map Prod.fst) ≤ 1000 := by have := cntL_le ds es x (pre.map Prod.fst); rw [List.length_map] at this; omega
    have hstep : cntL ds es x ((pre ++ [(yi, ys)]).map Prod.fst) = cntL ds es x (pre.map Prod.fst) + (if flt (pivQ ds es x (yi + 1)) 0 then 1 else 0) := by rw [List.map_append]; exact cntL_snoc _ _ _ _ _
    generalize cntL ds es x (pre.map Prod.fst) = cc at *
    dsimp only
    cases hf : flt (pivQ ds es x (yi + 1)) 0
    · rw [hf] at hstep
      gi_wp2
      refine ⟨keeps_below (Below.refl _ _) _, fun h => h, hc, ?_, hB⟩
      rw [hstep]; exact hb
    · rw [hf] at hstep
      have e1 : wrap64 ((cc : Int) + 1) = (cc : Int) + 1 := by unfold wrap64; omega
      gi_wp2
      have hbb : Bel W.heap.size (w.heap.size + 1) W (W.setCell ⟨w.heap.size + 1, 0, none⟩ (.int .i64 ((cc : Int) + 1))) := (Bel.refl _ _ _).set _ _
      refine ⟨keeps_bel hbb hb _, fun hR => hR.bel hbb, hc.bel hbb, ?_, hB.setCell (by show w.heap.size ≤ w.heap.size + 1; omega) _⟩
      rw [hstep]; exact hb.set 0 _
  case done =>
    rintro D xs W hD' hxs ⟨hc, hb, hB⟩ hK
    rw [hxs] at hb
    have hcn : cntL ds es x (if askS ds es [x] = 0 then List.range ds.length else []) = cntN ds es x := by
      unfold cntN
      split <;> rfl
    rw [hcn] at hb
    obtain ⟨q1, q2, q3⟩ := hb.facts
    gi_wp2
    have hst : StillC W1.heap.size _ _ := StillC.put (o' := .deferred none) hD' hK rfl
    refine ⟨by simp, .inl ⟨_, _, rfl, run_takeDeferred hK, ?_⟩⟩
    exact ⟨_, results_tmp rfl _ _ _, rfl, hB.trans (hst.1.mono (by omega))⟩
  case stop =>
    rintro D c pre W _ _ h _
    exact h.elim
end Go.Proofs.Ytdljnhdhigbefaa

/- Package sturm: Count; bounds. -/
namespace Go.Proofs.Ytdljnhdhigbefaa
open Go Go.RowKit
set_option maxRecDepth 100000

/-- The size of the i-th float beside the diagonal; nought, where there is none. -/
def besA (es : List Nat) (i : Int) : Nat := if 0 ≤ i ∧ i < es.length then fabs (es.getD i.toNat 0) else 0
set_option maxHeartbeats 2000000 in
theorem beside_any (w : World) (ea : Option Addr) (es : List Nat) (ec Bt n dc : Nat) (da : Option Addr) (i : Int) (hE : Fls w ea es) (hW : Words es) (hb : Box w Bt [.slice da n dc, .slice ea es.length ec]) :
    Calls Try.prog 123 #[.int .i64 i, .pointer (some ⟨Bt, 0, none⟩)] w fun e w' => FR e (besA es i) ∧ w = w' := by
  obtain ⟨b1, b2, b3⟩ := hb.facts
  by_cases h : 0 ≤ i ∧ i < es.length
  · obtain ⟨k, rfl⟩ := Int.eq_ofNat_of_zero_le h.1
    have hk : k < es.length := by omega
    have e0 : besA es (k : Int) = fabs (es.getD k 0) := by unfold besA; rw [if_pos h, Int.toNat_natCast]
    obtain ⟨eb, eo, s2, rfl, heb, c2⟩ := hE.at hk
    have hw := hW.at k
    rw [e0]
    clear e0 h
    have HA := Lib.hid (fun (W : World) => Abs_any (raw (es.getD k 0) s2) (raw_lt hw s2) W)
    have HR := Lib.hid (fabs_raw (es.getD k 0) s2)
    generalize es.getD k 0 = z at *
    go_enter Try.func123, Try.ntmps123
    go_wp2_with fail
    refine (HA.out _).mono ?_
    rintro e w2 ⟨rfl, rfl⟩
    go_wp2
    go_ret
    obtain ⟨t, ht⟩ := HR.out
    exact ⟨⟨t, by rw [← ht]; rfl⟩, rfl⟩
  · have e0 : besA es i = 0 := by unfold besA; rw [if_neg h]
    rw [e0]
    clear e0
    by_cases h1 : i < 0
    · have t0 := decide_eq_true h1
      clear h h1
      go_enter Try.func123, Try.ntmps123
      go_wp2
      go_ret
      exact ⟨⟨0, by rw [raw_of_not (by kernel_rfl)]; rfl⟩, rfl⟩
    · have t0 := decide_eq_false h1
      have t1 : decide ((es.length : Int) ≤ i) = true := decide_eq_true (by omega)
      clear h h1
      go_enter Try.func123, Try.ntmps123
      go_wp2
      go_ret
      exact ⟨⟨0, by rw [raw_of_not (by kernel_rfl)]; rfl⟩, rfl⟩
end Go.Proofs.Ytdljnhdhigbefaa

/- Package sturm: bounds. -/
namespace Go.Proofs.Ytdljnhdhigbefaa
open Go Go.RowKit
set_option maxRecDepth 100000

def besR (es : List Nat) (k : Nat) : Nat := fadd (besA es ((k : Int) - 1)) (besA es k)
/-- The bounds after k rows. -/
def bndL (ds es : List Nat) : Nat → Nat × Nat
  | 0 => (0, 0)
  | k + 1 => (if k = 0 ∨ flt (fsub (ds.getD k 0) (besR es k)) (bndL ds es k).1 = true then fsub (ds.getD k 0) (besR es k) else (bndL ds es k).1,
      if k = 0 ∨ flt (bndL ds es k).2 (fadd (ds.getD k 0) (besR es k)) = true then fadd (ds.getD k 0) (besR es k) else (bndL ds es k).2)
/-- The error. -/
def bndE (ds es : List Nat) : Int := if askS ds es [] = 0 then (if ds.length = 0 then 2 else if fnS (bndL ds es ds.length).1 && fnS (bndL ds es ds.length).2 then 0 else 10) else askS ds es []

theorem fls_two (W : World) (T : TypeId) (x sx y sy : Nat) : Fls (W.alloc (.cells #[.float .f64 (raw x sx), .float .f64 (raw y sy)] T)) (some ⟨W.heap.size, 0, none⟩) [x, y] := fun _ => ⟨W.heap.size, 0, rfl, by simp, fun i v hi => by
  have hb : Box (W.alloc (.cells #[.float .f64 (raw x sx), .float .f64 (raw y sy)] T)) W.heap.size [.float .f64 (raw x sx), .float .f64 (raw y sy)] := Box.newA W [_, _] T rfl
  cases i with
  | zero => simp at hi; subst hi; exact ⟨sx, by rw [hb.cell]; rfl⟩
  | succ i =>
    cases i with
    | zero => simp at hi; subst hi; exact ⟨sy, by rw [hb.cell]; rfl⟩
    | succ i => simp at hi⟩

set_option maxHeartbeats 8000000 in
theorem Bounds_any (w : World) (da ea : Option Addr) (ds es : List Nat) (dc ec : Nat) (hD : Fls w da ds) (hE : Fls w ea es) (hW : Words es) (hl : ds.length ≤ 1000) (hl' : es.length ≤ 1000) :
    Calls Try.prog 110 #[.agg #[.slice da ds.length dc, .slice ea es.length ec]] w fun e w' => ∃ lo hi s1 s2, e = .returned (.tuple #[.float .f64 (raw lo s1), .float .f64 (raw hi s2), .int .i64 (bndE ds es)]) ∧ (bndE ds es = 0 → lo = (bndL ds es ds.length).1 ∧ hi = (bndL ds es ds.length).2) ∧ (bndE ds es ≠ 0 → lo = 0 ∧ hi = 0) ∧ Below w.heap.size w w' := by
  have hm : ds.length ≤ maxLen := by unfold maxLen; omega
  have hm' : es.length ≤ maxLen := by unfold maxLen; omega
  have x0 : Box (w.alloc (.cells #[.slice da ds.length dc, .slice ea es.length ec] 54)) w.heap.size [.slice da ds.length dc, .slice ea es.length ec] := Box.newA w [_, _] _ rfl
  have hB0 : Below w.heap.size w (w.alloc (.cells #[.slice da ds.length dc, .slice ea es.length ec] 54)) := (Below.refl _ _).alloc (Nat.le_refl _) _
  have HA := Lib.hid (fun (W : World) (hW : Below w.heap.size w W) => ask13_any W da ea none ds es [] dc ec 0 (hD.below hW) (hE.below hW) (fun h => absurd rfl h) hm hm' (by decide))
  have z1 : raw 0 0 = 0 := raw_of_not (by kernel_rfl) 0
  go_enter Try.func110, Try.ntmps110
  go_wp2_with fail
  refine (HA.out _ hB0).mono ?_
  rintro e w1 ⟨rfl, hb1⟩
  have x1 := x0.below hb1
  have hB1 := below_step hB0 hB0.size hb1
  clear x0 hB0 hb1 HA hm hm'
  by_cases hz : askS ds es [] = 0
  case neg =>
    have e0 : (askS ds es [] != 0) = true := by simp [hz]
    have hE0 : bndE ds es = askS ds es [] := by unfold bndE; rw [if_neg hz]
    have HE := Lib.hid hE0
    have HZ := Lib.hid hz
    clear hz hE0
    go_wp2
    refine bodyPost_ret (results_tmp3 rfl _ _ _) rfl ⟨0, 0, 0, 0, ?_, fun h => absurd (HE.out ▸ h) HZ.out, fun _ => ⟨rfl, rfl⟩, hB1⟩
    rw [HE.out, z1]; rfl
  case pos =>
    have HZ := Lib.hid hz
    rw [hz]
    clear hz
    obtain ⟨a1, a2, a3⟩ := x1.facts
    by_cases hn : ds.length = 0
    · have hE0 : bndE ds es = 2 := by unfold bndE; rw [if_pos HZ.out, if_pos hn]
      have HE := Lib.hid hE0
      have hn' : ((ds.length : Int) == 0) = true := by rw [beq_iff_eq]; omega
      clear hE0 hn
      go_wp2
      refine bodyPost_ret (results_tmp3 rfl _ _ _) rfl ⟨0, 0, 0, 0, ?_, fun h => absurd (HE.out ▸ h) (by decide), fun _ => ⟨rfl, rfl⟩, hB1⟩
      rw [HE.out, z1]; rfl
    · have hn' : ((ds.length : Int) == 0) = false := by rw [beq_eq_false_iff_ne]; omega
      have HN := Lib.hid hn
      clear hn
      go_wp2
      clear hn' a1 a2 a3
      have HB := Lib.hid (fun (i : Int) (W : World) (hW' : Below w1.heap.size w1 W) => beside_any W ea es ec w.heap.size ds.length dc da i ((hE.below hB1).below hW') hW (x1.below hW'))
      go_loopw [7, 8, 27] (fun s7 s8 s27 wr => ∃ k : Nat, k ≤ ds.length ∧ s27 = .int .i64 k ∧ IsF s7 (bndL ds es k).1 ∧ IsF s8 (bndL ds es k).2 ∧ Below w1.heap.size w1 wr) (fun _ _ s27 _ => ds.length - (intOf s27).toNat)
      case atStart => exact ⟨0, Nat.zero_le _, rfl, IsF.const (by kernel_rfl), IsF.const (by kernel_rfl), Below.refl _ _⟩
      case round =>
        obtain ⟨k, hk, rfl, ⟨sl, rfl⟩, ⟨sh, rfl⟩, hB⟩ := hrel
        by_cases hlt : k < ds.length
        · obtain ⟨db, do', sd, rfl, hdb, c1⟩ := ((hD.below hB1).below hB).at hlt
          have hw1 : wrap64 ((k : Int) - 1) = (k : Int) - 1 := by unfold wrap64; omega
          have e1 : (bndL ds es (k + 1)).1 = (if k = 0 ∨ flt (fsub (ds.getD k 0) (fadd (besA es ((k : Int) - 1)) (besA es k))) (bndL ds es k).1 = true then fsub (ds.getD k 0) (fadd (besA es ((k : Int) - 1)) (besA es k)) else (bndL ds es k).1) := rfl
          have e2 : (bndL ds es (k + 1)).2 = (if k = 0 ∨ flt (bndL ds es k).2 (fadd (ds.getD k 0) (fadd (besA es ((k : Int) - 1)) (besA es k))) = true then fadd (ds.getD k 0) (fadd (besA es ((k : Int) - 1)) (besA es k)) else (bndL ds es k).2) := rfl
          generalize ds.getD k 0 = d at *
          generalize (bndL ds es k).1 = lo at *
          generalize (bndL ds es k).2 = hi at *
          have hkb : k + 1 ≤ 1000 := by omega
          by_cases hk0 : k = 0
          · have t0 : ((k : Int) == 0) = true := by rw [beq_iff_eq]; omega
            rw [if_pos (.inl hk0)] at e1 e2
            clear hk0
            go_wp2_with (first | (go_at_call 123; refine (HB.out _ _ hB).mono ?_; rintro e w' ⟨⟨_, rfl⟩, rfl⟩) | (refine wpList_flt rfl rfl rfl rfl rfl ?_; intro K hK _ _; go_frame; refine hK _ _ ?_; clear hK K))
            go_roundw
            case rel => exact ⟨k + 1, by omega, by go_num, IsF.of (by first | (rw [e1]; done) | (rw [e1]; simp [go_sem])), IsF.of (by first | (rw [e2]; done) | (rw [e2]; simp [go_sem])), below_drewN _ hB⟩
            case measure => simp [intOf]; omega
          · have t0 : ((k : Int) == 0) = false := by rw [beq_eq_false_iff_ne]; omega
            cases hlo : flt (fsub d (fadd (besA es ((k : Int) - 1)) (besA es k))) lo
            · cases hhi : flt hi (fadd d (fadd (besA es ((k : Int) - 1)) (besA es k)))
              · rw [if_neg (by rintro (h | h); exact hk0 h; rw [hlo] at h; cases h)] at e1
                rw [if_neg (by rintro (h | h); exact hk0 h; rw [hhi] at h; cases h)] at e2
                go_wp2_with (first | (go_at_call 123; refine (HB.out _ _ hB).mono ?_; rintro e w' ⟨⟨_, rfl⟩, rfl⟩) | (refine wpList_flt rfl rfl rfl rfl rfl ?_; intro K hK _ _; go_frame; refine hK _ _ ?_; clear hK K))
                go_roundw
                case rel => exact ⟨k + 1, by omega, by go_num, IsF.of (by first | (rw [e1]; done) | (rw [e1]; simp [go_sem])), IsF.of (by first | (rw [e2]; done) | (rw [e2]; simp [go_sem])), below_drewN _ hB⟩
                case measure => simp [intOf]; omega
              · rw [if_neg (by rintro (h | h); exact hk0 h; rw [hlo] at h; cases h)] at e1
                rw [if_pos (by right; exact hhi)] at e2
                go_wp2_with (first | (go_at_call 123; refine (HB.out _ _ hB).mono ?_; rintro e w' ⟨⟨_, rfl⟩, rfl⟩) | (refine wpList_flt rfl rfl rfl rfl rfl ?_; intro K hK _ _; go_frame; refine hK _ _ ?_; clear hK K))
                go_roundw
                case rel => exact ⟨k + 1, by omega, by go_num, IsF.of (by first | (rw [e1]; done) | (rw [e1]; simp [go_sem])), IsF.of (by first | (rw [e2]; done) | (rw [e2]; simp [go_sem])), below_drewN _ hB⟩
                case measure => simp [intOf]; omega
            · cases hhi : flt hi (fadd d (fadd (besA es ((k : Int) - 1)) (besA es k)))
              · rw [if_pos (by right; exact hlo)] at e1
                rw [if_neg (by rintro (h | h); exact hk0 h; rw [hhi] at h; cases h)] at e2
                go_wp2_with (first | (go_at_call 123; refine (HB.out _ _ hB).mono ?_; rintro e w' ⟨⟨_, rfl⟩, rfl⟩) | (refine wpList_flt rfl rfl rfl rfl rfl ?_; intro K hK _ _; go_frame; refine hK _ _ ?_; clear hK K))
                go_roundw
                case rel => exact ⟨k + 1, by omega, by go_num, IsF.of (by first | (rw [e1]; done) | (rw [e1]; simp [go_sem])), IsF.of (by first | (rw [e2]; done) | (rw [e2]; simp [go_sem])), below_drewN _ hB⟩
                case measure => simp [intOf]; omega
              · rw [if_pos (by right; exact hlo)] at e1
                rw [if_pos (by right; exact hhi)] at e2
                go_wp2_with (first | (go_at_call 123; refine (HB.out _ _ hB).mono ?_; rintro e w' ⟨⟨_, rfl⟩, rfl⟩) | (refine wpList_flt rfl rfl rfl rfl rfl ?_; intro K hK _ _; go_frame; refine hK _ _ ?_; clear hK K))
                go_roundw
                case rel => exact ⟨k + 1, by omega, by go_num, IsF.of (by first | (rw [e1]; done) | (rw [e1]; simp [go_sem])), IsF.of (by first | (rw [e2]; done) | (rw [e2]; simp [go_sem])), below_drewN _ hB⟩
                case measure => simp [intOf]; omega
        · obtain rfl : k = ds.length := by omega
          have hA2 : Below wr.heap.size wr (wr.alloc (.cells #[.float .f64 (raw (bndL ds es ds.length).1 sl), .float .f64 (raw (bndL ds es ds.length).2 sh)] 40)) := (Below.refl _ _).alloc (Nat.le_refl _) _
          have HF := Lib.hid (fin_any (wr.alloc (.cells #[.float .f64 (raw (bndL ds es ds.length).1 sl), .float .f64 (raw (bndL ds es ds.length).2 sh)] 40)) (some ⟨wr.heap.size, 0, none⟩) [(bndL ds es ds.length).1, (bndL ds es ds.length).2] 2 (fls_two _ _ _ _ _ _) (by unfold maxLen; simp))
          have hB2 := below_step (below_step hB1 hB1.size hB) (below_step hB1 hB1.size hB).size hA2
          have HE : Hid (bndE ds es = if (fnS (bndL ds es ds.length).1 && fnS (bndL ds es ds.length).2) = true then 0 else 10) := by unfold Hid bndE; rw [if_pos HZ.out, if_neg HN.out]
          have ef : [(bndL ds es ds.length).1, (bndL ds es ds.length).2].all fnS = (fnS (bndL ds es ds.length).1 && fnS (bndL ds es ds.length).2) := by simp
          rw [ef] at HF
          clear ef hA2
          have HLo : Hid (∀ a b : Nat, True) := fun _ _ => trivial
          go_wp2_with fail
          refine HF.out.mono ?_
          rintro e w2 ⟨rfl, hb2⟩
          have hB3 := below_step hB2 hB2.size hb2
          cases hf : (fnS (bndL ds es ds.length).1 && fnS (bndL ds es ds.length).2)
          · rw [hf] at HE
            go_wp2
            refine bodyPost_ret (results_tmp3 rfl _ _ _) rfl ⟨0, 0, 0, 0, ?_, fun h => absurd (HE.out ▸ h) (by decide), fun _ => ⟨rfl, rfl⟩, hB3⟩
            rw [HE.out, z1]; rfl
          · rw [hf] at HE
            go_wp2
            refine bodyPost_ret (results_tmp3 rfl _ _ _) rfl ⟨(bndL ds es ds.length).1, (bndL ds es ds.length).2, sl, sh, ?_, fun _ => ⟨rfl, rfl⟩, fun h => absurd HE.out h, hB3⟩
            rw [HE.out]; rfl
end Go.Proofs.Ytdljnhdhigbefaa
