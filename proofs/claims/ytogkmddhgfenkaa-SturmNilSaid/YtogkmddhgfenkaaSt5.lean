/- Package sturm: counts. -/
import Derived.Test.YtogkmddhgfenkaaSt4
namespace Go.Proofs.Ytogkmddhgfenkaa
open Go Go.RowKit Go.Shelf
attribute [local go_sem] Oper.semAt_some
set_option maxRecDepth 100000

set_option maxHeartbeats 1000000 in
theorem Pivots_any (w : World) (da ea : Option Addr) (n dc m ec x : Nat) :
    Calls Try.prog 83 #[.agg #[.slice da n dc, .slice ea m ec], .float .f64 x] w fun e w' => e = .returned (.func (.func 98) #[] #[.pointer (some ⟨w.heap.size, 0, none⟩), .pointer (some ⟨w.heap.size + 1, 0, none⟩)]) ∧ w' = (w.alloc (.cells #[.slice da n dc, .slice ea m ec] 51)).alloc (.cells #[.float .f64 x] 35) := by
  go_enter Try.func83, Try.ntmps83
  go_wp2
  go_ret
  exact ⟨rfl, rfl⟩

/-- How many of the first k pivots are below nought. -/
def cntK (ds es : List Nat) (x : Nat) (k : Nat) : Nat := ((List.range k).filter fun i => flt (pivQ ds es x (i + 1)) 0).length
def cntN (ds es : List Nat) (x : Nat) : Nat := if askS ds es [x] = 0 then cntK ds es x ds.length else 0
def cntL (ds es : List Nat) (x : Nat) (l : List Nat) : Nat := (l.filter fun i => flt (pivQ ds es x (i + 1)) 0).length

theorem cntL_snoc (ds es : List Nat) (x : Nat) (l : List Nat) (i : Nat) : cntL ds es x (l ++ [i]) = cntL ds es x l + (if flt (pivQ ds es x (i + 1)) 0 then 1 else 0) := by
  unfold cntL
  rw [List.filter_append, List.length_append]
  congr 1
  rw [List.filter_cons]
  cases flt (pivQ ds es x (i + 1)) 0 <;> rfl
theorem cntL_le (ds es : List Nat) (x : Nat) (l : List Nat) : cntL ds es x l ≤ l.length := List.length_filter_le _ _
set_option maxHeartbeats 4000000 in
theorem count_any (w : World) (da ea : Option Addr) (ds es : List Nat) (dc ec : Nat) (x sx : Nat) (hD : Fls w da ds) (hE : Fls w ea es) (hl : ds.length ≤ 1000) (hl' : es.length ≤ 1000) :
    Calls Try.prog 82 #[.agg #[.slice da ds.length dc, .slice ea es.length ec], .float .f64 (raw x sx)] w fun e w' => e = .returned (.int .i64 (cntN ds es x)) ∧ Below w.heap.size w w' := by
  have hm : ds.length ≤ maxLen := by unfold maxLen; omega
  have hm' : es.length ≤ maxLen := by unfold maxLen; omega
  refine (callsIn_wide (n := 9)).1 ?_
  refine callsIn_of_wp_marks Try.func82 rfl trivial ?_ rfl
  simp only [Try.ntmps82, List.size_toArray, List.length_cons, List.length_nil, Nat.reduceAdd, Nat.reduceSub, Array.replicate_succ, Array.replicate_zero, List.push_toArray, List.append_toArray, List.nil_append, List.cons_append]
  gi_wp2_with (refine ⟨trivial, ?_⟩; gi_at_call 83; refine (callsIn_wide.2 (Pivots_any _ _ _ _ _ _ _ _)).mono ?_; rintro e w1 ⟨rfl, rfl⟩)
  have hB0 : Below w.heap.size w ((((w.alloc (.cells #[.slice da ds.length dc, .slice ea es.length ec] 51)).alloc (.cells #[.int .i64 0] 3)).alloc (.cells #[.slice da ds.length dc, .slice ea es.length ec] 51)).alloc (.cells #[.float .f64 (raw x sx)] 35)) := ((((Below.refl _ _).alloc (Nat.le_refl _) _).alloc (by simp) _).alloc (by simp; omega) _).alloc (by simp; omega) _
  have x1 : Box ((((w.alloc (.cells #[.slice da ds.length dc, .slice ea es.length ec] 51)).alloc (.cells #[.int .i64 0] 3)).alloc (.cells #[.slice da ds.length dc, .slice ea es.length ec] 51)).alloc (.cells #[.float .f64 (raw x sx)] 35)) (w.heap.size + 1) [.int .i64 0] := ((Box.newA _ [_] _ (by simp)).alloc _).alloc _
  have x2 : Box ((((w.alloc (.cells #[.slice da ds.length dc, .slice ea es.length ec] 51)).alloc (.cells #[.int .i64 0] 3)).alloc (.cells #[.slice da ds.length dc, .slice ea es.length ec] 51)).alloc (.cells #[.float .f64 (raw x sx)] 35)) (w.heap.size + 1 + 1) [.slice da ds.length dc, .slice ea es.length ec] := (Box.newA _ [_, _] _ (by simp)).alloc _
  have x3 : Box ((((w.alloc (.cells #[.slice da ds.length dc, .slice ea es.length ec] 51)).alloc (.cells #[.int .i64 0] 3)).alloc (.cells #[.slice da ds.length dc, .slice ea es.length ec] 51)).alloc (.cells #[.float .f64 (raw x sx)] 35)) (w.heap.size + 1 + 1 + 1) [.float .f64 (raw x sx)] := Box.newA _ [_] _ (by simp)
  have hsz : ((((w.alloc (.cells #[.slice da ds.length dc, .slice ea es.length ec] 51)).alloc (.cells #[.int .i64 0] 3)).alloc (.cells #[.slice da ds.length dc, .slice ea es.length ec] 51)).alloc (.cells #[.float .f64 (raw x sx)] 35)).heap.size = w.heap.size + 4 := by simp
  generalize ((((w.alloc (.cells #[.slice da ds.length dc, .slice ea es.length ec] 51)).alloc (.cells #[.int .i64 0] 3)).alloc (.cells #[.slice da ds.length dc, .slice ea es.length ec] 51)).alloc (.cells #[.float .f64 (raw x sx)] 35)) = W1 at *
  have hne : ∀ {za : Option Addr} {zs : List Nat}, Fls w za zs → zs ≠ [] → ∀ b o, za = some ⟨b, o, none⟩ → b ≠ w.heap.size + 1 := by
    intro za zs hZ hz b o e
    obtain ⟨b', o', e', hb', _⟩ := hZ hz
    rw [e] at e'
    simp only [Option.some.injEq, Addr.mk.injEq] at e'
    omega
  have hA : PivR ds es x sx da ea dc ec (w.heap.size + 1 + 1) (w.heap.size + 1 + 1 + 1) (CR W1 (w.heap.size + 1)) (ImpK (CR W1 (w.heap.size + 1))) :=
    ⟨fun W h => h.box x2 (by omega), fun W h => h.box x3 (by omega), fun W h => h.fls (hD.below hB0) (hne hD), fun W h => h.fls (hE.below hB0) (hne hE), fun A B h k => k h, fun A B h k => h.below k⟩
  refine piv_loop 9 (by decide) hA hm hm' CR.refl (fun A B h hs => h.still hs) rfl rfl
    (fun pre W => CR W1 (w.heap.size + 1) W ∧ Box W (w.heap.size + 1) [.int .i64 (cntL ds es x (pre.map Prod.fst) : Nat)] ∧ Below w.heap.size w W)
    (fun _ _ _ => False) (fun _ _ h => h.1.size) (fun _ _ _ h hs => ⟨h.1.still hs, h.2.1.still hs, h.2.2.trans (hs.1.mono (by omega))⟩) (fun _ _ _ h => h.elim) (fun _ _ _ _ h _ => h) ⟨CR.refl, x1, hB0⟩
    (fun T y => ((T.setIfInBounds 11 (.int .i64 (y.1 : Int))).setIfInBounds 12 (.float .f64 (raw (pivQ ds es x (y.1 + 1)) y.2))).setIfInBounds 7 (.float .f64 (raw (pivQ ds es x (y.1 + 1)) y.2))) ?assign ?body ?done ?stop
  case assign =>
    intro l y W K hK
    unfold pelV
    gi_wp2
    exact hK
  case body =>
    rintro l pre ⟨yi, ys⟩ W ⟨hc, hb, hB⟩ hlt
    obtain ⟨q1, q2, q3⟩ := hb.facts
    have hcb : cntL ds es x (pre.map Prod.fst) ≤ 1000 := by have := cntL_le ds es x (pre.map Prod.fst); rw [List.length_map] at this; omega
    have hstep : cntL ds es x ((pre ++ [(yi, ys)]).map Prod.fst) = cntL ds es x (pre.map Prod.fst) + (if flt (pivQ ds es x (yi + 1)) 0 then 1 else 0) := by rw [List.map_append]; exact cntL_snoc _ _ _ _ _
    generalize cntL ds es x (pre.map Prod.fst) = cc at *
    dsimp only
    cases hf : flt (pivQ ds es x (yi + 1)) 0
    · rw [hf] at hstep
      gi_wp2
      refine ⟨keeps_below (Below.refl _ _) _, fun h => h, hc, ?_, hB⟩
      rw [hstep]; exact hb
    · rw [hf] at hstep
      have e1 : wrap64 ((cc : Int) + 1) = (cc : Int) + 1 := by unfold wrap64; omega
      gi_wp2
      have hbb : Bel W.heap.size (w.heap.size + 1) W (W.setCell ⟨w.heap.size + 1, 0, none⟩ (.int .i64 ((cc : Int) + 1))) := (Bel.refl _ _ _).set _ _
      refine ⟨keeps_bel hbb hb _, fun hR => hR.bel hbb, hc.bel hbb, ?_, hB.setCell (by show w.heap.size ≤ w.heap.size + 1; omega) _⟩
      rw [hstep]; exact hb.set 0 _
  case done =>
    rintro D xs W hD' hxs ⟨hc, hb, hB⟩ hK
    rw [hxs] at hb
    have hcn : cntL ds es x (if askS ds es [x] = 0 then List.range ds.length else []) = cntN ds es x := by
      unfold cntN
      split <;> rfl
    rw [hcn] at hb
    obtain ⟨q1, q2, q3⟩ := hb.facts
    gi_wp2
    have hst : StillC W1.heap.size _ _ := StillC.put (o' := .deferred none) hD' hK rfl
    refine ⟨by simp, .inl ⟨_, _, rfl, run_takeDeferred hK, ?_⟩⟩
    exact ⟨_, results_tmp rfl _ _ _, rfl, hB.trans (hst.1.mono (by omega))⟩
  case stop =>
    rintro D c pre W _ _ h _
    exact h.elim
end Go.Proofs.Ytogkmddhgfenkaa
