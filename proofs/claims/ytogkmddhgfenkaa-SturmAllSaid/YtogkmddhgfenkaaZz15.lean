/- Going over the pivots, up to a number of them. -/
import Derived.Test.YtogkmddhgfenkaaZz13
import Derived.Test.YtogkmddhgfenkaaZz14
import Derived.Test.YtogkmddhgfenkaaZz2
import Derived.Test.YtogkmddhgfenkaaZz3
namespace Go.Proofs.Ytogkmddhgfenkaa
open Go Go.RowKit Go.Shelf
attribute [local go_sem] Oper.semAt_some
set_option maxRecDepth 100000

theorem pivQ_lt (ds es : List Nat) (x k : Nat) : pivQ ds es x k < 18446744073709551616 := by
  have hg : ∀ q, q < 18446744073709551616 → grd q < 18446744073709551616 := fun q hq => by unfold grd; split <;> omega
  match k with
  | 0 => exact (by decide : 0 < 18446744073709551616)
  | 1 => exact hg _ (fsub_lt _ _)
  | k + 2 => exact hg _ (fsub_lt _ _)
theorem func_nil13 (f : FuncId) (env : Array Value) (w : World) : (binOp .eql 105 (.func (.func f) #[] env) .nilFunc).run Try.prog w = .ok (.bool false) w := by
  have h : ∀ k : Nat, (Op.equalIn (k + 1) 105 (.func (.func f) #[] env) .nilFunc).run Try.prog w = .ok false w := fun k => by
    simp [Op.equalIn, run_underlying Try.underlying105]
  simp only [binOp]
  simp [Op.equal, Op.maxDepth, h 9999]
/-- The pivots of what may be; of others none. -/
def onceL (ds es : List Nat) (x : Nat) : List Nat := if askS ds es [x] = 0 then pivL ds es x else []
set_option maxHeartbeats 8000000 in
theorem once13_any (w : World) (da ea wa : Option Addr) (ds es ws : List Nat) (dc ec wc : Nat) (x sx : Nat) (most : Int) (hD : Fls w da ds) (hE : Fls w ea es) (hW : Fls w wa ws) (hws : ws = onceL ds es x) (hl : ds.length ≤ 1000) (hl' : es.length ≤ 1000) :
    Calls Try.prog 52 #[.agg #[.slice da ds.length dc, .slice ea es.length ec], .float .f64 (raw x sx), .slice wa ws.length wc, .int .i64 most] w fun e w' => e = .returned (.bool true) ∧ Below w.heap.size w w' := by
  have hm : ds.length ≤ maxLen := by unfold maxLen; omega
  have hm' : es.length ≤ maxLen := by unfold maxLen; omega
  have hfn := fun (b : Nat) (W : World) => func_nil13 98 #[.pointer (some ⟨b, 0, none⟩), .pointer (some ⟨b + 1, 0, none⟩)] W
  have hwl : ws.length ≤ 1000 := by
    rw [hws]; unfold onceL; split
    · rw [pivL_length]; exact hl
    · simp
  have hwl0 : askS ds es [x] = 0 → ws.length = ds.length := fun h => by rw [hws]; unfold onceL; rw [if_pos h, pivL_length]
  have hwl1 : askS ds es [x] ≠ 0 → ws.length = 0 := fun h => by rw [hws]; unfold onceL; rw [if_neg h]; rfl
  have hwk : askS ds es [x] = 0 → ∀ k, k < ds.length → ws.getD k 0 = pivQ ds es x (k + 1) := fun h k hk => by rw [hws]; unfold onceL; rw [if_pos h, pivL_getD hk]
  have HW := Lib.hid (show _ ∧ _ ∧ _ from ⟨hwl0, hwl1, hwk⟩)
  clear hws hwl0 hwl1 hwk
  refine (callsIn_wide (n := 9)).1 ?_
  refine callsIn_of_wp_marks Try.func52 rfl trivial ?_ rfl
  simp only [Try.ntmps52, List.size_toArray, List.length_cons, List.length_nil, Nat.reduceAdd, Nat.reduceSub, Array.replicate_succ, Array.replicate_zero, List.push_toArray, List.append_toArray, List.nil_append, List.cons_append]
  gi_wp2_with (refine ⟨trivial, ?_⟩; gi_at_call 83; refine (callsIn_wide.2 (Pivots_any _ _ _ _ _ _ _ _)).mono ?_; rintro e w1 ⟨rfl, rfl⟩)
  have hB0 : Below w.heap.size w (((((((w.alloc (.cells #[.slice da ds.length dc, .slice ea es.length ec] 51)).alloc (.cells #[.slice wa ws.length wc] 24)).alloc (.cells #[.int .i64 most] 3)).alloc (.cells #[.bool false] 4)).alloc (.cells #[.int .i64 0] 3)).alloc (.cells #[.slice da ds.length dc, .slice ea es.length ec] 51)).alloc (.cells #[.float .f64 (raw x sx)] 35)) := (((((((Below.refl _ _).alloc (Nat.le_refl _) _).alloc (by simp) _).alloc (by simp; omega) _).alloc (by simp; omega) _).alloc (by simp; omega) _).alloc (by simp; omega) _).alloc (by simp; omega) _
  have x1 : Box (((((((w.alloc (.cells #[.slice da ds.length dc, .slice ea es.length ec] 51)).alloc (.cells #[.slice wa ws.length wc] 24)).alloc (.cells #[.int .i64 most] 3)).alloc (.cells #[.bool false] 4)).alloc (.cells #[.int .i64 0] 3)).alloc (.cells #[.slice da ds.length dc, .slice ea es.length ec] 51)).alloc (.cells #[.float .f64 (raw x sx)] 35)) (w.heap.size + 1) [.slice wa ws.length wc] := (((((Box.newA _ [_] _ (by simp)).alloc _).alloc _).alloc _).alloc _).alloc _
  have x2 : Box (((((((w.alloc (.cells #[.slice da ds.length dc, .slice ea es.length ec] 51)).alloc (.cells #[.slice wa ws.length wc] 24)).alloc (.cells #[.int .i64 most] 3)).alloc (.cells #[.bool false] 4)).alloc (.cells #[.int .i64 0] 3)).alloc (.cells #[.slice da ds.length dc, .slice ea es.length ec] 51)).alloc (.cells #[.float .f64 (raw x sx)] 35)) (w.heap.size + 1 + 1) [.int .i64 most] := ((((Box.newA _ [_] _ (by simp)).alloc _).alloc _).alloc _).alloc _
  have x3 : Box (((((((w.alloc (.cells #[.slice da ds.length dc, .slice ea es.length ec] 51)).alloc (.cells #[.slice wa ws.length wc] 24)).alloc (.cells #[.int .i64 most] 3)).alloc (.cells #[.bool false] 4)).alloc (.cells #[.int .i64 0] 3)).alloc (.cells #[.slice da ds.length dc, .slice ea es.length ec] 51)).alloc (.cells #[.float .f64 (raw x sx)] 35)) (w.heap.size + 1 + 1 + 1) [.bool false] := (((Box.newA _ [_] _ (by simp)).alloc _).alloc _).alloc _
  have x4 : Box (((((((w.alloc (.cells #[.slice da ds.length dc, .slice ea es.length ec] 51)).alloc (.cells #[.slice wa ws.length wc] 24)).alloc (.cells #[.int .i64 most] 3)).alloc (.cells #[.bool false] 4)).alloc (.cells #[.int .i64 0] 3)).alloc (.cells #[.slice da ds.length dc, .slice ea es.length ec] 51)).alloc (.cells #[.float .f64 (raw x sx)] 35)) (w.heap.size + 1 + 1 + 1 + 1) [.int .i64 0] := ((Box.newA _ [_] _ (by simp)).alloc _).alloc _
  have x5 : Box (((((((w.alloc (.cells #[.slice da ds.length dc, .slice ea es.length ec] 51)).alloc (.cells #[.slice wa ws.length wc] 24)).alloc (.cells #[.int .i64 most] 3)).alloc (.cells #[.bool false] 4)).alloc (.cells #[.int .i64 0] 3)).alloc (.cells #[.slice da ds.length dc, .slice ea es.length ec] 51)).alloc (.cells #[.float .f64 (raw x sx)] 35)) (w.heap.size + 1 + 1 + 1 + 1 + 1) [.slice da ds.length dc, .slice ea es.length ec] := (Box.newA _ [_, _] _ (by simp)).alloc _
  have x6 : Box (((((((w.alloc (.cells #[.slice da ds.length dc, .slice ea es.length ec] 51)).alloc (.cells #[.slice wa ws.length wc] 24)).alloc (.cells #[.int .i64 most] 3)).alloc (.cells #[.bool false] 4)).alloc (.cells #[.int .i64 0] 3)).alloc (.cells #[.slice da ds.length dc, .slice ea es.length ec] 51)).alloc (.cells #[.float .f64 (raw x sx)] 35)) (w.heap.size + 1 + 1 + 1 + 1 + 1 + 1) [.float .f64 (raw x sx)] := Box.newA _ [_] _ (by simp)
  have hsz : (((((((w.alloc (.cells #[.slice da ds.length dc, .slice ea es.length ec] 51)).alloc (.cells #[.slice wa ws.length wc] 24)).alloc (.cells #[.int .i64 most] 3)).alloc (.cells #[.bool false] 4)).alloc (.cells #[.int .i64 0] 3)).alloc (.cells #[.slice da ds.length dc, .slice ea es.length ec] 51)).alloc (.cells #[.float .f64 (raw x sx)] 35)).heap.size = w.heap.size + 7 := by simp
  clear hfn
  generalize (((((((w.alloc (.cells #[.slice da ds.length dc, .slice ea es.length ec] 51)).alloc (.cells #[.slice wa ws.length wc] 24)).alloc (.cells #[.int .i64 most] 3)).alloc (.cells #[.bool false] 4)).alloc (.cells #[.int .i64 0] 3)).alloc (.cells #[.slice da ds.length dc, .slice ea es.length ec] 51)).alloc (.cells #[.float .f64 (raw x sx)] 35)) = W1 at *
  have hne : ∀ {za : Option Addr} {zs : List Nat}, Fls w za zs → zs ≠ [] → ∀ b o, za = some ⟨b, o, none⟩ → b ≠ w.heap.size + 1 + 1 + 1 + 1 := by
    intro za zs hZ hz b o e
    obtain ⟨b', o', e', hb', _⟩ := hZ hz
    rw [e] at e'
    simp only [Option.some.injEq, Addr.mk.injEq] at e'
    omega
  have hA : PivR ds es x sx da ea dc ec (w.heap.size + 1 + 1 + 1 + 1 + 1) (w.heap.size + 1 + 1 + 1 + 1 + 1 + 1) (CR W1 (w.heap.size + 1 + 1 + 1 + 1)) (ImpK (CR W1 (w.heap.size + 1 + 1 + 1 + 1))) :=
    ⟨fun W h => h.box x5 (by omega), fun W h => h.box x6 (by omega), fun W h => h.fls (hD.below hB0) (hne hD), fun W h => h.fls (hE.below hB0) (hne hE), fun A B h k => k h, fun A B h k => h.below k⟩
  have HFw := Lib.hid (fun W (h : CR W1 (w.heap.size + 1 + 1 + 1 + 1) W) => h.fls (hW.below hB0) (hne hW))
  have HX := Lib.hid (show _ ∧ _ ∧ _ from ⟨x1, x2, x3⟩)
  refine piv_loop 9 (by decide) hA hm hm' CR.refl (fun A B h hs => h.still hs) rfl rfl
    (fun pre W => pre.map Prod.fst = List.range pre.length ∧ CR W1 (w.heap.size + 1 + 1 + 1 + 1) W ∧ Box W (w.heap.size + 1 + 1 + 1 + 1) [.int .i64 (pre.length : Nat)] ∧ Below w.heap.size w W)
    (fun c pre W => c = .ret ∧ (∃ b, Box W (w.heap.size + 1 + 1 + 1) [.bool b] ∧ (b = true ∨ askS ds es [x] ≠ 0 ∨ ¬ ∃ k, pre.map Prod.fst = List.range k)) ∧ Below w.heap.size w W ∧ W1.heap.size ≤ W.heap.size)
    (fun _ _ h => h.2.1.size) (fun _ _ _ h hs => ⟨h.1, h.2.1.still hs, h.2.2.1.still hs, below_still h.2.2.2 hs (by omega)⟩)
    (fun _ _ _ h => h.2.2.2) (fun _ _ _ _ h hs => ⟨h.1, by obtain ⟨b, k1, k2⟩ := h.2.1; exact ⟨b, k1.still hs, k2⟩, below_still h.2.2.1 hs (by omega), Nat.le_trans h.2.2.2 hs.1.size⟩)
    ⟨rfl, CR.refl, x4, hB0⟩
    (fun T y => (((T.setIfInBounds 19 (.int .i64 (y.1 : Int))).setIfInBounds 20 (.float .f64 (raw (pivQ ds es x (y.1 + 1)) y.2))).setIfInBounds 11 (.int .i64 (y.1 : Int))).setIfInBounds 12 (.float .f64 (raw (pivQ ds es x (y.1 + 1)) y.2))) ?assign ?body ?done ?stop
  case assign =>
    intro l y W K hK
    unfold pelV
    gi_wp2
    exact hK
  case body =>
    rintro l pre ⟨yi, ys⟩ W ⟨hpr, hc, hb, hB⟩ hlt
    have hFw := HFw.out W hc
    obtain ⟨q1, q2, q3⟩ := hb.facts
    have y1 := hc.box HX.out.1 (by omega)
    have y2 := hc.box HX.out.2.1 (by omega)
    have y3 := hc.box HX.out.2.2 (by omega)
    obtain ⟨q4, q5, q6⟩ := y1.facts
    obtain ⟨q7, q8, q9⟩ := y2.facts
    obtain ⟨p1, p2, p3⟩ := y3.facts
    have hln : (pre ++ [(yi, ys)]).length = pre.length + 1 := by simp
    have HNot : Hid (yi ≠ pre.length → ¬ ∃ k, (pre ++ [(yi, ys)]).map Prod.fst = List.range k) := by
      rintro hne' ⟨k, hk⟩
      rw [List.map_append, hpr] at hk
      have h1 := congrArg List.length hk
      simp at h1
      subst h1
      rw [List.range_succ] at hk
      have h2 := List.append_cancel_left hk
      simp at h2
      exact hne' h2
    have HYes : Hid (yi = pre.length → (pre ++ [(yi, ys)]).map Prod.fst = List.range (pre.length + 1)) := by
      rintro rfl
      rw [List.map_append, hpr, List.range_succ]; rfl
    obtain ⟨k, hk⟩ : ∃ k, k = pre.length := ⟨_, rfl⟩
    rw [← hk] at hb hlt hln HNot HYes q2
    have HS := Lib.hid (show _ ∧ _ ∧ _ ∧ _ from ⟨hc, hb, hB, y3⟩)
    clear hpr hk hc hb hB y1 y2 y3
    have hs3 : ∀ (V : World) (u : Value) B, Bel B (w.heap.size + 1 + 1 + 1) V (V.setCell ⟨w.heap.size + 1 + 1 + 1, 0, none⟩ u) := fun V u B => (Bel.refl _ _ _).set _ _
    have hs4 : ∀ (V : World) (u : Value) B, Bel B (w.heap.size + 1 + 1 + 1 + 1) V (V.setCell ⟨w.heap.size + 1 + 1 + 1 + 1, 0, none⟩ u) := fun V u B => (Bel.refl _ _ _).set _ _
    have HB := Lib.hid (show _ ∧ _ from ⟨hs3, hs4⟩)
    have HZ := Lib.hid hsz
    clear hs3 hs4 hA hne hsz hD hE hm hm' hl hl' hB0 x1 x2 x3 x4 x5 x6
    by_cases ha : askS ds es [x] = 0
    case neg =>
      have hw0 := HW.out.2.1 ha
      have t1 : decide ((ws.length : Int) ≤ (k : Int)) = true := decide_eq_true (by omega)
      have t1' : decide (ws.length ≤ k) = true := decide_eq_true (by omega)
      have HA := Lib.hid ha
      clear ha hw0 hFw hwl
      gi_wp2_with (refine ⟨trivial, ?_⟩)
      obtain ⟨hc, hb, hB, y3⟩ := HS.out
      have hz := HZ.out
      exact ⟨(KeepsOthers.setCell _ _ _).from _, rfl, ⟨false, y3.set 0 (.bool false), .inr (.inl HA.out)⟩, hB.trans ((HB.out.1 _ _ _).below (by omega)), Nat.le_trans hc.size (HB.out.1 W (.bool false) 0).size⟩
    have hw0 := HW.out.1 ha
    have t1 : decide ((ws.length : Int) ≤ (k : Int)) = false := decide_eq_false (by omega)
    have t1' : decide (ws.length ≤ k) = false := decide_eq_false (by omega)
    by_cases hyk : yi = k
    case neg =>
      have t2 : ((yi : Int) == (k : Int)) = false := by rw [beq_eq_false_iff_ne]; omega
      have t2' : ((yi : Int) != (k : Int)) = true := by simp; omega
      have HN := Lib.hid (HNot.out hyk)
      clear ha hw0 hFw hwl hyk
      gi_wp2_with (refine ⟨trivial, ?_⟩)
      obtain ⟨hc, hb, hB, y3⟩ := HS.out
      have hz := HZ.out
      exact ⟨(KeepsOthers.setCell _ _ _).from _, rfl, ⟨false, y3.set 0 (.bool false), .inr (.inr HN.out)⟩, hB.trans ((HB.out.1 _ _ _).below (by omega)), Nat.le_trans hc.size (HB.out.1 W (.bool false) 0).size⟩
    case pos =>
      subst hyk
      have HYs := Lib.hid (HYes.out rfl)
      obtain ⟨wb, wo, s2, rfl, hwb, c1⟩ := hFw.at (i := yi) (by omega)
      rw [HW.out.2.2 ha yi hlt] at c1
      have hq := pivQ_lt ds es x (yi + 1)
      have HF := Lib.hid (fun V => float13_raw (pivQ ds es x (yi + 1)) ys s2 hq V)
      have hyb : yi + 1 ≤ 1000 := by omega
      have e1 : wrap64 ((yi : Int) + 1) = (yi : Int) + 1 := by unfold wrap64; omega
      have hyw : yi < ws.length := by omega
      have HA := Lib.hid (show _ ∧ _ from ⟨ha, hw0⟩)
      clear ha hw0 hFw hq HNot HYes
      dsimp only
      generalize pivQ ds es x (yi + 1) = pq at *
      cases hmo : ((yi : Int) + 1 == most)
      · gi_wp2_with (refine ⟨trivial, ?_⟩; gi_at_call 37; refine (callsIn_wide.2 (HF.out _)).mono ?_; rintro e w1 ⟨rfl, rfl⟩)
        obtain ⟨hc, hb, hB, y3⟩ := HS.out
        have hz := HZ.out
        refine ⟨(KeepsOthers.setCell _ _ _).from _, fun hR => hR.bel (HB.out.2 _ _ _), by rw [hln]; exact HYs.out, hc.bel (HB.out.2 _ _ _), ?_, hB.trans ((HB.out.2 _ _ _).below (by omega))⟩
        rw [hln]
        exact hb.set 0 _
      · gi_wp2_with (refine ⟨trivial, ?_⟩; gi_at_call 37; refine (callsIn_wide.2 (HF.out _)).mono ?_; rintro e w1 ⟨rfl, rfl⟩)
        obtain ⟨hc, hb, hB, y3⟩ := HS.out
        have hz := HZ.out
        have y4 := y3.bel (by omega) (HB.out.2 W (.int .i64 ((yi : Int) + 1)) _)
        exact ⟨((KeepsOthers.setCell _ _ _).from _).trans ((KeepsOthers.setCell _ _ _).from _), rfl, ⟨true, y4.set 0 (.bool true), .inl rfl⟩, (hB.trans ((HB.out.2 _ _ _).below (by omega))).trans ((HB.out.1 _ _ _).below (by omega)), Nat.le_trans (Nat.le_trans hc.size (HB.out.2 W (.int .i64 ((yi : Int) + 1)) 0).size) (HB.out.1 _ (.bool true) 0).size⟩
  case done =>
    rintro D ys W hD' hys ⟨hpr, hc, hb, hB⟩ hK
    have hlen : ys.length = ws.length := by
      have h1 := congrArg List.length hys
      by_cases ha : askS ds es [x] = 0
      · rw [if_pos ha] at h1; simp at h1; rw [HW.out.1 ha, h1]
      · rw [if_neg ha] at h1; simp at h1; rw [HW.out.2.1 ha, h1]; rfl
    rw [hlen] at hb
    have y1 := hc.box HX.out.1 (by omega)
    have y3 := hc.box HX.out.2.2 (by omega)
    obtain ⟨q1, q2, q3⟩ := hb.facts
    obtain ⟨q4, q5, q6⟩ := y1.facts
    obtain ⟨q7, q8, q9⟩ := y3.facts
    have hcs := hc.size
    clear hpr hys hlen hne hA
    gi_wp2
    have hK2 : (W.setCell ⟨w.heap.size + 1 + 1 + 1, 0, none⟩ (.bool true)).heap[D]? = some (.deferred (some [])) := by
      rw [Below.heap_setCell _ _ _ _ (by show D ≠ w.heap.size + 1 + 1 + 1; omega)]; exact hK
    have hst : StillC W1.heap.size _ _ := StillC.put (o' := .deferred none) hD' hK2 rfl
    refine ⟨by simp, .inl ⟨_, _, rfl, run_takeDeferred hK2, ?_⟩⟩
    refine ⟨_, results_one rfl (rv_bool (g := w.heap.size + 1 + 1 + 1) rfl ((y3.set 0 _).still hst) Try.underlying4), rfl, ?_⟩
    exact below_still (below_set hB (by omega) _ _) hst (by omega)
  case stop =>
    rintro D c pre W hD' ⟨hpre1, hpre2⟩ ⟨rfl, ⟨b, k3, hb⟩, hB, hs4⟩ hK
    obtain rfl : b = true := by
      rcases hb with hb | hb | hb
      · exact hb
      · exact absurd hpre1 hb
      · exact absurd hpre2 hb
    obtain ⟨q7, q8, q9⟩ := k3.facts
    gi_wp2
    have hst : StillC W1.heap.size _ _ := StillC.put (o' := .deferred none) hD' hK rfl
    refine ⟨by simp, .inl ⟨_, _, rfl, run_takeDeferred hK, ?_⟩⟩
    refine ⟨_, results_one rfl (rv_bool (g := w.heap.size + 1 + 1 + 1) rfl (k3.still hst) Try.underlying4), rfl, ?_⟩
    exact below_still hB hst (by omega)
end Go.Proofs.Ytogkmddhgfenkaa

/- Package sturm: All, where there are none. -/
namespace Go.Proofs.Ytogkmddhgfenkaa
open Go Go.RowKit
set_option maxRecDepth 100000

set_option maxHeartbeats 4000000 in
theorem All_ask (w : World) (da ea : Option Addr) (ds es : List Nat) (dc ec : Nat) (hD : Fls w da ds) (hE : Fls w ea es) (hl : ds.length ≤ 1000) (hl' : es.length ≤ 1000) (hz : askS ds es [] ≠ 0 ∨ ds.length = 0) :
    Calls Try.prog 41 #[.agg #[.slice da ds.length dc, .slice ea es.length ec]] w fun e w' => e = .returned (.tuple #[.slice none 0 0, .int .i64 0, .int .i64 (askS ds es [])]) ∧ Below w.heap.size w w' := by
  have hm : ds.length ≤ maxLen := by unfold maxLen; omega
  have hm' : es.length ≤ maxLen := by unfold maxLen; omega
  have x0 : Box (w.alloc (.cells #[.slice da ds.length dc, .slice ea es.length ec] 51)) w.heap.size [.slice da ds.length dc, .slice ea es.length ec] := Box.newA w [_, _] _ rfl
  have hB0 : Below w.heap.size w (w.alloc (.cells #[.slice da ds.length dc, .slice ea es.length ec] 51)) := (Below.refl _ _).alloc (Nat.le_refl _) _
  have HA := Lib.hid (ask13_any _ da ea none ds es [] dc ec 0 (hD.below hB0) (hE.below hB0) (fun h => absurd rfl h) hm hm' (by decide))
  generalize askS ds es [] = a0 at *
  clear hD hE hl hl' hm hm'
  by_cases h0 : a0 = 0
  · subst h0
    have hn : ds.length = 0 := hz.resolve_left (fun h => h rfl)
    have t1 : ((ds.length : Int) == 0) = true := by rw [beq_iff_eq]; omega
    clear hz hn
    go_enter Try.func41, Try.ntmps41
    go_wp2_with fail
    refine HA.out.mono ?_
    rintro e w1 ⟨rfl, hb1⟩
    obtain ⟨a1, a2, a3⟩ := (x0.below hb1).facts
    have hB1 := below_step hB0 hB0.size hb1
    go_wp2
    exact bodyPost_ret (results_tmp3 rfl _ _ _) rfl ⟨rfl, hB1⟩
  · have t1 : (a0 != 0) = true := by simp [h0]
    clear hz h0
    go_enter Try.func41, Try.ntmps41
    go_wp2_with fail
    refine HA.out.mono ?_
    rintro e w1 ⟨rfl, hb1⟩
    obtain ⟨a1, a2, a3⟩ := (x0.below hb1).facts
    have hB1 := below_step hB0 hB0.size hb1
    go_wp2
    exact bodyPost_ret (results_tmp3 rfl _ _ _) rfl ⟨rfl, hB1⟩
set_option maxHeartbeats 4000000 in
theorem All_bad (w : World) (da ea : Option Addr) (ds es : List Nat) (dc ec : Nat) (hD : Fls w da ds) (hE : Fls w ea es) (hW : Words es) (hl : ds.length ≤ 1000) (hl' : es.length ≤ 1000) (hz : askS ds es [] = 0) (hn : ds.length ≠ 0) (hb : bndE ds es ≠ 0) :
    Calls Try.prog 41 #[.agg #[.slice da ds.length dc, .slice ea es.length ec]] w fun e w' => e = .returned (.tuple #[.slice none 0 0, .int .i64 0, .int .i64 (bndE ds es)]) ∧ Below w.heap.size w w' := by
  have hm : ds.length ≤ maxLen := by unfold maxLen; omega
  have hm' : es.length ≤ maxLen := by unfold maxLen; omega
  have x0 : Box (w.alloc (.cells #[.slice da ds.length dc, .slice ea es.length ec] 51)) w.heap.size [.slice da ds.length dc, .slice ea es.length ec] := Box.newA w [_, _] _ rfl
  have hB0 : Below w.heap.size w (w.alloc (.cells #[.slice da ds.length dc, .slice ea es.length ec] 51)) := (Below.refl _ _).alloc (Nat.le_refl _) _
  have HA := Lib.hid (ask13_any _ da ea none ds es [] dc ec 0 (hD.below hB0) (hE.below hB0) (fun h => absurd rfl h) hm hm' (by decide))
  rw [hz] at HA
  have HO := Lib.hid (fun (W : World) (hW' : Below w.heap.size w W) => open13_any W da ea ds es dc ec (hD.below hW') (hE.below hW') hW hl hl')
  have t1 : ((ds.length : Int) == 0) = false := by rw [beq_eq_false_iff_ne]; omega
  have HB := Lib.hid hb
  have t2 : (bndE ds es != 0) = true := by simp [hb]
  clear hD hE hl hl' hm hm' hz hn hb hW
  go_enter Try.func41, Try.ntmps41
  go_wp2_with fail
  refine HA.out.mono ?_
  rintro e w1 ⟨rfl, hb1⟩
  have x1 := x0.below hb1
  obtain ⟨a1, a2, a3⟩ := x1.facts
  have hB1 := below_step hB0 hB0.size hb1
  go_wp2_with fail
  refine (HO.out _ hB1).mono ?_
  rintro e w2 ⟨a, b, f, mb, Bm, Bt, rfl, _, hnf, hb2⟩
  obtain rfl := hnf HB.out
  have hB2 := below_step hB1 hB1.size hb2
  have hA : Below w2.heap.size w2 (w2.alloc (.cells #[.int .i64 a, .int .i64 b, .nilFunc] 100)) := (Below.refl _ _).alloc (Nat.le_refl _) _
  have hB3 := below_step hB2 hB2.size hA
  clear x0 x1 a1 a2 a3 hB0 hb1 hB1 hb2 hA HO HA hnf
  go_wp2
  exact bodyPost_ret (results_tmp3 rfl _ _ _) rfl ⟨rfl, hB3⟩
theorem All_err (w : World) (da ea : Option Addr) (ds es : List Nat) (dc ec : Nat) (hD : Fls w da ds) (hE : Fls w ea es) (hW : Words es) (hl : ds.length ≤ 1000) (hl' : es.length ≤ 1000) (hb : bndE ds es ≠ 0) :
    Calls Try.prog 41 #[.agg #[.slice da ds.length dc, .slice ea es.length ec]] w fun e w' => e = .returned (.tuple #[.slice none 0 0, .int .i64 0, .int .i64 (allE ds es)]) ∧ Below w.heap.size w w' := by
  unfold allE
  by_cases h : askS ds es [] = 0 ∧ ds.length ≠ 0
  · rw [if_pos h]
    exact All_bad w da ea ds es dc ec hD hE hW hl hl' h.1 h.2 hb
  · rw [if_neg h]
    exact All_ask w da ea ds es dc ec hD hE hl hl' (by omega)
end Go.Proofs.Ytogkmddhgfenkaa

/- Package sturm: Within. -/
namespace Go.Proofs.Ytogkmddhgfenkaa
open Go Go.RowKit
set_option maxRecDepth 100000

theorem All_ok (w : World) (da ea : Option Addr) (ds es : List Nat) (dc ec : Nat) (hD : Fls w da ds) (hE : Fls w ea es) (hW : Words es) (hl : ds.length ≤ 1000) (hl' : es.length ≤ 1000) (hz : allE ds es = 0) :
    Calls Try.prog 41 #[.agg #[.slice da ds.length dc, .slice ea es.length ec]] w fun e w' => ∃ sv, e = .returned (.tuple #[sv, .int .i64 (allM ds es ds.length), .int .i64 0]) ∧ w'.ownsRow w.heap.size 35 1 sv ds.length ((allL ds es ds.length).map (Value.float .f64)) ∧ Below w.heap.size w w' := by
  unfold allE at hz
  by_cases h : askS ds es [] = 0 ∧ ds.length ≠ 0
  · rw [if_pos h] at hz
    exact All_in w da ea ds es dc ec hD hE hW hl hl' hz
  · rw [if_neg h] at hz
    have hn : ds.length = 0 := by omega
    refine (All_ask w da ea ds es dc ec hD hE hl hl' (.inr hn)).mono ?_
    rintro e w' ⟨rfl, hb⟩
    rw [hz, hn]
    exact ⟨_, rfl, World.ownsRow_nil _ _ _ _, hb⟩
theorem cntN_le (ds es : List Nat) (x : Nat) : cntN ds es x ≤ ds.length := by
  unfold cntN
  split
  · exact cntK_le _ _ _ _
  · exact Nat.zero_le _
/-- Of the values those from one number up to another one. -/
def witL (ds es : List Nat) (l h : Nat) : List Nat := ((allL ds es ds.length).drop l).take (h - l)
theorem witL_length {ds es : List Nat} {l h : Nat} (hh : h ≤ ds.length) : (witL ds es l h).length = h - l := by
  unfold witL
  rw [List.length_take, List.length_drop, allL_length]
  omega
theorem row_cap {W : World} {base n : Nat} {a : Option Addr} {m c : Nat} {xs : List Value} (h : W.ownsRow base 35 1 (.slice a m c) n xs) : m = n ∧ n ≤ c := by
  rcases h.2 with ⟨h1, h2⟩ | ⟨g, cap, cur, h1, h2, h3, h4, _⟩
  · injection h1 with e1 e2 e3
    omega
  · injection h1 with e1 e2 e3
    omega
theorem part_cel {W : World} {base : Nat} {a : Option Addr} {c l h : Nat} {ds es : List Nat} (hr : W.ownsRow base 35 1 (.slice a ds.length c) ds.length ((allL ds es ds.length).map (Value.float .f64))) (hl : l ≤ h) (hh : h ≤ ds.length) :
    Cel W (if c = l then a else a.map (·.add (l * 1))) (witL ds es l h) := fun hz => by
  have hlh : l < h := by
    rcases Nat.lt_or_ge l h with h1 | h1
    · exact h1
    · exfalso; apply hz; have := witL_length (ds := ds) (es := es) (l := l) hh; exact List.length_eq_zero_iff.1 (by omega)
  obtain ⟨hm, hc⟩ := row_cap hr
  obtain ⟨g, cap, he, _, hg⟩ := ownsRow_atS hr (k := l) (by omega)
  injection he with h1 h2 h3
  subst h1; subst h3
  rw [if_neg (by omega)]
  refine ⟨g, l, by simp [Addr.add]; intro h; omega, hg, fun i v hi => ?_⟩
  have hil : i < h - l := by
    have := (List.getElem?_eq_some_iff.1 hi).1
    rw [witL_length hh] at this
    exact this
  obtain ⟨g', cap', he', hcell, _⟩ := ownsRow_atS hr (k := l + i) (by omega)
  injection he' with h4 h5 h6
  injection h4 with h7
  injection h7 with h8
  subst h8
  unfold witL at hi
  rw [List.getElem?_take_of_lt hil, List.getElem?_drop] at hi
  rw [hcell, List.getElem?_map, hi]
  rfl
set_option maxHeartbeats 8000000 in
theorem Within_ok (w : World) (da ea : Option Addr) (ds es : List Nat) (dc ec lo sl hi sh : Nat) (hD : Fls w da ds) (hE : Fls w ea es) (hW : Words es) (hl : ds.length ≤ 1000) (hl' : es.length ≤ 1000) (hz : allE ds es = 0) (hf : (ffin lo && ffin hi) = true) :
    Calls Try.prog 58 #[.agg #[.slice da ds.length dc, .slice ea es.length ec], .float .f64 (raw lo sl), .float .f64 (raw hi sh)] w fun e w' => (∃ a c, e = .returned (.tuple #[.slice a (witL ds es (cntN ds es lo) (max (cntN ds es lo) (cntN ds es hi))).length c, .int .i64 (allM ds es ds.length), .int .i64 0]) ∧ Cel w' a (witL ds es (cntN ds es lo) (max (cntN ds es lo) (cntN ds es hi)))) ∧ Below w.heap.size w w' := by
  have x0 : Box (w.alloc (.cells #[.slice da ds.length dc, .slice ea es.length ec] 51)) w.heap.size [.slice da ds.length dc, .slice ea es.length ec] := Box.newA w [_, _] _ rfl
  have hB0 : Below w.heap.size w (w.alloc (.cells #[.slice da ds.length dc, .slice ea es.length ec] 51)) := (Below.refl _ _).alloc (Nat.le_refl _) _
  have HA := Lib.hid (All_ok _ da ea ds es dc ec (hD.below hB0) (hE.below hB0) hW hl hl' hz)
  have HF := Lib.hid (fun (W : World) => fin_any (W.alloc (.cells #[.float .f64 (raw lo sl), .float .f64 (raw hi sh)] 35)) (some ⟨W.heap.size, 0, none⟩) [lo, hi] 2 (fls_two W 35 lo sl hi sh) (by unfold maxLen; simp))
  have ef : [lo, hi].all fnS = true := by rw [all_fnS]; simpa using hf
  rw [ef] at HF
  have HC1 := Lib.hid (fun W (hW' : Below w.heap.size w W) => count_any W da ea ds es dc ec lo sl (hD.below hW') (hE.below hW') hl hl')
  have HC2 := Lib.hid (fun W (hW' : Below w.heap.size w W) => count_any W da ea ds es dc ec hi sh (hD.below hW') (hE.below hW') hl hl')
  have hc1 := cntN_le ds es lo
  have hc2 := cntN_le ds es hi
  have hwl : (witL ds es (cntN ds es lo) (max (cntN ds es lo) (cntN ds es hi))).length = max (cntN ds es lo) (cntN ds es hi) - cntN ds es lo := witL_length (by omega)
  rw [hwl]
  have HPart := Lib.hid (fun (W : World) (base : Nat) (a : Option Addr) (c : Nat) hr => part_cel (W := W) (base := base) (a := a) (c := c) (l := cntN ds es lo) (h := max (cntN ds es lo) (cntN ds es hi)) (ds := ds) (es := es) hr (by omega) (by omega))
  clear hD hE hW hl' hz hf ef hwl
  generalize witL ds es (cntN ds es lo) (max (cntN ds es lo) (cntN ds es hi)) = wl at *
  generalize cntN ds es lo = c1 at *
  generalize cntN ds es hi = c2 at *
  go_enter Try.func58, Try.ntmps58
  go_wp2_with fail
  refine HA.out.mono ?_
  rintro e w1 ⟨sv, rfl, hr, hb1⟩
  obtain ⟨a, c, rfl⟩ := ownsRow_slice hr
  obtain ⟨_, hcap⟩ := row_cap hr
  have x1 := x0.below hb1
  have hB1 := below_step hB0 hB0.size hb1
  have hA1 := (Below.refl w1.heap.size w1).alloc (Nat.le_refl _) (.cells #[.float .f64 (raw lo sl), .float .f64 (raw hi sh)] 35)
  have HF1 := Lib.hid (HF.out w1)
  have HR := Lib.hid (show _ ∧ _ ∧ _ from ⟨hr, hB1, x1⟩)
  clear x0 hB0 hb1 HF hr x1 hB1 HA
  go_wp2_with fail
  refine HF1.out.mono ?_
  rintro e w2 ⟨rfl, hb2⟩
  have hA2 := below_step hA1 hA1.size hb2
  have hB2 := below_step HR.out.2.1 HR.out.2.1.size hA2
  have x2 := HR.out.2.2.below hA2
  have r2 := ownsRow_bel HR.out.1 (Bel.of (s := w.heap.size) hA2) (by simp)
  have HR2 := Lib.hid (show _ ∧ _ from ⟨r2, hB2⟩)
  clear hA1 hb2 hA2 HF1 HR r2 
  obtain ⟨q1, q2, q3⟩ := x2.facts
  go_wp2_with fail
  refine (HC1.out _ hB2).mono ?_
  rintro e w3 ⟨rfl, hb3⟩
  have hB3 := below_step hB2 hB2.size hb3
  have x3 := x2.below hb3
  have r3 := ownsRow_bel HR2.out.1 (Bel.of (s := w.heap.size) hb3) (by simp)
  have HR3 := Lib.hid r3
  clear hb3 hB2 x2 q1 q2 q3 HR2 r3
  obtain ⟨q1, q2, q3⟩ := x3.facts
  go_wp2_with fail
  refine (HC2.out _ hB3).mono ?_
  rintro e w4 ⟨rfl, hb4⟩
  have hB4 := below_step hB3 hB3.size hb4
  have r4 := ownsRow_bel HR3.out (Bel.of (s := w.heap.size) hb4) (by simp)
  have HR4 := Lib.hid (show _ ∧ _ from ⟨hB4, HPart.out _ _ _ _ r4⟩)
  clear hb4 hB3 x3 q1 q2 q3 HR3 r4 hB4 HPart
  rcases Nat.lt_or_ge c1 c2 with h | h
  · have e1 : max (c1 : Int) (c2 : Int) = (c2 : Int) := by omega
    have e2 : max c1 c2 = c2 := by omega
    have h1 : c1 ≤ c2 := by omega
    have h2 : c2 ≤ c := by omega
    have h3 : ¬ c = c1 := by omega
    have h4 : ¬ c1 = c := by omega
    rw [if_neg h3, Nat.mul_one] at HR4
    have E2 := Lib.hid e2
    clear e2
    go_wp2
    refine bodyPost_ret (results_tmp3 rfl _ _ _) rfl ⟨?_, HR4.out.1⟩
    first
      | exact ⟨_, ⟨_, by first | rfl | (rw [E2.out]; rfl)⟩, HR4.out.2⟩
      | exact ⟨_, _, by first | rfl | (rw [E2.out]; rfl), HR4.out.2⟩
      | exact ⟨(Option.map (fun x => x.add c1) a), ⟨(c - c1), by first | rfl | (rw [E2.out]; rfl)⟩, HR4.out.2⟩
      | exact ⟨(Option.map (fun x => x.add c1) a), (c - c1), by first | rfl | (rw [E2.out]; rfl), HR4.out.2⟩
      | exact ⟨(Option.map (fun x => x.add c1) a), ⟨0, by first | rfl | (rw [E2.out]; rfl)⟩, HR4.out.2⟩
      | exact ⟨(Option.map (fun x => x.add c1) a), 0, by first | rfl | (rw [E2.out]; rfl), HR4.out.2⟩
  · have e1 : max (c1 : Int) (c2 : Int) = (c1 : Int) := by omega
    have e2 : max c1 c2 = c1 := by omega
    have h2 : c1 ≤ c := by omega
    have E2 := Lib.hid e2
    by_cases h3 : c = c1
    · rw [if_pos h3] at HR4
      subst h3
      clear h e2
      go_wp2
      refine bodyPost_ret (results_tmp3 rfl _ _ _) rfl ⟨?_, HR4.out.1⟩
      first
        | exact ⟨_, ⟨_, by first | rfl | (rw [E2.out, Nat.sub_self]; rfl)⟩, HR4.out.2⟩
        | exact ⟨_, _, by first | rfl | (rw [E2.out, Nat.sub_self]; rfl), HR4.out.2⟩
        | exact ⟨a, ⟨(c - c), by first | rfl | (rw [E2.out, Nat.sub_self]; rfl)⟩, HR4.out.2⟩
        | exact ⟨a, (c - c), by first | rfl | (rw [E2.out, Nat.sub_self]; rfl), HR4.out.2⟩
        | exact ⟨a, ⟨0, by first | rfl | (rw [E2.out, Nat.sub_self]; rfl)⟩, HR4.out.2⟩
        | exact ⟨a, 0, by first | rfl | (rw [E2.out, Nat.sub_self]; rfl), HR4.out.2⟩
    · rw [if_neg h3, Nat.mul_one] at HR4
      have h4 : ¬ c1 = c := by omega
      clear h e2
      go_wp2
      refine bodyPost_ret (results_tmp3 rfl _ _ _) rfl ⟨?_, HR4.out.1⟩
      first
        | exact ⟨_, ⟨_, by first | rfl | (rw [E2.out, Nat.sub_self]; rfl)⟩, HR4.out.2⟩
        | exact ⟨_, _, by first | rfl | (rw [E2.out, Nat.sub_self]; rfl), HR4.out.2⟩
        | exact ⟨(Option.map (fun x => x.add c1) a), ⟨(c - c1), by first | rfl | (rw [E2.out, Nat.sub_self]; rfl)⟩, HR4.out.2⟩
        | exact ⟨(Option.map (fun x => x.add c1) a), (c - c1), by first | rfl | (rw [E2.out, Nat.sub_self]; rfl), HR4.out.2⟩
        | exact ⟨(Option.map (fun x => x.add c1) a), ⟨0, by first | rfl | (rw [E2.out, Nat.sub_self]; rfl)⟩, HR4.out.2⟩
        | exact ⟨(Option.map (fun x => x.add c1) a), 0, by first | rfl | (rw [E2.out, Nat.sub_self]; rfl), HR4.out.2⟩
end Go.Proofs.Ytogkmddhgfenkaa

/- Drawn regions, walked in the text's order: a call is known as one ahead of the walk's own steps. No condition. -/
namespace Go.Proofs.Ytogkmddhgfenkaa
open Go Go.RowKit
section
variable {P : Program} {ops : Array Oper} {C : World → Prop} {F : FuncId → Array Value → Value → Prop} {R : Act → Prop} {K : Act → Prop} {o : Oper} {a : Act}
def isCallOp (o : Oper) : Bool := match o.op with | .call _ => true | _ => false
theorem nq_inC (_ : isCallOp o = true) (h : ∀ w, C w → nqUpon P C F (fun v => K (a.put o.dst v)) ((execOp a.eval o).run P w)) : nq P C F o a K := nq_in h
end
end Go.Proofs.Ytogkmddhgfenkaa

/- Drawn regions: what a call gives need not be told ahead: two contracts on one call speak of one end. No condition. -/
namespace Go.Proofs.Ytogkmddhgfenkaa
open Go Go.RowKit
section
variable {P : Program} {C : World → Prop}
theorem calls_one {f : FuncId} {args : Array Value} {w : World} {R R' : World → Prop} {V V' : Value}
    (h : Calls P f args w fun e w' => e = .returned V ∧ R w') (h' : Calls P f args w fun e w' => e = .returned V' ∧ R' w') (hi : P.inits.idxOf? f = none) : V = V' := by
  obtain ⟨n, v, w1, e1, r1⟩ := (h.mono (R' := fun | .returned v, w' => v = V ∧ R w' | _, _ => False) (fun e w' ⟨he, q⟩ => by subst he; exact ⟨rfl, q⟩)).done hi
  obtain ⟨m, v', w2, e2, r2⟩ := (h'.mono (R' := fun | .returned v, w' => v = V' ∧ R' w' | _, _ => False) (fun e w' ⟨he, q⟩ => by subst he; exact ⟨rfl, q⟩)).done hi
  have a := runN_ended e1 m
  have b := runN_ended e2 n
  rw [Nat.add_comm, a] at b
  injection b with ho hw
  injection ho with hv
  rw [← r1.1, ← r2.1, hv]
/-- A value that every contract on the call tells. -/
def FD (P : Program) (C : World → Prop) (f : FuncId) (args : Array Value) (v : Value) : Prop :=
  ∀ V, (∀ w1, C w1 → Calls P f args w1 fun e w2 => e = .returned V ∧ C w2) → v = V
theorem fd_both {f : FuncId} {args : Array Value} {K : Value → Prop} {V : Value} (hi : P.inits.idxOf? f = none)
    (c : ∀ w1, C w1 → Calls P f args w1 fun e w2 => e = .returned V ∧ C w2) (hK : K V) :
    (∀ w1, C w1 → Calls P f args w1 (fun e w2 => ∃ v, e = .returned v ∧ FD P C f args v ∧ C w2)) ∧ ∀ v, FD P C f args v → K v :=
  ⟨fun w1 h1 => (c w1 h1).mono fun _ _ ⟨he, hc⟩ => ⟨V, he, fun _ c' => calls_one (c w1 h1) (c' w1 h1) hi, hc⟩, fun v hv => by rw [hv V c]; exact hK⟩
theorem wp_region_nqd {id : Nat} {Q : Exit → Act → World → Prop} {a : Act} {w : World} {l : List Oper} (n : Nat)
    (hm : P.follows .mixedOrders = true) (hB : nqB l n = true)
    (h : ∀ (C : World → Prop) (R : Act → Prop), (∀ w', Cls C w' → ∀ b o, b < w.heap.size → w'.cell? ⟨b, o, none⟩ = w.cell? ⟨b, o, none⟩) → (∀ w', Cls C w' → Below w.heap.size w w') →
      (∀ w' w'', Cls C w' → Below w'.heap.size w' w'' → Cls C w'') → (∀ w' n, Cls C w' → Cls C (w'.drewN n)) →
      (∀ a', (∀ w', Below w.heap.size w w' → wpList P l.toArray Q (l.drop n) a' w') → R a') → nqW P l.toArray (Cls C) (FD P (Cls C)) R (l.take n) a) : (Code.region id l.toArray true).wp P Q a w :=
  wp_region_nq n (FD P (Cls (Below w.heap.size w))) (Below w.heap.size w) hm hB (below_drewN 1 (Below.refl _ _))
    (h (Below w.heap.size w) (fun a' => ∀ w', Below w.heap.size w w' → wpList P l.toArray Q (l.drop n) a' w') (fun _ hw' => (below_cells hw').1) (fun _ h => h)
      (fun _ _ h1 h2 => h1.trans (h2.mono h1.size)) (fun _ n h => below_drewN n h) (fun _ h => h))
end
section
variable {P : Program} {l0 : Nat} {nf : Nat}
theorem wpIn_region_nqd {id : Nat} {Q : Exit → Act → World → Prop} {a : Act} {w : World} {l : List Oper} (n : Nat)
    (hm : P.follows .mixedOrders = true) (hB : (nqB l n && noDefer l) = true)
    (h : ∀ (C : World → Prop) (R : Act → Prop), (∀ w', Cls C w' → ∀ b o, b < w.heap.size → w'.cell? ⟨b, o, none⟩ = w.cell? ⟨b, o, none⟩) → (∀ w', Cls C w' → Below w.heap.size w w') →
      (∀ w' w'', Cls C w' → Below w'.heap.size w' w'' → Cls C w'') → (∀ w' n, Cls C w' → Cls C (w'.drewN n)) →
      (∀ a', (∀ w', Below w.heap.size w w' → wpListIn (Fence.wide.inRound l0) nf P l.toArray Q (l.drop n) a' w') → R a') → nqW P l.toArray (Cls C) (FD P (Cls C)) R (l.take n) a) : (Code.region id l.toArray true).wpIn (Fence.wide.inRound l0) nf P Q a w :=
  wpIn_region_nq n (FD P (Cls (Below w.heap.size w))) (Below w.heap.size w) hm hB (below_drewN 1 (Below.refl _ _))
    (h (Below w.heap.size w) (fun a' => ∀ w', Below w.heap.size w w' → wpListIn (Fence.wide.inRound l0) nf P l.toArray Q (l.drop n) a' w') (fun _ hw' => (below_cells hw').1) (fun _ h => h)
      (fun _ _ h1 h2 => h1.trans (h2.mono h1.size)) (fun _ n h => below_drewN n h) (fun _ h => h))
end
end Go.Proofs.Ytogkmddhgfenkaa
