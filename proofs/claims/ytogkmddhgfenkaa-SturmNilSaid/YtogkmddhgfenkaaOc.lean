/- Going over the pivots, up to a number of them. -/
import Derived.Test.YtogkmddhgfenkaaRq
import Derived.Test.YtogkmddhgfenkaaTb
namespace Go.Proofs.Ytogkmddhgfenkaa
open Go Go.RowKit Go.Shelf
attribute [local go_sem] Oper.semAt_some
set_option maxRecDepth 100000

theorem pivQ_lt (ds es : List Nat) (x k : Nat) : pivQ ds es x k < 18446744073709551616 := by
  have hg : ∀ q, q < 18446744073709551616 → grd q < 18446744073709551616 := fun q hq => by unfold grd; split <;> omega
  match k with
  | 0 => exact (by decide : 0 < 18446744073709551616)
  | 1 => exact hg _ (fsub_lt _ _)
  | k + 2 => exact hg _ (fsub_lt _ _)
theorem func_nil13 (f : FuncId) (env : Array Value) (w : World) : (binOp .eql 105 (.func (.func f) #[] env) .nilFunc).run Try.prog w = .ok (.bool false) w := by
  have h : ∀ k : Nat, (Op.equalIn (k + 1) 105 (.func (.func f) #[] env) .nilFunc).run Try.prog w = .ok false w := fun k => by
    simp [Op.equalIn, run_underlying Try.underlying105]
  simp only [binOp]
  simp [Op.equal, Op.maxDepth, h 9999]
/-- The pivots of what may be; of others none. -/
def onceL (ds es : List Nat) (x : Nat) : List Nat := if askS ds es [x] = 0 then pivL ds es x else []
set_option maxHeartbeats 8000000 in
theorem once13_any (w : World) (da ea wa : Option Addr) (ds es ws : List Nat) (dc ec wc : Nat) (x sx : Nat) (most : Int) (hD : Fls w da ds) (hE : Fls w ea es) (hW : Fls w wa ws) (hws : ws = onceL ds es x) (hl : ds.length ≤ 1000) (hl' : es.length ≤ 1000) :
    Calls Try.prog 52 #[.agg #[.slice da ds.length dc, .slice ea es.length ec], .float .f64 (raw x sx), .slice wa ws.length wc, .int .i64 most] w fun e w' => e = .returned (.bool true) ∧ Below w.heap.size w w' := by
  have hm : ds.length ≤ maxLen := by unfold maxLen; omega
  have hm' : es.length ≤ maxLen := by unfold maxLen; omega
  have hfn := fun (b : Nat) (W : World) => func_nil13 98 #[.pointer (some ⟨b, 0, none⟩), .pointer (some ⟨b + 1, 0, none⟩)] W
  have hwl : ws.length ≤ 1000 := by
    rw [hws]; unfold onceL; split
    · rw [pivL_length]; exact hl
    · simp
  have hwl0 : askS ds es [x] = 0 → ws.length = ds.length := fun h => by rw [hws]; unfold onceL; rw [if_pos h, pivL_length]
  have hwl1 : askS ds es [x] ≠ 0 → ws.length = 0 := fun h => by rw [hws]; unfold onceL; rw [if_neg h]; rfl
  have hwk : askS ds es [x] = 0 → ∀ k, k < ds.length → ws.getD k 0 = pivQ ds es x (k + 1) := fun h k hk => by rw [hws]; unfold onceL; rw [if_pos h, pivL_getD hk]
  have HW := Lib.hid (show _ ∧ _ ∧ _ from ⟨hwl0, hwl1, hwk⟩)
  clear hws hwl0 hwl1 hwk
  refine (callsIn_wide (n := 9)).1 ?_
  refine callsIn_of_wp_marks Try.func52 rfl trivial ?_ rfl
  simp only [Try.ntmps52, List.size_toArray, List.length_cons, List.length_nil, Nat.reduceAdd, Nat.reduceSub, Array.replicate_succ, Array.replicate_zero, List.push_toArray, List.append_toArray, List.nil_append, List.cons_append]
  gi_wp2_with (refine ⟨trivial, ?_⟩; gi_at_call 83; refine (callsIn_wide.2 (Pivots_any _ _ _ _ _ _ _ _)).mono ?_; rintro e w1 ⟨rfl, rfl⟩)
  have hB0 : Below w.heap.size w (((((((w.alloc (.cells #[.slice da ds.length dc, .slice ea es.length ec] 51)).alloc (.cells #[.slice wa ws.length wc] 24)).alloc (.cells #[.int .i64 most] 3)).alloc (.cells #[.bool false] 4)).alloc (.cells #[.int .i64 0] 3)).alloc (.cells #[.slice da ds.length dc, .slice ea es.length ec] 51)).alloc (.cells #[.float .f64 (raw x sx)] 35)) := (((((((Below.refl _ _).alloc (Nat.le_refl _) _).alloc (by simp) _).alloc (by simp; omega) _).alloc (by simp; omega) _).alloc (by simp; omega) _).alloc (by simp; omega) _).alloc (by simp; omega) _
  have x1 : Box (((((((w.alloc (.cells #[.slice da ds.length dc, .slice ea es.length ec] 51)).alloc (.cells #[.slice wa ws.length wc] 24)).alloc (.cells #[.int .i64 most] 3)).alloc (.cells #[.bool false] 4)).alloc (.cells #[.int .i64 0] 3)).alloc (.cells #[.slice da ds.length dc, .slice ea es.length ec] 51)).alloc (.cells #[.float .f64 (raw x sx)] 35)) (w.heap.size + 1) [.slice wa ws.length wc] := (((((Box.newA _ [_] _ (by simp)).alloc _).alloc _).alloc _).alloc _).alloc _
  have x2 : Box (((((((w.alloc (.cells #[.slice da ds.length dc, .slice ea es.length ec] 51)).alloc (.cells #[.slice wa ws.length wc] 24)).alloc (.cells #[.int .i64 most] 3)).alloc (.cells #[.bool false] 4)).alloc (.cells #[.int .i64 0] 3)).alloc (.cells #[.slice da ds.length dc, .slice ea es.length ec] 51)).alloc (.cells #[.float .f64 (raw x sx)] 35)) (w.heap.size + 1 + 1) [.int .i64 most] := ((((Box.newA _ [_] _ (by simp)).alloc _).alloc _).alloc _).alloc _
  have x3 : Box (((((((w.alloc (.cells #[.slice da ds.length dc, .slice ea es.length ec] 51)).alloc (.cells #[.slice wa ws.length wc] 24)).alloc (.cells #[.int .i64 most] 3)).alloc (.cells #[.bool false] 4)).alloc (.cells #[.int .i64 0] 3)).alloc (.cells #[.slice da ds.length dc, .slice ea es.length ec] 51)).alloc (.cells #[.float .f64 (raw x sx)] 35)) (w.heap.size + 1 + 1 + 1) [.bool false] := (((Box.newA _ [_] _ (by simp)).alloc _).alloc _).alloc _
  have x4 : Box (((((((w.alloc (.cells #[.slice da ds.length dc, .slice ea es.length ec] 51)).alloc (.cells #[.slice wa ws.length wc] 24)).alloc (.cells #[.int .i64 most] 3)).alloc (.cells #[.bool false] 4)).alloc (.cells #[.int .i64 0] 3)).alloc (.cells #[.slice da ds.length dc, .slice ea es.length ec] 51)).alloc (.cells #[.float .f64 (raw x sx)] 35)) (w.heap.size + 1 + 1 + 1 + 1) [.int .i64 0] := ((Box.newA _ [_] _ (by simp)).alloc _).alloc _
  have x5 : Box (((((((w.alloc (.cells #[.slice da ds.length dc, .slice ea es.length ec] 51)).alloc (.cells #[.slice wa ws.length wc] 24)).alloc (.cells #[.int .i64 most] 3)).alloc (.cells #[.bool false] 4)).alloc (.cells #[.int .i64 0] 3)).alloc (.cells #[.slice da ds.length dc, .slice ea es.length ec] 51)).alloc (.cells #[.float .f64 (raw x sx)] 35)) (w.heap.size + 1 + 1 + 1 + 1 + 1) [.slice da ds.length dc, .slice ea es.length ec] := (Box.newA _ [_, _] _ (by simp)).alloc _
  have x6 : Box (((((((w.alloc (.cells #[.slice da ds.length dc, .slice ea es.length ec] 51)).alloc (.cells #[.slice wa ws.length wc] 24)).alloc (.cells #[.int .i64 most] 3)).alloc (.cells #[.bool false] 4)).alloc (.cells #[.int .i64 0] 3)).alloc (.cells #[.slice da ds.length dc, .slice ea es.length ec] 51)).alloc (.cells #[.float .f64 (raw x sx)] 35)) (w.heap.size + 1 + 1 + 1 + 1 + 1 + 1) [.float .f64 (raw x sx)] := Box.newA _ [_] _ (by simp)
  have hsz : (((((((w.alloc (.cells #[.slice da ds.length dc, .slice ea es.length ec] 51)).alloc (.cells #[.slice wa ws.length wc] 24)).alloc (.cells #[.int .i64 most] 3)).alloc (.cells #[.bool false] 4)).alloc (.cells #[.int .i64 0] 3)).alloc (.cells #[.slice da ds.length dc, .slice ea es.length ec] 51)).alloc (.cells #[.float .f64 (raw x sx)] 35)).heap.size = w.heap.size + 7 := by simp
  clear hfn
  generalize (((((((w.alloc (.cells #[.slice da ds.length dc, .slice ea es.length ec] 51)).alloc (.cells #[.slice wa ws.length wc] 24)).alloc (.cells #[.int .i64 most] 3)).alloc (.cells #[.bool false] 4)).alloc (.cells #[.int .i64 0] 3)).alloc (.cells #[.slice da ds.length dc, .slice ea es.length ec] 51)).alloc (.cells #[.float .f64 (raw x sx)] 35)) = W1 at *
  have hne : ∀ {za : Option Addr} {zs : List Nat}, Fls w za zs → zs ≠ [] → ∀ b o, za = some ⟨b, o, none⟩ → b ≠ w.heap.size + 1 + 1 + 1 + 1 := by
    intro za zs hZ hz b o e
    obtain ⟨b', o', e', hb', _⟩ := hZ hz
    rw [e] at e'
    simp only [Option.some.injEq, Addr.mk.injEq] at e'
    omega
  have hA : PivR ds es x sx da ea dc ec (w.heap.size + 1 + 1 + 1 + 1 + 1) (w.heap.size + 1 + 1 + 1 + 1 + 1 + 1) (CR W1 (w.heap.size + 1 + 1 + 1 + 1)) (ImpK (CR W1 (w.heap.size + 1 + 1 + 1 + 1))) :=
    ⟨fun W h => h.box x5 (by omega), fun W h => h.box x6 (by omega), fun W h => h.fls (hD.below hB0) (hne hD), fun W h => h.fls (hE.below hB0) (hne hE), fun A B h k => k h, fun A B h k => h.below k⟩
  have HFw := Lib.hid (fun W (h : CR W1 (w.heap.size + 1 + 1 + 1 + 1) W) => h.fls (hW.below hB0) (hne hW))
  have HX := Lib.hid (show _ ∧ _ ∧ _ from ⟨x1, x2, x3⟩)
  refine piv_loop 9 (by decide) hA hm hm' CR.refl (fun A B h hs => h.still hs) rfl rfl
    (fun pre W => pre.map Prod.fst = List.range pre.length ∧ CR W1 (w.heap.size + 1 + 1 + 1 + 1) W ∧ Box W (w.heap.size + 1 + 1 + 1 + 1) [.int .i64 (pre.length : Nat)] ∧ Below w.heap.size w W)
    (fun c pre W => c = .ret ∧ (∃ b, Box W (w.heap.size + 1 + 1 + 1) [.bool b] ∧ (b = true ∨ askS ds es [x] ≠ 0 ∨ ¬ ∃ k, pre.map Prod.fst = List.range k)) ∧ Below w.heap.size w W ∧ W1.heap.size ≤ W.heap.size)
    (fun _ _ h => h.2.1.size) (fun _ _ _ h hs => ⟨h.1, h.2.1.still hs, h.2.2.1.still hs, below_still h.2.2.2 hs (by omega)⟩)
    (fun _ _ _ h => h.2.2.2) (fun _ _ _ _ h hs => ⟨h.1, by obtain ⟨b, k1, k2⟩ := h.2.1; exact ⟨b, k1.still hs, k2⟩, below_still h.2.2.1 hs (by omega), Nat.le_trans h.2.2.2 hs.1.size⟩)
    ⟨rfl, CR.refl, x4, hB0⟩
    (fun T y => (((T.setIfInBounds 19 (.int .i64 (y.1 : Int))).setIfInBounds 20 (.float .f64 (raw (pivQ ds es x (y.1 + 1)) y.2))).setIfInBounds 11 (.int .i64 (y.1 : Int))).setIfInBounds 12 (.float .f64 (raw (pivQ ds es x (y.1 + 1)) y.2))) ?assign ?body ?done ?stop
  case assign =>
    intro l y W K hK
    unfold pelV
    gi_wp2
    exact hK
  case body =>
    rintro l pre ⟨yi, ys⟩ W ⟨hpr, hc, hb, hB⟩ hlt
    have hFw := HFw.out W hc
    obtain ⟨q1, q2, q3⟩ := hb.facts
    have y1 := hc.box HX.out.1 (by omega)
    have y2 := hc.box HX.out.2.1 (by omega)
    have y3 := hc.box HX.out.2.2 (by omega)
    obtain ⟨q4, q5, q6⟩ := y1.facts
    obtain ⟨q7, q8, q9⟩ := y2.facts
    obtain ⟨p1, p2, p3⟩ := y3.facts
    have hln : (pre ++ [(yi, ys)]).length = pre.length + 1 := by simp
    have HNot : Hid (yi ≠ pre.length → ¬ ∃ k, (pre ++ [(yi, ys)]).map Prod.fst = List.range k) := by
      rintro hne' ⟨k, hk⟩
      rw [List.map_append, hpr] at hk
      have h1 := congrArg List.length hk
      simp at h1
      subst h1
      rw [List.range_succ] at hk
      have h2 := List.append_cancel_left hk
      simp at h2
      exact hne' h2
    have HYes : Hid (yi = pre.length → (pre ++ [(yi, ys)]).map Prod.fst = List.range (pre.length + 1)) := by
      rintro rfl
      rw [List.map_append, hpr, List.range_succ]; rfl
    obtain ⟨k, hk⟩ : ∃ k, k = pre.length := ⟨_, rfl⟩
    rw [← hk] at hb hlt hln HNot HYes q2
    have HS := Lib.hid (show _ ∧ _ ∧ _ ∧ _ from ⟨hc, hb, hB, y3⟩)
    clear hpr hk hc hb hB y1 y2 y3
    have hs3 : ∀ (V : World) (u : Value) B, Bel B (w.heap.size + 1 + 1 + 1) V (V.setCell ⟨w.heap.size + 1 + 1 + 1, 0, none⟩ u) := fun V u B => (Bel.refl _ _ _).set _ _
    have hs4 : ∀ (V : World) (u : Value) B, Bel B (w.heap.size + 1 + 1 + 1 + 1) V (V.setCell ⟨w.heap.size + 1 + 1 + 1 + 1, 0, none⟩ u) := fun V u B => (Bel.refl _ _ _).set _ _
    have HB := Lib.hid (show _ ∧ _ from ⟨hs3, hs4⟩)
    have HZ := Lib.hid hsz
    clear hs3 hs4 hA hne hsz hD hE hm hm' hl hl' hB0 x1 x2 x3 x4 x5 x6
    by_cases ha : askS ds es [x] = 0
    case neg =>
      have hw0 := HW.out.2.1 ha
      have t1 : decide ((ws.length : Int) ≤ (k : Int)) = true := decide_eq_true (by omega)
      have t1' : decide (ws.length ≤ k) = true := decide_eq_true (by omega)
      have HA := Lib.hid ha
      clear ha hw0 hFw hwl
      gi_wp2_with (refine ⟨trivial, ?_⟩)
      obtain ⟨hc, hb, hB, y3⟩ := HS.out
      have hz := HZ.out
      exact ⟨(KeepsOthers.setCell _ _ _).from _, rfl, ⟨false, y3.set 0 (.bool false), .inr (.inl HA.out)⟩, hB.trans ((HB.out.1 _ _ _).below (by omega)), Nat.le_trans hc.size (HB.out.1 W (.bool false) 0).size⟩
    have hw0 := HW.out.1 ha
    have t1 : decide ((ws.length : Int) ≤ (k : Int)) = false := decide_eq_false (by omega)
    have t1' : decide (ws.length ≤ k) = false := decide_eq_false (by omega)
    by_cases hyk : yi = k
    case neg =>
      have t2 : ((yi : Int) == (k : Int)) = false := by rw [beq_eq_false_iff_ne]; omega
      have t2' : ((yi : Int) != (k : Int)) = true := by simp; omega
      have HN := Lib.hid (HNot.out hyk)
      clear ha hw0 hFw hwl hyk
      gi_wp2_with (refine ⟨trivial, ?_⟩)
      obtain ⟨hc, hb, hB, y3⟩ := HS.out
      have hz := HZ.out
      exact ⟨(KeepsOthers.setCell _ _ _).from _, rfl, ⟨false, y3.set 0 (.bool false), .inr (.inr HN.out)⟩, hB.trans ((HB.out.1 _ _ _).below (by omega)), Nat.le_trans hc.size (HB.out.1 W (.bool false) 0).size⟩
    case pos =>
      subst hyk
      have HYs := Lib.hid (HYes.out rfl)
      obtain ⟨wb, wo, s2, rfl, hwb, c1⟩ := hFw.at (i := yi) (by omega)
      rw [HW.out.2.2 ha yi hlt] at c1
      have hq := pivQ_lt ds es x (yi + 1)
      have HF := Lib.hid (fun V => float13_raw (pivQ ds es x (yi + 1)) ys s2 hq V)
      have hyb : yi + 1 ≤ 1000 := by omega
      have e1 : wrap64 ((yi : Int) + 1) = (yi : Int) + 1 := by unfold wrap64; omega
      have hyw : yi < ws.length := by omega
      have HA := Lib.hid (show _ ∧ _ from ⟨ha, hw0⟩)
      clear ha hw0 hFw hq HNot HYes
      dsimp only
      generalize pivQ ds es x (yi + 1) = pq at *
      cases hmo : ((yi : Int) + 1 == most)
      · gi_wp2_with (refine ⟨trivial, ?_⟩; gi_at_call 37; refine (callsIn_wide.2 (HF.out _)).mono ?_; rintro e w1 ⟨rfl, rfl⟩)
        obtain ⟨hc, hb, hB, y3⟩ := HS.out
        have hz := HZ.out
        refine ⟨(KeepsOthers.setCell _ _ _).from _, fun hR => hR.bel (HB.out.2 _ _ _), by rw [hln]; exact HYs.out, hc.bel (HB.out.2 _ _ _), ?_, hB.trans ((HB.out.2 _ _ _).below (by omega))⟩
        rw [hln]
        exact hb.set 0 _
      · gi_wp2_with (refine ⟨trivial, ?_⟩; gi_at_call 37; refine (callsIn_wide.2 (HF.out _)).mono ?_; rintro e w1 ⟨rfl, rfl⟩)
        obtain ⟨hc, hb, hB, y3⟩ := HS.out
        have hz := HZ.out
        have y4 := y3.bel (by omega) (HB.out.2 W (.int .i64 ((yi : Int) + 1)) _)
        exact ⟨((KeepsOthers.setCell _ _ _).from _).trans ((KeepsOthers.setCell _ _ _).from _), rfl, ⟨true, y4.set 0 (.bool true), .inl rfl⟩, (hB.trans ((HB.out.2 _ _ _).below (by omega))).trans ((HB.out.1 _ _ _).below (by omega)), Nat.le_trans (Nat.le_trans hc.size (HB.out.2 W (.int .i64 ((yi : Int) + 1)) 0).size) (HB.out.1 _ (.bool true) 0).size⟩
  case done =>
    rintro D ys W hD' hys ⟨hpr, hc, hb, hB⟩ hK
    have hlen : ys.length = ws.length := by
      have h1 := congrArg List.length hys
      by_cases ha : askS ds es [x] = 0
      · rw [if_pos ha] at h1; simp at h1; rw [HW.out.1 ha, h1]
      · rw [if_neg ha] at h1; simp at h1; rw [HW.out.2.1 ha, h1]; rfl
    rw [hlen] at hb
    have y1 := hc.box HX.out.1 (by omega)
    have y3 := hc.box HX.out.2.2 (by omega)
    obtain ⟨q1, q2, q3⟩ := hb.facts
    obtain ⟨q4, q5, q6⟩ := y1.facts
    obtain ⟨q7, q8, q9⟩ := y3.facts
    have hcs := hc.size
    clear hpr hys hlen hne hA
    gi_wp2
    have hK2 : (W.setCell ⟨w.heap.size + 1 + 1 + 1, 0, none⟩ (.bool true)).heap[D]? = some (.deferred (some [])) := by
      rw [Below.heap_setCell _ _ _ _ (by show D ≠ w.heap.size + 1 + 1 + 1; omega)]; exact hK
    have hst : StillC W1.heap.size _ _ := StillC.put (o' := .deferred none) hD' hK2 rfl
    refine ⟨by simp, .inl ⟨_, _, rfl, run_takeDeferred hK2, ?_⟩⟩
    refine ⟨_, results_one rfl (rv_bool (g := w.heap.size + 1 + 1 + 1) rfl ((y3.set 0 _).still hst) Try.underlying4), rfl, ?_⟩
    exact below_still (below_set hB (by omega) _ _) hst (by omega)
  case stop =>
    rintro D c pre W hD' ⟨hpre1, hpre2⟩ ⟨rfl, ⟨b, k3, hb⟩, hB, hs4⟩ hK
    obtain rfl : b = true := by
      rcases hb with hb | hb | hb
      · exact hb
      · exact absurd hpre1 hb
      · exact absurd hpre2 hb
    obtain ⟨q7, q8, q9⟩ := k3.facts
    gi_wp2
    have hst : StillC W1.heap.size _ _ := StillC.put (o' := .deferred none) hD' hK rfl
    refine ⟨by simp, .inl ⟨_, _, rfl, run_takeDeferred hK, ?_⟩⟩
    refine ⟨_, results_one rfl (rv_bool (g := w.heap.size + 1 + 1 + 1) rfl (k3.still hst) Try.underlying4), rfl, ?_⟩
    exact below_still hB hst (by omega)
end Go.Proofs.Ytogkmddhgfenkaa
