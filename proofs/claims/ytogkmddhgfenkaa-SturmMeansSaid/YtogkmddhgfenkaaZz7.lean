/- Package sturm: counts. -/
import Derived.Test.YtogkmddhgfenkaaZz6
import Derived.Test.YtogkmddhgfenkaaZz5
import Derived.Test.YtogkmddhgfenkaaZz2
namespace Go.Proofs.Ytogkmddhgfenkaa
open Go Go.RowKit Go.Shelf
attribute [local go_sem] Oper.semAt_some
set_option maxRecDepth 100000

set_option maxHeartbeats 1000000 in
theorem Pivots_any (w : World) (da ea : Option Addr) (n dc m ec x : Nat) :
    Calls Try.prog 83 #[.agg #[.slice da n dc, .slice ea m ec], .float .f64 x] w fun e w' => e = .returned (.func (.func 98) #[] #[.pointer (some ⟨w.heap.size, 0, none⟩), .pointer (some ⟨w.heap.size + 1, 0, none⟩)]) ∧ w' = (w.alloc (.cells #[.slice da n dc, .slice ea m ec] 51)).alloc (.cells #[.float .f64 x] 35) := by
  go_enter Try.func83, Try.ntmps83
  go_wp2
  go_ret
  exact ⟨rfl, rfl⟩

/-- How many of the first k pivots are below nought. -/
def cntK (ds es : List Nat) (x : Nat) (k : Nat) : Nat := ((List.range k).filter fun i => flt (pivQ ds es x (i + 1)) 0).length
def cntN (ds es : List Nat) (x : Nat) : Nat := if askS ds es [x] = 0 then cntK ds es x ds.length else 0
def cntL (ds es : List Nat) (x : Nat) (l : List Nat) : Nat := (l.filter fun i => flt (pivQ ds es x (i + 1)) 0).length

theorem cntL_snoc (ds es : List Nat) (x : Nat) (l : List Nat) (i : Nat) : cntL ds es x (l ++ [i]) = cntL ds es x l + (if flt (pivQ ds es x (i + 1)) 0 then 1 else 0) := by
  unfold cntL
  rw [List.filter_append, List.length_append]
  congr 1
  rw [List.filter_cons]
  cases flt (pivQ ds es x (i + 1)) 0 <;> rfl
theorem cntL_le (ds es : List Nat) (x : Nat) (l : List Nat) : cntL ds es x l ≤ l.length := List.length_filter_le _ _
set_option maxHeartbeats 4000000 in
theorem count_any (w : World) (da ea : Option Addr) (ds es : List Nat) (dc ec : Nat) (x sx : Nat) (hD : Fls w da ds) (hE : Fls w ea es) (hl : ds.length ≤ 1000) (hl' : es.length ≤ 1000) :
    Calls Try.prog 82 #[.agg #[.slice da ds.length dc, .slice ea es.length ec], .float .f64 (raw x sx)] w fun e w' => e = .returned (.int .i64 (cntN ds es x)) ∧ Below w.heap.size w w' := by
  have hm : ds.length ≤ maxLen := by unfold maxLen; omega
  have hm' : es.length ≤ maxLen := by unfold maxLen; omega
  refine (callsIn_wide (n := 9)).1 ?_
  refine callsIn_of_wp_marks Try.func82 rfl trivial ?_ rfl
  simp only [Try.ntmps82, List.size_toArray, List.length_cons, List.length_nil, Nat.reduceAdd, Nat.reduceSub, Array.replicate_succ, Array.replicate_zero, List.push_toArray, List.append_toArray, List.nil_append, List.cons_append]
  gi_wp2_with (refine ⟨trivial, ?_⟩; gi_at_call 83; refine (callsIn_wide.2 (Pivots_any _ _ _ _ _ _ _ _)).mono ?_; rintro e w1 ⟨rfl, rfl⟩)
  have hB0 : Below w.heap.size w ((((w.alloc (.cells #[.slice da ds.length dc, .slice ea es.length ec] 51)).alloc (.cells #[.int .i64 0] 3)).alloc (.cells #[.slice da ds.length dc, .slice ea es.length ec] 51)).alloc (.cells #[.float .f64 (raw x sx)] 35)) := ((((Below.refl _ _).alloc (Nat.le_refl _) _).alloc (by simp) _).alloc (by simp; omega) _).alloc (by simp; omega) _
  have x1 : Box ((((w.alloc (.cells #[.slice da ds.length dc, .slice ea es.length ec] 51)).alloc (.cells #[.int .i64 0] 3)).alloc (.cells #[.slice da ds.length dc, .slice ea es.length ec] 51)).alloc (.cells #[.float .f64 (raw x sx)] 35)) (w.heap.size + 1) [.int .i64 0] := ((Box.newA _ [_] _ (by simp)).alloc _).alloc _
  have x2 : Box ((((w.alloc (.cells #[.slice da ds.length dc, .slice ea es.length ec] 51)).alloc (.cells #[.int .i64 0] 3)).alloc (.cells #[.slice da ds.length dc, .slice ea es.length ec] 51)).alloc (.cells #[.float .f64 (raw x sx)] 35)) (w.heap.size + 1 + 1) [.slice da ds.length dc, .slice ea es.length ec] := (Box.newA _ [_, _] _ (by simp)).alloc _
  have x3 : Box ((((w.alloc (.cells #[.slice da ds.length dc, .slice ea es.length ec] 51)).alloc (.cells #[.int .i64 0] 3)).alloc (.cells #[.slice da ds.length dc, .slice ea es.length ec] 51)).alloc (.cells #[.float .f64 (raw x sx)] 35)) (w.heap.size + 1 + 1 + 1) [.float .f64 (raw x sx)] := Box.newA _ [_] _ (by simp)
  have hsz : ((((w.alloc (.cells #[.slice da ds.length dc, .slice ea es.length ec] 51)).alloc (.cells #[.int .i64 0] 3)).alloc (.cells #[.slice da ds.length dc, .slice ea es.length ec] 51)).alloc (.cells #[.float .f64 (raw x sx)] 35)).heap.size = w.heap.size + 4 := by simp
  generalize ((((w.alloc (.cells #[.slice da ds.length dc, .slice ea es.length ec] 51)).alloc (.cells #[.int .i64 0] 3)).alloc (.cells #[.slice da ds.length dc, .slice ea es.length ec] 51)).alloc (.cells #[.float .f64 (raw x sx)] 35)) = W1 at *
  have hne : ∀ {za : Option Addr} {zs : List Nat}, Fls w za zs → zs ≠ [] → ∀ b o, za = some ⟨b, o, none⟩ → b ≠ w.heap.size + 1 := by
    intro za zs hZ hz b o e
    obtain ⟨b', o', e', hb', _⟩ := hZ hz
    rw [e] at e'
    simp only [Option.some.injEq, Addr.mk.injEq] at e'
    omega
  have hA : PivR ds es x sx da ea dc ec (w.heap.size + 1 + 1) (w.heap.size + 1 + 1 + 1) (CR W1 (w.heap.size + 1)) (ImpK (CR W1 (w.heap.size + 1))) :=
    ⟨fun W h => h.box x2 (by omega), fun W h => h.box x3 (by omega), fun W h => h.fls (hD.below hB0) (hne hD), fun W h => h.fls (hE.below hB0) (hne hE), fun A B h k => k h, fun A B h k => h.below k⟩
  refine piv_loop 9 (by decide) hA hm hm' CR.refl (fun A B h hs => h.still hs) rfl rfl
    (fun pre W => CR W1 (w.heap.size + 1) W ∧ Box W (w.heap.size + 1) [.int .i64 (cntL ds es x (pre.map Prod.fst) : Nat)] ∧ Below w.heap.size w W)
    (fun _ _ _ => False) (fun _ _ h => h.1.size) (fun _ _ _ h hs => ⟨h.1.still hs, h.2.1.still hs, h.2.2.trans (hs.1.mono (by omega))⟩) (fun _ _ _ h => h.elim) (fun _ _ _ _ h _ => h) ⟨CR.refl, x1, hB0⟩
    (fun T y => ((T.setIfInBounds 11 (.int .i64 (y.1 : Int))).setIfInBounds 12 (.float .f64 (raw (pivQ ds es x (y.1 + 1)) y.2))).setIfInBounds 7 (.float .f64 (raw (pivQ ds es x (y.1 + 1)) y.2))) ?assign ?body ?done ?stop
  case assign =>
    intro l y W K hK
    unfold pelV
    gi_wp2
    exact hK
  case body =>
    rintro l pre ⟨yi, ys⟩ W ⟨hc, hb, hB⟩ hlt
    obtain ⟨q1, q2, q3⟩ := hb.facts
    have hcb : cntL ds es x (pre.map Prod.fst) ≤ 1000 := by have := cntL_le ds es x (pre.map Prod.fst); rw [List.length_map] at this; omega
    have hstep : cntL ds es x ((pre ++ [(yi, ys)]).map Prod.fst) = cntL ds es x (pre.map Prod.fst) + (if flt (pivQ ds es x (yi + 1)) 0 then 1 else 0) := by rw [List.map_append]; exact cntL_snoc _ _ _ _ _
    generalize cntL ds es x (pre.map Prod.fst) = cc at *
    dsimp only
    cases hf : flt (pivQ ds es x (yi + 1)) 0
    · rw [hf] at hstep
      gi_wp2
      refine ⟨keeps_below (Below.refl _ _) _, fun h => h, hc, ?_, hB⟩
      rw [hstep]; exact hb
    · rw [hf] at hstep
      have e1 : wrap64 ((cc : Int) + 1) = (cc : Int) + 1 := by unfold wrap64; omega
      gi_wp2
      have hbb : Bel W.heap.size (w.heap.size + 1) W (W.setCell ⟨w.heap.size + 1, 0, none⟩ (.int .i64 ((cc : Int) + 1))) := (Bel.refl _ _ _).set _ _
      refine ⟨keeps_bel hbb hb _, fun hR => hR.bel hbb, hc.bel hbb, ?_, hB.setCell (by show w.heap.size ≤ w.heap.size + 1; omega) _⟩
      rw [hstep]; exact hb.set 0 _
  case done =>
    rintro D xs W hD' hxs ⟨hc, hb, hB⟩ hK
    rw [hxs] at hb
    have hcn : cntL ds es x (if askS ds es [x] = 0 then List.range ds.length else []) = cntN ds es x := by
      unfold cntN
      split <;> rfl
    rw [hcn] at hb
    obtain ⟨q1, q2, q3⟩ := hb.facts
    gi_wp2
    have hst : StillC W1.heap.size _ _ := StillC.put (o' := .deferred none) hD' hK rfl
    refine ⟨by simp, .inl ⟨_, _, rfl, run_takeDeferred hK, ?_⟩⟩
    exact ⟨_, results_tmp rfl _ _ _, rfl, hB.trans (hst.1.mono (by omega))⟩
  case stop =>
    rintro D c pre W _ _ h _
    exact h.elim
end Go.Proofs.Ytogkmddhgfenkaa

/- Package sturm: Count; bounds. -/
namespace Go.Proofs.Ytogkmddhgfenkaa
open Go Go.RowKit
set_option maxRecDepth 100000

set_option maxHeartbeats 4000000 in
theorem Count_any (w : World) (da ea : Option Addr) (ds es : List Nat) (dc ec : Nat) (x sx : Nat) (hD : Fls w da ds) (hE : Fls w ea es) (hl : ds.length ≤ 1000) (hl' : es.length ≤ 1000) :
    Calls Try.prog 44 #[.agg #[.slice da ds.length dc, .slice ea es.length ec], .float .f64 (raw x sx)] w fun e w' => e = .returned (.tuple #[.int .i64 (cntN ds es x), .int .i64 (askS ds es [x])]) ∧ Below w.heap.size w w' := by
  have hm : ds.length ≤ maxLen := by unfold maxLen; omega
  have hm' : es.length ≤ maxLen := by unfold maxLen; omega
  have x0 : Box (w.alloc (.cells #[.slice da ds.length dc, .slice ea es.length ec] 51)) w.heap.size [.slice da ds.length dc, .slice ea es.length ec] := Box.newA w [_, _] _ rfl
  have hB0 : Below w.heap.size w (w.alloc (.cells #[.slice da ds.length dc, .slice ea es.length ec] 51)) := (Below.refl _ _).alloc (Nat.le_refl _) _
  have hA : Below (w.alloc (.cells #[.slice da ds.length dc, .slice ea es.length ec] 51)).heap.size (w.alloc (.cells #[.slice da ds.length dc, .slice ea es.length ec] 51)) ((w.alloc (.cells #[.slice da ds.length dc, .slice ea es.length ec] 51)).alloc (.cells #[.float .f64 (raw x sx)] 35)) := (Below.refl _ _).alloc (Nat.le_refl _) _
  have HA := Lib.hid (ask13_any ((w.alloc (.cells #[.slice da ds.length dc, .slice ea es.length ec] 51)).alloc (.cells #[.float .f64 (raw x sx)] 35)) da ea (some ⟨(w.alloc (.cells #[.slice da ds.length dc, .slice ea es.length ec] 51)).heap.size, 0, none⟩) ds es [x] dc ec 1 ((hD.below hB0).below hA) ((hE.below hB0).below hA) (fls_one _ _ _ _) hm hm' (by unfold maxLen; simp))
  have HC := Lib.hid (fun (W : World) (hW : Below w.heap.size w W) => count_any W da ea ds es dc ec x sx (hD.below hW) (hE.below hW) hl hl')
  have hB1 := below_step hB0 hB0.size hA
  have x1 := x0.below hA
  clear hD hE hl hl' hm hm'
  rw [World.size_alloc] at HA
  go_enter Try.func44, Try.ntmps44
  go_wp2_with fail
  refine HA.out.mono ?_
  rintro e w1 ⟨rfl, hb1⟩
  have x2 := x1.below hb1
  have hB2 := below_step hB1 hB1.size hb1
  clear x0 x1 hB0 hB1 hA hb1 HA
  obtain ⟨a1, a2, a3⟩ := x2.facts
  by_cases hz : askS ds es [x] = 0
  · have e0 : (askS ds es [x] != 0) = false := by simp [hz]
    have HZ := Lib.hid hz
    rw [hz]
    clear hz e0
    go_wp2_with fail
    refine (HC.out _ hB2).mono ?_
    rintro e w2 ⟨rfl, hb2⟩
    go_wp2
    refine bodyPost_ret (results_tmp2 rfl _ _ _) rfl ⟨?_, below_step hB2 hB2.size hb2⟩
    rw [HZ.out]; rfl
  · have e0 : (askS ds es [x] != 0) = true := by simp [hz]
    have HZ : Hid (cntN ds es x = 0) := by unfold Hid cntN; rw [if_neg hz]
    clear hz
    go_wp2
    refine bodyPost_ret (results_tmp2 rfl _ _ _) rfl ⟨?_, hB2⟩
    rw [HZ.out]; rfl

/-- The size of the i-th float beside the diagonal; nought, where there is none. -/
def besA (es : List Nat) (i : Int) : Nat := if 0 ≤ i ∧ i < es.length then fabs (es.getD i.toNat 0) else 0
set_option maxHeartbeats 2000000 in
theorem beside_any (w : World) (ea : Option Addr) (es : List Nat) (ec Bt n dc : Nat) (da : Option Addr) (i : Int) (hE : Fls w ea es) (hW : Words es) (hb : Box w Bt [.slice da n dc, .slice ea es.length ec]) :
    Calls Try.prog 74 #[.int .i64 i, .pointer (some ⟨Bt, 0, none⟩)] w fun e w' => FR e (besA es i) ∧ w = w' := by
  obtain ⟨b1, b2, b3⟩ := hb.facts
  by_cases h : 0 ≤ i ∧ i < es.length
  · obtain ⟨k, rfl⟩ := Int.eq_ofNat_of_zero_le h.1
    have hk : k < es.length := by omega
    have e0 : besA es (k : Int) = fabs (es.getD k 0) := by unfold besA; rw [if_pos h, Int.toNat_natCast]
    obtain ⟨eb, eo, s2, rfl, heb, c2⟩ := hE.at hk
    have hw := hW.at k
    rw [e0]
    clear e0 h
    have HA := Lib.hid (fun (W : World) => Abs_any (raw (es.getD k 0) s2) (raw_lt hw s2) W)
    have HR := Lib.hid (fabs_raw (es.getD k 0) s2)
    generalize es.getD k 0 = z at *
    go_enter Try.func74, Try.ntmps74
    go_wp2_with fail
    refine (HA.out _).mono ?_
    rintro e w2 ⟨rfl, rfl⟩
    go_wp2
    go_ret
    obtain ⟨t, ht⟩ := HR.out
    exact ⟨⟨t, by rw [← ht]; rfl⟩, rfl⟩
  · have e0 : besA es i = 0 := by unfold besA; rw [if_neg h]
    rw [e0]
    clear e0
    by_cases h1 : i < 0
    · have t0 := decide_eq_true h1
      clear h h1
      go_enter Try.func74, Try.ntmps74
      go_wp2
      go_ret
      exact ⟨⟨0, by rw [raw_of_not (by kernel_rfl)]; rfl⟩, rfl⟩
    · have t0 := decide_eq_false h1
      have t1 : decide ((es.length : Int) ≤ i) = true := decide_eq_true (by omega)
      clear h h1
      go_enter Try.func74, Try.ntmps74
      go_wp2
      go_ret
      exact ⟨⟨0, by rw [raw_of_not (by kernel_rfl)]; rfl⟩, rfl⟩
end Go.Proofs.Ytogkmddhgfenkaa

/- Package sturm: bounds. -/
namespace Go.Proofs.Ytogkmddhgfenkaa
open Go Go.RowKit
set_option maxRecDepth 100000

def besR (es : List Nat) (k : Nat) : Nat := fadd (besA es ((k : Int) - 1)) (besA es k)
/-- The bounds after k rows. -/
def bndL (ds es : List Nat) : Nat → Nat × Nat
  | 0 => (0, 0)
  | k + 1 => (if k = 0 ∨ flt (fsub (ds.getD k 0) (besR es k)) (bndL ds es k).1 = true then fsub (ds.getD k 0) (besR es k) else (bndL ds es k).1,
      if k = 0 ∨ flt (bndL ds es k).2 (fadd (ds.getD k 0) (besR es k)) = true then fadd (ds.getD k 0) (besR es k) else (bndL ds es k).2)
/-- The error. -/
def bndE (ds es : List Nat) : Int := if askS ds es [] = 0 then (if ds.length = 0 then 2 else if fnS (bndL ds es ds.length).1 && fnS (bndL ds es ds.length).2 then 0 else 10) else askS ds es []

theorem fls_two (W : World) (T : TypeId) (x sx y sy : Nat) : Fls (W.alloc (.cells #[.float .f64 (raw x sx), .float .f64 (raw y sy)] T)) (some ⟨W.heap.size, 0, none⟩) [x, y] := fun _ => ⟨W.heap.size, 0, rfl, by simp, fun i v hi => by
  have hb : Box (W.alloc (.cells #[.float .f64 (raw x sx), .float .f64 (raw y sy)] T)) W.heap.size [.float .f64 (raw x sx), .float .f64 (raw y sy)] := Box.newA W [_, _] T rfl
  cases i with
  | zero => simp at hi; subst hi; exact ⟨sx, by rw [hb.cell]; rfl⟩
  | succ i =>
    cases i with
    | zero => simp at hi; subst hi; exact ⟨sy, by rw [hb.cell]; rfl⟩
    | succ i => simp at hi⟩

set_option maxHeartbeats 8000000 in
theorem Bounds_any (w : World) (da ea : Option Addr) (ds es : List Nat) (dc ec : Nat) (hD : Fls w da ds) (hE : Fls w ea es) (hW : Words es) (hl : ds.length ≤ 1000) (hl' : es.length ≤ 1000) :
    Calls Try.prog 35 #[.agg #[.slice da ds.length dc, .slice ea es.length ec]] w fun e w' => ∃ lo hi s1 s2, e = .returned (.tuple #[.float .f64 (raw lo s1), .float .f64 (raw hi s2), .int .i64 (bndE ds es)]) ∧ (bndE ds es = 0 → lo = (bndL ds es ds.length).1 ∧ hi = (bndL ds es ds.length).2) ∧ (bndE ds es ≠ 0 → lo = 0 ∧ hi = 0) ∧ Below w.heap.size w w' := by
  have hm : ds.length ≤ maxLen := by unfold maxLen; omega
  have hm' : es.length ≤ maxLen := by unfold maxLen; omega
  have x0 : Box (w.alloc (.cells #[.slice da ds.length dc, .slice ea es.length ec] 51)) w.heap.size [.slice da ds.length dc, .slice ea es.length ec] := Box.newA w [_, _] _ rfl
  have hB0 : Below w.heap.size w (w.alloc (.cells #[.slice da ds.length dc, .slice ea es.length ec] 51)) := (Below.refl _ _).alloc (Nat.le_refl _) _
  have HA := Lib.hid (fun (W : World) (hW : Below w.heap.size w W) => ask13_any W da ea none ds es [] dc ec 0 (hD.below hW) (hE.below hW) (fun h => absurd rfl h) hm hm' (by decide))
  have z1 : raw 0 0 = 0 := raw_of_not (by kernel_rfl) 0
  go_enter Try.func35, Try.ntmps35
  go_wp2_with fail
  refine (HA.out _ hB0).mono ?_
  rintro e w1 ⟨rfl, hb1⟩
  have x1 := x0.below hb1
  have hB1 := below_step hB0 hB0.size hb1
  clear x0 hB0 hb1 HA hm hm'
  by_cases hz : askS ds es [] = 0
  case neg =>
    have e0 : (askS ds es [] != 0) = true := by simp [hz]
    have hE0 : bndE ds es = askS ds es [] := by unfold bndE; rw [if_neg hz]
    have HE := Lib.hid hE0
    have HZ := Lib.hid hz
    clear hz hE0
    go_wp2
    refine bodyPost_ret (results_tmp3 rfl _ _ _) rfl ⟨0, 0, 0, 0, ?_, fun h => absurd (HE.out ▸ h) HZ.out, fun _ => ⟨rfl, rfl⟩, hB1⟩
    rw [HE.out, z1]; rfl
  case pos =>
    have HZ := Lib.hid hz
    rw [hz]
    clear hz
    obtain ⟨a1, a2, a3⟩ := x1.facts
    by_cases hn : ds.length = 0
    · have hE0 : bndE ds es = 2 := by unfold bndE; rw [if_pos HZ.out, if_pos hn]
      have HE := Lib.hid hE0
      have hn' : ((ds.length : Int) == 0) = true := by rw [beq_iff_eq]; omega
      clear hE0 hn
      go_wp2
      refine bodyPost_ret (results_tmp3 rfl _ _ _) rfl ⟨0, 0, 0, 0, ?_, fun h => absurd (HE.out ▸ h) (by decide), fun _ => ⟨rfl, rfl⟩, hB1⟩
      rw [HE.out, z1]; rfl
    · have hn' : ((ds.length : Int) == 0) = false := by rw [beq_eq_false_iff_ne]; omega
      have HN := Lib.hid hn
      clear hn
      go_wp2
      clear hn' a1 a2 a3
      have HB := Lib.hid (fun (i : Int) (W : World) (hW' : Below w1.heap.size w1 W) => beside_any W ea es ec w.heap.size ds.length dc da i ((hE.below hB1).below hW') hW (x1.below hW'))
      go_loopw [7, 8, 27] (fun s7 s8 s27 wr => ∃ k : Nat, k ≤ ds.length ∧ s27 = .int .i64 k ∧ IsF s7 (bndL ds es k).1 ∧ IsF s8 (bndL ds es k).2 ∧ Below w1.heap.size w1 wr) (fun _ _ s27 _ => ds.length - (intOf s27).toNat)
      case atStart => exact ⟨0, Nat.zero_le _, rfl, IsF.const (by kernel_rfl), IsF.const (by kernel_rfl), Below.refl _ _⟩
      case round =>
        obtain ⟨k, hk, rfl, ⟨sl, rfl⟩, ⟨sh, rfl⟩, hB⟩ := hrel
        by_cases hlt : k < ds.length
        · obtain ⟨db, do', sd, rfl, hdb, c1⟩ := ((hD.below hB1).below hB).at hlt
          have hw1 : wrap64 ((k : Int) - 1) = (k : Int) - 1 := by unfold wrap64; omega
          have e1 : (bndL ds es (k + 1)).1 = (if k = 0 ∨ flt (fsub (ds.getD k 0) (fadd (besA es ((k : Int) - 1)) (besA es k))) (bndL ds es k).1 = true then fsub (ds.getD k 0) (fadd (besA es ((k : Int) - 1)) (besA es k)) else (bndL ds es k).1) := rfl
          have e2 : (bndL ds es (k + 1)).2 = (if k = 0 ∨ flt (bndL ds es k).2 (fadd (ds.getD k 0) (fadd (besA es ((k : Int) - 1)) (besA es k))) = true then fadd (ds.getD k 0) (fadd (besA es ((k : Int) - 1)) (besA es k)) else (bndL ds es k).2) := rfl
          generalize ds.getD k 0 = d at *
          generalize (bndL ds es k).1 = lo at *
          generalize (bndL ds es k).2 = hi at *
          have hkb : k + 1 ≤ 1000 := by omega
          by_cases hk0 : k = 0
          · have t0 : ((k : Int) == 0) = true := by rw [beq_iff_eq]; omega
            rw [if_pos (.inl hk0)] at e1 e2
            clear hk0
            go_wp2_with (first | (go_at_call 74; refine (HB.out _ _ hB).mono ?_; rintro e w' ⟨⟨_, rfl⟩, rfl⟩) | (refine wpList_flt rfl rfl rfl rfl rfl ?_; intro K hK _ _; go_frame; refine hK _ _ ?_; clear hK K))
            go_roundw
            case rel => exact ⟨k + 1, by omega, by go_num, IsF.of (by first | (rw [e1]; done) | (rw [e1]; simp [go_sem])), IsF.of (by first | (rw [e2]; done) | (rw [e2]; simp [go_sem])), below_drewN _ hB⟩
            case measure => simp [intOf]; omega
          · have t0 : ((k : Int) == 0) = false := by rw [beq_eq_false_iff_ne]; omega
            cases hlo : flt (fsub d (fadd (besA es ((k : Int) - 1)) (besA es k))) lo
            · cases hhi : flt hi (fadd d (fadd (besA es ((k : Int) - 1)) (besA es k)))
              · rw [if_neg (by rintro (h | h); exact hk0 h; rw [hlo] at h; cases h)] at e1
                rw [if_neg (by rintro (h | h); exact hk0 h; rw [hhi] at h; cases h)] at e2
                go_wp2_with (first | (go_at_call 74; refine (HB.out _ _ hB).mono ?_; rintro e w' ⟨⟨_, rfl⟩, rfl⟩) | (refine wpList_flt rfl rfl rfl rfl rfl ?_; intro K hK _ _; go_frame; refine hK _ _ ?_; clear hK K))
                go_roundw
                case rel => exact ⟨k + 1, by omega, by go_num, IsF.of (by first | (rw [e1]; done) | (rw [e1]; simp [go_sem])), IsF.of (by first | (rw [e2]; done) | (rw [e2]; simp [go_sem])), below_drewN _ hB⟩
                case measure => simp [intOf]; omega
              · rw [if_neg (by rintro (h | h); exact hk0 h; rw [hlo] at h; cases h)] at e1
                rw [if_pos (by right; exact hhi)] at e2
                go_wp2_with (first | (go_at_call 74; refine (HB.out _ _ hB).mono ?_; rintro e w' ⟨⟨_, rfl⟩, rfl⟩) | (refine wpList_flt rfl rfl rfl rfl rfl ?_; intro K hK _ _; go_frame; refine hK _ _ ?_; clear hK K))
                go_roundw
                case rel => exact ⟨k + 1, by omega, by go_num, IsF.of (by first | (rw [e1]; done) | (rw [e1]; simp [go_sem])), IsF.of (by first | (rw [e2]; done) | (rw [e2]; simp [go_sem])), below_drewN _ hB⟩
                case measure => simp [intOf]; omega
            · cases hhi : flt hi (fadd d (fadd (besA es ((k : Int) - 1)) (besA es k)))
              · rw [if_pos (by right; exact hlo)] at e1
                rw [if_neg (by rintro (h | h); exact hk0 h; rw [hhi] at h; cases h)] at e2
                go_wp2_with (first | (go_at_call 74; refine (HB.out _ _ hB).mono ?_; rintro e w' ⟨⟨_, rfl⟩, rfl⟩) | (refine wpList_flt rfl rfl rfl rfl rfl ?_; intro K hK _ _; go_frame; refine hK _ _ ?_; clear hK K))
                go_roundw
                case rel => exact ⟨k + 1, by omega, by go_num, IsF.of (by first | (rw [e1]; done) | (rw [e1]; simp [go_sem])), IsF.of (by first | (rw [e2]; done) | (rw [e2]; simp [go_sem])), below_drewN _ hB⟩
                case measure => simp [intOf]; omega
              · rw [if_pos (by right; exact hlo)] at e1
                rw [if_pos (by right; exact hhi)] at e2
                go_wp2_with (first | (go_at_call 74; refine (HB.out _ _ hB).mono ?_; rintro e w' ⟨⟨_, rfl⟩, rfl⟩) | (refine wpList_flt rfl rfl rfl rfl rfl ?_; intro K hK _ _; go_frame; refine hK _ _ ?_; clear hK K))
                go_roundw
                case rel => exact ⟨k + 1, by omega, by go_num, IsF.of (by first | (rw [e1]; done) | (rw [e1]; simp [go_sem])), IsF.of (by first | (rw [e2]; done) | (rw [e2]; simp [go_sem])), below_drewN _ hB⟩
                case measure => simp [intOf]; omega
        · obtain rfl : k = ds.length := by omega
          have hA2 : Below wr.heap.size wr (wr.alloc (.cells #[.float .f64 (raw (bndL ds es ds.length).1 sl), .float .f64 (raw (bndL ds es ds.length).2 sh)] 35)) := (Below.refl _ _).alloc (Nat.le_refl _) _
          have HF := Lib.hid (fin_any (wr.alloc (.cells #[.float .f64 (raw (bndL ds es ds.length).1 sl), .float .f64 (raw (bndL ds es ds.length).2 sh)] 35)) (some ⟨wr.heap.size, 0, none⟩) [(bndL ds es ds.length).1, (bndL ds es ds.length).2] 2 (fls_two _ _ _ _ _ _) (by unfold maxLen; simp))
          have hB2 := below_step (below_step hB1 hB1.size hB) (below_step hB1 hB1.size hB).size hA2
          have HE : Hid (bndE ds es = if (fnS (bndL ds es ds.length).1 && fnS (bndL ds es ds.length).2) = true then 0 else 10) := by unfold Hid bndE; rw [if_pos HZ.out, if_neg HN.out]
          have ef : [(bndL ds es ds.length).1, (bndL ds es ds.length).2].all fnS = (fnS (bndL ds es ds.length).1 && fnS (bndL ds es ds.length).2) := by simp
          rw [ef] at HF
          clear ef hA2
          have HLo : Hid (∀ a b : Nat, True) := fun _ _ => trivial
          go_wp2_with fail
          refine HF.out.mono ?_
          rintro e w2 ⟨rfl, hb2⟩
          have hB3 := below_step hB2 hB2.size hb2
          cases hf : (fnS (bndL ds es ds.length).1 && fnS (bndL ds es ds.length).2)
          · rw [hf] at HE
            go_wp2
            refine bodyPost_ret (results_tmp3 rfl _ _ _) rfl ⟨0, 0, 0, 0, ?_, fun h => absurd (HE.out ▸ h) (by decide), fun _ => ⟨rfl, rfl⟩, hB3⟩
            rw [HE.out, z1]; rfl
          · rw [hf] at HE
            go_wp2
            refine bodyPost_ret (results_tmp3 rfl _ _ _) rfl ⟨(bndL ds es ds.length).1, (bndL ds es ds.length).2, sl, sh, ?_, fun _ => ⟨rfl, rfl⟩, fun h => absurd HE.out h, hB3⟩
            rw [HE.out]; rfl
end Go.Proofs.Ytogkmddhgfenkaa

/- The document's sturm: what is asked of a tridiagonal; its bounds. -/
namespace Go.Proofs.Ytogkmddhgfenkaa
open Go Go.RowKit
set_option maxRecDepth 100000

set_option maxHeartbeats 2000000 in
theorem RFinite_any (w : World) (za : Option Addr) (zs : List Nat) (zc : Nat) (hZ : Fls w za zs) (hW : Words zs) (hl : zs.length ≤ maxLen) :
    Calls Try.prog 40 #[.slice za zs.length zc] w fun e w' => e = .returned (.bool (zs.all ffin)) ∧ w = w' := by
  have hl' := hl
  unfold maxLen at hl'
  have hln : zs.length ≤ 9223372036854775807 := by omega
  go_enter Try.func40, Try.ntmps40
  go_wp2_with fail
  go_loopw [3] (fun i wr => ∃ k : Nat, k ≤ zs.length ∧ i = .int .i64 k ∧ (∀ j, j < k → ffin (zs.getD j 0) = true) ∧ w = wr) (fun i _ => zs.length - (intOf i).toNat)
  case atStart => exact ⟨0, Nat.zero_le _, rfl, fun _ h => absurd h (Nat.not_lt_zero _), rfl⟩
  case round =>
    obtain ⟨k, hk, rfl, hno, rfl⟩ := hrel
    have HNO := Lib.hid hno
    clear hno
    by_cases hlt : k < zs.length
    · obtain ⟨b, o, s1, rfl, hb, hc1⟩ := hZ.at hlt
      have hv := hW.at k
      have e0 : zs.getD k 0 = zs[k] := by simp [hlt]
      have hz : zs[k] ∈ zs := List.getElem_mem hlt
      rw [← e0] at hz
      clear e0
      obtain ⟨x, hx⟩ : ∃ x, zs.getD k 0 = x := ⟨_, rfl⟩
      rw [hx] at hc1 hv hz
      have HX := Lib.hid hx
      have HZk := Lib.hid hz
      clear hx hz
      have HI := Lib.hid (infinite_eq x)
      have HN := Lib.hid (IsNaN_any (raw x s1) w)
      have HF := Lib.hid (IsInf0_any (raw x s1) (raw_lt hv s1) w)
      have eN : isnan (raw x s1) = isnan x := isnan_raw x s1
      have eI : ∀ h : isnan x = false, decide (raw x s1 % 9223372036854775808 = 9218868437227405312) = decide (x % 9223372036854775808 = 9218868437227405312) := fun h => by rw [raw_of_not h s1]
      rw [eN] at HN
      clear eN
      have HV := Lib.hid hv
      clear hv
      clear hl hl'
      cases hn : isnan x
      · rw [eI hn] at HF
        clear eI
        rw [hn] at HN HI
        rw [Bool.false_or] at HI
        clear hn
        generalize decide (x % 9223372036854775808 = 9218868437227405312) = q at HF HI
        have HL := Lib.hid hln
        clear hln hW
        cases q
        · have hln := HL.out
          go_wp2_with fail
          refine HN.out.mono ?_
          rintro e w' ⟨rfl, rfl⟩
          go_wp2_with fail
          refine HF.out.mono ?_
          rintro e w' ⟨rfl, rfl⟩
          go_wp2_with fail
          go_roundw
          case rel => exact ⟨k + 1, by omega, by go_num, fun j hj => (by
            by_cases hjk : j = k
            · subst hjk; rw [HX.out]; simpa using HI.out
            · exact HNO.out j (by omega)), by trivial⟩
          case measure => simp [intOf]; omega
        · have hln := HL.out
          go_wp2_with fail
          refine HN.out.mono ?_
          rintro e w' ⟨rfl, rfl⟩
          go_wp2_with fail
          refine HF.out.mono ?_
          rintro e w' ⟨rfl, rfl⟩
          go_wp2_with fail
          go_ret
          refine ⟨?_, rfl⟩
          rw [eq_comm]
          congr 2
          rw [List.all_eq_false]
          exact ⟨x, HZk.out, by have := HI.out; simp at this; simp [← this]⟩
      · rw [hn] at HN HI
        clear hn eI HF hln hW
        go_wp2_with fail
        refine HN.out.mono ?_
        rintro e w' ⟨rfl, rfl⟩
        go_wp2_with fail
        go_ret
        refine ⟨?_, rfl⟩
        rw [eq_comm]
        congr 2
        rw [List.all_eq_false]
        exact ⟨x, HZk.out, by have := HI.out; simp at this; simp [← this]⟩
    · go_wp2_with fail
      go_ret
      refine ⟨?_, rfl⟩
      rw [eq_comm]
      congr 2
      rw [List.all_eq_true]
      intro x hx
      obtain ⟨j, hj, rfl⟩ := List.getElem_of_mem hx
      have := HNO.out j (by omega)
      simpa [hj] using this
set_option maxHeartbeats 1000000 in
theorem RMay13_any (w : World) (da ea : Option Addr) (n m dc ec : Nat) (hn : n ≤ maxLen) (hm : m ≤ maxLen) :
    Calls Try.prog 51 #[.agg #[.slice da n dc, .slice ea m ec]] w fun e w' => e = .returned (.bool (mayS n m)) ∧ Below w.heap.size w w' := by
  unfold maxLen at hn hm
  unfold mayS
  have h1 : decide ((n : Int) ≤ 512) = decide (n ≤ 512) := by rw [Bool.eq_iff_iff]; simp; omega
  have h2 : ((m : Int) == max 0 ((n : Int) - 1)) = decide (m = n - 1) := by rw [Bool.eq_iff_iff]; simp; omega
  generalize decide (m = n - 1) = q at *
  generalize decide (n ≤ 512) = q' at *
  have hB0 : Below w.heap.size w (w.alloc (.cells #[.slice da n dc, .slice ea m ec] 51)) := (Below.refl _ _).alloc (Nat.le_refl _) _
  cases q' <;>
  · go_enter Try.func51, Try.ntmps51
    go_wp2
    all_goals
      go_ret
      refine ⟨?_, hB0⟩
      first
        | rfl
        | (rw [← h2, Int.max_eq_left (by omega)]; rfl)
        | (rw [← h2, Int.max_eq_right (by omega)]; rfl)
def askR (ds es : List Nat) : Int := if mayS ds.length es.length then (if ds.all ffin && es.all ffin then 0 else 10) else 2
theorem all_fnS (zs : List Nat) : zs.all fnS = zs.all ffin := by
  rw [show fnS = ffin from funext fnS_ffin]
theorem askR_askS (ds es : List Nat) : askR ds es = askS ds es [] := by
  unfold askR askS
  rw [all_fnS, all_fnS]
  simp
set_option maxHeartbeats 2000000 in
theorem RAsk_any (w : World) (da ea : Option Addr) (ds es : List Nat) (dc ec : Nat) (hD : Fls w da ds) (hE : Fls w ea es) (hWd : Words ds) (hWe : Words es) (hn : ds.length ≤ maxLen) (hm : es.length ≤ maxLen) :
    Calls Try.prog 36 #[.agg #[.slice da ds.length dc, .slice ea es.length ec]] w fun e w' => e = .returned (.int .i64 (askR ds es)) ∧ Below w.heap.size w w' := by
  have HM := Lib.hid (fun (W : World) => RMay13_any W da ea ds.length es.length dc ec hn hm)
  have H1 := Lib.hid (fun (W : World) (hW : Below w.heap.size w W) => RFinite_any W da ds dc (hD.below hW) hWd hn)
  have H2 := Lib.hid (fun (W : World) (hW : Below w.heap.size w W) => RFinite_any W ea es ec (hE.below hW) hWe hm)
  unfold askR
  generalize mayS ds.length es.length = q0 at *
  generalize ds.all ffin = q1 at *
  generalize es.all ffin = q2 at *
  clear hD hE hn hm hWd hWe
  have x0 : Box (w.alloc (.cells #[.slice da ds.length dc, .slice ea es.length ec] 51)) w.heap.size [.slice da ds.length dc, .slice ea es.length ec] := Box.newA w [_, _] _ rfl
  have hB0 : Below w.heap.size w (w.alloc (.cells #[.slice da ds.length dc, .slice ea es.length ec] 51)) := (Below.refl _ _).alloc (Nat.le_refl _) _
  go_enter Try.func36, Try.ntmps36
  go_wp2_with fail
  refine (HM.out _).mono ?_
  rintro e w1 ⟨rfl, hb1⟩
  have x1 := x0.below hb1
  have hB1 := below_step hB0 hB0.size hb1
  clear x0 hB0 hb1
  obtain ⟨a1, a2, a3⟩ := x1.facts
  cases q0
  case false =>
    go_wp2
    go_ret
    exact ⟨rfl, hB1⟩
  go_wp2_with fail
  refine (H1.out _ hB1).mono ?_
  rintro e w' ⟨rfl, rfl⟩
  cases q1
  case false =>
    go_wp2
    go_ret
    exact ⟨rfl, hB1⟩
  go_wp2_with fail
  refine (H2.out _ hB1).mono ?_
  rintro e w' ⟨rfl, rfl⟩
  cases q2 <;>
  · go_wp2
    go_ret
    exact ⟨rfl, hB1⟩
end Go.Proofs.Ytogkmddhgfenkaa

/- A float's operation, in a walk: the operation is asked first. No condition. -/
namespace Go.Proofs.Ytogkmddhgfenkaa
open Go Go.RowKit
section
variable {P : Program} {ops : Array Oper} {Q : Exit → Act → World → Prop} {a : Act} {w : World} {rest : List Oper} {o : Oper} {op : BinOp} {xt yt : TypeId} {ox oy : Operand} {x y v : Nat}
theorem wpList_fltB (ho : o.op = .binOp op xt ox oy yt) (hx : a.eval ox = .float .f64 x) (hy : a.eval oy = .float .f64 y) (h : fbin op x y = some v) (hw : Region.wanted o (yielded ops a.tmps) = true)
    (hk : ∀ K : Act → World → Prop, (∀ a w, wpList P ops Q rest a w → K a w) → ∀ s n, K (a.put o.dst (.float .f64 (raw v s))) (w.drewN n)) : wpList P ops Q (o :: rest) a w :=
  wpList_flt hw ho hx hy h hk
end
end Go.Proofs.Ytogkmddhgfenkaa
