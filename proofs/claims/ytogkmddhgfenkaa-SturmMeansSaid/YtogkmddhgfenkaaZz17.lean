/- Package sturm: Within. -/
import Derived.Test.YtogkmddhgfenkaaZz16
import Derived.Test.YtogkmddhgfenkaaZz6
import Derived.Test.YtogkmddhgfenkaaZz4
import Derived.Laws.AppendOwn
namespace Go.Proofs.Ytogkmddhgfenkaa
open Go Go.RowKit
set_option maxRecDepth 100000

theorem All_ok (w : World) (da ea : Option Addr) (ds es : List Nat) (dc ec : Nat) (hD : Fls w da ds) (hE : Fls w ea es) (hW : Words es) (hl : ds.length ≤ 1000) (hl' : es.length ≤ 1000) (hz : allE ds es = 0) :
    Calls Try.prog 41 #[.agg #[.slice da ds.length dc, .slice ea es.length ec]] w fun e w' => ∃ sv, e = .returned (.tuple #[sv, .int .i64 (allM ds es ds.length), .int .i64 0]) ∧ w'.ownsRow w.heap.size 35 1 sv ds.length ((allL ds es ds.length).map (Value.float .f64)) ∧ Below w.heap.size w w' := by
  unfold allE at hz
  by_cases h : askS ds es [] = 0 ∧ ds.length ≠ 0
  · rw [if_pos h] at hz
    exact All_in w da ea ds es dc ec hD hE hW hl hl' hz
  · rw [if_neg h] at hz
    have hn : ds.length = 0 := by omega
    refine (All_ask w da ea ds es dc ec hD hE hl hl' (.inr hn)).mono ?_
    rintro e w' ⟨rfl, hb⟩
    rw [hz, hn]
    exact ⟨_, rfl, World.ownsRow_nil _ _ _ _, hb⟩
theorem cntN_le (ds es : List Nat) (x : Nat) : cntN ds es x ≤ ds.length := by
  unfold cntN
  split
  · exact cntK_le _ _ _ _
  · exact Nat.zero_le _
/-- Of the values those from one number up to another one. -/
def witL (ds es : List Nat) (l h : Nat) : List Nat := ((allL ds es ds.length).drop l).take (h - l)
theorem witL_length {ds es : List Nat} {l h : Nat} (hh : h ≤ ds.length) : (witL ds es l h).length = h - l := by
  unfold witL
  rw [List.length_take, List.length_drop, allL_length]
  omega
theorem row_cap {W : World} {base n : Nat} {a : Option Addr} {m c : Nat} {xs : List Value} (h : W.ownsRow base 35 1 (.slice a m c) n xs) : m = n ∧ n ≤ c := by
  rcases h.2 with ⟨h1, h2⟩ | ⟨g, cap, cur, h1, h2, h3, h4, _⟩
  · injection h1 with e1 e2 e3
    omega
  · injection h1 with e1 e2 e3
    omega
theorem part_cel {W : World} {base : Nat} {a : Option Addr} {c l h : Nat} {ds es : List Nat} (hr : W.ownsRow base 35 1 (.slice a ds.length c) ds.length ((allL ds es ds.length).map (Value.float .f64))) (hl : l ≤ h) (hh : h ≤ ds.length) :
    Cel W (if c = l then a else a.map (·.add (l * 1))) (witL ds es l h) := fun hz => by
  have hlh : l < h := by
    rcases Nat.lt_or_ge l h with h1 | h1
    · exact h1
    · exfalso; apply hz; have := witL_length (ds := ds) (es := es) (l := l) hh; exact List.length_eq_zero_iff.1 (by omega)
  obtain ⟨hm, hc⟩ := row_cap hr
  obtain ⟨g, cap, he, _, hg⟩ := ownsRow_atS hr (k := l) (by omega)
  injection he with h1 h2 h3
  subst h1; subst h3
  rw [if_neg (by omega)]
  refine ⟨g, l, by simp [Addr.add]; intro h; omega, hg, fun i v hi => ?_⟩
  have hil : i < h - l := by
    have := (List.getElem?_eq_some_iff.1 hi).1
    rw [witL_length hh] at this
    exact this
  obtain ⟨g', cap', he', hcell, _⟩ := ownsRow_atS hr (k := l + i) (by omega)
  injection he' with h4 h5 h6
  injection h4 with h7
  injection h7 with h8
  subst h8
  unfold witL at hi
  rw [List.getElem?_take_of_lt hil, List.getElem?_drop] at hi
  rw [hcell, List.getElem?_map, hi]
  rfl
set_option maxHeartbeats 8000000 in
theorem Within_ok (w : World) (da ea : Option Addr) (ds es : List Nat) (dc ec lo sl hi sh : Nat) (hD : Fls w da ds) (hE : Fls w ea es) (hW : Words es) (hl : ds.length ≤ 1000) (hl' : es.length ≤ 1000) (hz : allE ds es = 0) (hf : (ffin lo && ffin hi) = true) :
    Calls Try.prog 58 #[.agg #[.slice da ds.length dc, .slice ea es.length ec], .float .f64 (raw lo sl), .float .f64 (raw hi sh)] w fun e w' => (∃ a c, e = .returned (.tuple #[.slice a (witL ds es (cntN ds es lo) (max (cntN ds es lo) (cntN ds es hi))).length c, .int .i64 (allM ds es ds.length), .int .i64 0]) ∧ Cel w' a (witL ds es (cntN ds es lo) (max (cntN ds es lo) (cntN ds es hi)))) ∧ Below w.heap.size w w' := by
  have x0 : Box (w.alloc (.cells #[.slice da ds.length dc, .slice ea es.length ec] 51)) w.heap.size [.slice da ds.length dc, .slice ea es.length ec] := Box.newA w [_, _] _ rfl
  have hB0 : Below w.heap.size w (w.alloc (.cells #[.slice da ds.length dc, .slice ea es.length ec] 51)) := (Below.refl _ _).alloc (Nat.le_refl _) _
  have HA := Lib.hid (All_ok _ da ea ds es dc ec (hD.below hB0) (hE.below hB0) hW hl hl' hz)
  have HF := Lib.hid (fun (W : World) => fin_any (W.alloc (.cells #[.float .f64 (raw lo sl), .float .f64 (raw hi sh)] 35)) (some ⟨W.heap.size, 0, none⟩) [lo, hi] 2 (fls_two W 35 lo sl hi sh) (by unfold maxLen; simp))
  have ef : [lo, hi].all fnS = true := by rw [all_fnS]; simpa using hf
  rw [ef] at HF
  have HC1 := Lib.hid (fun W (hW' : Below w.heap.size w W) => count_any W da ea ds es dc ec lo sl (hD.below hW') (hE.below hW') hl hl')
  have HC2 := Lib.hid (fun W (hW' : Below w.heap.size w W) => count_any W da ea ds es dc ec hi sh (hD.below hW') (hE.below hW') hl hl')
  have hc1 := cntN_le ds es lo
  have hc2 := cntN_le ds es hi
  have hwl : (witL ds es (cntN ds es lo) (max (cntN ds es lo) (cntN ds es hi))).length = max (cntN ds es lo) (cntN ds es hi) - cntN ds es lo := witL_length (by omega)
  rw [hwl]
  have HPart := Lib.hid (fun (W : World) (base : Nat) (a : Option Addr) (c : Nat) hr => part_cel (W := W) (base := base) (a := a) (c := c) (l := cntN ds es lo) (h := max (cntN ds es lo) (cntN ds es hi)) (ds := ds) (es := es) hr (by omega) (by omega))
  clear hD hE hW hl' hz hf ef hwl
  generalize witL ds es (cntN ds es lo) (max (cntN ds es lo) (cntN ds es hi)) = wl at *
  generalize cntN ds es lo = c1 at *
  generalize cntN ds es hi = c2 at *
  go_enter Try.func58, Try.ntmps58
  go_wp2_with fail
  refine HA.out.mono ?_
  rintro e w1 ⟨sv, rfl, hr, hb1⟩
  obtain ⟨a, c, rfl⟩ := ownsRow_slice hr
  obtain ⟨_, hcap⟩ := row_cap hr
  have x1 := x0.below hb1
  have hB1 := below_step hB0 hB0.size hb1
  have hA1 := (Below.refl w1.heap.size w1).alloc (Nat.le_refl _) (.cells #[.float .f64 (raw lo sl), .float .f64 (raw hi sh)] 35)
  have HF1 := Lib.hid (HF.out w1)
  have HR := Lib.hid (show _ ∧ _ ∧ _ from ⟨hr, hB1, x1⟩)
  clear x0 hB0 hb1 HF hr x1 hB1 HA
  go_wp2_with fail
  refine HF1.out.mono ?_
  rintro e w2 ⟨rfl, hb2⟩
  have hA2 := below_step hA1 hA1.size hb2
  have hB2 := below_step HR.out.2.1 HR.out.2.1.size hA2
  have x2 := HR.out.2.2.below hA2
  have r2 := ownsRow_bel HR.out.1 (Bel.of (s := w.heap.size) hA2) (by simp)
  have HR2 := Lib.hid (show _ ∧ _ from ⟨r2, hB2⟩)
  clear hA1 hb2 hA2 HF1 HR r2 
  obtain ⟨q1, q2, q3⟩ := x2.facts
  go_wp2_with fail
  refine (HC1.out _ hB2).mono ?_
  rintro e w3 ⟨rfl, hb3⟩
  have hB3 := below_step hB2 hB2.size hb3
  have x3 := x2.below hb3
  have r3 := ownsRow_bel HR2.out.1 (Bel.of (s := w.heap.size) hb3) (by simp)
  have HR3 := Lib.hid r3
  clear hb3 hB2 x2 q1 q2 q3 HR2 r3
  obtain ⟨q1, q2, q3⟩ := x3.facts
  go_wp2_with fail
  refine (HC2.out _ hB3).mono ?_
  rintro e w4 ⟨rfl, hb4⟩
  have hB4 := below_step hB3 hB3.size hb4
  have r4 := ownsRow_bel HR3.out (Bel.of (s := w.heap.size) hb4) (by simp)
  have HR4 := Lib.hid (show _ ∧ _ from ⟨hB4, HPart.out _ _ _ _ r4⟩)
  clear hb4 hB3 x3 q1 q2 q3 HR3 r4 hB4 HPart
  rcases Nat.lt_or_ge c1 c2 with h | h
  · have e1 : max (c1 : Int) (c2 : Int) = (c2 : Int) := by omega
    have e2 : max c1 c2 = c2 := by omega
    have h1 : c1 ≤ c2 := by omega
    have h2 : c2 ≤ c := by omega
    have h3 : ¬ c = c1 := by omega
    have h4 : ¬ c1 = c := by omega
    rw [if_neg h3, Nat.mul_one] at HR4
    have E2 := Lib.hid e2
    clear e2
    go_wp2
    refine bodyPost_ret (results_tmp3 rfl _ _ _) rfl ⟨?_, HR4.out.1⟩
    first
      | exact ⟨_, ⟨_, by first | rfl | (rw [E2.out]; rfl)⟩, HR4.out.2⟩
      | exact ⟨_, _, by first | rfl | (rw [E2.out]; rfl), HR4.out.2⟩
      | exact ⟨(Option.map (fun x => x.add c1) a), ⟨(c - c1), by first | rfl | (rw [E2.out]; rfl)⟩, HR4.out.2⟩
      | exact ⟨(Option.map (fun x => x.add c1) a), (c - c1), by first | rfl | (rw [E2.out]; rfl), HR4.out.2⟩
      | exact ⟨(Option.map (fun x => x.add c1) a), ⟨0, by first | rfl | (rw [E2.out]; rfl)⟩, HR4.out.2⟩
      | exact ⟨(Option.map (fun x => x.add c1) a), 0, by first | rfl | (rw [E2.out]; rfl), HR4.out.2⟩
  · have e1 : max (c1 : Int) (c2 : Int) = (c1 : Int) := by omega
    have e2 : max c1 c2 = c1 := by omega
    have h2 : c1 ≤ c := by omega
    have E2 := Lib.hid e2
    by_cases h3 : c = c1
    · rw [if_pos h3] at HR4
      subst h3
      clear h e2
      go_wp2
      refine bodyPost_ret (results_tmp3 rfl _ _ _) rfl ⟨?_, HR4.out.1⟩
      first
        | exact ⟨_, ⟨_, by first | rfl | (rw [E2.out, Nat.sub_self]; rfl)⟩, HR4.out.2⟩
        | exact ⟨_, _, by first | rfl | (rw [E2.out, Nat.sub_self]; rfl), HR4.out.2⟩
        | exact ⟨a, ⟨(c - c), by first | rfl | (rw [E2.out, Nat.sub_self]; rfl)⟩, HR4.out.2⟩
        | exact ⟨a, (c - c), by first | rfl | (rw [E2.out, Nat.sub_self]; rfl), HR4.out.2⟩
        | exact ⟨a, ⟨0, by first | rfl | (rw [E2.out, Nat.sub_self]; rfl)⟩, HR4.out.2⟩
        | exact ⟨a, 0, by first | rfl | (rw [E2.out, Nat.sub_self]; rfl), HR4.out.2⟩
    · rw [if_neg h3, Nat.mul_one] at HR4
      have h4 : ¬ c1 = c := by omega
      clear h e2
      go_wp2
      refine bodyPost_ret (results_tmp3 rfl _ _ _) rfl ⟨?_, HR4.out.1⟩
      first
        | exact ⟨_, ⟨_, by first | rfl | (rw [E2.out, Nat.sub_self]; rfl)⟩, HR4.out.2⟩
        | exact ⟨_, _, by first | rfl | (rw [E2.out, Nat.sub_self]; rfl), HR4.out.2⟩
        | exact ⟨(Option.map (fun x => x.add c1) a), ⟨(c - c1), by first | rfl | (rw [E2.out, Nat.sub_self]; rfl)⟩, HR4.out.2⟩
        | exact ⟨(Option.map (fun x => x.add c1) a), (c - c1), by first | rfl | (rw [E2.out, Nat.sub_self]; rfl), HR4.out.2⟩
        | exact ⟨(Option.map (fun x => x.add c1) a), ⟨0, by first | rfl | (rw [E2.out, Nat.sub_self]; rfl)⟩, HR4.out.2⟩
        | exact ⟨(Option.map (fun x => x.add c1) a), 0, by first | rfl | (rw [E2.out, Nat.sub_self]; rfl), HR4.out.2⟩
end Go.Proofs.Ytogkmddhgfenkaa

/- The plain law of the sturm law's means: where a halving ends; what it finds of a diagonal; that all values rise. No condition. -/
namespace Go.Proofs.Ytogkmddhgfenkaa
open Go Go.RowKit
set_option maxRecDepth 100000

/-- Where a halving ends. -/
theorem fndS_inv (c : Nat → Nat) (k : Int) : ∀ (f : Nat) (a b : Int) (n : Nat), b - a ≤ 2 ^ f →
    a ≤ (fndS c k f a b n).1 ∧ ((fndS c k f a b n).1 = a ∨ ¬ k < (c (atN (fndS c k f a b n).1) : Int)) ∧ (a < b → (fndS c k f a b n).1 < b ∧ ((fndS c k f a b n).1 + 1 = b ∨ k < (c (atN ((fndS c k f a b n).1 + 1)) : Int))) ∧ (¬ a < b → (fndS c k f a b n).1 = a)
  | 0, a, b, n, h => by
    rw [Int.pow_zero] at h
    exact ⟨Int.le_refl _, .inl rfl, fun h1 => ⟨h1, .inl (show a + 1 = b by omega)⟩, fun _ => rfl⟩
  | f + 1, a, b, n, h => by
    rw [fndS]
    by_cases hlt : a < b - 1
    · rw [if_pos hlt]
      have hp : (2 : Int) ^ (f + 1) = 2 * 2 ^ f := by rw [Int.pow_succ, Int.mul_comm]
      rw [hp] at h
      have hm1 : a < midI a b ∧ midI a b < b := by unfold midI; omega
      have hm2 : midI a b - a ≤ 2 ^ f ∧ b - midI a b ≤ 2 ^ f := by unfold midI; generalize (2 : Int) ^ f = z at *; omega
      clear hp h
      generalize midI a b = m at *
      by_cases hk : k < (c (atN m) : Int)
      · rw [if_pos hk]
        obtain ⟨i1, i2, i3, _⟩ := fndS_inv c k f a m (n + 1) hm2.1
        obtain ⟨j1, j2⟩ := i3 hm1.1
        refine ⟨i1, i2, fun _ => ⟨by omega, .inr ?_⟩, fun h0 => absurd h0 (by omega)⟩
        rcases j2 with j2 | j2
        · rw [j2]; exact hk
        · exact j2
      · rw [if_neg hk]
        obtain ⟨i1, i2, i3, _⟩ := fndS_inv c k f m b (n + 1) hm2.2
        obtain ⟨j1, j2⟩ := i3 hm1.2
        refine ⟨by omega, .inr ?_, fun _ => ⟨j1, j2⟩, fun h0 => absurd h0 (by omega)⟩
        rcases i2 with i2 | i2
        · rw [i2]; exact hk
        · exact i2
    · rw [if_neg hlt]
      exact ⟨Int.le_refl _, .inl rfl, fun h1 => ⟨h1, .inl (show a + 1 = b by omega)⟩, fun _ => rfl⟩
theorem isnan_ffin {x : Nat} (h : ffin x = true) : isnan x = false := by
  unfold ffin at h
  simp only [decide_eq_true_eq] at h
  exact isnan_fin h
theorem fkey_fin {x : Nat} (h : ffin x = true) : -9218868437227405311 ≤ fkey x ∧ fkey x ≤ 9218868437227405311 := by
  unfold ffin at h
  simp only [decide_eq_true_eq] at h
  rw [fkey_sgn]
  split <;> omega
theorem pl_fkey {x : Nat} (h : isnan x = false) : plN x = fkey x := by unfold plN; rw [h]; rfl
/-- A place's float lies at that place. -/
theorem at_key {p : Int} (h1 : -9218868437227405312 ≤ p) (h2 : p ≤ 9218868437227405312) : isnan (atN p) = false ∧ fkey (atN p) = p := by
  rcases at_case p with h | ⟨n, rfl, h⟩ | ⟨n, rfl, h, h0⟩
  · omega
  · rw [at_pos h]
    refine ⟨by unfold isnan; rw [decide_eq_false_iff_not]; omega, ?_⟩
    rw [fkey_sgn]
    have : fsgn n = false := (fsgn_lt (by omega)).2 (by omega)
    rw [this, if_neg (by decide)]
    omega
  · rw [at_neg h h0]
    refine ⟨by unfold isnan; rw [decide_eq_false_iff_not]; omega, ?_⟩
    rw [fkey_sgn]
    have : fsgn (n + 9223372036854775808) = true := by unfold fsgn; simp; omega
    rw [this, if_pos rfl]
    omega
theorem atK_fin {p : Int} (h1 : -9218868437227405311 ≤ p) (h2 : p ≤ 9218868437227405311) : ffin (atN p) = true := by
  have hk := at_key (p := p) (by omega) (by omega)
  unfold ffin
  rw [decide_eq_true_eq]
  have := hk.2
  rw [fkey_sgn] at this
  split at this <;> omega
theorem at_pl {p : Int} (h1 : -9218868437227405312 ≤ p) (h2 : p ≤ 9218868437227405312) : plN (atN p) = p := by
  have := at_key h1 h2
  rw [pl_fkey this.1, this.2]
/-- The bounds' places. -/
theorem bnd_pl {ds es : List Nat} (hz : bndE ds es = 0) : isnan (bndL ds es ds.length).1 = false ∧ isnan (bndL ds es ds.length).2 = false ∧ loS ds es = fkey (bndL ds es ds.length).1 - 1 ∧ hiS ds es = fkey (bndL ds es ds.length).2 + 1 ∧ -9218868437227405312 ≤ loS ds es ∧ loS ds es ≤ 9218868437227405310 ∧ -9218868437227405310 ≤ hiS ds es ∧ hiS ds es ≤ 9218868437227405312 := by
  obtain ⟨_, _, g1, g2⟩ := bndE_zero hz
  rw [fnS_ffin] at g1 g2
  have n1 := isnan_ffin g1
  have n2 := isnan_ffin g2
  have k1 := fkey_fin g1
  have k2 := fkey_fin g2
  have e1 : loS ds es = fkey (bndL ds es ds.length).1 - 1 := by unfold loS; rw [pl_fkey n1]
  have e2 : hiS ds es = fkey (bndL ds es ds.length).2 + 1 := by unfold hiS; rw [pl_fkey n2]
  exact ⟨n1, n2, e1, e2, by omega, by omega, by omega, by omega⟩
/-- What a value's place, and the next one, count. -/
theorem valK_ok {ds es : List Nat} (hz : bndE ds es = 0) (k : Int) :
    -9218868437227405312 ≤ (valK ds es k).1 ∧ (valK ds es k).1 ≤ 9218868437227405311 ∧ loS ds es ≤ (valK ds es k).1 ∧
    (¬ k < (cntN ds es (atN (valK ds es k).1) : Int) ∨ (valK ds es k).1 < plN (bndL ds es ds.length).1) ∧
    (k < (cntN ds es (atN ((valK ds es k).1 + 1)) : Int) ∨ plN (bndL ds es ds.length).2 < (valK ds es k).1 + 1) := by
  obtain ⟨n1, n2, e1, e2, b1, b2, b3, b4⟩ := bnd_pl hz
  rw [pl_fkey n1, pl_fkey n2]
  have hp64 : hiS ds es - loS ds es ≤ 2 ^ 64 := by rw [show (2 : Int) ^ 64 = 18446744073709551616 from by decide]; omega
  obtain ⟨i1, i2, i3, i4⟩ := fndS_inv (cntN ds es) k 64 (loS ds es) (hiS ds es) 0 hp64
  unfold valK
  generalize (fndS (cntN ds es) k 64 (loS ds es) (hiS ds es) 0).1 = r at *
  by_cases hlt : loS ds es < hiS ds es
  · obtain ⟨j1, j2⟩ := i3 hlt
    refine ⟨by omega, by omega, i1, ?_, ?_⟩
    · rcases i2 with h | h
      · exact .inr (by omega)
      · exact .inl h
    · rcases j2 with h | h
      · exact .inr (by omega)
      · exact .inl h
  · have h := i4 hlt
    exact ⟨by omega, by omega, i1, .inr (by omega), .inr (by omega)⟩

/-! ### All values rise -/
theorem allL_pre (ds es : List Nat) (j : Nat) : ∀ n, j < n → (allL ds es n).getD j 0 = (allL ds es (j + 1)).getD j 0
  | 0, h => absurd h (Nat.not_lt_zero _)
  | n + 1, h => by
    by_cases hj : j = n
    · rw [hj]
    · rw [← allL_pre ds es j n (by omega)]
      show ((allL ds es n ++ [_]).getD j 0) = _
      rw [List.getD_eq_getElem?_getD, List.getElem?_append_left (by rw [allL_length]; omega), ← List.getD_eq_getElem?_getD]
theorem allL_last (ds es : List Nat) (k : Nat) : (allL ds es (k + 1)).getD k 0 = if 0 < k ∧ flt (atN (valK ds es k).1) ((allL ds es k).getD (k - 1) 0) = true then (allL ds es k).getD (k - 1) 0 else atN (valK ds es k).1 := by
  have h := allL_length ds es k
  show ((allL ds es k ++ [_]).getD k 0) = _
  rw [List.getD_eq_getElem?_getD, List.getElem?_append_right (by omega), h, Nat.sub_self]
  rfl
theorem flt_self (x : Nat) : flt x x = false := by
  cases h : isnan x
  · rw [flt_key h h, decide_eq_false_iff_not]; omega
  · exact flt_nan (.inl h)
theorem allL_rise (ds es : List Nat) {k n : Nat} (h0 : 0 < k) (hk : k < n) : flt ((allL ds es n).getD k 0) ((allL ds es n).getD (k - 1) 0) = false := by
  rw [allL_pre ds es k n hk, allL_pre ds es (k - 1) n (by omega), allL_last, Nat.sub_add_cancel h0]
  cases h : flt (atN (valK ds es k).1) ((allL ds es k).getD (k - 1) 0)
  · rw [if_neg (by simp)]; exact h
  · rw [if_pos ⟨h0, rfl⟩]; exact flt_self _

/-! ### A diagonal -/
theorem grd_key {q : Nat} (h : isnan q = false) : isnan (grd q) = false ∧ fkey (grd q) ≠ 0 ∧ (fkey (grd q) < 0 ↔ fkey q < 0) := by
  unfold grd
  have hz : isnan 0 = false := by kernel_rfl
  rw [feq_key h hz]
  by_cases h0 : fkey q = fkey 0
  · rw [decide_eq_true h0, if_pos rfl]
    have hk : fkey 0 = 0 := by decide
    have hg : fkey 103582791429521408 = 103582791429521408 := by decide
    rw [hg, h0, hk]
    exact ⟨by kernel_rfl, by decide, by omega⟩
  · rw [decide_eq_false h0, if_neg (by decide)]
    have hk : fkey 0 = 0 := by decide
    rw [hk] at h0
    exact ⟨h, h0, Iff.rfl⟩
theorem feq_nought {e : Nat} (he : e < 18446744073709551616) (h : feq e 0 = true) : e = 0 ∨ e = 9223372036854775808 := by
  have hz : isnan 0 = false := by kernel_rfl
  have hn : isnan e = false := by
    cases hn : isnan e
    · rfl
    · rw [feq_nan (.inl hn)] at h; cases h
  rw [feq_key hn hz] at h
  simp only [decide_eq_true_eq] at h
  rw [fkey_sgn] at h
  have hk : fkey 0 = 0 := by decide
  rw [hk] at h
  split at h <;> omega
/-- A diagonal's pivots: below nought just where its float is below the asked one. -/
theorem piv_diag {ds es : List Nat} {x : Nat} (hx : ffin x = true) (hd : ∀ i, i < ds.length → ffin (ds.getD i 0) = true) (he : ∀ i, i < es.length → es.getD i 0 = 0 ∨ es.getD i 0 = 9223372036854775808) (hl : es.length = ds.length - 1) :
    ∀ i, i < ds.length → isnan (pivQ ds es x (i + 1)) = false ∧ fkey (pivQ ds es x (i + 1)) ≠ 0 ∧ (fkey (pivQ ds es x (i + 1)) < 0 ↔ fkey (ds.getD i 0) < fkey x)
  | 0, hi => by
    obtain ⟨a1, a2, a3⟩ := fsub_key (hd 0 hi) hx
    obtain ⟨b1, b2, b3⟩ := grd_key a1
    rw [pivQ]
    exact ⟨b1, b2, b3.trans a2⟩
  | i + 1, hi => by
    obtain ⟨p1, p2, _⟩ := piv_diag hx hd he hl i (by omega)
    obtain ⟨a1, a2, a3⟩ := fsub_key (hd (i + 1) hi) hx
    rw [pivQ]
    have hm : fmul (es.getD i 0) (es.getD i 0) = 0 := by
      rcases he i (by omega) with h | h <;> rw [h] <;> kernel_rfl
    rw [hm]
    obtain ⟨c1, c2, _⟩ := fsub_nought a1 (fsub_lt _ _) (fdiv_nought p1 p2)
    obtain ⟨b1, b2, b3⟩ := grd_key c1
    exact ⟨b1, b2, (b3.trans c2).trans a2⟩
def lowK (p : Int) (v : Nat) : Bool := decide (fkey v < p)
theorem range_getD (l : List Nat) : (List.range l.length).map (fun i => l.getD i 0) = l := by
  apply List.ext_getElem
  · simp
  · intro i h1 h2
    simp [h2]
theorem cnt_diag {ds es : List Nat} {x : Nat} (h0 : askS ds es [] = 0) (hx : ffin x = true) (hd : ∀ i, i < ds.length → ffin (ds.getD i 0) = true) (he : ∀ i, i < es.length → es.getD i 0 = 0 ∨ es.getD i 0 = 9223372036854775808) (hl : es.length = ds.length - 1) :
    cntN ds es x = (ds.filter (lowK (fkey x))).length := by
  have e : ds.filter (lowK (fkey x)) = ((List.range ds.length).map (fun i => ds.getD i 0)).filter (lowK (fkey x)) := by rw [range_getD]
  unfold cntN cntK
  rw [if_pos (ask_one h0 hx), e, List.filter_map, List.length_map]
  congr 1
  refine List.filter_congr fun i hi => ?_
  have hi' := List.mem_range.1 hi
  obtain ⟨p1, p2, p3⟩ := piv_diag hx hd he hl i hi'
  have hz : isnan 0 = false := by kernel_rfl
  have hk : fkey 0 = 0 := by decide
  show flt _ 0 = lowK (fkey x) (ds.getD i 0)
  rw [flt_key p1 hz, hk]
  unfold lowK
  exact decide_eq_decide.2 p3
theorem bes_diag {es : List Nat} (he : ∀ i, i < es.length → es.getD i 0 = 0 ∨ es.getD i 0 = 9223372036854775808) (i : Nat) : besR es i = 0 := by
  have hb : ∀ j : Int, besA es j = 0 := fun j => by
    unfold besA
    by_cases h : 0 ≤ j ∧ j < es.length
    · rw [if_pos h]
      rcases he j.toNat (by omega) with h1 | h1 <;> rw [h1] <;> kernel_rfl
    · rw [if_neg h]
  have h0 : fadd 0 0 = 0 := by kernel_rfl
  unfold besR
  rw [hb, hb, h0]
theorem bnd_diag {ds es : List Nat} (hd : ∀ i, i < ds.length → ffin (ds.getD i 0) = true) (he : ∀ i, i < es.length → es.getD i 0 = 0 ∨ es.getD i 0 = 9223372036854775808) :
    ∀ k, k < ds.length → isnan (bndL ds es (k + 1)).1 = false ∧ isnan (bndL ds es (k + 1)).2 = false ∧ ∀ i, i ≤ k → fkey (bndL ds es (k + 1)).1 ≤ fkey (ds.getD i 0) ∧ fkey (ds.getD i 0) ≤ fkey (bndL ds es (k + 1)).2
  | 0, hk => by
    obtain ⟨a1, a2, a3, a4⟩ := fadd_nought (hd 0 hk)
    rw [bndL, bes_diag he]
    simp only [true_or, if_true]
    refine ⟨isnan_ffin a4, isnan_ffin a2, fun i hi => ?_⟩
    rw [show i = 0 by omega, a1, a3]
    omega
  | k + 1, hk => by
    obtain ⟨h1, h2, h3⟩ := bnd_diag hd he k (by omega)
    obtain ⟨a1, a2, a3, a4⟩ := fadd_nought (hd (k + 1) hk)
    rw [bndL, bes_diag he]
    generalize bndL ds es (k + 1) = B at *
    have n1 := isnan_ffin a4
    have n2 := isnan_ffin a2
    simp only [Nat.succ_ne_zero, false_or]
    rw [flt_key n1 h1, flt_key h2 n2]
    have step : ∀ i, i ≤ k + 1 → i ≤ k ∨ i = k + 1 := fun i hi => by omega
    refine ⟨?_, ?_, fun i hi => ⟨?_, ?_⟩⟩
    · split <;> assumption
    · split <;> assumption
    · rcases step i hi with h | rfl
      · have := (h3 i h).1
        split
        · rename_i hq; simp only [decide_eq_true_eq] at hq; omega
        · exact this
      · split
        · omega
        · rename_i hq; simp only [decide_eq_true_eq] at hq; omega
    · rcases step i hi with h | rfl
      · have := (h3 i h).2
        split
        · rename_i hq; simp only [decide_eq_true_eq] at hq; omega
        · exact this
      · split
        · omega
        · rename_i hq; simp only [decide_eq_true_eq] at hq; omega
/-- Of rising floats more than k are below a place just if the k-th one is. -/
theorem sort_cnt {L : List Nat} (hs : ∀ i j, i < j → j < L.length → fkey (L.getD i 0) ≤ fkey (L.getD j 0)) {k : Nat} (hk : k < L.length) (p : Int) : k < (L.filter (lowK p)).length ↔ fkey (L.getD k 0) < p := by
  have hle : ∀ i j, i ≤ j → j < L.length → fkey (L.getD i 0) ≤ fkey (L.getD j 0) := fun i j hij hj => by
    rcases Nat.lt_or_eq_of_le hij with h | rfl
    · exact hs i j h hj
    · exact Int.le_refl _
  have hg : ∀ i (h : i < L.length), L[i] = L.getD i 0 := fun i h => by simp [h]
  constructor
  · intro h
    apply Classical.byContradiction
    intro hn
    have h1 : (L.filter (lowK p)).length = ((L.take k).filter (lowK p)).length + ((L.drop k).filter (lowK p)).length := by
      rw [← List.length_append, ← List.filter_append, List.take_append_drop]
    have h2 : (L.drop k).filter (lowK p) = [] := by
      rw [List.filter_eq_nil_iff]
      intro v hv
      obtain ⟨i, hi, rfl⟩ := List.getElem_of_mem hv
      rw [List.getElem_drop, hg]
      have := hle k (k + i) (by omega) (by rw [List.length_drop] at hi; omega)
      unfold lowK
      rw [decide_eq_true_eq]
      omega
    have h3 := List.length_filter_le (lowK p) (L.take k)
    rw [h2] at h1
    rw [List.length_take] at h3
    simp at h1
    omega
  · intro h
    have h1 : (L.filter (lowK p)).length = ((L.take (k + 1)).filter (lowK p)).length + ((L.drop (k + 1)).filter (lowK p)).length := by
      rw [← List.length_append, ← List.filter_append, List.take_append_drop]
    have h2 : (L.take (k + 1)).filter (lowK p) = L.take (k + 1) := by
      rw [List.filter_eq_self]
      intro v hv
      obtain ⟨i, hi, rfl⟩ := List.getElem_of_mem hv
      rw [List.length_take] at hi
      rw [List.getElem_take, hg]
      have := hle i k (by omega) hk
      unfold lowK
      rw [decide_eq_true_eq]
      omega
    rw [h2, List.length_take] at h1
    omega
/-- **A diagonal's values' places are those of its floats, sorted.** -/
theorem val_diag {ds es L : List Nat} (hz : bndE ds es = 0) (hd : ∀ i, i < ds.length → ffin (ds.getD i 0) = true) (he : ∀ i, i < es.length → es.getD i 0 = 0 ∨ es.getD i 0 = 9223372036854775808) (hl : es.length = ds.length - 1)
    (hP : L.Perm ds) (hs : ∀ i j, i < j → j < L.length → fkey (L.getD i 0) ≤ fkey (L.getD j 0)) {k : Nat} (hk : k < ds.length) : (valK ds es k).1 = fkey (L.getD k 0) := by
  obtain ⟨n1, n2, e1, e2, b1, b2, b3, b4⟩ := bnd_pl hz
  have h0 := (bndE_zero hz).1
  have hlen := hP.length_eq
  obtain ⟨m, hm⟩ : ∃ m, ds.length = m + 1 := ⟨ds.length - 1, by omega⟩
  obtain ⟨_, _, hb⟩ := bnd_diag hd he m (by omega)
  rw [← hm] at hb
  obtain ⟨i, hi, hLi⟩ : ∃ i, i < ds.length ∧ ds.getD i 0 = L.getD k 0 := by
    have hmem : L.getD k 0 ∈ L := by
      have : L.getD k 0 = L[k]'(by omega) := by simp [show k < L.length by omega]
      rw [this]; exact List.getElem_mem _
    obtain ⟨i, hi, h⟩ := List.getElem_of_mem (hP.mem_iff.1 hmem)
    exact ⟨i, hi, by rw [← h]; simp [hi]⟩
  have hr := hb i (by omega)
  rw [hLi] at hr
  have hc : ∀ p : Int, fkey (bndL ds es ds.length).1 ≤ p → p ≤ fkey (bndL ds es ds.length).2 → ((k : Int) < (cntN ds es (atN p) : Int) ↔ fkey (L.getD k 0) < p) := fun p h1 h2 => by
    have hp1 : -9218868437227405311 ≤ p := by omega
    have hp2 : p ≤ 9218868437227405311 := by omega
    rw [cnt_diag h0 (atK_fin hp1 hp2) hd he hl, (at_key (by omega) (by omega)).2, ← (hP.filter _).length_eq, ← sort_cnt hs (by omega)]
    omega
  have hp64 : hiS ds es - loS ds es ≤ 2 ^ 64 := by rw [show (2 : Int) ^ 64 = 18446744073709551616 from by decide]; omega
  obtain ⟨i1, i2, i3, _⟩ := fndS_inv (cntN ds es) k 64 (loS ds es) (hiS ds es) 0 hp64
  obtain ⟨j1, j2⟩ := i3 (by omega)
  unfold valK
  generalize (fndS (cntN ds es) k 64 (loS ds es) (hiS ds es) 0).1 = r at *
  have hup : fkey (L.getD k 0) < r + 1 := by
    rcases j2 with h | h
    · omega
    · by_cases hh : r + 1 = hiS ds es
      · omega
      · exact (hc (r + 1) (by omega) (by omega)).1 h
  have hlo : r ≤ fkey (L.getD k 0) := by
    rcases i2 with h | h
    · omega
    · by_cases hh : r = loS ds es
      · omega
      · have := mt (hc r (by omega) (by omega)).2 h
        omega
  omega
/-- **All values of a diagonal are its floats, sorted.** -/
theorem all_diag {ds es L : List Nat} (hz : bndE ds es = 0) (hd : ∀ i, i < ds.length → ffin (ds.getD i 0) = true) (he : ∀ i, i < es.length → es.getD i 0 = 0 ∨ es.getD i 0 = 9223372036854775808) (hl : es.length = ds.length - 1)
    (hP : L.Perm ds) (hs : ∀ i j, i < j → j < L.length → fkey (L.getD i 0) ≤ fkey (L.getD j 0)) : ∀ k, k < ds.length → (allL ds es (k + 1)).getD k 0 = atN (fkey (L.getD k 0))
  | 0, hk => by
    rw [allL_last, if_neg (by omega), val_diag hz hd he hl hP hs hk]
  | k + 1, hk => by
    rw [allL_last, Nat.add_sub_cancel, all_diag hz hd he hl hP hs k (by omega), val_diag hz hd he hl hP hs hk]
    have hf : ∀ j, j < ds.length → ffin (L.getD j 0) = true := fun j hj => by
      have hlen := hP.length_eq
      have hmem : L.getD j 0 ∈ L := by
        have : L.getD j 0 = L[j]'(by omega) := by simp [show j < L.length by omega]
        rw [this]; exact List.getElem_mem _
      obtain ⟨i, hi, h⟩ := List.getElem_of_mem (hP.mem_iff.1 hmem)
      have := hd i hi
      rw [← h]
      simpa [hi] using this
    have f1 := fkey_fin (hf k (by omega))
    have f2 := fkey_fin (hf (k + 1) hk)
    have a1 := at_key (p := fkey (L.getD k 0)) (by omega) (by omega)
    have a2 := at_key (p := fkey (L.getD (k + 1) 0)) (by omega) (by omega)
    have hlt : flt (atN (fkey (L.getD (k + 1) 0))) (atN (fkey (L.getD k 0))) = false := by
      rw [flt_key a2.1 a1.1, a1.2, a2.2, decide_eq_false_iff_not]
      have := hs k (k + 1) (by omega) (by rw [hP.length_eq]; exact hk)
      omega
    rw [hlt, if_neg (by simp)]
theorem all_same {ds es L : List Nat} (hz : bndE ds es = 0) (hd : ∀ i, i < ds.length → ffin (ds.getD i 0) = true) (he : ∀ i, i < es.length → es.getD i 0 = 0 ∨ es.getD i 0 = 9223372036854775808) (hl : es.length = ds.length - 1)
    (hP : L.Perm ds) (hs : ∀ i j, i < j → j < L.length → fkey (L.getD i 0) ≤ fkey (L.getD j 0)) {k : Nat} (hk : k < ds.length) : feq ((allL ds es ds.length).getD k 0) (L.getD k 0) = true := by
  rw [allL_pre ds es k ds.length hk, all_diag hz hd he hl hP hs k hk]
  have hlen := hP.length_eq
  have hmem : L.getD k 0 ∈ L := by
    have : L.getD k 0 = L[k]'(by omega) := by simp [show k < L.length by omega]
    rw [this]; exact List.getElem_mem _
  obtain ⟨i, hi, h⟩ := List.getElem_of_mem (hP.mem_iff.1 hmem)
  have hf : ffin (L.getD k 0) = true := by
    have := hd i hi
    rw [← h]
    simpa [hi] using this
  have f1 := fkey_fin hf
  have a1 := at_key (p := fkey (L.getD k 0)) (by omega) (by omega)
  rw [feq_key a1.1 (isnan_ffin hf), a1.2]
  simp
end Go.Proofs.Ytogkmddhgfenkaa

/- A block of floats, up to a NaN's bits, that is read and written; a slice of floats appended to nil. No condition but on lengths. -/
namespace Go.Proofs.Ytogkmddhgfenkaa
open Go Go.RowKit
set_option maxRecDepth 100000

/-- Block n holds the floats l, up to a NaN's bits, and perhaps more. -/
def Flb (W : World) (n : Nat) (l : List Nat) : Prop := ∃ cs : List Value, Box W n cs ∧ ∀ (i v : Nat), l[i]? = some v → ∃ s, cs[i]? = some (.float .f64 (raw v s))
section
variable {W W' : World} {n : Nat} {l : List Nat}
theorem Flb.lt (h : Flb W n l) : n < W.heap.size := by obtain ⟨cs, hb, _⟩ := h; exact hb.lt
theorem Flb.fls (h : Flb W n l) : Fls W (some ⟨n, 0, none⟩) l := fun _ => by
  obtain ⟨cs, hb, hc⟩ := h
  refine ⟨n, 0, rfl, hb.lt, fun i v hi => ?_⟩
  obtain ⟨s, hs⟩ := hc i v hi
  exact ⟨s, by rw [hb.cell, Nat.zero_add]; exact hs⟩
theorem Flb.frozen (h : Flb W n l) (i : Nat) : W.frozen? ⟨n, i, none⟩ = false := by obtain ⟨cs, hb, _⟩ := h; exact hb.frozen i
theorem Flb.at (h : Flb W n l) {i : Nat} (hi : i < l.length) : ∃ s, W.cell? ⟨n, i, none⟩ = some (.float .f64 (raw (l.getD i 0) s)) := by
  obtain ⟨cs, hb, hc⟩ := h
  have hv : l[i]? = some (l.getD i 0) := by rw [List.getD_eq_getElem?_getD, List.getElem?_eq_getElem hi]; rfl
  obtain ⟨s, hs⟩ := hc i _ hv
  exact ⟨s, by rw [hb.cell]; exact hs⟩
theorem Flb.set (h : Flb W n l) (j v s : Nat) : Flb (W.setCell ⟨n, j, none⟩ (.float .f64 (raw v s))) n (l.set j v) := by
  obtain ⟨cs, hb, hc⟩ := h
  refine ⟨_, hb.set j _, fun i u hi => ?_⟩
  by_cases hj : j = i
  · subst hj
    have hlt : j < l.length := by
      have := (List.getElem?_eq_some_iff.1 hi).1
      simpa using this
    rw [List.getElem?_set_self hlt] at hi
    simp only [Option.some.injEq] at hi
    subst hi
    have hv : l[j]? = some (l[j]) := List.getElem?_eq_getElem hlt
    obtain ⟨s', hs'⟩ := hc j _ hv
    exact ⟨s, by rw [List.getElem?_set_self (List.getElem?_eq_some_iff.1 hs').1]⟩
  · rw [List.getElem?_set_ne hj] at hi
    obtain ⟨s', hs'⟩ := hc i u hi
    exact ⟨s', by rw [List.getElem?_set_ne hj]; exact hs'⟩
theorem Flb.below (h : Flb W n l) (hb : Below W.heap.size W W') : Flb W' n l := by
  obtain ⟨cs, h1, hc⟩ := h
  exact ⟨cs, h1.below hb, hc⟩
theorem Flb.bel {s : Nat} (h : Flb W n l) (hs : n ≠ s) (hb : Bel W.heap.size s W W') : Flb W' n l := by
  obtain ⟨cs, h1, hc⟩ := h
  exact ⟨cs, h1.bel hs hb, hc⟩
theorem Flb.other (h : Flb W n l) {m : Nat} (hm : n ≠ m) (j : Nat) (u : Value) : Flb (W.setCell ⟨m, j, none⟩ u) n l :=
  h.bel hm ((Bel.refl _ _ W).set j u)
theorem Flb.ofBox {zs : List Nat} (h : Box W n (zs.map (Value.float .f64))) (hn : ∀ v ∈ zs, isnan v = false) : Flb W n zs :=
  ⟨_, h, fun i v hi => ⟨0, by rw [List.getElem?_map, hi, raw_of_not (hn v (List.mem_of_getElem? hi))]; rfl⟩⟩
end
/-- The words behind floats up to a NaN's bits. -/
theorem Fls.words {w : World} {a : Option Addr} {l : List Nat} (h : Fls w a l) : ∃ ws : List Nat, ws.length = l.length ∧ (∀ (i v : Nat), l[i]? = some v → ∃ s, ws[i]? = some (raw v s)) ∧ Cel w a ws := by
  by_cases hz : l = []
  · subst hz
    exact ⟨[], rfl, fun i v hi => by simp at hi, fun h0 => absurd rfl h0⟩
  · obtain ⟨b, off, e, hlt, hc⟩ := h hz
    refine ⟨(List.range l.length).map fun i => match w.cell? ⟨b, off + i, none⟩ with | some (.float .f64 x) => x | _ => 0, by simp, fun i v hi => ?_, fun _ => ⟨b, off, e, hlt, fun i v hi => ?_⟩⟩
    · obtain ⟨s, hs⟩ := hc i v hi
      have hil := (List.getElem?_eq_some_iff.1 hi).1
      exact ⟨s, by rw [List.getElem?_map, List.getElem?_range hil]; simp only [Option.map_some, hs]⟩
    · have hil : i < l.length := by
        have := (List.getElem?_eq_some_iff.1 hi).1
        simpa using this
      obtain ⟨s, hs⟩ := hc i l[i] (List.getElem?_eq_getElem hil)
      rw [List.getElem?_map, List.getElem?_range hil] at hi
      simp only [Option.map_some, hs, Option.some.injEq] at hi
      rw [hs, hi]
theorem below_of_grownA {w w' : World} (h : w.grownBy w' none) : Below w.heap.size w w' := ⟨h.os, h.tape, h.output, h.size, fun k hk => h.block k hk (by simp)⟩
theorem run_append_fls (w : World) (ty : TypeId) (a : Option Addr) (l : List Nat) (cap : Nat) (hZ : Fls w a l) (hl : l.length ≤ 262144) (h0 : l ≠ []) :
    ∃ g c' w', (Builtin.append_ #[24, 24] ty #[.slice none 0 0, .slice a l.length cap]).run Try.prog w = .ok (.slice (some ⟨g, 0, none⟩) l.length c') w' ∧ w.heap.size ≤ g ∧ Flb w' g l ∧ Below w.heap.size w w' := by
  obtain ⟨i0, hi, hz0, hz1, hz2⟩ := info_parts info_f64
  obtain ⟨ws, hwl, hws, hC⟩ := hZ.words
  have hn : 0 < l.length := List.length_pos_iff.2 h0
  have hw0 : ws ≠ [] := fun h => by rw [h] at hwl; simp at hwl; omega
  obtain ⟨b, off, e, _, hc⟩ := hC hw0
  subst e
  obtain ⟨v', w', hr, h2, h3, _⟩ := run_append_own (P := Try.prog) w w.heap.size 24 ty 35 i0 (.float .f64 0) 1 8 Try.underlying24 hi hz0 hz1 hz2 rfl (by decide) (.slice none 0 0) 0 [] (World.ownsRow_nil _ _ _ _) ⟨b, off, none⟩ l.length cap (ws.map (Value.float .f64)) (by rw [List.length_map, hwl, Nat.mul_one])
    (fun j u hu => by
      simp only [List.getElem?_map, Option.map_eq_some_iff] at hu
      obtain ⟨x, hx, rfl⟩ := hu
      have h2 : (⟨b, off, none⟩ : Addr).add j = ⟨b, off + j, none⟩ := by unfold Addr.add; split <;> simp_all
      rw [h2]
      exact hc j x hx)
    (by simp [Value.oneCell']) (by unfold maxLen; omega) (by omega) (Nat.le_refl _)
  rw [Nat.zero_add, List.nil_append] at h2
  rcases h2.2 with ⟨_, h4⟩ | ⟨g, c', cur, hv, hb, hg, _, _, _, htk⟩
  · omega
  · subst hv
    refine ⟨g, c', w', hr, hb, ⟨cur.toList, ⟨35, by rw [Array.toArray_toList]; exact hg⟩, fun i v hi => ?_⟩, below_of_grownA h3⟩
    obtain ⟨s, hs⟩ := hws i v hi
    have hil := (List.getElem?_eq_some_iff.1 hi).1
    refine ⟨s, ?_⟩
    have h5 : (cur.toList.take (l.length * 1))[i]? = some (.float .f64 (raw v s)) := by rw [htk, List.getElem?_map, hs]; rfl
    rw [List.getElem?_take_of_lt (by omega)] at h5
    exact h5
theorem wpList_append_fls {w : World} {ops : Array Oper} {rest : List Oper} {o : Oper} {a : Act} {Q : Exit → Act → World → Prop} (hgd : o.guard = none) (s x : Operand)
    (ho : o.op = .call { callee := .builtin .append, args := #[s, x], argTypes := #[24, 24] })
    (ad : Option Addr) (l : List Nat) (cap : Nat) (hs : a.eval s = .slice none 0 0) (hx : a.eval x = .slice ad l.length cap) (hZ : Fls w ad l) (hl : l.length ≤ 262144) (h0 : l ≠ [])
    (h : ∀ g c' w', w.heap.size ≤ g → Flb w' g l → Below w.heap.size w w' → wpList Try.prog ops Q rest (a.put o.dst (.slice (some ⟨g, 0, none⟩) l.length c')) w') : wpList Try.prog ops Q (o :: rest) a w :=
  wpList_plain hgd fun _ hK => by
    obtain ⟨g, c', w', hr, h1, h2, h3⟩ := run_append_fls w o.type ad l cap hZ hl h0
    unfold Oper.wp execOp
    simp only [ho, resolve, invoke, builtin, Sem.run_bind, Sem.run_pure, Result.andThen_ok, List.map_toArray, List.map_cons, List.map_nil, hs, hx, hr]
    exact hK _ _ (h g c' w' h1 h2 h3)
end Go.Proofs.Ytogkmddhgfenkaa
