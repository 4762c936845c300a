/- Package sturm: counts that are kept. -/
import Derived.Test.YtogkmddhgfenkaaSt7
import Derived.Test.YtogkmddhgfenkaaGen
import Derived.Maps.OwnSet
namespace Go.Proofs.Ytogkmddhgfenkaa
open Go Go.RowKit Go.Shelf
set_option maxRecDepth 100000

theorem keyedU : Maps.Keyed Try.prog 111 := Maps.Keyed.of_law (WideMaps.ArrKey.law (n := 1) (e := 34) ⟨Try.underlying111, by kernel_rfl, by kernel_rfl, by kernel_rfl⟩)
/-- A word, as a key reads. -/
def keyW (n : Nat) : Lit := .string (keyBytes [.int .u64 n])
theorem keyOfW (n : Nat) (h : n < 18446744073709551616) : keyOf Try.prog 111 (.agg #[.int .u64 n]) = some (keyW n) := by
  have hk : Try.prog.keyType 111 = true := by kernel_rfl
  have hs : ∃ m, Try.prog.types.size = m + 1 := ⟨Try.prog.types.size - 1, by kernel_rfl⟩
  obtain ⟨m, hm⟩ := hs
  have c1 : Try.prog.cellsOf 111 = 1 := by kernel_rfl
  have c2 : Try.prog.cellsOf 34 = 1 := by kernel_rfl
  have hw : (Lit.int .u64 (n : Int)).wf = true := by simp [Lit.wf, IntKind.min, IntKind.max, IntKind.bits, IntKind.signed]; omega
  unfold keyOf
  rw [Try.underlying111]
  simp only [hk, Bool.true_and]
  have hf : (Value.agg #[Value.int .u64 (n : Int)]).formed Try.prog 111 = true := by
    simp [Value.formed, Try.underlying111, c1]
  rw [if_pos hf, hm]
  unfold Program.keyLits
  rw [Try.underlying111]
  simp only [Value.cells, c1, c2]
  unfold Program.keyLits
  rw [Try.underlying34]
  simp [hw, keyW]
theorem keyW_inj {a b : Nat} (ha : a < 18446744073709551616) (hb : b < 18446744073709551616) (h : keyW a = keyW b) : a = b := by
  have h1 := keyOfW a ha
  have h2 := keyOfW b hb
  rw [h] at h1
  have := keyedU.inj h1 h2
  simp at this
  omega
/-- What is kept is as the counts are. -/
def Kept (c : Nat → Nat) (D : DataW Unit) : Prop := Maps.IsMap D ∧ ∀ k, k < 18446744073709551616 → Maps.has D (keyW k) = true → D.atKey (keyW k) (.lit (.int .i64 0)) = .lit (.int .i64 (c k))
theorem Kept.nil (c : Nat → Nat) : Kept c (.map []) := ⟨⟨_, rfl⟩, fun _ _ h => by cases h⟩
theorem Kept.put {c : Nat → Nat} {D : DataW Unit} (h : Kept c D) {k : Nat} (hk : k < 18446744073709551616) (hD : Maps.IsMap (D.put (keyW k) (.lit (.int .i64 (c k))))) : Kept c (D.put (keyW k) (.lit (.int .i64 (c k)))) := by
  refine ⟨hD, fun j hj hh => ?_⟩
  by_cases e : j = k
  · subst e
    rw [Maps.atKey_put_same h.1 (keyedU.key (keyOfW j hk))]
  · have hne : keyW j ≠ keyW k := fun e' => e (keyW_inj hj hk e')
    rw [Maps.atKey_put_other hne, h.2 j hj]
    rw [Maps.has_put_other hne] at hh
    exact hh
theorem atN_lt (p : Int) : atN p < 18446744073709551616 := by
  unfold atN
  split
  · decide
  · split
    · decide
    · split <;> omega
theorem bel_grown {W W' : World} {s : Nat} (h : W.grownBy W' (some s)) (B : Nat) (hB : B ≤ W.heap.size) : Bel B s W W' := ⟨h.os, h.tape, h.output, h.size, fun k hk hne => h.block k (by omega) (fun e => hne (by cases e; rfl))⟩

set_option maxHeartbeats 8000000 in
theorem kept_any (w : World) (da ea : Option Addr) (ds es : List Nat) (dc ec : Nat) (mb Bm Bt n : Nat) (D : DataW Unit) (p : Int) (hD : Fls w da ds) (hE : Fls w ea es) (hl : ds.length ≤ 1000) (hl' : es.length ≤ 1000)
    (hm : w.ownsMap (H := Unit) Try.prog 111 (plainElem Try.prog 3) mb n D) (hk : Kept (cntN ds es) D) (hn : n < maxLen) (xm : Box w Bm [.map (some mb)]) (xt : Box w Bt [.slice da ds.length dc, .slice ea es.length ec]) :
    Calls Try.prog 97 #[.int .i64 p, .pointer (some ⟨Bm, 0, none⟩), .pointer (some ⟨Bt, 0, none⟩)] w fun e w' => e = .returned (.int .i64 (cntN ds es (atN p))) ∧ (∃ D', w'.ownsMap (H := Unit) Try.prog 111 (plainElem Try.prog 3) mb (n + 1) D' ∧ Kept (cntN ds es) D') ∧ Bel w.heap.size mb w w' := by
  have hlt := atN_lt p
  have HKey := Lib.hid (keyOfW (atN p) hlt)
  have hkp := Lib.hid (fun (c : Int) (h1 : Maps.has D (keyW (atN p)) = true) (h2 : D.atKey (keyW (atN p)) (.lit (.int .i64 0)) = .lit (.int .i64 c)) => (show c = (cntN ds es (atN p) : Int) from by
    have := (hk.2 (atN p) hlt h1).symm.trans h2
    simp only [DataW.lit.injEq, Lit.int.injEq, true_and] at this
    exact this.symm))
  have hput := Lib.hid (fun hD' => hk.put (k := atN p) hlt hD')
  have HKe := Lib.hid hk
  have hcl : cntN ds es (atN p) ≤ 1000 := by
    unfold cntN
    split
    · exact Nat.le_trans (cntL_le ds es (atN p) (List.range ds.length)) (by rw [List.length_range]; exact hl)
    · omega
  have HC : Hid (∀ W, Below w.heap.size w W → Calls Try.prog 82 #[.agg #[.slice da ds.length dc, .slice ea es.length ec], .float .f64 (atN p)] W fun e w' => e = .returned (.int .i64 (cntN ds es (atN p))) ∧ Below W.heap.size W w') := fun W hW => by
    obtain ⟨sx, hsx⟩ := raw_self hlt
    have := count_any W da ea ds es dc ec (atN p) sx (hD.below hW) (hE.below hW) hl hl'
    rw [← hsx] at this
    exact this
  generalize cntN ds es (atN p) = cn at *
  clear hD hE hl hl' hk
  obtain ⟨m1, m2, m3⟩ := xm.facts
  obtain ⟨t1, t2, t3⟩ := xt.facts
  have hA : Below w.heap.size w (w.alloc (.cells #[.int .u64 (atN p : Int)] 111)) := (Below.refl _ _).alloc (Nat.le_refl _) _
  have hHM := Lib.hid (hm.alloc (.cells #[.int .u64 (atN p : Int)] 111))
  have hml := hm.lt
  have xk : Box (w.alloc (.cells #[.int .u64 (atN p : Int)] 111)) w.heap.size [.int .u64 (atN p : Int)] := Box.newA w [_] _ rfl
  go_enter Try.func97, Try.ntmps97
  cases hh : Maps.has D (keyW (atN p))
  · go_wp2_with (first | (go_at_call 45; refine (At13_any p _).mono ?_; rintro e w' ⟨rfl, rfl⟩) | (at_lookup; refine wpList_lookup_own_ok_int _ rfl _ _ 110 rfl 111 3 .i64 keyedU Try.underlying110 Try.underlying3 (Try.zeroValue3 _) mb n D rfl hHM.out _ _ rfl HKey.out ?_; intro c hat hwc; rw [hh]))
    refine (HC.out _ hA).mono ?_
    rintro e w3 ⟨rfl, hb3⟩
    have hm3 := ownsMap_below hHM.out hb3
    have x3 := (xm.below hA).below hb3
    have xk3 := xk.below hb3
    have hB3 := below_step hA hA.size hb3
    clear m1 m2 m3 t1 t2 t3 hat hwc
    obtain ⟨m1, m2, m3⟩ := x3.facts
    obtain ⟨k1, k2, k3⟩ := xk3.facts
    go_wp2_with (at_mapUpdate; refine wpList_mapUpdate_own _ rfl _ _ _ 110 rfl 111 3 keyedU Try.underlying110 _ mb n D rfl hm3 hn _ _ (keyW (atN p)) rfl rfl HKey.out (.lit (.int .i64 cn)) [] (plainElem_int Try.underlying3 (by simp [Lit.wf, IntKind.min, IntKind.max, IntKind.bits, IntKind.signed]; omega)) ?_; intro w4 hown4 hgrow4)
    go_ret
    refine ⟨rfl, ⟨_, hown4, hput.out hown4.isMap⟩, ?_⟩
    have := bel_grown hgrow4 w.heap.size hB3.size
    exact (Bel.of hB3).trans this
  · go_wp2_with (first | (go_at_call 45; refine (At13_any p _).mono ?_; rintro e w' ⟨rfl, rfl⟩) | (at_lookup; refine wpList_lookup_own_ok_int _ rfl _ _ 110 rfl 111 3 .i64 keyedU Try.underlying110 Try.underlying3 (Try.zeroValue3 _) mb n D rfl hHM.out _ _ rfl HKey.out ?_; intro c hat hwc; rw [hh]; obtain rfl := hkp.out c hh hat))
    go_ret
    exact ⟨rfl, ⟨D, hHM.out.mono (by omega), HKe.out⟩, Bel.of hA⟩
end Go.Proofs.Ytogkmddhgfenkaa
