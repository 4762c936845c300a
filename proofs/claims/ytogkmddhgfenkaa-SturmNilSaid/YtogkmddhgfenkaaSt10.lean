/- Package sturm: a search is opened. -/
import Derived.Test.YtogkmddhgfenkaaSt9
namespace Go.Proofs.Ytogkmddhgfenkaa
open Go Go.RowKit Go.Shelf
set_option maxRecDepth 100000

theorem fnS_num {x : Nat} (h : fnS x = true) : isnan x = false := by
  cases hx : isnan x
  · rfl
  · unfold fnS at h
    have e : fsub x x = qnan := by
      unfold fsub Ieee.Format.sub
      rw [sum_nan_left _ (by rw [read_nan]; exact hx)]
      rfl
    rw [e, show feq qnan 0 = false from by kernel_rfl] at h
    cases h
theorem bndL_lt (ds es : List Nat) : ∀ k, (bndL ds es k).1 < 18446744073709551616 ∧ (bndL ds es k).2 < 18446744073709551616
  | 0 => ⟨(by decide : (0 : Nat) < 18446744073709551616), (by decide : (0 : Nat) < 18446744073709551616)⟩
  | k + 1 => by
    unfold bndL
    constructor
    · dsimp only; split
      · exact fsub_lt _ _
      · exact (bndL_lt ds es k).1
    · dsimp only; split
      · exact fadd_lt _ _
      · exact (bndL_lt ds es k).2
theorem pl_bnd {x : Nat} (hx : x < 18446744073709551616) (h : isnan x = false) : -9218868437227405312 ≤ plN x ∧ plN x ≤ 9218868437227405312 := by
  rw [pl_num hx h]
  unfold isnan at h
  simp only [decide_eq_false_iff_not] at h
  split <;> omega
theorem bndE_zero {ds es : List Nat} (h : bndE ds es = 0) : askS ds es [] = 0 ∧ ds.length ≠ 0 ∧ fnS (bndL ds es ds.length).1 = true ∧ fnS (bndL ds es ds.length).2 = true := by
  unfold bndE at h
  by_cases h1 : askS ds es [] = 0
  · rw [if_pos h1] at h
    by_cases h2 : ds.length = 0
    · rw [if_pos h2] at h; cases h
    · rw [if_neg h2] at h
      by_cases h3 : (fnS (bndL ds es ds.length).1 && fnS (bndL ds es ds.length).2) = true
      · rw [Bool.and_eq_true] at h3
        exact ⟨h1, h2, h3.1, h3.2⟩
      · rw [if_neg h3] at h; cases h
  · rw [if_neg h1] at h
    exact absurd h h1
def loS (ds es : List Nat) : Int := plN (bndL ds es ds.length).1 - 1
def hiS (ds es : List Nat) : Int := plN (bndL ds es ds.length).2 + 1

set_option maxHeartbeats 8000000 in
theorem open13_any (w : World) (da ea : Option Addr) (ds es : List Nat) (dc ec : Nat) (hD : Fls w da ds) (hE : Fls w ea es) (hW : Words es) (hl : ds.length ≤ 1000) (hl' : es.length ≤ 1000) :
    Calls Try.prog 80 #[.agg #[.slice da ds.length dc, .slice ea es.length ec]] w fun e w' => ∃ a b f mb Bm Bt, e = .returned (.tuple #[.agg #[.int .i64 a, .int .i64 b, f], .int .i64 (bndE ds es)]) ∧ (bndE ds es = 0 → a = loS ds es ∧ b = hiS ds es ∧ f = .func (.func 97) #[] #[.pointer (some ⟨Bm, 0, none⟩), .pointer (some ⟨Bt, 0, none⟩)] ∧ SK ds es da ea dc ec mb Bm Bt 0 w' ∧ w.heap.size ≤ mb ∧ mb < w'.heap.size) ∧ (bndE ds es ≠ 0 → f = .nilFunc) ∧ Below w.heap.size w w' := by
  have hmm := @run_makeMap Try.prog
  have x0 : Box ((w.alloc (.cells #[.slice da ds.length dc, .slice ea es.length ec] 51)).alloc (.cells #[.int .i64 0, .int .i64 0, .nilFunc] 100)) w.heap.size [.slice da ds.length dc, .slice ea es.length ec] := (Box.newA w [_, _] _ rfl).alloc _
  have x1 : Box ((w.alloc (.cells #[.slice da ds.length dc, .slice ea es.length ec] 51)).alloc (.cells #[.int .i64 0, .int .i64 0, .nilFunc] 100)) (w.heap.size + 1) [.int .i64 0, .int .i64 0, .nilFunc] := Box.newA _ [_, _, _] _ (by simp)
  have hB0 : Below w.heap.size w ((w.alloc (.cells #[.slice da ds.length dc, .slice ea es.length ec] 51)).alloc (.cells #[.int .i64 0, .int .i64 0, .nilFunc] 100)) := ((Below.refl _ _).alloc (Nat.le_refl _) _).alloc (by simp) _
  have HB := Lib.hid (fun (W : World) (hW' : Below w.heap.size w W) => Bounds_any W da ea ds es dc ec (hD.below hW') (hE.below hW') hW hl hl')
  go_enter Try.func80, Try.ntmps80
  go_wp2_with fail
  refine (HB.out _ hB0).mono ?_
  rintro e w1 ⟨lo, hi, s1, s2, rfl, hg0, hg1, hb1⟩
  have y0 := x0.below hb1
  have y1 := x1.below hb1
  have hB1 := below_step hB0 hB0.size hb1
  have hs1 := hb1.size
  clear x0 x1 hB0 HB
  by_cases hz : bndE ds es = 0
  case neg =>
    have t0 : (bndE ds es != 0) = true := by simp [hz]
    have HZ := Lib.hid hz
    obtain ⟨a1, a2, a3⟩ := y1.facts
    clear hg0 hg1 hz hmm
    go_wp2
    refine bodyPost_ret (results_two rfl (rv_cell (g := w.heap.size + 1) rfl (((y1.set 0 _).set 1 _).set 2 _) rfl Try.underlying100 (by kernel_rfl)) (rv_tmp rfl)) rfl ⟨0, 0, .nilFunc, 0, 0, 0, rfl, fun h => absurd h HZ.out, fun _ => rfl, ?_⟩
    exact below_set (below_set (below_set hB1 (by omega) _ _) (by omega) _ _) (by omega) _ _
  case pos =>
    obtain ⟨rfl, rfl⟩ := hg0 hz
    obtain ⟨g1, g2, g3, g4⟩ := bndE_zero hz
    have n1 := fnS_num g3
    have n2 := fnS_num g4
    have hlt := bndL_lt ds es ds.length
    have q1 := pl_bnd hlt.1 n1
    have q2 := pl_bnd hlt.2 n2
    have HLo : Hid (loS ds es = plN (bndL ds es ds.length).1 - 1 ∧ hiS ds es = plN (bndL ds es ds.length).2 + 1) := ⟨rfl, rfl⟩
    have HZ := Lib.hid hz
    rw [hz, raw_of_not n1, raw_of_not n2]
    clear hg0 hg1 g1 g2 g3 g4 n1 n2 hz
    generalize (bndL ds es ds.length).1 = l1 at *
    generalize (bndL ds es ds.length).2 = l2 at *
    have HP1 := Lib.hid (fun W => Place_any l1 hlt.1 W)
    have HP2 := Lib.hid (fun W => Place_any l2 hlt.2 W)
    generalize plN l1 = p1 at *
    generalize plN l2 = p2 at *
    have w1' : wrap64 (p1 - 1) = p1 - 1 := by unfold wrap64; omega
    have w2' : wrap64 (p2 + 1) = p2 + 1 := by unfold wrap64; omega
    clear hlt q1 q2 hl hl' hW
    have hl1 := y1.lt
    have HH := Lib.hid (show _ ∧ _ ∧ _ ∧ _ ∧ _ from ⟨hD, hE, y0, y1, hB1⟩)
    obtain ⟨a1, a2, a3⟩ := y1.facts
    clear hD hE y0 y1 hb1 hB1 hs1
    have ne1 : w.heap.size + 1 ≠ w1.heap.size := by omega
    have ne2 : w.heap.size + 1 ≠ w1.heap.size + 1 := by omega
    have ne3 : w.heap.size + 1 < w1.heap.size + 1 := by omega
    go_wp2_with fail
    refine (HP1.out _).mono ?_
    rintro e w' ⟨rfl, rfl⟩
    go_wp2_with fail
    refine (HP2.out _).mono ?_
    rintro e w' ⟨rfl, rfl⟩
    go_wp2
    obtain ⟨hD, hE, y0, y1, hB1⟩ := HH.out
    have z1 := ((y1.set 0 (.int .i64 (p1 - 1))).set 1 (.int .i64 (p2 + 1))).set 2 (.func (.func 97) #[] #[.pointer (some ⟨w1.heap.size + 1, 0, none⟩), .pointer (some ⟨w.heap.size, 0, none⟩)])
    have hset : Bel w1.heap.size (w.heap.size + 1) w1 (((w1.setCell ⟨w.heap.size + 1, 0, none⟩ (.int .i64 (p1 - 1))).setCell ⟨w.heap.size + 1, 1, none⟩ (.int .i64 (p2 + 1))).setCell ⟨w.heap.size + 1, 2, none⟩ (.func (.func 97) #[] #[.pointer (some ⟨w1.heap.size + 1, 0, none⟩), .pointer (some ⟨w.heap.size, 0, none⟩)])) := (((Bel.refl _ _ _).set _ _).set _ _).set _ _
    have hB2 := below_set (below_set (below_set hB1 (show w.heap.size ≤ w.heap.size + 1 by omega) 0 (.int .i64 (p1 - 1))) (show w.heap.size ≤ w.heap.size + 1 by omega) 1 (.int .i64 (p2 + 1))) (show w.heap.size ≤ w.heap.size + 1 by omega) 2 (.func (.func 97) #[] #[.pointer (some ⟨w1.heap.size + 1, 0, none⟩), .pointer (some ⟨w.heap.size, 0, none⟩)])
    have hszS : (((w1.setCell ⟨w.heap.size + 1, 0, none⟩ (.int .i64 (p1 - 1))).setCell ⟨w.heap.size + 1, 1, none⟩ (.int .i64 (p2 + 1))).setCell ⟨w.heap.size + 1, 2, none⟩ (.func (.func 97) #[] #[.pointer (some ⟨w1.heap.size + 1, 0, none⟩), .pointer (some ⟨w.heap.size, 0, none⟩)])).heap.size = w1.heap.size := by simp
    generalize (((w1.setCell ⟨w.heap.size + 1, 0, none⟩ (.int .i64 (p1 - 1))).setCell ⟨w.heap.size + 1, 1, none⟩ (.int .i64 (p2 + 1))).setCell ⟨w.heap.size + 1, 2, none⟩ (.func (.func 97) #[] #[.pointer (some ⟨w1.heap.size + 1, 0, none⟩), .pointer (some ⟨w.heap.size, 0, none⟩)])) = W1 at *
    have hA : Below W1.heap.size W1 ((W1.alloc (.map #[] 0)).alloc (.cells #[.map (some w1.heap.size)] 110)) := ((Below.refl _ _).alloc (Nat.le_refl _) _).alloc (by simp) _
    have xm : Box ((W1.alloc (.map #[] 0)).alloc (.cells #[.map (some w1.heap.size)] 110)) (w1.heap.size + 1) [.map (some w1.heap.size)] := Box.newA _ [_] _ (by simp [hszS])
    have hown : ((W1.alloc (.map #[] 0)).alloc (.cells #[.map (some w1.heap.size)] 110)).ownsMap (H := Unit) Try.prog 111 (plainElem Try.prog 3) w1.heap.size 0 (.map []) := by
      have := (World.ownsMap_made (H := Unit) W1 Try.prog 111 (plainElem Try.prog 3)).alloc (.cells #[.map (some w1.heap.size)] 110)
      rw [hszS] at this
      exact this
    have hsz : ((W1.alloc (.map #[] 0)).alloc (.cells #[.map (some w1.heap.size)] 110)).heap.size = w1.heap.size + 2 := by simp [hszS]
    have hne : ∀ {za : Option Addr} {zs : List Nat}, Fls w za zs → ∀ m, w.heap.size ≤ m → zs ≠ [] → ∀ b o, za = some ⟨b, o, none⟩ → b ≠ m := by
      intro za zs hZ m hm hz b o e
      obtain ⟨b', o', e', hb', _⟩ := hZ hz
      rw [e] at e'
      simp only [Option.some.injEq, Addr.mk.injEq] at e'
      omega
    refine bodyPost_ret (results_two rfl (rv_cell (g := w.heap.size + 1) rfl (z1.below hA) rfl Try.underlying100 (by kernel_rfl)) (rv_tmp rfl)) rfl ⟨p1 - 1, p2 + 1, _, w1.heap.size, w1.heap.size + 1, w.heap.size, by rw [HZ.out]; rfl, fun _ => ⟨HLo.out.1.symm, HLo.out.2.symm, rfl, ⟨⟨_, hown, Kept.nil _⟩, xm, (y0.bel (by omega) hset).below hA, (hD.below hB2).below hA, (hE.below hB2).below hA, by omega, by omega, hne hD _ (by omega), hne hE _ (by omega)⟩, by omega, by omega⟩, fun h => absurd HZ.out h, below_step hB2 (by omega) hA⟩
end Go.Proofs.Ytogkmddhgfenkaa
