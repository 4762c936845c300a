/- Package guard: Square, Any. -/
import Derived.Test.YtogkmddhgfenkaaGc
namespace Go.Proofs.Ytogkmddhgfenkaa
open Go Go.RowKit
set_option maxRecDepth 100000
theorem TakeR.move {w w1 w' : World} {m n : Int} {ws : List Nat} {code : Int} {e : Ending} (h : TakeR w1 w' m n ws code e) (hb : Below w.heap.size w w1) : ∃ m' n' dv, e = .returned (.tuple #[.agg #[.int .i64 m', .int .i64 n', dv], .int .i64 code]) ∧ (code = 0 → m' = m ∧ n' = n ∧ w'.ownsRow w.heap.size 35 1 dv ws.length (ws.map (Value.float .f64))) ∧ (code ≠ 0 → m' = 0 ∧ n' = 0 ∧ dv = .slice none 0 0) ∧ Below w.heap.size w w' := by
  obtain ⟨m', n', dv, h1, h2, h3, h4⟩ := h
  exact ⟨m', n', dv, h1, fun hc => ⟨(h2 hc).1, (h2 hc).2.1, ownsRow_monoS' (h2 hc).2.2 hb.size⟩, h3, below_step hb hb.size h4⟩
theorem takeC_fin {m n : Nat} {ws : List Nat} {ok : Bool} (hm : m ≤ 512) (hn : n ≤ 512) (hl : ws.length = m * n) : badM m n ws.length = false := by
  unfold badM
  simp only [Bool.or_eq_false_iff, decide_eq_false_iff_not, ne_eq, Classical.not_not]
  rw [hl, Int.natCast_mul]
  refine ⟨⟨⟨⟨by omega, by omega⟩, by omega⟩, by omega⟩, rfl⟩
theorem take_any_any (w : World) (m n : Int) (a : Option Addr) (ws : List Nat) (ac : Nat) (hA : Wds w a ws) (hW : Words ws) (hl : ws.length ≤ maxLen) :
    Calls Try.prog 62 #[.int .i64 m, .int .i64 n, .slice a ws.length ac, .func (.func 70) #[] #[]] w fun e w' => TakeR w w' m n ws (takeC m n ws true) e := by
  cases h : badM m n ws.length
  · obtain ⟨p, q, rfl, rfl, hp, hq, hz⟩ := badM_false h
    cases hf : ws.all ffin
    · have e : takeC p q ws true = 1 := by unfold takeC; rw [h, if_neg (by decide), if_pos hf]
      rw [e]
      exact take_fin_any w p q a ws ac hA hW hp hq hz hf
    · have hok : okAll p q okT = true := by unfold okAll okT; simp
      have e : takeC p q ws true = if okAll p q okT = false then 1 else if ws.all inrB = true then 0 else 2 := by unfold takeC; rw [h, if_neg (by decide), hf, hok]; simp
      rw [e]
      exact take_in_any w p q a ws ac hA hW hp hq hz hf
  · exact take_bad w m n a ws ac _ true hl h
theorem take_any_sq (w : World) (n : Int) (a : Option Addr) (ws : List Nat) (ac Bw Bn : Nat) (hA : Wds w a ws) (hW : Words ws) (hl : ws.length ≤ maxLen) (xw : Box w Bw [.slice a ws.length ac]) (xn : Box w Bn [.int .i64 n]) :
    Calls Try.prog 62 #[.int .i64 n, .int .i64 n, .slice a ws.length ac, .func (.func 63) #[] #[.pointer (some ⟨Bw, 0, none⟩), .pointer (some ⟨Bn, 0, none⟩)]] w fun e w' => TakeR w w' n n ws (takeC n n ws (okAll n.toNat n.toNat (okSq ws n.toNat))) e := by
  cases h : badM n n ws.length
  · obtain ⟨p, q, rfl, e', hp, hq, hz⟩ := badM_false h
    obtain rfl : p = q := by omega
    rw [Int.toNat_natCast]
    cases hf : ws.all ffin
    · have e : takeC p p ws (okAll p p (okSq ws p)) = 1 := by unfold takeC; rw [h, if_neg (by decide), if_pos hf]
      rw [e]
      exact take_fin_sq w p p a ws ac Bw Bn hA hW hp hp hz hf
    · have e : takeC p p ws (okAll p p (okSq ws p)) = if okAll p p (okSq ws p) = false then 1 else if ws.all inrB = true then 0 else 2 := by unfold takeC; rw [h, if_neg (by decide), hf]; simp
      rw [e]
      exact take_in_sq w p p a ws ac Bw Bn hA hW hp hp hz hf rfl xw xn
  · exact take_bad w n n a ws ac _ _ hl h
set_option maxHeartbeats 2000000 in
theorem Any_any (w : World) (m n : Int) (a : Option Addr) (ws : List Nat) (ac : Nat) (hA : Wds w a ws) (hW : Words ws) (hl : ws.length ≤ maxLen) :
    Calls Try.prog 32 #[.int .i64 m, .int .i64 n, .slice a ws.length ac] w fun e w' => TakeR w w' m n ws (takeC m n ws true) e := by
  have HT := Lib.hid (fun W (hW' : Below w.heap.size w W) => take_any_any W m n a ws ac (hA.below hW') hW hl)
  have hB0 : Below w.heap.size w (w.alloc (.cells #[.int .i64 0, .int .i64 0, .slice none 0 0] 26)) := (Below.refl _ _).alloc (Nat.le_refl _) _
  have x0 : Box (w.alloc (.cells #[.int .i64 0, .int .i64 0, .slice none 0 0] 26)) w.heap.size [.int .i64 0, .int .i64 0, .slice none 0 0] := Box.newA w [_, _, _] _ rfl
  generalize takeC m n ws true = C at *
  clear hA hW hl
  go_enter Try.func32, Try.ntmps32
  go_wp2_with fail
  refine (HT.out _ hB0).mono ?_
  intro e w1 hR
  obtain ⟨m', n', dv, rfl, g1, g2, hb1⟩ := hR
  have y0 := x0.below hb1
  have hB1 := below_step hB0 hB0.size hb1
  have hs := hb1.size
  obtain ⟨q1, q2, q3⟩ := y0.facts
  obtain ⟨sa, sl, sc, rfl⟩ : ∃ sa sl sc, dv = .slice sa sl sc := by
    by_cases hc : C = 0
    · obtain ⟨sa, sc, e⟩ := ownsRow_slice (g1 hc).2.2
      exact ⟨_, _, _, e⟩
    · exact ⟨_, _, _, (g2 hc).2.2⟩
  have G := Lib.hid (And.intro g1 g2)
  clear g1 g2 x0
  go_wp2
  refine bodyPost_ret (results_two rfl (rv_cell (g := w.heap.size) rfl (((y0.set 0 _).set 1 _).set 2 _) rfl Try.underlying26 (by kernel_rfl)) (rv_tmp rfl)) rfl ⟨m', n', .slice sa sl sc, rfl, fun hc => ?_, G.out.2, ?_⟩
  · have h1 := G.out.1 hc
    have hset : Bel w1.heap.size w.heap.size w1 (((w1.setCell ⟨w.heap.size, 0, none⟩ (.int .i64 m')).setCell ⟨w.heap.size, 1, none⟩ (.int .i64 n')).setCell ⟨w.heap.size, 2, none⟩ (.slice sa sl sc)) := (((Bel.refl _ _ _).set _ _).set _ _).set _ _
    exact ⟨h1.1, h1.2.1, ownsRow_monoS' (ownsRow_bel h1.2.2 hset (by simp)) (by simp)⟩
  · exact below_set (below_set (below_set hB1 (Nat.le_refl _) _ _) (Nat.le_refl _) _ _) (Nat.le_refl _) _ _
set_option maxHeartbeats 2000000 in
theorem Square_any (w : World) (n : Int) (a : Option Addr) (ws : List Nat) (ac : Nat) (hA : Wds w a ws) (hW : Words ws) (hl : ws.length ≤ maxLen) :
    Calls Try.prog 16 #[.int .i64 n, .slice a ws.length ac] w fun e w' => TakeR w w' n n ws (takeC n n ws (okAll n.toNat n.toNat (okSq ws n.toNat))) e := by
  obtain ⟨W0, hW0⟩ : ∃ W0 : World, W0 = ((w.alloc (.cells #[.int .i64 n] 3)).alloc (.cells #[.slice a ws.length ac] 22)).alloc (.cells #[.int .i64 0, .int .i64 0, .slice none 0 0] 26) := ⟨_, rfl⟩
  have hB0 : Below w.heap.size w W0 := by rw [hW0]; exact (((Below.refl _ _).alloc (Nat.le_refl _) _).alloc (by simp) _).alloc (by simp; omega) _
  have xn : Box W0 w.heap.size [.int .i64 n] := by rw [hW0]; exact ((Box.newA w [_] _ rfl).alloc _).alloc _
  have xw : Box W0 (w.heap.size + 1) [.slice a ws.length ac] := by rw [hW0]; exact (Box.newA _ [_] _ (by simp)).alloc _
  have x0 : Box W0 (w.heap.size + 2) [.int .i64 0, .int .i64 0, .slice none 0 0] := by rw [hW0]; exact Box.newA _ [_, _, _] _ (by simp)
  have HT := Lib.hid (take_any_sq W0 n a ws ac (w.heap.size + 1) w.heap.size (hA.below hB0) hW hl xw xn)
  generalize takeC n n ws (okAll n.toNat n.toNat (okSq ws n.toNat)) = C at *
  have H0 := Lib.hid hW0
  clear hA hW hl xn xw hW0
  go_enter Try.func16, Try.ntmps16
  go_wp2_with fail
  rw [← H0.out]
  refine HT.out.mono ?_
  intro e w1 hR
  obtain ⟨m', n', dv, rfl, g1, g2, hb1⟩ := hR
  have y0 := x0.below hb1
  have hB1 := below_step hB0 hB0.size hb1
  have hs := hb1.size
  obtain ⟨q1, q2, q3⟩ := y0.facts
  have hl0 := x0.lt
  obtain ⟨sa, sl, sc, rfl⟩ : ∃ sa sl sc, dv = .slice sa sl sc := by
    by_cases hc : C = 0
    · obtain ⟨sa, sc, e⟩ := ownsRow_slice (g1 hc).2.2
      exact ⟨_, _, _, e⟩
    · exact ⟨_, _, _, (g2 hc).2.2⟩
  have G := Lib.hid (And.intro g1 g2)
  clear g1 g2 x0
  go_wp2
  refine bodyPost_ret (results_two rfl (rv_cell (g := w.heap.size + 2) rfl (((y0.set 0 _).set 1 _).set 2 _) rfl Try.underlying26 (by kernel_rfl)) (rv_tmp rfl)) rfl ⟨m', n', .slice sa sl sc, rfl, fun hc => ?_, G.out.2, ?_⟩
  · have h1 := G.out.1 hc
    have hset : Bel w1.heap.size (w.heap.size + 2) w1 (((w1.setCell ⟨w.heap.size + 2, 0, none⟩ (.int .i64 m')).setCell ⟨w.heap.size + 2, 1, none⟩ (.int .i64 n')).setCell ⟨w.heap.size + 2, 2, none⟩ (.slice sa sl sc)) := (((Bel.refl _ _ _).set _ _).set _ _).set _ _
    exact ⟨h1.1, h1.2.1, ownsRow_monoS' (ownsRow_bel h1.2.2 hset (by omega)) (by omega)⟩
  · exact below_set (below_set (below_set hB1 (by omega) _ _) (by omega) _ _) (by omega) _ _
end Go.Proofs.Ytogkmddhgfenkaa
