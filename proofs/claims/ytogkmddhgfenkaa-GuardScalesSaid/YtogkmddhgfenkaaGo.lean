/- The guard laws: squares, any, words, times, powers. -/
import Derived.Test.YtogkmddhgfenkaaGn
namespace Go.Proofs.Ytogkmddhgfenkaa
open Go Go.RowKit
set_option maxRecDepth 100000
/-- The result of taking in, behind the call. -/
theorem TakeR.use {w w' : World} {m n : Int} {ws : List Nat} {code : Int} {e : Ending} (h : TakeR w w' m n ws code e) : ∃ m' n' sa sl sc, e = .returned (.tuple #[.agg #[.int .i64 m', .int .i64 n', .slice sa sl sc], .int .i64 code]) ∧ (code = 0 → m' = m ∧ n' = n ∧ sl = ws.length ∧ Cel w' sa ws) ∧ (code ≠ 0 → m' = 0 ∧ n' = 0 ∧ sa = none ∧ sl = 0 ∧ sc = 0) ∧ Below w.heap.size w w' := by
  obtain ⟨m', n', dv, rfl, g1, g2, hb⟩ := h
  by_cases h0 : code = 0
  · obtain ⟨h1, h2, h3⟩ := g1 h0
    obtain ⟨sa, sc, rfl, hc⟩ := cel_of_row h3
    exact ⟨m', n', sa, _, sc, rfl, fun _ => ⟨h1, h2, rfl, hc⟩, fun h => absurd h0 h, hb⟩
  · obtain ⟨h1, h2, rfl⟩ := g2 h0
    exact ⟨m', n', none, 0, 0, rfl, fun h => absurd h h0, fun _ => ⟨h1, h2, rfl, rfl, rfl⟩, hb⟩
set_option maxHeartbeats 4000000 in
theorem squares_any (w : World) (n : Int) (a : Option Addr) (ws : List Nat) (ac : Nat) (hA : Wds w a ws) (hW : Words ws) (hl : ws.length ≤ maxLen) :
    Calls Try.prog 3 #[.int .i64 n, .slice a ws.length ac] w fun e w' => e = .returned (.bool true) ∧ Below w.heap.size w w' := by
  have hln : ws.length ≤ 9223372036854775807 := by unfold maxLen at hl; omega
  by_cases h1000 : 1000 < ws.length
  · have t0 : decide ((1000 : Int) < (ws.length : Int)) = true := decide_eq_true (by omega)
    have t0' : decide (1000 < ws.length) = true := decide_eq_true h1000
    clear hA hW hl h1000
    go_enter Try.func3, Try.ntmps3
    go_wp2_with fail
    refine (known05 _).mono ?_
    rintro e w1 ⟨rfl, hb1⟩
    go_wp2
    go_ret
    exact ⟨rfl, hb1⟩
  · have t0 : decide ((1000 : Int) < (ws.length : Int)) = false := decide_eq_false (by omega)
    have t0' : decide (1000 < ws.length) = false := decide_eq_false h1000
    have HS := Lib.hid (Square_any w n a ws ac hA hW hl)
    have HR := Lib.hid (fun W (hW' : Below w.heap.size w W) => RTake_sy W n a ws ac (hA.below hW') hW hl)
    have HSm := Lib.hid (fun W m' n' sa sc (hW' : Below w.heap.size w W) (hc : Cel W sa ws) => same05_any W m' n' sa a ws sc ac hc (hA.below hW') (by omega))
    generalize takeC n n ws (okAll n.toNat n.toNat (okSq ws n.toNat)) = C at *
    clear hA hW hl h1000
    go_enter Try.func3, Try.ntmps3
    go_wp2_with fail
    refine HS.out.mono ?_
    intro e w1 hT
    obtain ⟨m', n', sa, sl, sc, rfl, g1, g2, hb1⟩ := hT.use
    clear hT HS t0 t0'
    have hA1 : Below w1.heap.size w1 (w1.alloc (.cells #[.int .i64 m', .int .i64 n', .slice sa sl sc] 26)) := (Below.refl _ _).alloc (Nat.le_refl _) _
    have x1 : Box (w1.alloc (.cells #[.int .i64 m', .int .i64 n', .slice sa sl sc] 26)) w1.heap.size [.int .i64 m', .int .i64 n', .slice sa sl sc] := Box.newA _ [_, _, _] _ rfl
    have hB1 := below_step hb1 hb1.size hA1
    have tC : (C != C) = false := bne_self_eq_false _
    go_wp2_with fail
    refine (HR.out _ hB1).mono ?_
    rintro e w2 ⟨rfl, hb2⟩
    have hB2 := below_step hB1 hB1.size hb2
    have x2 := x1.below hb2
    obtain ⟨q1, q2, q3⟩ := x2.facts
    have G := Lib.hid (And.intro g1 g2)
    clear g1 g2
    by_cases h0 : C = 0
    · obtain ⟨rfl, rfl, rfl, hc⟩ := G.out.1 h0
      have hc2 := (hc.below hA1).below hb2
      subst h0
      clear hA1 x1 hB1 hb1 hc hb2
      go_wp2_with fail
      refine (HSm.out _ _ _ _ _ hB2 hc2).mono ?_
      rintro e w3 ⟨rfl, hb3⟩
      have hB3 := below_step hB2 hB2.size hb3
      clear q1 q2 q3 hb3
      go_wp2_with fail
      refine (known05 _).mono ?_
      rintro e w4 ⟨rfl, hb4⟩
      go_wp2
      go_ret
      exact ⟨rfl, below_step hB3 hB3.size hb4⟩
    · obtain ⟨rfl, rfl, rfl, rfl, rfl⟩ := G.out.2 h0
      have t1 : (C != 0) = true := by simp [h0]
      have t2 : (C == 0) = false := by simp [h0]
      clear h0 hA1 x1 hB1 hb1 hb2
      go_wp2_with fail
      refine (none05_any _).mono ?_
      rintro e w3 ⟨rfl, hb3⟩
      have hB3 := below_step hB2 hB2.size hb3
      clear q1 q2 q3 hb3
      go_wp2_with fail
      refine (known05 _).mono ?_
      rintro e w4 ⟨rfl, hb4⟩
      go_wp2
      go_ret
      exact ⟨rfl, below_step hB3 hB3.size hb4⟩
set_option maxHeartbeats 4000000 in
theorem any05_any (w : World) (m n : Int) (a : Option Addr) (ws : List Nat) (ac : Nat) (hA : Wds w a ws) (hW : Words ws) (hl : ws.length ≤ maxLen) :
    Calls Try.prog 7 #[.int .i64 m, .int .i64 n, .slice a ws.length ac] w fun e w' => e = .returned (.bool true) ∧ Below w.heap.size w w' := by
  have hln : ws.length ≤ 9223372036854775807 := by unfold maxLen at hl; omega
  by_cases h1000 : 1000 < ws.length
  · have t0 : decide ((1000 : Int) < (ws.length : Int)) = true := decide_eq_true (by omega)
    have t0' : decide (1000 < ws.length) = true := decide_eq_true h1000
    clear hA hW hl h1000
    go_enter Try.func7, Try.ntmps7
    go_wp2_with fail
    refine (known05 _).mono ?_
    rintro e w1 ⟨rfl, hb1⟩
    go_wp2
    go_ret
    exact ⟨rfl, hb1⟩
  · have t0 : decide ((1000 : Int) < (ws.length : Int)) = false := decide_eq_false (by omega)
    have t0' : decide (1000 < ws.length) = false := decide_eq_false h1000
    have HS := Lib.hid (Any_any w m n a ws ac hA hW hl)
    have HR := Lib.hid (fun W (hW' : Below w.heap.size w W) => RTake_no W m n a ws ac (hA.below hW') hW hl)
    have HSm := Lib.hid (fun W m' n' sa sc (hW' : Below w.heap.size w W) (hc : Cel W sa ws) => same05_any W m' n' sa a ws sc ac hc (hA.below hW') (by omega))
    generalize takeC m n ws true = C at *
    clear hA hW hl h1000
    go_enter Try.func7, Try.ntmps7
    go_wp2_with fail
    refine HS.out.mono ?_
    intro e w1 hT
    obtain ⟨m', n', sa, sl, sc, rfl, g1, g2, hb1⟩ := hT.use
    clear hT HS t0 t0'
    have hA1 : Below w1.heap.size w1 (w1.alloc (.cells #[.int .i64 m', .int .i64 n', .slice sa sl sc] 26)) := (Below.refl _ _).alloc (Nat.le_refl _) _
    have x1 : Box (w1.alloc (.cells #[.int .i64 m', .int .i64 n', .slice sa sl sc] 26)) w1.heap.size [.int .i64 m', .int .i64 n', .slice sa sl sc] := Box.newA _ [_, _, _] _ rfl
    have hB1 := below_step hb1 hb1.size hA1
    have tC : (C != C) = false := bne_self_eq_false _
    go_wp2_with fail
    refine (HR.out _ hB1).mono ?_
    rintro e w2 ⟨rfl, hb2⟩
    have hB2 := below_step hB1 hB1.size hb2
    have x2 := x1.below hb2
    obtain ⟨q1, q2, q3⟩ := x2.facts
    have G := Lib.hid (And.intro g1 g2)
    clear g1 g2
    by_cases h0 : C = 0
    · obtain ⟨rfl, rfl, rfl, hc⟩ := G.out.1 h0
      have hc2 := (hc.below hA1).below hb2
      subst h0
      clear hA1 x1 hB1 hb1 hc hb2
      go_wp2_with fail
      refine (HSm.out _ _ _ _ _ hB2 hc2).mono ?_
      rintro e w3 ⟨rfl, hb3⟩
      have hB3 := below_step hB2 hB2.size hb3
      clear q1 q2 q3 hb3
      go_wp2_with fail
      refine (known05 _).mono ?_
      rintro e w4 ⟨rfl, hb4⟩
      go_wp2
      go_ret
      exact ⟨rfl, below_step hB3 hB3.size hb4⟩
    · obtain ⟨rfl, rfl, rfl, rfl, rfl⟩ := G.out.2 h0
      have t1 : (C != 0) = true := by simp [h0]
      have t2 : (C == 0) = false := by simp [h0]
      clear h0 hA1 x1 hB1 hb1 hb2
      go_wp2_with fail
      refine (none05_any _).mono ?_
      rintro e w3 ⟨rfl, hb3⟩
      have hB3 := below_step hB2 hB2.size hb3
      clear q1 q2 q3 hb3
      go_wp2_with fail
      refine (known05 _).mono ?_
      rintro e w4 ⟨rfl, hb4⟩
      go_wp2
      go_ret
      exact ⟨rfl, below_step hB3 hB3.size hb4⟩
set_option maxHeartbeats 4000000 in
theorem words_any (w : World) (a b : Nat) (ha : a < 18446744073709551616) (hb : b < 18446744073709551616) :
    Calls Try.prog 4 #[.int .u64 a, .int .u64 b] w fun e w' => e = .returned (.bool true) ∧ Below w.heap.size w w' := by
  have HI := Lib.hid (fun W => ginr_any a ha W)
  have HRI := Lib.hid (fun W => rinr_any a ha W)
  have HRa := Lib.hid (fun W => rfin_any a ha W)
  have HRb := Lib.hid (fun W => rfin_any b hb W)
  have hB1 : Below w.heap.size w (w.alloc (.cells #[.float .f64 a, .float .f64 b] 35)) := (Below.refl _ _).alloc (Nat.le_refl _) _
  have F1 : Cel (w.alloc (.cells #[.float .f64 a, .float .f64 b] 35)) (some ⟨w.heap.size, 0, none⟩) [a, b] := Cel.ofBox (zs := [a, b]) (show Box _ _ [.float .f64 a, .float .f64 b] from Box.newA _ [_, _] _ rfl)
  have hWab : Words [a, b] := by intro v hv; simp at hv; rcases hv with rfl | rfl <;> assumption
  have hWb : Words [b] := by intro v hv; simp at hv; subst hv; assumption
  have HF1 := Lib.hid (gFinite_any (w.alloc (.cells #[.float .f64 a, .float .f64 b] 35)) _ [a, b] 2 F1 hWab (by unfold maxLen; simp))
  have HF0 := Lib.hid (fun W => gFinite_any W none [] 0 (fun h => absurd rfl h) (fun v hv => by cases hv) (by decide))
  have HF2 := Lib.hid (fun (W : World) => gFinite_any (W.alloc (.cells #[.float .f64 b] 35)) _ [b] 1 (Cel.ofBox (n := W.heap.size) (zs := [b]) (show Box _ _ [.float .f64 b] from Box.newA _ [_] _ rfl)) hWb (by unfold maxLen; simp))
  have e1 : [a, b].all ffin = (ffin a && ffin b) := by simp
  have e2 : [b].all ffin = ffin b := by simp
  rw [e1] at HF1
  rw [e2] at HF2
  clear e1 e2 F1 hWab hWb
  generalize ffin a = fa at *
  generalize ffin b = fb at *
  generalize inrB a = ia at *
  have ti : (ia == ia) = true := beq_self_eq_true _
  have tb : (fb == fb) = true := beq_self_eq_true _
  go_enter Try.func4, Try.ntmps4
  go_wp2_with fail
  refine (HI.out _).mono ?_
  rintro e w' ⟨rfl, rfl⟩
  go_wp2_with fail
  refine (HRI.out _).mono ?_
  rintro e w' ⟨rfl, rfl⟩
  go_wp2_with fail
  refine HF1.out.mono ?_
  rintro e w' ⟨rfl, rfl⟩
  go_wp2_with fail
  refine (HRa.out _).mono ?_
  rintro e w' ⟨rfl, rfl⟩
  have hA2 : Below (w.alloc (.cells #[.float .f64 a, .float .f64 b] 35)).heap.size (w.alloc (.cells #[.float .f64 a, .float .f64 b] 35)) ((w.alloc (.cells #[.float .f64 a, .float .f64 b] 35)).alloc (.cells #[.float .f64 b] 35)) := (Below.refl _ _).alloc (Nat.le_refl _) _
  have hB2 := below_step hB1 hB1.size hA2
  have hF2 := HF2.out (w.alloc (.cells #[.float .f64 a, .float .f64 b] 35))
  rw [World.size_alloc] at hF2
  have HF3 := Lib.hid hF2
  clear hF2 hA2 hB1
  cases fa
  · go_wp2_with fail
    refine (HF0.out _).mono ?_
    rintro e w' ⟨rfl, rfl⟩
    go_wp2_with fail
    refine HF3.out.mono ?_
    rintro e w' ⟨rfl, rfl⟩
    go_wp2_with fail
    refine (HRb.out _).mono ?_
    rintro e w' ⟨rfl, rfl⟩
    go_wp2_with fail
    refine (known05 _).mono ?_
    rintro e w4 ⟨rfl, hb4⟩
    go_wp2
    go_ret
    exact ⟨rfl, below_step hB2 hB2.size hb4⟩
  · go_wp2_with fail
    refine (HRb.out _).mono ?_
    rintro e w' ⟨rfl, rfl⟩
    go_wp2_with fail
    refine (HF0.out _).mono ?_
    rintro e w' ⟨rfl, rfl⟩
    go_wp2_with fail
    refine HF3.out.mono ?_
    rintro e w' ⟨rfl, rfl⟩
    go_wp2_with fail
    refine (HRb.out _).mono ?_
    rintro e w' ⟨rfl, rfl⟩
    go_wp2_with fail
    refine (known05 _).mono ?_
    rintro e w4 ⟨rfl, hb4⟩
    go_wp2
    go_ret
    exact ⟨rfl, below_step hB2 hB2.size hb4⟩
set_option maxHeartbeats 4000000 in
theorem times_any (w : World) (x : Nat) (p : Int) (hx : x < 18446744073709551616) :
    Calls Try.prog 6 #[.float .f64 x, .int .i64 p] w fun e w' => e = .returned (.bool true) ∧ Below w.heap.size w w' := by
  have H1 := Lib.hid (fun W => Times_any x p hx W)
  have H2 := Lib.hid (fun W => RTimes_any x p hx W)
  have H3 := Lib.hid (fun W => sameF_refl (timesW x p) ▸ Same06_any (timesW x p) (timesW x p) W)
  generalize timesW x p = y at *
  go_enter Try.func6, Try.ntmps6
  go_wp2_with fail
  refine (H1.out _).mono ?_
  rintro e w1 ⟨rfl, hb1⟩
  go_wp2_with fail
  refine (H2.out _).mono ?_
  rintro e w2 ⟨rfl, hb2⟩
  have hB2 := below_step hb1 hb1.size hb2
  go_wp2_with fail
  refine (H3.out _).mono ?_
  rintro e w' ⟨rfl, rfl⟩
  go_wp2_with fail
  refine (known05 _).mono ?_
  rintro e w4 ⟨rfl, hb4⟩
  go_wp2
  go_ret
  exact ⟨rfl, below_step hB2 hB2.size hb4⟩
end Go.Proofs.Ytogkmddhgfenkaa
