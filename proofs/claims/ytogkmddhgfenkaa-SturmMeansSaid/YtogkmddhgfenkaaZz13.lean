/- Package guard: Square, Any. -/
import Derived.Test.YtogkmddhgfenkaaGcZ
namespace Go.Proofs.Ytogkmddhgfenkaa
open Go Go.RowKit
set_option maxRecDepth 100000
theorem TakeR.move {w w1 w' : World} {m n : Int} {ws : List Nat} {code : Int} {e : Ending} (h : TakeR w1 w' m n ws code e) (hb : Below w.heap.size w w1) : ∃ m' n' dv, e = .returned (.tuple #[.agg #[.int .i64 m', .int .i64 n', dv], .int .i64 code]) ∧ (code = 0 → m' = m ∧ n' = n ∧ w'.ownsRow w.heap.size 35 1 dv ws.length (ws.map (Value.float .f64))) ∧ (code ≠ 0 → m' = 0 ∧ n' = 0 ∧ dv = .slice none 0 0) ∧ Below w.heap.size w w' := by
  obtain ⟨m', n', dv, h1, h2, h3, h4⟩ := h
  exact ⟨m', n', dv, h1, fun hc => ⟨(h2 hc).1, (h2 hc).2.1, ownsRow_monoS' (h2 hc).2.2 hb.size⟩, h3, below_step hb hb.size h4⟩
theorem takeC_fin {m n : Nat} {ws : List Nat} {ok : Bool} (hm : m ≤ 512) (hn : n ≤ 512) (hl : ws.length = m * n) : badM m n ws.length = false := by
  unfold badM
  simp only [Bool.or_eq_false_iff, decide_eq_false_iff_not, ne_eq, Classical.not_not]
  rw [hl, Int.natCast_mul]
  refine ⟨⟨⟨⟨by omega, by omega⟩, by omega⟩, by omega⟩, rfl⟩
theorem take_any_any (w : World) (m n : Int) (a : Option Addr) (ws : List Nat) (ac : Nat) (hA : Wds w a ws) (hW : Words ws) (hl : ws.length ≤ maxLen) :
    Calls Try.prog 62 #[.int .i64 m, .int .i64 n, .slice a ws.length ac, .func (.func 70) #[] #[]] w fun e w' => TakeR w w' m n ws (takeC m n ws true) e := by
  cases h : badM m n ws.length
  · obtain ⟨p, q, rfl, rfl, hp, hq, hz⟩ := badM_false h
    cases hf : ws.all ffin
    · have e : takeC p q ws true = 1 := by unfold takeC; rw [h, if_neg (by decide), if_pos hf]
      rw [e]
      exact take_fin_any w p q a ws ac hA hW hp hq hz hf
    · have hok : okAll p q okT = true := by unfold okAll okT; simp
      have e : takeC p q ws true = if okAll p q okT = false then 1 else if ws.all inrB = true then 0 else 2 := by unfold takeC; rw [h, if_neg (by decide), hf, hok]; simp
      rw [e]
      exact take_in_any w p q a ws ac hA hW hp hq hz hf
  · exact take_bad w m n a ws ac _ true hl h
theorem take_any_sq (w : World) (n : Int) (a : Option Addr) (ws : List Nat) (ac Bw Bn : Nat) (hA : Wds w a ws) (hW : Words ws) (hl : ws.length ≤ maxLen) (xw : Box w Bw [.slice a ws.length ac]) (xn : Box w Bn [.int .i64 n]) :
    Calls Try.prog 62 #[.int .i64 n, .int .i64 n, .slice a ws.length ac, .func (.func 63) #[] #[.pointer (some ⟨Bw, 0, none⟩), .pointer (some ⟨Bn, 0, none⟩)]] w fun e w' => TakeR w w' n n ws (takeC n n ws (okAll n.toNat n.toNat (okSq ws n.toNat))) e := by
  cases h : badM n n ws.length
  · obtain ⟨p, q, rfl, e', hp, hq, hz⟩ := badM_false h
    obtain rfl : p = q := by omega
    rw [Int.toNat_natCast]
    cases hf : ws.all ffin
    · have e : takeC p p ws (okAll p p (okSq ws p)) = 1 := by unfold takeC; rw [h, if_neg (by decide), if_pos hf]
      rw [e]
      exact take_fin_sq w p p a ws ac Bw Bn hA hW hp hp hz hf
    · have e : takeC p p ws (okAll p p (okSq ws p)) = if okAll p p (okSq ws p) = false then 1 else if ws.all inrB = true then 0 else 2 := by unfold takeC; rw [h, if_neg (by decide), hf]; simp
      rw [e]
      exact take_in_sq w p p a ws ac Bw Bn hA hW hp hp hz hf rfl xw xn
  · exact take_bad w n n a ws ac _ _ hl h
set_option maxHeartbeats 2000000 in
theorem Any_any (w : World) (m n : Int) (a : Option Addr) (ws : List Nat) (ac : Nat) (hA : Wds w a ws) (hW : Words ws) (hl : ws.length ≤ maxLen) :
    Calls Try.prog 32 #[.int .i64 m, .int .i64 n, .slice a ws.length ac] w fun e w' => TakeR w w' m n ws (takeC m n ws true) e := by
  have HT := Lib.hid (fun W (hW' : Below w.heap.size w W) => take_any_any W m n a ws ac (hA.below hW') hW hl)
  have hB0 : Below w.heap.size w (w.alloc (.cells #[.int .i64 0, .int .i64 0, .slice none 0 0] 26)) := (Below.refl _ _).alloc (Nat.le_refl _) _
  have x0 : Box (w.alloc (.cells #[.int .i64 0, .int .i64 0, .slice none 0 0] 26)) w.heap.size [.int .i64 0, .int .i64 0, .slice none 0 0] := Box.newA w [_, _, _] _ rfl
  generalize takeC m n ws true = C at *
  clear hA hW hl
  go_enter Try.func32, Try.ntmps32
  go_wp2_with fail
  refine (HT.out _ hB0).mono ?_
  intro e w1 hR
  obtain ⟨m', n', dv, rfl, g1, g2, hb1⟩ := hR
  have y0 := x0.below hb1
  have hB1 := below_step hB0 hB0.size hb1
  have hs := hb1.size
  obtain ⟨q1, q2, q3⟩ := y0.facts
  obtain ⟨sa, sl, sc, rfl⟩ : ∃ sa sl sc, dv = .slice sa sl sc := by
    by_cases hc : C = 0
    · obtain ⟨sa, sc, e⟩ := ownsRow_slice (g1 hc).2.2
      exact ⟨_, _, _, e⟩
    · exact ⟨_, _, _, (g2 hc).2.2⟩
  have G := Lib.hid (And.intro g1 g2)
  clear g1 g2 x0
  go_wp2
  refine bodyPost_ret (results_two rfl (rv_cell (g := w.heap.size) rfl (((y0.set 0 _).set 1 _).set 2 _) rfl Try.underlying26 (by kernel_rfl)) (rv_tmp rfl)) rfl ⟨m', n', .slice sa sl sc, rfl, fun hc => ?_, G.out.2, ?_⟩
  · have h1 := G.out.1 hc
    have hset : Bel w1.heap.size w.heap.size w1 (((w1.setCell ⟨w.heap.size, 0, none⟩ (.int .i64 m')).setCell ⟨w.heap.size, 1, none⟩ (.int .i64 n')).setCell ⟨w.heap.size, 2, none⟩ (.slice sa sl sc)) := (((Bel.refl _ _ _).set _ _).set _ _).set _ _
    exact ⟨h1.1, h1.2.1, ownsRow_monoS' (ownsRow_bel h1.2.2 hset (by simp)) (by simp)⟩
  · exact below_set (below_set (below_set hB1 (Nat.le_refl _) _ _) (Nat.le_refl _) _ _) (Nat.le_refl _) _ _
set_option maxHeartbeats 2000000 in
theorem Square_any (w : World) (n : Int) (a : Option Addr) (ws : List Nat) (ac : Nat) (hA : Wds w a ws) (hW : Words ws) (hl : ws.length ≤ maxLen) :
    Calls Try.prog 16 #[.int .i64 n, .slice a ws.length ac] w fun e w' => TakeR w w' n n ws (takeC n n ws (okAll n.toNat n.toNat (okSq ws n.toNat))) e := by
  obtain ⟨W0, hW0⟩ : ∃ W0 : World, W0 = ((w.alloc (.cells #[.int .i64 n] 3)).alloc (.cells #[.slice a ws.length ac] 22)).alloc (.cells #[.int .i64 0, .int .i64 0, .slice none 0 0] 26) := ⟨_, rfl⟩
  have hB0 : Below w.heap.size w W0 := by rw [hW0]; exact (((Below.refl _ _).alloc (Nat.le_refl _) _).alloc (by simp) _).alloc (by simp; omega) _
  have xn : Box W0 w.heap.size [.int .i64 n] := by rw [hW0]; exact ((Box.newA w [_] _ rfl).alloc _).alloc _
  have xw : Box W0 (w.heap.size + 1) [.slice a ws.length ac] := by rw [hW0]; exact (Box.newA _ [_] _ (by simp)).alloc _
  have x0 : Box W0 (w.heap.size + 2) [.int .i64 0, .int .i64 0, .slice none 0 0] := by rw [hW0]; exact Box.newA _ [_, _, _] _ (by simp)
  have HT := Lib.hid (take_any_sq W0 n a ws ac (w.heap.size + 1) w.heap.size (hA.below hB0) hW hl xw xn)
  generalize takeC n n ws (okAll n.toNat n.toNat (okSq ws n.toNat)) = C at *
  have H0 := Lib.hid hW0
  clear hA hW hl xn xw hW0
  go_enter Try.func16, Try.ntmps16
  go_wp2_with fail
  rw [← H0.out]
  refine HT.out.mono ?_
  intro e w1 hR
  obtain ⟨m', n', dv, rfl, g1, g2, hb1⟩ := hR
  have y0 := x0.below hb1
  have hB1 := below_step hB0 hB0.size hb1
  have hs := hb1.size
  obtain ⟨q1, q2, q3⟩ := y0.facts
  have hl0 := x0.lt
  obtain ⟨sa, sl, sc, rfl⟩ : ∃ sa sl sc, dv = .slice sa sl sc := by
    by_cases hc : C = 0
    · obtain ⟨sa, sc, e⟩ := ownsRow_slice (g1 hc).2.2
      exact ⟨_, _, _, e⟩
    · exact ⟨_, _, _, (g2 hc).2.2⟩
  have G := Lib.hid (And.intro g1 g2)
  clear g1 g2 x0
  go_wp2
  refine bodyPost_ret (results_two rfl (rv_cell (g := w.heap.size + 2) rfl (((y0.set 0 _).set 1 _).set 2 _) rfl Try.underlying26 (by kernel_rfl)) (rv_tmp rfl)) rfl ⟨m', n', .slice sa sl sc, rfl, fun hc => ?_, G.out.2, ?_⟩
  · have h1 := G.out.1 hc
    have hset : Bel w1.heap.size (w.heap.size + 2) w1 (((w1.setCell ⟨w.heap.size + 2, 0, none⟩ (.int .i64 m')).setCell ⟨w.heap.size + 2, 1, none⟩ (.int .i64 n')).setCell ⟨w.heap.size + 2, 2, none⟩ (.slice sa sl sc)) := (((Bel.refl _ _ _).set _ _).set _ _).set _ _
    exact ⟨h1.1, h1.2.1, ownsRow_monoS' (ownsRow_bel h1.2.2 hset (by omega)) (by omega)⟩
  · exact below_set (below_set (below_set hB1 (by omega) _ _) (by omega) _ _) (by omega) _ _
end Go.Proofs.Ytogkmddhgfenkaa

/- The document's guard: Take (printed by gen_ge.py). -/
namespace Go.Proofs.Ytogkmddhgfenkaa
open Go Go.RowKit
set_option maxRecDepth 100000
theorem okW_self (x : Nat) : okW x x = true := by unfold okW; simp
theorem okW_comm (x y : Nat) : okW x y = okW y x := by
  unfold okW
  rw [Bool.and_comm]
  congr 1
  rw [Bool.eq_iff_iff]
  simp only [decide_eq_true_eq]
  exact eq_comm
theorem tri_all {ws : List Nat} {n : Nat} (h : ∀ i, i < n → ∀ k, k < i → okSq ws n i k = true) : okAll n n (okSq ws n) = true := by
  unfold okAll
  rw [List.all_eq_true]
  intro i hi
  rw [List.all_eq_true]
  intro k hk
  rw [List.mem_range] at hi hk
  rcases Nat.lt_trichotomy k i with h1 | h1 | h1
  · exact h i hi k h1
  · subst h1; exact okW_self _
  · have := h k hk i h1
    unfold okSq at this ⊢
    rw [okW_comm]; exact this
theorem all_not {n : Nat} {ok : Nat → Nat → Bool} {i k : Nat} (hi : i < n) (hk : k < n) (h : ok i k = false) : okAll n n ok = false := by
  unfold okAll
  rw [List.all_eq_false]
  refine ⟨i, List.mem_range.2 hi, ?_⟩
  rw [Bool.not_eq_true, List.all_eq_false]
  exact ⟨k, List.mem_range.2 hk, by simp [h]⟩
set_option maxHeartbeats 4000000 in
theorem rtake_bad (w : World) (m n : Int) (a : Option Addr) (ws : List Nat) (ac : Nat) (sy : Bool) (ok : Bool) (hl : ws.length ≤ maxLen) (h : badM m n ws.length = true) :
    Calls Try.prog 17 #[.int .i64 m, .int .i64 n, .slice a ws.length ac, .bool sy] w fun e w' => e = .returned (.int .i64 (takeC m n ws ok)) ∧ Below w.heap.size w w' := by
  rw [takeC_bad h]
  have h' := badM_true h
  clear h
  unfold maxLen at hl
  rcases h' with h1 | ⟨h1, h2⟩ | ⟨h1, h2, h3⟩ | ⟨h1, h2, h3, h4⟩ | ⟨p, q, rfl, rfl, hp, hq, h5⟩
  · have t1 := decide_eq_true h1
    clear h1
    go_enter Try.func17, Try.ntmps17
    go_wp2
    go_ret
    exact ⟨rfl, Below.refl _ _⟩
  · have t1 := decide_eq_false h1
    have t2 := decide_eq_true h2
    clear h1 h2
    go_enter Try.func17, Try.ntmps17
    go_wp2
    go_ret
    exact ⟨rfl, Below.refl _ _⟩
  · have t1 := decide_eq_false h1
    have t2 := decide_eq_false h2
    have t3 := decide_eq_true h3
    clear h1 h2 h3
    go_enter Try.func17, Try.ntmps17
    go_wp2
    go_ret
    exact ⟨rfl, Below.refl _ _⟩
  · have t1 := decide_eq_false h1
    have t2 := decide_eq_false h2
    have t3 := decide_eq_false h3
    have t4 := decide_eq_true h4
    clear h1 h2 h3 h4
    go_enter Try.func17, Try.ntmps17
    go_wp2
    go_ret
    exact ⟨rfl, Below.refl _ _⟩
  · have hpq : p * q ≤ 512 * 512 := Nat.mul_le_mul hp hq
    have e1 : (p : Int) * (q : Int) = ((p * q : Nat) : Int) := (Int.natCast_mul _ _).symm
    generalize hz : p * q = z at *
    generalize hlen : ws.length = len at *
    have t1 : decide ((p : Int) < 0) = false := decide_eq_false (by omega)
    have t2 : decide ((512 : Int) < (p : Int)) = false := decide_eq_false (by omega)
    have t3 : decide ((q : Int) < 0) = false := decide_eq_false (by omega)
    have t4 : decide ((512 : Int) < (q : Int)) = false := decide_eq_false (by omega)
    have t5 : ((len : Int) != (z : Int)) = true := by simp; omega
    clear h5 hz hp hq hl
    have HLN := Lib.hid hlen
    clear hlen
    go_enter Try.func17, Try.ntmps17
    go_wp2
    go_ret
    exact ⟨rfl, Below.refl _ _⟩

set_option maxHeartbeats 16000000 in
theorem rtake_no (w : World) (m n : Nat) (a : Option Addr) (ws : List Nat) (ac : Nat) (hA : Wds w a ws) (hW : Words ws) (hm : m ≤ 512) (hn : n ≤ 512) (hl : ws.length = m * n) :
    Calls Try.prog 17 #[.int .i64 m, .int .i64 n, .slice a ws.length ac, .bool false] w fun e w' => e = .returned (.int .i64 (takeC m n ws true)) ∧ Below w.heap.size w w' := by
  have hbad := takeC_fin (ok := true) hm hn hl
  obtain ⟨Dv, hC⟩ : ∃ Dv : Int, Dv = if ws.all ffin = false then 1 else if true = false then 1 else if ws.all inrB = true then 0 else 2 := ⟨_, rfl⟩
  have hT : takeC m n ws true = Dv := by unfold takeC; rw [hbad, if_neg (by decide), hC]
  rw [hT]
  have HCd := Lib.hid hC
  have hmn : m * n ≤ 512 * 512 := Nat.mul_le_mul hm hn
  have e1 : (m : Int) * (n : Int) = (ws.length : Int) := by rw [hl]; exact (Int.natCast_mul _ _).symm
  have hlb : ws.length ≤ 262144 := by omega
  have t1 : decide ((m : Int) < 0) = false := decide_eq_false (by omega)
  have t2 : decide ((512 : Int) < (m : Int)) = false := decide_eq_false (by omega)
  have t3 : decide ((n : Int) < 0) = false := decide_eq_false (by omega)
  have t4 : decide ((512 : Int) < (n : Int)) = false := decide_eq_false (by omega)
  have HA := Lib.hid hA
  have HWd := Lib.hid hW
  have HL := Lib.hid hl
  
  clear hmn hA hW hC hl hT hbad
  go_enter Try.func17, Try.ntmps17
  go_wp2
  clear t1 t2 t3 t4 e1
  go_loopw [9] (fun s wr => ∃ k : Nat, k ≤ ws.length ∧ s = .int .i64 k ∧ (∀ j, j < k → ffin (ws.getD j 0) = true) ∧ Below w.heap.size w wr) (fun s _ => ws.length - (intOf s).toNat)
  case atStart => exact ⟨0, Nat.zero_le _, rfl, fun _ h => absurd h (Nat.not_lt_zero _), Below.refl _ _⟩
  case round =>
    obtain ⟨k, hk, rfl, hin, hB⟩ := hrel
    have HIn := Lib.hid hin
    clear hin
    by_cases hlt : k < ws.length
    · obtain ⟨b, o, rfl, hb, c1⟩ := (HA.out.below hB).at hlt
      have hv := HWd.out.at k
      have HI := Lib.hid (fun W => rfin_any (ws.getD k 0) hv W)
      clear hv
      cases hir : ffin (ws.getD k 0)
      · rw [hir] at HI
        have hCv : Dv = 1 := by
          rw [HCd.out, if_pos]
          rw [List.all_eq_false]
          exact ⟨ws.getD k 0, by simp [hlt], by rw [hir]; decide⟩
        have HCv := Lib.hid hCv
        clear hCv hir
        generalize ws.getD k 0 = z at *
        go_wp2_with (go_at_call 24; refine (HI.out _).mono ?_; rintro e w' ⟨rfl, rfl⟩)
        go_ret
        exact ⟨by rw [HCv.out]; rfl, hB⟩
      · rw [hir] at HI
        have HIr := Lib.hid hir
        clear hir
        generalize hz : ws.getD k 0 = z at *
        have HZk := Lib.hid hz
        clear hz
        go_wp2_with (go_at_call 24; refine (HI.out _).mono ?_; rintro e w' ⟨rfl, rfl⟩)
        go_roundw
        case rel => exact ⟨k + 1, hlt, by go_num, fun j hj => (by
          by_cases e : j = k
          · subst e; rw [HZk.out]; exact HIr.out
          · exact HIn.out j (by omega)), hB⟩
        case measure => simp [intOf]; omega
    · obtain rfl : k = ws.length := by omega
      have hfin : ws.all ffin = true := by
        rw [List.all_eq_true]
        intro x hx
        obtain ⟨j, hj, rfl⟩ := List.getElem_of_mem hx
        have := HIn.out j hj
        simpa [hj] using this
      have HCd1 : Hid (Dv = if true = false then 1 else if ws.all inrB = true then 0 else 2) := by unfold Hid; rw [HCd.out, hfin, if_neg (by decide)]
      clear hfin hk hlt HCd HIn
      have HCd2 : Hid (Dv = if ws.all inrB = true then 0 else 2) := by unfold Hid; rw [HCd1.out, if_neg (by decide)]
      go_wp2
      obtain ⟨w1, rfl⟩ : ∃ w1 : World, w1 = wr := ⟨_, rfl⟩
      go_loopw [10] (fun s wr => s = .int .i64 0 ∧ Below w.heap.size w wr) (fun _ _ => 0)
      case atStart => exact ⟨rfl, hB⟩
      case round =>
        obtain ⟨rfl, hB1⟩ := hrel
        clear hB
        obtain ⟨w2, rfl⟩ : ∃ w2 : World, w2 = wr := ⟨_, rfl⟩
        rcases Nat.eq_zero_or_pos m with h0 | h0
        · have t0 : decide ((0 : Int) < (m : Int)) = false := by simp; omega
          have t0' : decide (0 < m) = false := by simp; omega
          clear h0
          go_wp2
          have hBL := hB1
          clear hB1 t0 t0'
          go_loopw [14] (fun s wr => ∃ k : Nat, k ≤ ws.length ∧ s = .int .i64 k ∧ (∀ j, j < k → inrB (ws.getD j 0) = true) ∧ Below w.heap.size w wr) (fun s _ => ws.length - (intOf s).toNat)
          case atStart => exact ⟨0, Nat.zero_le _, rfl, fun _ h => absurd h (Nat.not_lt_zero _), hBL⟩
          case round =>
            obtain ⟨k, hk, rfl, hin, hB⟩ := hrel
            have HIn := Lib.hid hin
            clear hin hBL
            by_cases hlt : k < ws.length
            · obtain ⟨b, o, rfl, hb, c1⟩ := (HA.out.below hB).at hlt
              have hv := HWd.out.at k
              have HI := Lib.hid (fun W => rinr_any (ws.getD k 0) hv W)
              clear hv
              cases hir : inrB (ws.getD k 0)
              · rw [hir] at HI
                have hCv : Dv = 2 := by
                  rw [HCd2.out, if_neg]
                  rw [Bool.not_eq_true, List.all_eq_false]
                  exact ⟨ws.getD k 0, by simp [hlt], by rw [hir]; decide⟩
                have HCv := Lib.hid hCv
                clear hCv hir
                generalize ws.getD k 0 = z at *
                go_wp2_with (go_at_call 22; refine (HI.out _).mono ?_; rintro e w' ⟨rfl, rfl⟩)
                go_ret
                exact ⟨by rw [HCv.out]; rfl, hB⟩
              · rw [hir] at HI
                have HIr := Lib.hid hir
                clear hir
                generalize hz : ws.getD k 0 = z at *
                have HZk := Lib.hid hz
                clear hz
                go_wp2_with (go_at_call 22; refine (HI.out _).mono ?_; rintro e w' ⟨rfl, rfl⟩)
                go_roundw
                case rel => exact ⟨k + 1, hlt, by go_num, fun j hj => (by
                  by_cases e : j = k
                  · subst e; rw [HZk.out]; exact HIr.out
                  · exact HIn.out j (by omega)), hB⟩
                case measure => simp [intOf]; omega
            · obtain rfl : k = ws.length := by omega
              have hCv : Dv = 0 := by
                rw [HCd2.out, if_pos]
                rw [List.all_eq_true]
                intro x hx
                obtain ⟨j, hj, rfl⟩ := List.getElem_of_mem hx
                have := HIn.out j hj
                simpa [hj] using this
              have HCv := Lib.hid hCv
              clear hCv
              go_wp2
              go_ret
              exact ⟨by rw [HCv.out]; rfl, hB⟩
        · have t0 : decide ((0 : Int) < (m : Int)) = true := by simp; omega
          have t0' : decide (0 < m) = true := by simp; omega
          clear h0
          go_wp2
          have hBL := hB1
          clear hB1 t0 t0'
          go_loopw [14] (fun s wr => ∃ k : Nat, k ≤ ws.length ∧ s = .int .i64 k ∧ (∀ j, j < k → inrB (ws.getD j 0) = true) ∧ Below w.heap.size w wr) (fun s _ => ws.length - (intOf s).toNat)
          case atStart => exact ⟨0, Nat.zero_le _, rfl, fun _ h => absurd h (Nat.not_lt_zero _), hBL⟩
          case round =>
            obtain ⟨k, hk, rfl, hin, hB⟩ := hrel
            have HIn := Lib.hid hin
            clear hin hBL
            by_cases hlt : k < ws.length
            · obtain ⟨b, o, rfl, hb, c1⟩ := (HA.out.below hB).at hlt
              have hv := HWd.out.at k
              have HI := Lib.hid (fun W => rinr_any (ws.getD k 0) hv W)
              clear hv
              cases hir : inrB (ws.getD k 0)
              · rw [hir] at HI
                have hCv : Dv = 2 := by
                  rw [HCd2.out, if_neg]
                  rw [Bool.not_eq_true, List.all_eq_false]
                  exact ⟨ws.getD k 0, by simp [hlt], by rw [hir]; decide⟩
                have HCv := Lib.hid hCv
                clear hCv hir
                generalize ws.getD k 0 = z at *
                go_wp2_with (go_at_call 22; refine (HI.out _).mono ?_; rintro e w' ⟨rfl, rfl⟩)
                go_ret
                exact ⟨by rw [HCv.out]; rfl, hB⟩
              · rw [hir] at HI
                have HIr := Lib.hid hir
                clear hir
                generalize hz : ws.getD k 0 = z at *
                have HZk := Lib.hid hz
                clear hz
                go_wp2_with (go_at_call 22; refine (HI.out _).mono ?_; rintro e w' ⟨rfl, rfl⟩)
                go_roundw
                case rel => exact ⟨k + 1, hlt, by go_num, fun j hj => (by
                  by_cases e : j = k
                  · subst e; rw [HZk.out]; exact HIr.out
                  · exact HIn.out j (by omega)), hB⟩
                case measure => simp [intOf]; omega
            · obtain rfl : k = ws.length := by omega
              have hCv : Dv = 0 := by
                rw [HCd2.out, if_pos]
                rw [List.all_eq_true]
                intro x hx
                obtain ⟨j, hj, rfl⟩ := List.getElem_of_mem hx
                have := HIn.out j hj
                simpa [hj] using this
              have HCv := Lib.hid hCv
              clear hCv
              go_wp2
              go_ret
              exact ⟨by rw [HCv.out]; rfl, hB⟩

set_option maxHeartbeats 16000000 in
theorem rtake_sy (w : World) (m n : Nat) (a : Option Addr) (ws : List Nat) (ac : Nat) (hA : Wds w a ws) (hW : Words ws) (hm : m ≤ 512) (hn : n ≤ 512) (hl : ws.length = m * n) (hmn' : m = n) :
    Calls Try.prog 17 #[.int .i64 m, .int .i64 n, .slice a ws.length ac, .bool true] w fun e w' => e = .returned (.int .i64 (takeC m n ws (okAll m m (okSq ws m)))) ∧ Below w.heap.size w w' := by
  have hbad := takeC_fin (ok := true) hm hn hl
  obtain ⟨Dv, hC⟩ : ∃ Dv : Int, Dv = if ws.all ffin = false then 1 else if (okAll m m (okSq ws m)) = false then 1 else if ws.all inrB = true then 0 else 2 := ⟨_, rfl⟩
  have hT : takeC m n ws (okAll m m (okSq ws m)) = Dv := by unfold takeC; rw [hbad, if_neg (by decide), hC]
  rw [hT]
  have HCd := Lib.hid hC
  have hmn : m * n ≤ 512 * 512 := Nat.mul_le_mul hm hn
  have e1 : (m : Int) * (n : Int) = (ws.length : Int) := by rw [hl]; exact (Int.natCast_mul _ _).symm
  have hlb : ws.length ≤ 262144 := by omega
  have t1 : decide ((m : Int) < 0) = false := decide_eq_false (by omega)
  have t2 : decide ((512 : Int) < (m : Int)) = false := decide_eq_false (by omega)
  have t3 : decide ((n : Int) < 0) = false := decide_eq_false (by omega)
  have t4 : decide ((512 : Int) < (n : Int)) = false := decide_eq_false (by omega)
  have HA := Lib.hid hA
  have HWd := Lib.hid hW
  have HL := Lib.hid hl
  subst hmn'
  clear hmn hA hW hC hl hT hbad
  go_enter Try.func17, Try.ntmps17
  go_wp2
  clear t1 t2 t3 t4 e1
  go_loopw [9] (fun s wr => ∃ k : Nat, k ≤ ws.length ∧ s = .int .i64 k ∧ (∀ j, j < k → ffin (ws.getD j 0) = true) ∧ Below w.heap.size w wr) (fun s _ => ws.length - (intOf s).toNat)
  case atStart => exact ⟨0, Nat.zero_le _, rfl, fun _ h => absurd h (Nat.not_lt_zero _), Below.refl _ _⟩
  case round =>
    obtain ⟨k, hk, rfl, hin, hB⟩ := hrel
    have HIn := Lib.hid hin
    clear hin
    by_cases hlt : k < ws.length
    · obtain ⟨b, o, rfl, hb, c1⟩ := (HA.out.below hB).at hlt
      have hv := HWd.out.at k
      have HI := Lib.hid (fun W => rfin_any (ws.getD k 0) hv W)
      clear hv
      cases hir : ffin (ws.getD k 0)
      · rw [hir] at HI
        have hCv : Dv = 1 := by
          rw [HCd.out, if_pos]
          rw [List.all_eq_false]
          exact ⟨ws.getD k 0, by simp [hlt], by rw [hir]; decide⟩
        have HCv := Lib.hid hCv
        clear hCv hir
        generalize ws.getD k 0 = z at *
        go_wp2_with (go_at_call 24; refine (HI.out _).mono ?_; rintro e w' ⟨rfl, rfl⟩)
        go_ret
        exact ⟨by rw [HCv.out]; rfl, hB⟩
      · rw [hir] at HI
        have HIr := Lib.hid hir
        clear hir
        generalize hz : ws.getD k 0 = z at *
        have HZk := Lib.hid hz
        clear hz
        go_wp2_with (go_at_call 24; refine (HI.out _).mono ?_; rintro e w' ⟨rfl, rfl⟩)
        go_roundw
        case rel => exact ⟨k + 1, hlt, by go_num, fun j hj => (by
          by_cases e : j = k
          · subst e; rw [HZk.out]; exact HIr.out
          · exact HIn.out j (by omega)), hB⟩
        case measure => simp [intOf]; omega
    · obtain rfl : k = ws.length := by omega
      have hfin : ws.all ffin = true := by
        rw [List.all_eq_true]
        intro x hx
        obtain ⟨j, hj, rfl⟩ := List.getElem_of_mem hx
        have := HIn.out j hj
        simpa [hj] using this
      have HCd1 : Hid (Dv = if (okAll m m (okSq ws m)) = false then 1 else if ws.all inrB = true then 0 else 2) := by unfold Hid; rw [HCd.out, hfin, if_neg (by decide)]
      clear hfin hk hlt HCd HIn
      go_wp2
      obtain ⟨w1, rfl⟩ : ∃ w1 : World, w1 = wr := ⟨_, rfl⟩
      go_loopw [10] (fun s wr => ∃ i : Nat, i ≤ m ∧ s = .int .i64 i ∧ (∀ i', i' < i → ∀ k', k' < i' → okSq ws m i' k' = true) ∧ Below w.heap.size w wr) (fun s _ => m - (intOf s).toNat)
      case atStart => exact ⟨0, Nat.zero_le _, rfl, fun _ h => absurd h (Nat.not_lt_zero _), hB⟩
      case round =>
        obtain ⟨i, hi, rfl, hall, hB1⟩ := hrel
        have HAll := Lib.hid hall
        clear hall
        by_cases hlt : i < m
        · go_wp2
          obtain ⟨wo, rfl⟩ : ∃ wo : World, wo = wr := ⟨_, rfl⟩
          go_loopw [11] (fun s wr => ∃ k : Nat, k ≤ i ∧ s = .int .i64 k ∧ (∀ k', k' < k → okSq ws m i k' = true) ∧ Below w.heap.size w wr) (fun s _ => i - (intOf s).toNat)
          case atStart => exact ⟨0, Nat.zero_le _, rfl, fun _ h => absurd h (Nat.not_lt_zero _), hB1⟩
          case round =>
            obtain ⟨k, hk, rfl, hin, hB2⟩ := hrel
            have HIn := Lib.hid hin
            clear hin
            by_cases hlt2 : k < i
            · have hkm : k < m := by omega
              have hb1 : i * m + k < ws.length := by have h1 : (i + 1) * m ≤ m * m := Nat.mul_le_mul_right _ hlt; rw [Nat.succ_mul] at h1; rw [HL.out]; omega
              have hb2 : k * m + i < ws.length := by have h1 : (k + 1) * m ≤ m * m := Nat.mul_le_mul_right _ hkm; rw [Nat.succ_mul] at h1; rw [HL.out]; omega
              obtain ⟨b, off, rfl, hbl, c1⟩ := (HA.out.below hB2).at hb1
              obtain ⟨b', off', e, _, c2⟩ := (HA.out.below hB2).at hb2
              obtain ⟨rfl, rfl⟩ : b = b' ∧ off = off' := by cases e; exact ⟨rfl, rfl⟩
              have hx := HWd.out.at (i * m + k)
              have hy := HWd.out.at (k * m + i)
              have HOK : Hid (okSq ws m i k = okW (ws.getD (i * m + k) 0) (ws.getD (k * m + i) 0)) := rfl
              have z1 := shl1ne hx
              have z2 := shl1ne hy
              have HLen : Hid (okAll m m (okSq ws m) = false ∨ okSq ws m i k = true) := by
                unfold Hid
                cases hok : okSq ws m i k
                · exact .inl (all_not hlt hkm hok)
                · exact .inr rfl
              clear e
              generalize ws.getD (i * m + k) 0 = x at *
              generalize ws.getD (k * m + i) 0 = y at *
              have p1 : (i : Int) * (m : Int) = ((i * m : Nat) : Int) := (Int.natCast_mul _ _).symm
              have p2 : (k : Int) * (m : Int) = ((k * m : Nat) : Int) := (Int.natCast_mul _ _).symm
              generalize i * m = q1 at *
              generalize k * m = q2 at *
              have w1' : IntKind.i64.wrap (q1 : Int) = (q1 : Int) := by rw [IntKind.wrap_i64]; omega
              have w2' : IntKind.i64.wrap (q2 : Int) = (q2 : Int) := by rw [IntKind.wrap_i64]; omega
              have w3' : IntKind.i64.wrap ((q1 : Int) + (k : Int)) = (q1 : Int) + (k : Int) := by rw [IntKind.wrap_i64]; omega
              have w4' : IntKind.i64.wrap ((q2 : Int) + (i : Int)) = (q2 : Int) + (i : Int) := by rw [IntKind.wrap_i64]; omega
              have t1' : ((q1 : Int) + (k : Int)).toNat = q1 + k := by omega
              have t2' : ((q2 : Int) + (i : Int)).toNat = q2 + i := by omega
              have t3' : (0 : Int) ≤ (q1 : Int) + (k : Int) := by omega
              have t4' : (0 : Int) ≤ (q2 : Int) + (i : Int) := by omega
              have t5' : (q1 : Int) + (k : Int) < (ws.length : Int) := by omega
              have t6' : (q2 : Int) + (i : Int) < (ws.length : Int) := by omega
              clear hx hy hb1 hb2
              go_wp2
              refine wp_region_nqb 18 (fun _ _ _ => False) (by kernel_rfl) (by kernel_rfl) ?_
              intro C R hc hb' hb2 hd hR
              simp only [List.take_succ_cons, List.take_zero]
              repeat (
                first
                  | (refine nqW_plain (fun K hK => ?_))
                  | (refine nqW_step (fun K hK => ?_); go_simp)
                first
                  | (refine nq_move rfl ?_; go_simp; refine hK _ ?_; clear hK K)
                  | (refine nq_assign rfl ?_; go_simp; refine hK _ ?_; clear hK K)
                  | (refine nq_flt rfl rfl rfl rfl hd ?_; intro _; go_frame; refine hK _ ?_; clear hK K)
                  | (refine nq_same ?_; intro w' hw'; go_simp; (try go_bits); refine hK _ ?_; clear hK K hw' w')
                  | (refine nq_same ?_; intro w' hw'; go_simp; rw [if_pos (by omega)]; go_simp; (try go_bits); refine hK _ ?_; clear hK K hw' w')
                  | (go_simp; refine hK _ ?_; clear hK K))
              refine nqW_nil (hR _ ?_)
              clear hc hb' hb2 hd hR
              intro w' hw'
              simp only [List.drop]
              clear w1' w2' w3' w4' t1' t2' t3' t4' t5' t6' p1 p2 c1 c2
              have hB3 := below_step hB2 hB2.size hw'
              unfold okW at HOK
              cases d0 : decide (x = y)
              · have d0' : ((x : Int) != (y : Int)) = true := by rw [decide_eq_false_iff_not] at d0; simp; omega
                rw [d0, Bool.false_or] at HOK
                clear d0
                generalize x % 9223372036854775808 = r at *
                generalize y % 9223372036854775808 = s at *
                cases d1 : decide (r = 0)
                · rw [d1] at z1 HOK
                  have HCv : Hid (Dv = 1) := by unfold Hid; rw [HCd1.out, if_pos]; exact HLen.out.resolve_right (by rw [HOK.out]; simp)
                  clear d1
                  go_wp2
                  go_ret
                  exact ⟨by rw [HCv.out]; rfl, hB3⟩
                · rw [d1] at z1 HOK
                  clear d1
                  cases d2 : decide (s = 0)
                  · rw [d2] at z2 HOK
                    have HCv : Hid (Dv = 1) := by unfold Hid; rw [HCd1.out, if_pos]; exact HLen.out.resolve_right (by rw [HOK.out]; simp)
                    clear d2
                    go_wp2
                    go_ret
                    exact ⟨by rw [HCv.out]; rfl, hB3⟩
                  · rw [d2] at z2 HOK
                    clear d2
                    go_wp2
                    go_roundw
                    case rel => exact ⟨k + 1, hlt2, by go_num, fun k' hk' => (by
                      by_cases e : k' = k
                      · subst e; rw [HOK.out]; rfl
                      · exact HIn.out k' (by omega)), hB3⟩
                    case measure => simp [intOf]; omega
              · rw [d0, Bool.true_or] at HOK
                rw [decide_eq_true_iff] at d0
                subst d0
                go_wp2
                go_roundw
                case rel => exact ⟨k + 1, hlt2, by go_num, fun k' hk' => (by
                  by_cases e : k' = k
                  · subst e; rw [HOK.out]
                  · exact HIn.out k' (by omega)), hB3⟩
                case measure => simp [intOf]; omega
            · obtain rfl : k = i := by omega
              go_wp2
              go_roundw
              case rel => exact ⟨k + 1, hlt, by go_num, fun i' hi' k' hk' => (by
                by_cases e : i' = k
                · subst e; exact HIn.out k' hk'
                · exact HAll.out i' (by omega) k' hk'), hB2⟩
              case measure => simp [intOf]; omega
        · obtain rfl : i = m := by omega
          have hokk : okAll i i (okSq ws i) = true := tri_all HAll.out
          have HCd2 : Hid (Dv = if ws.all inrB = true then 0 else 2) := by unfold Hid; rw [HCd1.out, hokk, if_neg (by decide)]
          clear hokk HAll HCd1 hlt hB
          go_wp2
          obtain ⟨w2, rfl⟩ : ∃ w2 : World, w2 = wr := ⟨_, rfl⟩
          have hBL := hB1
          clear hB1
          go_loopw [14] (fun s wr => ∃ k : Nat, k ≤ ws.length ∧ s = .int .i64 k ∧ (∀ j, j < k → inrB (ws.getD j 0) = true) ∧ Below w.heap.size w wr) (fun s _ => ws.length - (intOf s).toNat)
          case atStart => exact ⟨0, Nat.zero_le _, rfl, fun _ h => absurd h (Nat.not_lt_zero _), hBL⟩
          case round =>
            obtain ⟨k, hk, rfl, hin, hB⟩ := hrel
            have HIn := Lib.hid hin
            clear hin hBL
            by_cases hlt : k < ws.length
            · obtain ⟨b, o, rfl, hb, c1⟩ := (HA.out.below hB).at hlt
              have hv := HWd.out.at k
              have HI := Lib.hid (fun W => rinr_any (ws.getD k 0) hv W)
              clear hv
              cases hir : inrB (ws.getD k 0)
              · rw [hir] at HI
                have hCv : Dv = 2 := by
                  rw [HCd2.out, if_neg]
                  rw [Bool.not_eq_true, List.all_eq_false]
                  exact ⟨ws.getD k 0, by simp [hlt], by rw [hir]; decide⟩
                have HCv := Lib.hid hCv
                clear hCv hir
                generalize ws.getD k 0 = z at *
                go_wp2_with (go_at_call 22; refine (HI.out _).mono ?_; rintro e w' ⟨rfl, rfl⟩)
                go_ret
                exact ⟨by rw [HCv.out]; rfl, hB⟩
              · rw [hir] at HI
                have HIr := Lib.hid hir
                clear hir
                generalize hz : ws.getD k 0 = z at *
                have HZk := Lib.hid hz
                clear hz
                go_wp2_with (go_at_call 22; refine (HI.out _).mono ?_; rintro e w' ⟨rfl, rfl⟩)
                go_roundw
                case rel => exact ⟨k + 1, hlt, by go_num, fun j hj => (by
                  by_cases e : j = k
                  · subst e; rw [HZk.out]; exact HIr.out
                  · exact HIn.out j (by omega)), hB⟩
                case measure => simp [intOf]; omega
            · obtain rfl : k = ws.length := by omega
              have hCv : Dv = 0 := by
                rw [HCd2.out, if_pos]
                rw [List.all_eq_true]
                intro x hx
                obtain ⟨j, hj, rfl⟩ := List.getElem_of_mem hx
                have := HIn.out j hj
                simpa [hj] using this
              have HCv := Lib.hid hCv
              clear hCv
              go_wp2
              go_ret
              exact ⟨by rw [HCv.out]; rfl, hB⟩

theorem RTake_no (w : World) (m n : Int) (a : Option Addr) (ws : List Nat) (ac : Nat) (hA : Wds w a ws) (hW : Words ws) (hl : ws.length ≤ maxLen) :
    Calls Try.prog 17 #[.int .i64 m, .int .i64 n, .slice a ws.length ac, .bool false] w fun e w' => e = .returned (.int .i64 (takeC m n ws true)) ∧ Below w.heap.size w w' := by
  cases h : badM m n ws.length
  · obtain ⟨p, q, rfl, rfl, hp, hq, hz⟩ := badM_false h
    exact rtake_no w p q a ws ac hA hW hp hq hz
  · exact rtake_bad w m n a ws ac _ _ hl h
theorem RTake_sy (w : World) (n : Int) (a : Option Addr) (ws : List Nat) (ac : Nat) (hA : Wds w a ws) (hW : Words ws) (hl : ws.length ≤ maxLen) :
    Calls Try.prog 17 #[.int .i64 n, .int .i64 n, .slice a ws.length ac, .bool true] w fun e w' => e = .returned (.int .i64 (takeC n n ws (okAll n.toNat n.toNat (okSq ws n.toNat)))) ∧ Below w.heap.size w w' := by
  cases h : badM n n ws.length
  · obtain ⟨p, q, rfl, e', hp, hq, hz⟩ := badM_false h
    obtain rfl : p = q := by omega
    rw [Int.toNat_natCast]
    exact rtake_sy w p p a ws ac hA hW hp hp hz rfl
  · exact rtake_bad w n n a ws ac _ _ hl h
end Go.Proofs.Ytogkmddhgfenkaa
