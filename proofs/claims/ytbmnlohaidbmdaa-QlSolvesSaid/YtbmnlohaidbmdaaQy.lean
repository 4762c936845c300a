/- 'QlSolves': the law's call. No condition but on lengths. -/
import Derived.Test.YtbmnlohaidbmdaaQz
import Derived.Test.YtbmnlohaidbmdaaQuc
namespace Go.Proofs.Ytbmnlohaidbmdaa
open Go Go.RowKit
set_option maxRecDepth 1000000

theorem wrongQ_zero {d e z : List Nat} {r c : Int} (h : wrongQ d e r c z = 0) : ∃ rows : Nat, r = rows ∧ c = d.length ∧ rows ≤ 512 ∧ d.length ≤ 512 ∧ e.length = d.length - 1 ∧ z.length = rows * d.length ∧ d.all ffin = true ∧ e.all ffin = true ∧ z.all ffin = true := by
  unfold wrongQ at h
  by_cases h1 : mayT d.length e.length = false
  · rw [if_pos h1] at h; exact absurd h (by decide)
  rw [if_neg h1] at h
  by_cases h2 : mayB r c z.length = false
  · rw [if_pos h2] at h; exact absurd h (by decide)
  rw [if_neg h2] at h
  by_cases h3 : decide (c = (d.length : Int)) = false
  · rw [if_pos h3] at h; exact absurd h (by decide)
  rw [if_neg h3] at h
  by_cases h4 : d.all ffin = false
  · rw [if_pos h4] at h; exact absurd h (by decide)
  rw [if_neg h4] at h
  by_cases h5 : e.all ffin = false
  · rw [if_pos h5] at h; exact absurd h (by decide)
  rw [if_neg h5] at h
  by_cases h6 : z.all ffin = false
  · rw [if_pos h6] at h; exact absurd h (by decide)
  rw [Bool.not_eq_false] at h1 h2 h3 h4 h5 h6
  have hc := of_decide_eq_true h3
  obtain ⟨a, b, e1, e2, h7, h8, h9⟩ := mayB_nat h2
  unfold mayT at h1
  simp only [Bool.and_eq_true, decide_eq_true_eq] at h1
  have hb : b = d.length := by omega
  subst hb
  exact ⟨a, e1, hc, h7, h1.1, h1.2, h9, h4, h5, h6⟩
/-- What the solving tells, whatever it is given. -/
def SG (d e z : List Nat) (r c : Int) (W : World) (a : Option Addr) (nw : Nat) (r' c' : Int) (za' : Option Addr) (nz : Nat) (n' code : Int) : Prop :=
  (wrongQ d e r c z ≠ 0 ∧ nw = 0 ∧ r' = 0 ∧ c' = 0 ∧ nz = 0 ∧ n' = 0 ∧ code = wrongQ d e r c z) ∨
  (wrongQ d e r c z = 0 ∧ ∃ rows : Nat, r = rows ∧ c = d.length ∧ ∃ y, y = solQ d.length rows d.length ⟨d, e ++ [0], z⟩ 0 ∧ n' = (y.2.1 : Nat) ∧
    (((y.2.2 = true ∧ y.1.d.all ffin = true) ∧ nw = d.length ∧ r' = rows ∧ c' = d.length ∧ nz = z.length ∧ code = 0 ∧ Fls W a (sortQ d.length rows y.1.d y.1.z d.length).1 ∧ Fls W za' (sortQ d.length rows y.1.d y.1.z d.length).2) ∨
     (¬ (y.2.2 = true ∧ y.1.d.all ffin = true) ∧ nw = 0 ∧ r' = 0 ∧ c' = 0 ∧ nz = 0 ∧ code = 7)))
theorem SG.below {d e z : List Nat} {r c : Int} {W W' : World} {a : Option Addr} {nw : Nat} {r' c' : Int} {za' : Option Addr} {nz : Nat} {n' code : Int} (h : SG d e z r c W a nw r' c' za' nz n' code) (hb : Below W.heap.size W W') : SG d e z r c W' a nw r' c' za' nz n' code := by
  rcases h with h | ⟨h0, rows, h1, h2, y, h3, h4, h | h⟩
  · exact .inl h
  · exact .inr ⟨h0, rows, h1, h2, y, h3, h4, .inl ⟨h.1, h.2.1, h.2.2.1, h.2.2.2.1, h.2.2.2.2.1, h.2.2.2.2.2.1, h.2.2.2.2.2.2.1.below hb, h.2.2.2.2.2.2.2.below hb⟩⟩
  · exact .inr ⟨h0, rows, h1, h2, y, h3, h4, .inr h⟩
theorem sol_any (w : World) (da ea za : Option Addr) (d e z : List Nat) (dc ec zc : Nat) (r c : Int) (hd : Fls w da d) (he : Fls w ea e) (hz : Fls w za z) (hda : da = none → d = []) (hea : ea = none → e = []) (hza : za = none → z = []) (hWd : Words d) (hWe : Words e) (hWz : Words z) (hld : d.length ≤ maxLen) (hle : e.length ≤ maxLen) (hlz : z.length ≤ maxLen) :
    Calls Try.prog 10 #[.agg #[.slice da d.length dc, .slice ea e.length ec], .agg #[.int .i64 r, .int .i64 c, .slice za z.length zc]] w fun x w' => ∃ a nw cw r' c' za' nz zc' n' code, x = .returned (.tuple #[.slice a nw cw, .agg #[.int .i64 r', .int .i64 c', .slice za' nz zc'], .int .i64 n', .int .i64 code]) ∧ SG d e z r c w' a nw r' c' za' nz n' code ∧ Below w.heap.size w w' := by
  by_cases h0 : wrongQ d e r c z = 0
  · obtain ⟨rows, rfl, rfl, h1, h2, h3, h4, f1, f2, f3⟩ := wrongQ_zero h0
    refine (Solve_ok w da ea za d e z dc ec zc rows hd he hz hda hea hza hWd hWe hWz h2 h1 h3 h4 f1 f2 f3).mono ?_
    intro x w' h
    unfold SolveP SolveQ at h
    split at h
    · rename_i hq
      obtain ⟨a, cap, za', zc', rfl, hF, hG, hb⟩ := h
      exact ⟨a, _, cap, _, _, za', _, zc', _, _, rfl, .inr ⟨h0, rows, rfl, rfl, _, rfl, rfl, .inl ⟨hq, rfl, rfl, rfl, rfl, rfl, hF, hG⟩⟩, hb⟩
    · rename_i hq
      obtain ⟨rfl, hb⟩ := h
      exact ⟨none, 0, 0, 0, 0, none, 0, 0, _, _, rfl, .inr ⟨h0, rows, rfl, rfl, _, rfl, rfl, .inr ⟨hq, rfl, rfl, rfl, rfl, rfl⟩⟩, hb⟩
  · refine (Solve_err w da ea za d e z dc ec zc r c hd he hz hWd hWe hWz hld hle hlz h0).mono ?_
    rintro x w' ⟨rfl, hb⟩
    exact ⟨none, 0, 0, 0, 0, none, 0, 0, _, _, rfl, .inl ⟨h0, rfl, rfl, rfl, rfl, rfl, rfl⟩, hb⟩
set_option maxHeartbeats 32000000 in
theorem qlSolves_any (w : World) (da ea za : Option Addr) (d e z : List Nat) (dc ec zc : Nat) (r c : Int) (hd : Fls w da d) (he : Fls w ea e) (hz : Fls w za z) (hda : da = none → d = [] ∧ dc = 0) (hea : ea = none → e = [] ∧ ec = 0) (hza : za = none → z = [] ∧ zc = 0) (hWd : Words d) (hWe : Words e) (hWz : Words z) (hld : d.length ≤ maxLen) (hle : e.length ≤ maxLen) (hlz : z.length ≤ maxLen) :
    Calls Try.prog 3 #[.agg #[.slice da d.length dc, .slice ea e.length ec], .agg #[.int .i64 r, .int .i64 c, .slice za z.length zc]] w fun x w' => x = .returned (.bool true) ∧ Below w.heap.size w w' := by
  have HF := Lib.hid (fun W => few_any W da ea za d.length e.length z.length dc ec zc r c hld hle hlz)
  have HS := Lib.hid (fun W (h : Below w.heap.size w W) => sol_any W da ea za d e z dc ec zc r c (hd.below h) (he.below h) (hz.below h) (fun k => (hda k).1) (fun k => (hea k).1) (fun k => (hza k).1) hWd hWe hWz hld hle hlz)
  have HWr := Lib.hid (fun W (h : Below w.heap.size w W) => RWrong12 W da ea za d e z dc ec zc r c (hd.below h) (he.below h) (hz.below h) hld hle hlz)
  have HR := Lib.hid (fun W (h : Below w.heap.size w W) rows h1 h2 h3 h4 => RSolve12 W da ea za d e z dc ec zc rows (hd.below h) (he.below h) (hz.below h) hda hea hza hWd hWe h1 h2 h3 h4)
  have HZ := Lib.hid (show _ ∧ _ ∧ _ from ⟨hd, he, hz⟩)
  have HN := Lib.hid (show _ ∧ _ ∧ _ from ⟨hda, hea, hza⟩)
  have hZero : Hid (wrongQ d e r c z = 0 → _) := Lib.hid (fun h => wrongQ_zero h)
  clear hd he hz hda hea hza hWd hWe hWz
  obtain ⟨W0, hW0⟩ : ∃ W0, W0 = ((w.alloc (.cells #[.slice da d.length dc, .slice ea e.length ec] 24)).alloc (.cells #[.int .i64 r, .int .i64 c, .slice za z.length zc] 26)) := ⟨_, rfl⟩
  have hB0 : Below w.heap.size w W0 := hW0 ▸ ((Below.refl _ _).alloc (Nat.le_refl _) _).alloc (by simp) _
  have x2 : Box W0 w.heap.size [.slice da d.length dc, .slice ea e.length ec] := hW0 ▸ (Box.newA w [_, _] _ rfl).alloc _
  have x3 : Box W0 (w.heap.size + 1) [.int .i64 r, .int .i64 c, .slice za z.length zc] := hW0 ▸ Box.newA _ [_, _, _] _ (by simp)
  have HX := Lib.hid (show _ ∧ _ ∧ _ from ⟨hB0, x2, x3⟩)
  clear hB0 x2 x3
  by_cases hfew : (decide (d.length ≤ 24) && decide (e.length ≤ 24) && decide (z.length ≤ 300)) = false
  · rw [hfew] at HF
    clear HS HWr HR HZ HN hfew hZero
    go_enter Try.func3, Try.ntmps3
    go_wp2_with fail
    rw [← hW0]
    clear hW0
    obtain ⟨hB0, x2, x3⟩ := HX.out
    refine (HF.out _).mono ?_
    rintro e w1 ⟨rfl, hb1⟩
    have hB1 := below_step hB0 hB0.size hb1
    clear hb1 x2 x3 HX hB0
    go_wp2_with fail
    refine (known12_any _).mono ?_
    rintro e w2 ⟨rfl, hb2⟩
    go_wp2
    go_ret
    exact ⟨rfl, below_step hB1 hB1.size hb2⟩
  · have hfew' := hfew
    rw [Bool.not_eq_false] at hfew
    rw [hfew] at HF
    simp only [Bool.and_eq_true, decide_eq_true_eq] at hfew
    obtain ⟨⟨hn1, hn2⟩, hn3⟩ := hfew
    clear hfew' hld hle hlz
    go_enter Try.func3, Try.ntmps3
    go_wp2_with fail
    rw [← hW0]
    clear hW0
    obtain ⟨hB0, x2, x3⟩ := HX.out
    refine (HF.out _).mono ?_
    rintro x w1 ⟨rfl, hb1⟩
    have hB1 := below_step hB0 hB0.size hb1
    have y2 := x2.below hb1
    have y3 := x3.below hb1
    obtain ⟨p1, p2, p3⟩ := y3.facts
    have HC := Lib.hid (Copy9 w1 r c za z zc (HZ.out.2.2.below hB1) (by omega) HN.out.2.2)
    have HX1 := Lib.hid (show _ ∧ _ ∧ _ from ⟨hB1, y2, y3⟩)
    clear hB0 x2 x3 HX hb1 y2 y3 hB1 HF
    go_wp2_with fail
    refine HC.out.mono ?_
    rintro x w2 ⟨a1, zb1, zc1, rfl, hFz, kz1, kz2, kz3, kz4, hb2⟩
    obtain ⟨hB1, y2, y3⟩ := HX1.out
    have hbA : Below w2.heap.size w2 (w2.alloc (.cells #[.int .i64 r, .int .i64 c, .slice a1 z.length zc1] 26)) := (Below.refl _ _).alloc (Nat.le_refl _) _
    have hb12 := below_step hb2 hb2.size hbA
    have hB2 := below_step hB1 hB1.size hb12
    replace y2 := y2.below hb12
    replace y3 := y3.below hb12
    have y5 := Box.newA w2 [.int .i64 r, .int .i64 c, .slice a1 z.length zc1] 26 rfl
    have hG1 := hFz.fls.below hbA
    have hs2 := hB2.size
    have hs5 := y5.lt
    have HX2 := Lib.hid (show _ ∧ _ ∧ _ ∧ _ ∧ _ from ⟨hB2, y2, y3, y5, hG1⟩)
    clear hB1 hb12 hb2 hbA hB2 y2 y3 y5 hG1 hFz kz1 kz2 kz3 kz4 HX1 HC p1 p2 p3
    go_upto_region 4 with (fail)
    generalize w2.alloc (.cells #[.int .i64 r, .int .i64 c, .slice a1 z.length zc1] 26) = w3 at *
    obtain ⟨hB2, y2, y3, y5, hG1⟩ := HX2.out
    have hdr : Below w3.heap.size w3 w3.drew := below_drewN 1 (Below.refl _ w3)
    have hsd := hdr.size
    have hB3 := below_step hB2 hB2.size hdr
    replace y2 := y2.below hdr
    replace y3 := y3.below hdr
    replace y5 := y5.below hdr
    replace hG1 := hG1.below hdr
    refine wp_region_items 5 [(true, 0), (true, 1), (true, 3), (true, 4), (false, 2)] (fun W => ∀ i, W.cell? ⟨w.heap.size, i, none⟩ = ([.slice da d.length dc, .slice ea e.length ec] : List Value)[i]?) (by kernel_rfl) (by kernel_rfl) y2.cell ?_
    generalize w3.drew = w4 at *
    have hG0 := HZ.out.1.below hB3
    have hG2 := HZ.out.2.1.below hB3
    clear hdr hB2 HX2
    iterate 4 (refine iW_take (v := ?_) rfl rfl ?_ ?_; rotate_left; (next => (intro w' hSw; (try dsimp only at hSw); go_simp; (try with_reducible rfl))); (simp only [Act.put, List.setIfInBounds_toArray, List.set_cons_zero, List.set_cons_succ]))
    refine iW_mid rfl rfl ?_
    refine wp_append_anyF (.const (.slice none 0 0)) (.tmp 25) rfl w4.heap.size (.slice none 0 0) [] rfl (OwnF.nil _ _) da d dc rfl hG0 HN.out.1 (by simp; omega) (Nat.le_refl _) ?_
    rintro v5 w5 hO5 hb5
    replace y2 := y2.below hb5
    refine ⟨y2.cell, ?_⟩
    refine iW_nil ?_
    rw [List.nil_append] at hO5
    obtain ⟨a5, c5, rfl, hG5⟩ := hO5.fls
    replace hB3 := below_step hB3 hB3.size hb5
    replace y3 := y3.below hb5
    replace y5 := y5.below hb5
    replace hG1 := hG1.below hb5
    replace hG2 := hG2.below hb5
    clear hO5 hG0
    go_simp
    have HX5 := Lib.hid (show _ ∧ _ ∧ _ ∧ _ ∧ _ ∧ _ from ⟨hB3, y2, y3, y5, hG1, hG5⟩)
    have HG2 := Lib.hid hG2
    clear hB3 y2 y3 y5 hG1 hG5 hG2
    go_upto_region 5 with (at_builtin; refine wpList_append_anyF rfl (.const (.slice none 0 0)) (.tmp 28) rfl w5.heap.size _ [] rfl (OwnF.nil _ _) ea e ec rfl HG2.out HN.out.2.1 (by simp; omega) (Nat.le_refl _) ?_; rintro v6 w6 hO6 hb6; rw [List.nil_append] at hO6)
    refine NoPanic.normal ?_
    obtain ⟨a6, c6, rfl, hG6⟩ := hO6.fls
    obtain ⟨hB3, y2, y3, y5, hG1, hG5⟩ := HX5.out
    have hB6 := below_step hB3 hB3.size hb6
    replace y2 := y2.below hb6
    replace y3 := y3.below hb6
    replace y5 := y5.below hb6
    replace hG1 := hG1.below hb6
    replace hG5 := hG5.below hb6
    obtain ⟨q1, q2, q3⟩ := y2.facts
    obtain ⟨p1, p2, p3⟩ := y3.facts
    have HS6 := Lib.hid (HS.out _ hB6)
    have HX6 := Lib.hid (show _ ∧ _ ∧ _ ∧ _ ∧ _ ∧ _ ∧ _ from ⟨hB6, y2, y3, y5, hG1, hG5, hG6⟩)
    clear hO6 hB3 hB6 y2 y3 y5 hG1 hG5 hG6 HX5 HG2 hb5 hb6 HS
    go_wp2_with fail
    refine HS6.out.mono ?_
    rintro x w7 ⟨a7, nw, cw, r', c', za', nz, zc', n', code, rfl, hSG, hb7⟩
    obtain ⟨hB6, y2, y3, y5, hG1, hG5, hG6⟩ := HX6.out
    have hbA : Below w7.heap.size w7 (w7.alloc (.cells #[.int .i64 r', .int .i64 c', .slice za' nz zc'] 26)) := (Below.refl _ _).alloc (Nat.le_refl _) _
    have y8 := Box.newA w7 [.int .i64 r', .int .i64 c', .slice za' nz zc'] 26 rfl
    have hb78 := below_step hb7 hb7.size hbA
    have hB8 := below_step hB6 hB6.size hb78
    replace y2 := y2.below hb78
    replace y3 := y3.below hb78
    replace y5 := y5.below hb78
    replace hG1 := hG1.below hb78
    replace hG5 := hG5.below hb78
    replace hG6 := hG6.below hb78
    replace hSG := hSG.below hbA
    have HM9 := Lib.hid (Same9F _ r c a1 za z zc1 zc hG1 (HZ.out.2.2.below hB8) (by omega))
    have HX8 := Lib.hid (show _ ∧ _ ∧ _ ∧ _ ∧ _ ∧ _ ∧ _ from ⟨hB8, y2, y3, y5, y8, hG5, hG6⟩)
    have HSG := Lib.hid hSG
    clear q1 q2 q3 p1 p2 p3
    obtain ⟨p1, p2, p3⟩ := y3.facts
    obtain ⟨q1, q2, q3⟩ := y5.facts
    clear hB6 hb7 hbA hb78 hB8 y2 y3 y5 y8 hG1 hG5 hG6 hSG HX6 HS6
    go_wp2_with fail
    refine HM9.out.mono ?_
    rintro x w9 ⟨rfl, hb9⟩
    obtain ⟨hB8, y2, y3, y5, y8, hG5, hG6⟩ := HX8.out
    have hB9 := below_step hB8 hB8.size hb9
    replace y2 := y2.below hb9
    replace y3 := y3.below hb9
    replace y5 := y5.below hb9
    replace y8 := y8.below hb9
    replace hG5 := hG5.below hb9
    replace hG6 := hG6.below hb9
    have HSG9 := Lib.hid (HSG.out.below hb9)
    have HA9 := Lib.hid (SameAllF _ a5 da d c5 dc hG5 (HZ.out.1.below hB9) (by omega))
    have HX9 := Lib.hid (show _ ∧ _ ∧ _ ∧ _ ∧ _ ∧ _ from ⟨hB9, y2, y3, y5, y8, hG6⟩)
    clear q1 q2 q3 p1 p2 p3
    obtain ⟨q1, q2, q3⟩ := y2.facts
    clear hB8 hB9 hb9 y2 y3 y5 y8 hG5 hG6 HX8 HSG HM9
    dsimp only
    go_wp2_with fail
    refine HA9.out.mono ?_
    rintro x w10 ⟨rfl, hb10⟩
    obtain ⟨hB9, y2, y3, y5, y8, hG6⟩ := HX9.out
    have hB10 := below_step hB9 hB9.size hb10
    replace y2 := y2.below hb10
    replace y3 := y3.below hb10
    replace y8 := y8.below hb10
    replace hG6 := hG6.below hb10
    have HSG10 := Lib.hid (HSG9.out.below hb10)
    have HA10 := Lib.hid (SameAllF _ a6 ea e c6 ec hG6 (HZ.out.2.1.below hB10) (by omega))
    have HX10 := Lib.hid (show _ ∧ _ ∧ _ ∧ _ from ⟨hB10, y2, y3, y8⟩)
    clear q1 q2 q3
    obtain ⟨q1, q2, q3⟩ := y2.facts
    clear hB9 hB10 hb10 y2 y3 y5 y8 hG6 HX9 HSG9 HA9
    dsimp only
    go_wp2_with fail
    refine HA10.out.mono ?_
    rintro x w11 ⟨rfl, hb11⟩
    obtain ⟨hB10, y2, y3, y8⟩ := HX10.out
    have hB11 := below_step hB10 hB10.size hb11
    replace y2 := y2.below hb11
    replace y3 := y3.below hb11
    replace y8 := y8.below hb11
    have HSG11 := Lib.hid (HSG10.out.below hb11)
    have HX11 := Lib.hid (show _ ∧ _ ∧ _ ∧ _ from ⟨hB11, y2, y3, y8⟩)
    have HWr11 := Lib.hid (HWr.out _ hB11)
    clear q1 q2 q3
    obtain ⟨q1, q2, q3⟩ := y2.facts
    obtain ⟨p1, p2, p3⟩ := y3.facts
    clear hB10 hB11 hb11 y2 y3 y8 HX10 HSG10 HA10 HWr
    dsimp only
    go_wp2_with fail
    refine HWr11.out.mono ?_
    rintro x w12 ⟨rfl, hb12⟩
    obtain ⟨hB11, y2, y3, y8⟩ := HX11.out
    have hB12 := below_step hB11 hB11.size hb12
    replace y2 := y2.below hb12
    replace y3 := y3.below hb12
    replace y8 := y8.below hb12
    have hSG := HSG11.out.below hb12
    clear q1 q2 q3 p1 p2 p3 hB11 hb12 HX11 HSG11 HWr11
    by_cases h0 : wrongQ d e r c z = 0
    · have HX12 := Lib.hid (show _ ∧ _ ∧ _ ∧ _ from ⟨hB12, y2, y3, y8⟩)
      rcases hSG with hSG | ⟨_, rows, rfl, rfl, y, hy, rfl, hSG⟩
      · exact absurd h0 hSG.1
      obtain ⟨rows', e1, _, k1, k2, k3, k4, _⟩ := hZero.out h0
      obtain rfl : rows = rows' := by omega
      have HR12 := Lib.hid (HR.out _ hB12 rows k2 k1 k3 k4)
      rw [← hy] at HR12
      have hL := solQ_len d.length rows d.length ⟨d, e ++ [0], z⟩ 0
      rw [← hy] at hL
      obtain ⟨hL1, _, hL2, _⟩ := hL
      have hS := sortQ_len d.length rows y.1.d y.1.z d.length
      rw [hL1, hL2] at hS
      unfold RSolveQ at HR12
      rw [h0]
      obtain ⟨q1, q2, q3⟩ := y2.facts
      obtain ⟨p1, p2, p3⟩ := y3.facts
      clear hB12 y2 y3 y8 HR hZero e1 k1 k2 k3 k4 h0 hy hL1 hL2
      rcases hSG with ⟨hq, rfl, rfl, rfl, rfl, rfl, hF, hG⟩ | ⟨hq, rfl, rfl, rfl, rfl, rfl⟩
      · simp only [if_pos hq] at HR12
        have HFG := Lib.hid (And.intro hF hG)
        clear hq hF hG
        dsimp only
        go_wp2_with fail
        refine HR12.out.mono ?_
        rintro x w13 ⟨a13, c13, z13, zc13, rfl, hF3, hG3, hb13⟩
        obtain ⟨hB12, y2, y3, y8⟩ := HX12.out
        have hbA : Below w13.heap.size w13 (w13.alloc (.cells #[.int .i64 rows, .int .i64 d.length, .slice z13 z.length zc13] 26)) := (Below.refl _ _).alloc (Nat.le_refl _) _
        have y14 := Box.newA w13 [.int .i64 rows, .int .i64 d.length, .slice z13 z.length zc13] 26 rfl
        have hbC := below_step hb13 hb13.size hbA
        have hB14 := below_step hB12 hB12.size hbC
        replace y8 := y8.below hbC
        have hF := HFG.out.1.below hbC
        have hG := HFG.out.2.below hbC
        replace hF3 := hF3.below hbA
        replace hG3 := hG3.below hbA
        generalize (sortQ d.length rows y.1.d y.1.z d.length).1 = S1 at *
        generalize (sortQ d.length rows y.1.d y.1.z d.length).2 = S2 at *
        generalize y.2.1 = m at *
        have t1 : ((m : Int) == (m : Int)) = true := beq_self_eq_true _
        obtain ⟨hS1, hS2⟩ := hS
        have HSF := Lib.hid (SameAllF _ a7 a13 S1 cw c13 hF hF3 (by omega))
        rw [hS1] at HSF
        have HGG := Lib.hid (fun W (h : Below (w13.alloc (.cells #[.int .i64 rows, .int .i64 d.length, .slice z13 z.length zc13] 26)).heap.size (w13.alloc (.cells #[.int .i64 rows, .int .i64 d.length, .slice z13 z.length zc13] 26)) W) => Same9F W (rows : Int) (d.length : Int) za' z13 S2 zc' zc13 (hG.below h) (hG3.below h) (by omega))
        rw [hS2] at HGG
        have HX14 := Lib.hid (show _ ∧ _ ∧ _ from ⟨hB14, y8, y14⟩)
        clear q1 q2 q3 p1 p2 p3 hB12 y2 y3 y8 hb13 hbA y14 hbC hB14 hF hG hF3 hG3 HFG HR12 HX12 hS1 hS2
        dsimp only
        go_wp2_with fail
        refine HSF.out.mono ?_
        rintro x w15 ⟨rfl, hb15⟩
        obtain ⟨hB14, y8, y14⟩ := HX14.out
        replace y8 := y8.below hb15
        replace y14 := y14.below hb15
        have hB15 := below_step hB14 hB14.size hb15
        have HGG15 := Lib.hid (HGG.out _ hb15)
        obtain ⟨q1, q2, q3⟩ := y8.facts
        obtain ⟨p1, p2, p3⟩ := y14.facts
        have HB15 := Lib.hid hB15
        clear hB14 y8 y14 hb15 hB15 HX14 HSF HGG
        dsimp only
        go_wp2_with fail
        refine HGG15.out.mono ?_
        rintro x w16 ⟨rfl, hb16⟩
        have hB16 := below_step HB15.out HB15.out.size hb16
        clear q1 q2 q3 p1 p2 p3 hb16 HB15 HGG15
        dsimp only
        go_wp2_with fail
        refine (known12_any _).mono ?_
        rintro x w17 ⟨rfl, hb17⟩
        go_wp2
        go_ret
        exact ⟨rfl, below_step hB16 hB16.size hb17⟩
      · simp only [if_neg hq] at HR12
        clear hq
        dsimp only
        go_wp2_with fail
        refine HR12.out.mono ?_
        rintro x w13 ⟨rfl, hb13⟩
        obtain ⟨hB12, y2, y3, y8⟩ := HX12.out
        have hbA : Below w13.heap.size w13 (w13.alloc (.cells #[.int .i64 0, .int .i64 0, .slice none 0 0] 26)) := (Below.refl _ _).alloc (Nat.le_refl _) _
        have hbC := below_step hb13 hb13.size hbA
        have hB14 := Lib.hid (below_step hB12 hB12.size hbC)
        replace y8 := y8.below hbC
        generalize y.2.1 = m at *
        have t1 : ((m : Int) == (m : Int)) = true := beq_self_eq_true _
        have HN14 := Lib.hid (same_nil (w13.alloc (.cells #[.int .i64 0, .int .i64 0, .slice none 0 0] 26)) za' zc')
        clear q1 q2 q3 p1 p2 p3
        obtain ⟨q1, q2, q3⟩ := y8.facts
        clear hB12 y2 y3 y8 hb13 hbA hbC HX12 HR12 hS
        dsimp only
        go_wp2_with fail
        refine HN14.out.mono ?_
        rintro x w15 ⟨rfl, hb15⟩
        have hB15 := below_step hB14.out hB14.out.size hb15
        clear q1 q2 q3 hb15 HN14 hB14
        dsimp only
        go_wp2_with fail
        refine (known12_any _).mono ?_
        rintro x w16 ⟨rfl, hb16⟩
        go_wp2
        go_ret
        exact ⟨rfl, below_step hB15 hB15.size hb16⟩
    · have hk : wrongQ d e r c z ≠ 0 := h0
      rcases hSG with ⟨_, rfl, rfl, rfl, rfl, rfl, rfl⟩ | hSG
      rotate_left
      · exact absurd hSG.1 h0
      have t1 : (wrongQ d e r c z != 0) = true := by simp [h0]
      have t2 : (wrongQ d e r c z == wrongQ d e r c z) = true := beq_self_eq_true _
      have HN12 := Lib.hid (same_nil w12 za' zc')
      have HB12 := Lib.hid hB12
      obtain ⟨q1, q2, q3⟩ := y8.facts
      clear hB12 y2 y3 y8 HR hZero h0 hk
      generalize wrongQ d e r c z = code at *
      dsimp only
      go_wp2_with fail
      refine HN12.out.mono ?_
      rintro x w13 ⟨rfl, hb13⟩
      have hB13 := below_step HB12.out HB12.out.size hb13
      clear q1 q2 q3 hb13 HN12 HB12
      dsimp only
      go_wp2_with fail
      refine (known12_any _).mono ?_
      rintro x w14 ⟨rfl, hb14⟩
      go_wp2
      go_ret
      exact ⟨rfl, below_step hB13 hB13.size hb14⟩
end Go.Proofs.Ytbmnlohaidbmdaa
