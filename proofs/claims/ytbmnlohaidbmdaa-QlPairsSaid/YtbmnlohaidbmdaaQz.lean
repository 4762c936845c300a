/- 'QlSorted': the law's call. No condition but on lengths. -/
import Derived.Test.YtbmnlohaidbmdaaQx
import Derived.Test.YtbmnlohaidbmdaaQq
namespace Go.Proofs.Ytbmnlohaidbmdaa
open Go Go.RowKit
set_option maxRecDepth 1000000

theorem Fls.none0 (W : World) (a : Option Addr) : Fls W a [] := fun h => absurd rfl h
/-- An empty matrix is the empty matrix. -/
theorem same_nil (w : World) (a : Option Addr) (ca : Nat) :
    Calls Try.prog 11 #[.agg #[.int .i64 0, .int .i64 0, .slice a 0 ca], .agg #[.int .i64 0, .int .i64 0, .slice none 0 0]] w fun e w' => e = .returned (.bool true) ∧ Below w.heap.size w w' :=
  Same9F w 0 0 a none [] ca 0 (Fls.none0 _ _) (Fls.none0 _ _) (by simp)
/-- What the sorting tells, whatever it is given. -/
def TG (l z : List Nat) (r c : Int) (B : Nat) (W : World) (a : Option Addr) (nw : Nat) (r' c' : Int) (za' : Option Addr) (nz : Nat) (code : Int) : Prop :=
  (sortE r c z.length l ≠ 0 ∧ nw = 0 ∧ r' = 0 ∧ c' = 0 ∧ nz = 0 ∧ code = sortE r c z.length l) ∨
  (sortE r c z.length l = 0 ∧ ∃ rows : Nat, r = rows ∧ c = l.length ∧ rows ≤ 512 ∧ l.length ≤ 512 ∧ z.length = rows * l.length ∧ nw = l.length ∧ r' = rows ∧ c' = l.length ∧ nz = z.length ∧ code = 0 ∧
    ∃ b zb, FS W a b (sortQ l.length rows l z l.length).1 ∧ FS W za' zb (sortQ l.length rows l z l.length).2 ∧ B ≤ b ∧ B ≤ zb)
theorem TG.below {l z : List Nat} {r c : Int} {B : Nat} {W W' : World} {a : Option Addr} {nw : Nat} {r' c' : Int} {za' : Option Addr} {nz : Nat} {code : Int} (h : TG l z r c B W a nw r' c' za' nz code) (hb : Below W.heap.size W W') : TG l z r c B W' a nw r' c' za' nz code := by
  rcases h with h | ⟨h0, rows, h1, h2, h3, h4, h5, h6, h7, h8, h9, h10, b, zb, h11, h12, h13⟩
  · exact .inl h
  · exact .inr ⟨h0, rows, h1, h2, h3, h4, h5, h6, h7, h8, h9, h10, b, zb, h11.below hb, h12.below hb, h13⟩
theorem sortE_zero {l : List Nat} {r c : Int} {n : Nat} (h : sortE r c n l = 0) : ∃ rows : Nat, r = rows ∧ c = l.length ∧ rows ≤ 512 ∧ l.length ≤ 512 ∧ n = rows * l.length ∧ l.all ffin = true := by
  unfold sortE at h
  by_cases h2 : mayB r c n = false
  · rw [if_pos h2] at h; exact absurd h (by decide)
  rw [if_neg h2] at h
  by_cases h3 : decide (c = (l.length : Int)) = false
  · rw [if_pos h3] at h; exact absurd h (by decide)
  rw [if_neg h3] at h
  by_cases h4 : l.all ffin = false
  · rw [if_pos h4] at h; exact absurd h (by decide)
  rw [Bool.not_eq_false] at h2 h3 h4
  have hc := of_decide_eq_true h3
  obtain ⟨a, b, e1, e2, h7, h8, h9⟩ := mayB_nat h2
  have hb : b = l.length := by omega
  subst hb
  exact ⟨a, e1, hc, h7, h8, h9, h4⟩
theorem sorted_any (w : World) (a za : Option Addr) (l z : List Nat) (cap zc : Nat) (r c : Int) (hl : Fls w a l) (hz : Fls w za z) (ha : a = none → l = []) (hza : za = none → z = []) (hW : Words l) (hn : l.length ≤ maxLen) (hzn : z.length ≤ maxLen) :
    Calls Try.prog 18 #[.slice a l.length cap, .agg #[.int .i64 r, .int .i64 c, .slice za z.length zc]] w fun x w' => ∃ a nw cw r' c' za' nz zc' code, x = .returned (.tuple #[.slice a nw cw, .agg #[.int .i64 r', .int .i64 c', .slice za' nz zc'], .int .i64 code]) ∧ TG l z r c w.heap.size w' a nw r' c' za' nz code ∧ Below w.heap.size w w' := by
  by_cases h0 : sortE r c z.length l = 0
  · obtain ⟨rows, rfl, rfl, h1, h2, h3, f1⟩ := sortE_zero h0
    refine (Sorted_ok w a za l z cap zc rows hl hz ha hza hW h2 h1 h3 f1).mono ?_
    rintro x w' ⟨a', cap', za', zc', b, zb, rfl, hF, hG, hb, k1, k2⟩
    exact ⟨a', _, cap', _, _, za', _, zc', _, rfl, .inr ⟨h0, rows, rfl, rfl, h1, h2, h3, rfl, rfl, rfl, rfl, rfl, b, zb, hF, hG, k1, k2⟩, hb⟩
  · refine (Sorted_err w a za l cap z.length zc r c hl hW hn hzn h0).mono ?_
    rintro x w' ⟨rfl, hb⟩
    exact ⟨none, 0, 0, 0, 0, none, 0, 0, _, rfl, .inl ⟨h0, rfl, rfl, rfl, rfl, rfl⟩, hb⟩
theorem FS.blsF {w w' : World} {a : Option Addr} {b B : Nat} {l : List Nat} {L : List Nat} (h : FS w a b l) (hb : Bls L B w w') (h1 : l ≠ [] → b < B ∧ b ∉ L) : FS w' a b l := by
  rcases h with h | ⟨h2, h3⟩
  · exact .inl h
  · by_cases h0 : l = []
    · exact .inl h0
    · exact .inr ⟨h2, h3.bls hb (h1 h0).1 (h1 h0).2⟩
theorem FS.lt {w : World} {a : Option Addr} {b : Nat} {l : List Nat} (h : FS w a b l) (h0 : l ≠ []) : b < w.heap.size := (h.flb (List.length_pos_iff.2 h0)).2.lt
set_option maxHeartbeats 32000000 in
theorem qlSorted_any (w : World) (a za : Option Addr) (l z : List Nat) (cap zc : Nat) (r c : Int) (hl : Fls w a l) (hz : Fls w za z) (ha : a = none → l = [] ∧ cap = 0) (hza : za = none → z = [] ∧ zc = 0) (hW : Words l) (hn : l.length ≤ maxLen) (hzn : z.length ≤ maxLen) :
    Calls Try.prog 5 #[.slice a l.length cap, .agg #[.int .i64 r, .int .i64 c, .slice za z.length zc]] w fun x w' => x = .returned (.bool true) ∧ Below w.heap.size w w' := by
  have HS := Lib.hid (fun W (h : Below w.heap.size w W) => sorted_any W a za l z cap zc r c (hl.below h) (hz.below h) (fun k => (ha k).1) (fun k => (hza k).1) hW hn hzn)
  have HM := Lib.hid (fun W => RMay9_any W r c za z.length zc hzn)
  have HFi := Lib.hid (fun W (h : Below w.heap.size w W) => RFin12 W a l cap (hl.below h) hn)
  have HZ := Lib.hid (And.intro hl hz)
  have HN := Lib.hid (And.intro ha hza)
  clear hl hz ha hza hW
  obtain ⟨W0, hW0⟩ : ∃ W0, W0 = (w.alloc (.cells #[.int .i64 r, .int .i64 c, .slice za z.length zc] 26)) := ⟨_, rfl⟩
  have hB0 : Below w.heap.size w W0 := hW0 ▸ (Below.refl _ _).alloc (Nat.le_refl _) _
  have x3 : Box W0 w.heap.size [.int .i64 r, .int .i64 c, .slice za z.length zc] := hW0 ▸ Box.newA _ [_, _, _] _ (by simp)
  have HX := Lib.hid (And.intro hB0 x3)
  obtain ⟨q1, q2, q3⟩ := x3.facts
  clear hB0 x3
  unfold maxLen at hn hzn
  by_cases hbig : 30 < l.length ∨ 300 < z.length
  · have HK := Lib.hid hW0
    by_cases h1 : 30 < l.length
    · have t1 : decide ((30 : Int) < (l.length : Int)) = true := decide_eq_true (by omega)
      have t1' : decide (30 < l.length) = true := decide_eq_true h1
      clear HS HM HFi HZ HN hbig h1 q1 q2 q3
      go_enter Try.func5, Try.ntmps5
      go_wp2_with fail
      refine (known12_any _).mono ?_
      rintro x w1 ⟨rfl, hb1⟩
      go_wp2
      go_ret
      exact ⟨rfl, below_step ((Below.refl _ _).alloc (Nat.le_refl _) _) ((Below.refl _ _).alloc (Nat.le_refl _) _).size hb1⟩
    · have t1 : decide ((30 : Int) < (l.length : Int)) = false := decide_eq_false (by omega)
      have t1' : decide (30 < l.length) = false := decide_eq_false h1
      have t2 : decide ((300 : Int) < (z.length : Int)) = true := decide_eq_true (by omega)
      have t2' : decide (300 < z.length) = true := decide_eq_true (by omega)
      clear HS HM HFi HZ HN hbig h1
      go_enter Try.func5, Try.ntmps5
      go_wp2_with fail
      refine (known12_any _).mono ?_
      rintro x w1 ⟨rfl, hb1⟩
      go_wp2
      go_ret
      exact ⟨rfl, below_step ((Below.refl _ _).alloc (Nat.le_refl _) _) ((Below.refl _ _).alloc (Nat.le_refl _) _).size hb1⟩
  · have hn1 : ¬ 30 < l.length := fun h => hbig (.inl h)
    have hn2 : ¬ 300 < z.length := fun h => hbig (.inr h)
    have t1 : decide ((30 : Int) < (l.length : Int)) = false := decide_eq_false (by omega)
    have t1' : decide (30 < l.length) = false := decide_eq_false hn1
    have t2 : decide ((300 : Int) < (z.length : Int)) = false := decide_eq_false (by omega)
    have t2' : decide (300 < z.length) = false := decide_eq_false hn2
    clear hbig
    go_enter Try.func5, Try.ntmps5
    have HC := Lib.hid (Copy9 W0 r c za z zc (HZ.out.2.below HX.out.1) (by omega) HN.out.2)
    go_upto_region 3 with (fail)
    rw [← hW0]
    clear hW0 t1 t1' t2 t2'
    go_wp2_with fail
    refine HC.out.mono ?_
    rintro x w2 ⟨a1, zb1, zc1, rfl, hFz, kz1, kz2, kz3, kz4, hb2⟩
    obtain ⟨hB0, x3⟩ := HX.out
    have hs0 := hB0.size
    have hB2 := below_step hB0 hB0.size hb2
    replace x3 := x3.below hb2
    have hs2 := hb2.size
    have HZ2 := Lib.hid (HZ.out.1.below hB2)
    have HX2 := Lib.hid (show _ ∧ _ ∧ _ from ⟨hB2, x3, hFz⟩)
    have HK := Lib.hid (show _ ∧ _ from ⟨kz1, kz2⟩)
    clear hB0 hb2 hB2 x3 hFz kz1 kz2 kz3 kz4 HX HC q1 q2 q3
    dsimp only
    go_upto_region 4 with (at_builtin; refine wpList_append_anyF rfl (.const (.slice none 0 0)) (.tmp 23) rfl w2.heap.size _ [] rfl (OwnF.nil _ _) a l cap rfl HZ2.out HN.out.1 (by simp; omega) (Nat.le_refl _) ?_; rintro v3 w3 hO3 hb3; rw [List.nil_append] at hO3)
    obtain ⟨a3, b3, c3, rfl, j1, j2, j3, hF3, j4⟩ := hO3.fs
    obtain ⟨hB2, x3, hFz⟩ := HX2.out
    have hs3 := hb3.size
    have hbA : Below w3.heap.size w3 (w3.alloc (.cells #[.int .i64 r, .int .i64 c, .slice a1 z.length zc1] 26)) := (Below.refl _ _).alloc (Nat.le_refl _) _
    have x5 := Box.newA w3 [.int .i64 r, .int .i64 c, .slice a1 z.length zc1] 26 rfl
    have hb34 := below_step hb3 hb3.size hbA
    have hB4 := below_step hB2 hB2.size hb34
    replace x3 := x3.below hb34
    replace hFz := hFz.below hb34
    replace hF3 := hF3.below hbA
    have hs4 := hbA.size
    have hs5 := x5.lt
    generalize hW4 : w3.alloc (.cells #[.int .i64 r, .int .i64 c, .slice a1 z.length zc1] 26) = w4 at *
    generalize hP5 : w3.heap.size = P5 at *
    have HS4 := Lib.hid (HS.out _ hB4)
    have HK4 := Lib.hid (show (P5 < w4.heap.size ∧ w.heap.size ≤ P5 ∧ w.heap.size ≤ zb1 ∧ (z ≠ [] → zb1 < w2.heap.size) ∧ w2.heap.size ≤ b3 ∧ (l ≠ [] → b3 < w4.heap.size ∧ b3 < P5) ∧ w2.heap.size ≤ P5 ∧ w.heap.size ≤ w2.heap.size) from ⟨hs5, by omega, by have := HK.out.1; omega, HK.out.2, j3, fun h => ⟨Nat.lt_of_lt_of_le (j4 h) hs4, j4 h⟩, by omega, by omega⟩)
    have HX4 := Lib.hid (show _ ∧ _ ∧ _ ∧ _ ∧ _ from ⟨hB4, x3, x5, hFz, hF3⟩)
    obtain ⟨q1, q2, q3⟩ := x3.facts
    clear hb3 hO3 hB2 hb34 hbA hB4 x3 x5 hFz hF3 j1 j2 j3 j4 HZ2 HX2 HK HS hs0 hs2 hs3 hs4 hs5 hW4 hP5
    go_wp2_with fail
    refine HS4.out.mono ?_
    rintro x w5 ⟨a7, nw, cw, r', c', za', nz, zc', code, rfl, hTG, hb5⟩
    obtain ⟨hB4, x3, x5, hFz, hF3⟩ := HX4.out
    have hs5 := hb5.size
    have hbA : Below w5.heap.size w5 (w5.alloc (.cells #[.int .i64 r', .int .i64 c', .slice za' nz zc'] 26)) := (Below.refl _ _).alloc (Nat.le_refl _) _
    have x8 := Box.newA w5 [.int .i64 r', .int .i64 c', .slice za' nz zc'] 26 rfl
    have hb56 := below_step hb5 hb5.size hbA
    have hB6 := below_step hB4 hB4.size hb56
    replace x3 := x3.below hb56
    replace x5 := x5.below hb56
    replace hFz := hFz.below hb56
    replace hF3 := hF3.below hb56
    replace hTG := hTG.below hbA
    have hs6 := hbA.size
    have hs8 := x8.lt
    clear q1 q2 q3
    go_upto_region 5 with (fail)
    generalize hW6 : w5.alloc (.cells #[.int .i64 r', .int .i64 c', .slice za' nz zc'] 26) = w6 at *
    generalize hP8 : w5.heap.size = P8 at *
    have HK6 := Lib.hid (show (P8 < w6.heap.size ∧ w4.heap.size ≤ P8) from ⟨hs8, by omega⟩)
    have HM6 := Lib.hid (Same9F w6 r c a1 za z zc1 zc hFz.fls (HZ.out.2.below hB6) (by omega))
    have HX6 := Lib.hid (show _ ∧ _ ∧ _ ∧ _ ∧ _ ∧ _ ∧ _ from ⟨hB6, x3, x5, x8, hFz, hF3, hTG⟩)
    obtain ⟨q1, q2, q3⟩ := x3.facts
    obtain ⟨p1, p2, p3⟩ := x5.facts
    clear hB4 hb5 hbA hb56 hB6 x3 x5 x8 hFz hF3 hTG HX4 HS4 hs5 hs6 hs8 hW6 hP8
    go_wp2_with fail
    refine HM6.out.mono ?_
    rintro x w7 ⟨rfl, hb7⟩
    obtain ⟨hB6, x3, x5, x8, hFz, hF3, hTG⟩ := HX6.out
    have hB7 := below_step hB6 hB6.size hb7
    replace x3 := x3.below hb7
    replace x5 := x5.below hb7
    replace x8 := x8.below hb7
    replace hFz := hFz.below hb7
    replace hF3 := hF3.below hb7
    replace hTG := hTG.below hb7
    have HA7 := Lib.hid (SameAllF w7 a3 a l c3 cap hF3.fls (HZ.out.1.below hB7) (by omega))
    have HK7 := Lib.hid (show w6.heap.size ≤ w7.heap.size from hb7.size)
    have HX7 := Lib.hid (show _ ∧ _ ∧ _ ∧ _ ∧ _ ∧ _ ∧ _ from ⟨hB7, x3, x5, x8, hFz, hF3, hTG⟩)
    clear hB6 hb7 hB7 x3 x5 x8 hFz hF3 hTG HX6 HM6 q1 q2 q3 p1 p2 p3
    dsimp only
    go_wp2_with fail
    refine HA7.out.mono ?_
    rintro x w8 ⟨rfl, hb8⟩
    obtain ⟨hB7, x3, x5, x8, hFz, hF3, hTG⟩ := HX7.out
    have hB8 := below_step hB7 hB7.size hb8
    replace x3 := x3.below hb8
    replace x5 := x5.below hb8
    replace x8 := x8.below hb8
    replace hFz := hFz.below hb8
    replace hF3 := hF3.below hb8
    replace hTG := hTG.below hb8
    have HM8 := Lib.hid (HM.out w8)
    have HK8 := Lib.hid (show w7.heap.size ≤ w8.heap.size from hb8.size)
    have HX8 := Lib.hid (show _ ∧ _ ∧ _ ∧ _ ∧ _ ∧ _ ∧ _ from ⟨hB8, x3, x5, x8, hFz, hF3, hTG⟩)
    obtain ⟨q1, q2, q3⟩ := x3.facts
    clear hB7 hb8 hB8 x3 x5 x8 hFz hF3 hTG HX7 HA7 HM
    dsimp only
    go_wp2_with fail
    refine HM8.out.mono ?_
    rintro x w9 ⟨rfl, hb9⟩
    obtain ⟨hB8, x3, x5, x8, hFz, hF3, hTG⟩ := HX8.out
    have hB9 := below_step hB8 hB8.size hb9
    replace x3 := x3.below hb9
    replace x5 := x5.below hb9
    replace x8 := x8.below hb9
    replace hFz := hFz.below hb9
    replace hF3 := hF3.below hb9
    replace hTG := hTG.below hb9
    have HF9 := Lib.hid (HFi.out w9 hB9)
    have HK9 := Lib.hid (show w8.heap.size ≤ w9.heap.size from hb9.size)
    clear hB8 hb9 HX8 HM8 HFi q1 q2 q3
    cases hm : mayB r c z.length
    · have hE : sortE r c z.length l = 2 := by unfold sortE; rw [hm]; rfl
      rcases hTG with ⟨_, rfl, rfl, rfl, rfl, rfl⟩ | hTG
      rotate_left
      · rw [hE] at hTG; exact absurd hTG.1 (by decide)
      rw [hE]
      obtain ⟨q1, q2, q3⟩ := x8.facts
      have HN9 := Lib.hid (same_nil w9 za' zc')
      have HB9 := Lib.hid hB9
      clear hB9 x3 x5 x8 hFz hF3 HF9 hm hE
      dsimp only
      go_wp2_with fail
      refine HN9.out.mono ?_
      rintro x w10 ⟨rfl, hb10⟩
      have hB10 := below_step HB9.out HB9.out.size hb10
      clear q1 q2 q3 hb10 HN9 HB9
      dsimp only
      go_wp2_with fail
      refine (known12_any _).mono ?_
      rintro x w11 ⟨rfl, hb11⟩
      go_wp2
      go_ret
      exact ⟨rfl, below_step hB10 hB10.size hb11⟩
    cases hc : decide (c = (l.length : Int))
    · have hE : sortE r c z.length l = 8 := by unfold sortE; rw [hm, hc]; rfl
      rcases hTG with ⟨_, rfl, rfl, rfl, rfl, rfl⟩ | hTG
      rotate_left
      · rw [hE] at hTG; exact absurd hTG.1 (by decide)
      rw [hE]
      obtain ⟨q1, q2, q3⟩ := x8.facts
      obtain ⟨p1, p2, p3⟩ := x3.facts
      have t1 : (c != (l.length : Int)) = true := by simpa using hc
      have HN9 := Lib.hid (same_nil w9 za' zc')
      have HB9 := Lib.hid hB9
      clear hB9 x3 x5 x8 hFz hF3 HF9 hm hE hc
      dsimp only
      go_wp2_with fail
      refine HN9.out.mono ?_
      rintro x w10 ⟨rfl, hb10⟩
      have hB10 := below_step HB9.out HB9.out.size hb10
      clear q1 q2 q3 p1 p2 p3 hb10 HN9 HB9
      dsimp only
      go_wp2_with fail
      refine (known12_any _).mono ?_
      rintro x w11 ⟨rfl, hb11⟩
      go_wp2
      go_ret
      exact ⟨rfl, below_step hB10 hB10.size hb11⟩
    have t1 : (c != (l.length : Int)) = false := by simpa using hc
    obtain ⟨p1, p2, p3⟩ := x3.facts
    have HX9 := Lib.hid (show _ ∧ _ ∧ _ ∧ _ ∧ _ ∧ _ from ⟨hB9, x5, x8, hFz, hF3, hTG⟩)
    clear hB9 x5 x8 hFz hF3 hTG x3
    dsimp only
    go_wp2_with fail
    refine HF9.out.mono ?_
    rintro x w10 ⟨rfl, hb10⟩
    obtain ⟨hB9, x5, x8, hFz, hF3, hTG⟩ := HX9.out
    have hB10 := below_step hB9 hB9.size hb10
    replace x5 := x5.below hb10
    replace x8 := x8.below hb10
    replace hFz := hFz.below hb10
    replace hF3 := hF3.below hb10
    replace hTG := hTG.below hb10
    have HK10 := Lib.hid (show w9.heap.size ≤ w10.heap.size from hb10.size)
    clear hB9 hb10 HX9 HF9 p1 p2 p3 t1
    cases hf : l.all ffin
    · have hE : sortE r c z.length l = 10 := by unfold sortE; rw [hm, hc, hf]; rfl
      rcases hTG with ⟨_, rfl, rfl, rfl, rfl, rfl⟩ | hTG
      rotate_left
      · rw [hE] at hTG; exact absurd hTG.1 (by decide)
      rw [hE]
      obtain ⟨q1, q2, q3⟩ := x8.facts
      have HN9 := Lib.hid (same_nil w10 za' zc')
      have HB9 := Lib.hid hB10
      clear hB10 x5 x8 hFz hF3 hm hE hc hf
      dsimp only
      go_wp2_with fail
      refine HN9.out.mono ?_
      rintro x w11 ⟨rfl, hb11⟩
      have hB11 := below_step HB9.out HB9.out.size hb11
      clear q1 q2 q3 hb11 HN9 HB9
      dsimp only
      go_wp2_with fail
      refine (known12_any _).mono ?_
      rintro x w12 ⟨rfl, hb12⟩
      go_wp2
      go_ret
      exact ⟨rfl, below_step hB11 hB11.size hb12⟩
    have hE : sortE r c z.length l = 0 := by unfold sortE; rw [hm, hc, hf]; rfl
    rcases hTG with hTG | ⟨_, rows, rfl, rfl, g1, g2, g3, rfl, rfl, rfl, rfl, rfl, b7, zb7, hF7, hG7, g4, g5⟩
    · exact absurd hE hTG.1
    obtain ⟨k1, k2, k3, k4, k5, k6, k7, k8⟩ := HK4.out
    obtain ⟨k9, k10⟩ := HK6.out
    have k11 := HK7.out
    have k12 := HK8.out
    have k13 := HK9.out
    have k14 := HK10.out
    obtain ⟨wb, hFw, o1, o2, o3⟩ : ∃ wb, FS w10 a3 wb l ∧ wb ≠ w10.heap.size ∧ w.heap.size ≤ wb ∧ (wb = b3 ∧ l ≠ [] ∨ wb = w10.heap.size + 1 ∧ l = []) := by
      by_cases h0 : l = []
      · exact ⟨w10.heap.size + 1, .inl h0, by omega, by omega, .inr ⟨rfl, h0⟩⟩
      · exact ⟨b3, hF3, by have := hF3.lt h0; omega, by omega, .inl ⟨rfl, h0⟩⟩
    obtain ⟨zb, hFzz, o4, o5, o6⟩ : ∃ zb, FS w10 a1 zb z ∧ zb ≠ w10.heap.size ∧ w.heap.size ≤ zb ∧ (zb = zb1 ∧ z ≠ [] ∨ zb = w10.heap.size + 2 ∧ z = []) := by
      by_cases h0 : z = []
      · exact ⟨w10.heap.size + 2, .inl h0, by omega, by omega, .inr ⟨rfl, h0⟩⟩
      · exact ⟨zb1, hFz, by have := hFz.lt h0; omega, by omega, .inl ⟨rfl, h0⟩⟩
    have o7 : l ≠ [] → wb ≠ zb := by
      intro h0
      have h1 := k6 h0
      rcases o3 with ⟨e1, _⟩ | ⟨_, e1⟩
      · rcases o6 with ⟨e2, e3⟩ | ⟨e2, e3⟩
        · have := k4 e3; omega
        · omega
      · exact absurd e1 h0
    have HSo := Lib.hid (RSort12 w10 a3 a1 wb zb l z c3 zc1 rows (l.length : Int) hFw hFzz g2 g1 g3 o7 o1 o4)
    obtain ⟨q1, q2, q3⟩ := x5.facts
    have hx5l := x5.lt
    have hx8l := x8.lt
    have HO := Lib.hid (show P5 ∉ [wb, zb] ∧ P8 ∉ [wb, zb] ∧ (∀ k, k ∈ [wb, zb] → w.heap.size ≤ k) ∧ ((sortQ l.length rows l z l.length).1 ≠ [] → b7 < w10.heap.size ∧ b7 ∉ [wb, zb]) ∧ ((sortQ l.length rows l z l.length).2 ≠ [] → zb7 < w10.heap.size ∧ zb7 ∉ [wb, zb]) from by
      have hwb : wb < w2.heap.size ∧ False ∨ (wb = b3 ∧ l ≠ [] ∧ b3 < P5) ∨ wb = w10.heap.size + 1 := by
        rcases o3 with ⟨e1, e2⟩ | ⟨e1, e2⟩
        · exact .inr (.inl ⟨e1, e2, (k6 e2).2⟩)
        · exact .inr (.inr e1)
      have hzb : zb < w2.heap.size ∨ zb = w10.heap.size + 2 := by
        rcases o6 with ⟨e1, e2⟩ | ⟨e1, e2⟩
        · exact .inl (by rw [e1]; exact k4 e2)
        · exact .inr e1
      refine ⟨?_, ?_, ?_, ?_, ?_⟩
      · simp only [List.mem_cons, List.not_mem_nil, or_false, not_or]; omega
      · simp only [List.mem_cons, List.not_mem_nil, or_false, not_or]; omega
      · intro k hk
        simp only [List.mem_cons, List.not_mem_nil, or_false] at hk
        omega
      · intro h
        have := hF7.lt h
        refine ⟨this, ?_⟩
        simp only [List.mem_cons, List.not_mem_nil, or_false, not_or]; omega
      · intro h
        have := hG7.lt h
        refine ⟨this, ?_⟩
        simp only [List.mem_cons, List.not_mem_nil, or_false, not_or]; omega)
    have hlen := sortQ_len l.length rows l z l.length
    have HX10 := Lib.hid (show _ ∧ _ ∧ _ ∧ _ ∧ _ ∧ _ from ⟨hB10, x5, x8, hF7, hG7, hlen⟩)
    clear hB10 x5 x8 hF7 hG7 hlen hFw hFzz o1 o2 o3 o4 o5 o6 o7 k1 k2 k3 k4 k5 k6 k7 k8 k9 k10 k11 k12 k13 k14 hFz hF3 g1 g2 g3 g4 g5 hm hc hE hx5l hx8l HK4 HK6 HK7 HK8 HK9 HK10 hf
    dsimp only
    go_wp2_with fail
    refine HSo.out.mono ?_
    rintro x w11 ⟨rfl, hL1, hL2, hbl⟩
    obtain ⟨hB10, x5, x8, hF7, hG7, hlen1, hlen2⟩ := HX10.out
    obtain ⟨o1, o2, o3, o4, o5⟩ := HO.out
    replace hF7 := hF7.blsF hbl o4
    replace hG7 := hG7.blsF hbl o5
    replace x5' := x5.bls hbl x5.lt o1
    replace x8' := x8.bls hbl x8.lt o2
    have hB11 : Below w.heap.size w w11 := ((Bls.of hB10).trans (hbl.mono hB10.size)).below o3
    generalize (sortQ l.length rows l z l.length).1 = S1 at *
    generalize (sortQ l.length rows l z l.length).2 = S2 at *
    have HA11 := Lib.hid (hlen1 ▸ SameAllF w11 a7 a3 S1 cw c3 hF7.fls hL1.fls (by omega))
    have HM11 := Lib.hid (fun W (h : Below w11.heap.size w11 W) => hlen2 ▸ Same9F W (rows : Int) (l.length : Int) za' a1 S2 zc' zc1 (hG7.fls.below h) (hL2.fls.below h) (by omega))
    have HX11 := Lib.hid (show _ ∧ _ ∧ _ from ⟨hB11, x5', x8'⟩)
    clear hB10 x5 x8 hF7 hG7 hlen1 hlen2 o1 o2 o3 o4 o5 x5' x8' hB11 hL1 hL2 hbl HX10 HO HSo q1 q2 q3
    dsimp only
    go_wp2_with fail
    refine HA11.out.mono ?_
    rintro x w12 ⟨rfl, hb12⟩
    obtain ⟨hB11, x5, x8⟩ := HX11.out
    have hB12 := below_step hB11 hB11.size hb12
    replace x5 := x5.below hb12
    replace x8 := x8.below hb12
    have HM12 := Lib.hid (HM11.out _ hb12)
    obtain ⟨q1, q2, q3⟩ := x5.facts
    obtain ⟨p1, p2, p3⟩ := x8.facts
    have HB12 := Lib.hid hB12
    clear hB11 hb12 hB12 x5 x8 HX11 HA11 HM11
    dsimp only
    go_wp2_with fail
    refine HM12.out.mono ?_
    rintro x w13 ⟨rfl, hb13⟩
    have hB13 := below_step HB12.out HB12.out.size hb13
    clear q1 q2 q3 p1 p2 p3 hb13 HB12 HM12
    dsimp only
    go_wp2_with fail
    refine (known12_any _).mono ?_
    rintro x w14 ⟨rfl, hb14⟩
    go_wp2
    go_ret
    exact ⟨rfl, below_step hB13 hB13.size hb14⟩
end Go.Proofs.Ytbmnlohaidbmdaa
