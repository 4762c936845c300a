/- The document's sturm: what is asked of a tridiagonal; its bounds. -/
import Derived.Test.YtdljnhdhigbefaaZz18
import Derived.Test.YtdljnhdhigbefaaZz19
import Derived.Test.YtdljnhdhigbefaaZz17
import Derived.Maps.AppendAt
namespace Go.Proofs.Ytdljnhdhigbefaa
open Go Go.RowKit
set_option maxRecDepth 100000

set_option maxHeartbeats 2000000 in
theorem RFinite_any (w : World) (za : Option Addr) (zs : List Nat) (zc : Nat) (hZ : Fls w za zs) (hW : Words zs) (hl : zs.length ≤ maxLen) :
    Calls Try.prog 39 #[.slice za zs.length zc] w fun e w' => e = .returned (.bool (zs.all ffin)) ∧ w = w' := by
  have hl' := hl
  unfold maxLen at hl'
  have hln : zs.length ≤ 9223372036854775807 := by omega
  go_enter Try.func39, Try.ntmps39
  go_wp2_with fail
  go_loopw [3] (fun i wr => ∃ k : Nat, k ≤ zs.length ∧ i = .int .i64 k ∧ (∀ j, j < k → ffin (zs.getD j 0) = true) ∧ w = wr) (fun i _ => zs.length - (intOf i).toNat)
  case atStart => exact ⟨0, Nat.zero_le _, rfl, fun _ h => absurd h (Nat.not_lt_zero _), rfl⟩
  case round =>
    obtain ⟨k, hk, rfl, hno, rfl⟩ := hrel
    have HNO := Lib.hid hno
    clear hno
    by_cases hlt : k < zs.length
    · obtain ⟨b, o, s1, rfl, hb, hc1⟩ := hZ.at hlt
      have hv := hW.at k
      have e0 : zs.getD k 0 = zs[k] := by simp [hlt]
      have hz : zs[k] ∈ zs := List.getElem_mem hlt
      rw [← e0] at hz
      clear e0
      obtain ⟨x, hx⟩ : ∃ x, zs.getD k 0 = x := ⟨_, rfl⟩
      rw [hx] at hc1 hv hz
      have HX := Lib.hid hx
      have HZk := Lib.hid hz
      clear hx hz
      have HI := Lib.hid (infinite_eq x)
      have HN := Lib.hid (IsNaN_any (raw x s1) w)
      have HF := Lib.hid (IsInf0_any (raw x s1) (raw_lt hv s1) w)
      have eN : isnan (raw x s1) = isnan x := isnan_raw x s1
      have eI : ∀ h : isnan x = false, decide (raw x s1 % 9223372036854775808 = 9218868437227405312) = decide (x % 9223372036854775808 = 9218868437227405312) := fun h => by rw [raw_of_not h s1]
      rw [eN] at HN
      clear eN
      have HV := Lib.hid hv
      clear hv
      clear hl hl'
      cases hn : isnan x
      · rw [eI hn] at HF
        clear eI
        rw [hn] at HN HI
        rw [Bool.false_or] at HI
        clear hn
        generalize decide (x % 9223372036854775808 = 9218868437227405312) = q at HF HI
        have HL := Lib.hid hln
        clear hln hW
        cases q
        · have hln := HL.out
          go_wp2_with fail
          refine HN.out.mono ?_
          rintro e w' ⟨rfl, rfl⟩
          go_wp2_with fail
          refine HF.out.mono ?_
          rintro e w' ⟨rfl, rfl⟩
          go_wp2_with fail
          go_roundw
          case rel => exact ⟨k + 1, by omega, by go_num, fun j hj => (by
            by_cases hjk : j = k
            · subst hjk; rw [HX.out]; simpa using HI.out
            · exact HNO.out j (by omega)), by trivial⟩
          case measure => simp [intOf]; omega
        · have hln := HL.out
          go_wp2_with fail
          refine HN.out.mono ?_
          rintro e w' ⟨rfl, rfl⟩
          go_wp2_with fail
          refine HF.out.mono ?_
          rintro e w' ⟨rfl, rfl⟩
          go_wp2_with fail
          go_ret
          refine ⟨?_, rfl⟩
          rw [eq_comm]
          congr 2
          rw [List.all_eq_false]
          exact ⟨x, HZk.out, by have := HI.out; simp at this; simp [← this]⟩
      · rw [hn] at HN HI
        clear hn eI HF hln hW
        go_wp2_with fail
        refine HN.out.mono ?_
        rintro e w' ⟨rfl, rfl⟩
        go_wp2_with fail
        go_ret
        refine ⟨?_, rfl⟩
        rw [eq_comm]
        congr 2
        rw [List.all_eq_false]
        exact ⟨x, HZk.out, by have := HI.out; simp at this; simp [← this]⟩
    · go_wp2_with fail
      go_ret
      refine ⟨?_, rfl⟩
      rw [eq_comm]
      congr 2
      rw [List.all_eq_true]
      intro x hx
      obtain ⟨j, hj, rfl⟩ := List.getElem_of_mem hx
      have := HNO.out j (by omega)
      simpa [hj] using this
set_option maxHeartbeats 1000000 in
theorem RMay13_any (w : World) (da ea : Option Addr) (n m dc ec : Nat) (hn : n ≤ maxLen) (hm : m ≤ maxLen) :
    Calls Try.prog 74 #[.agg #[.slice da n dc, .slice ea m ec]] w fun e w' => e = .returned (.bool (mayS n m)) ∧ Below w.heap.size w w' := by
  unfold maxLen at hn hm
  unfold mayS
  have h1 : decide ((n : Int) ≤ 512) = decide (n ≤ 512) := by rw [Bool.eq_iff_iff]; simp; omega
  have h2 : ((m : Int) == max 0 ((n : Int) - 1)) = decide (m = n - 1) := by rw [Bool.eq_iff_iff]; simp; omega
  generalize decide (m = n - 1) = q at *
  generalize decide (n ≤ 512) = q' at *
  have hB0 : Below w.heap.size w (w.alloc (.cells #[.slice da n dc, .slice ea m ec] 54)) := (Below.refl _ _).alloc (Nat.le_refl _) _
  cases q' <;>
  · go_enter Try.func74, Try.ntmps74
    go_wp2
    all_goals
      go_ret
      refine ⟨?_, hB0⟩
      first
        | rfl
        | (rw [← h2, Int.max_eq_left (by omega)]; rfl)
        | (rw [← h2, Int.max_eq_right (by omega)]; rfl)
def askR (ds es : List Nat) : Int := if mayS ds.length es.length then (if ds.all ffin && es.all ffin then 0 else 10) else 2
theorem all_fnS (zs : List Nat) : zs.all fnS = zs.all ffin := by
  rw [show fnS = ffin from funext fnS_ffin]
theorem askR_askS (ds es : List Nat) : askR ds es = askS ds es [] := by
  unfold askR askS
  rw [all_fnS, all_fnS]
  simp
set_option maxHeartbeats 2000000 in
theorem RAsk_any (w : World) (da ea : Option Addr) (ds es : List Nat) (dc ec : Nat) (hD : Fls w da ds) (hE : Fls w ea es) (hWd : Words ds) (hWe : Words es) (hn : ds.length ≤ maxLen) (hm : es.length ≤ maxLen) :
    Calls Try.prog 38 #[.agg #[.slice da ds.length dc, .slice ea es.length ec]] w fun e w' => e = .returned (.int .i64 (askR ds es)) ∧ Below w.heap.size w w' := by
  have HM := Lib.hid (fun (W : World) => RMay13_any W da ea ds.length es.length dc ec hn hm)
  have H1 := Lib.hid (fun (W : World) (hW : Below w.heap.size w W) => RFinite_any W da ds dc (hD.below hW) hWd hn)
  have H2 := Lib.hid (fun (W : World) (hW : Below w.heap.size w W) => RFinite_any W ea es ec (hE.below hW) hWe hm)
  unfold askR
  generalize mayS ds.length es.length = q0 at *
  generalize ds.all ffin = q1 at *
  generalize es.all ffin = q2 at *
  clear hD hE hn hm hWd hWe
  have x0 : Box (w.alloc (.cells #[.slice da ds.length dc, .slice ea es.length ec] 54)) w.heap.size [.slice da ds.length dc, .slice ea es.length ec] := Box.newA w [_, _] _ rfl
  have hB0 : Below w.heap.size w (w.alloc (.cells #[.slice da ds.length dc, .slice ea es.length ec] 54)) := (Below.refl _ _).alloc (Nat.le_refl _) _
  go_enter Try.func38, Try.ntmps38
  go_wp2_with fail
  refine (HM.out _).mono ?_
  rintro e w1 ⟨rfl, hb1⟩
  have x1 := x0.below hb1
  have hB1 := below_step hB0 hB0.size hb1
  clear x0 hB0 hb1
  obtain ⟨a1, a2, a3⟩ := x1.facts
  cases q0
  case false =>
    go_wp2
    go_ret
    exact ⟨rfl, hB1⟩
  go_wp2_with fail
  refine (H1.out _ hB1).mono ?_
  rintro e w' ⟨rfl, rfl⟩
  cases q1
  case false =>
    go_wp2
    go_ret
    exact ⟨rfl, hB1⟩
  go_wp2_with fail
  refine (H2.out _ hB1).mono ?_
  rintro e w' ⟨rfl, rfl⟩
  cases q2 <;>
  · go_wp2
    go_ret
    exact ⟨rfl, hB1⟩
end Go.Proofs.Ytdljnhdhigbefaa

/- Layer 14, the program: what is asked first; values that rise. No condition but on lengths. -/
namespace Go.Proofs.Ytdljnhdhigbefaa
open Go Go.RowKit
set_option maxRecDepth 1000000
set_option linter.unusedSimpArgs false
set_option linter.unusedVariables false

set_option maxHeartbeats 1000000 in
theorem finI1_any (v s : Nat) (w : World) : Calls Try.prog 120 #[.float .f64 (raw v s)] w fun e w' => e = .returned (.bool (!fnS v)) ∧ Below w.heap.size w w' := by
  go_enter Try.func120, Try.ntmps120
  go_wp2_with (first | (refine wpList_flt rfl rfl rfl rfl rfl ?_; intro K hK _ _; go_frame; refine hK _ _ ?_; clear hK K))
  go_ret
  exact ⟨rfl, below_drewN _ (Below.refl _ _)⟩
set_option maxHeartbeats 1000000 in
theorem finI_any (w : World) (za : Option Addr) (zs : List Nat) (zc : Nat) (hZ : Fls w za zs) (hl : zs.length ≤ maxLen) :
    Calls Try.prog 103 #[.slice za zs.length zc] w fun e w' => e = .returned (.bool (zs.all fnS)) ∧ Below w.heap.size w w' := by
  have H := Lib.hid (ContainsFuncB_any 120 (fun x => !fnS x) (fun x s w => finI1_any x s w) (fun x w => by kernel_rfl) w za zs zc hZ hl)
  rw [← any_fnS]
  go_enter Try.func103, Try.ntmps103
  go_wp2_with fail
  refine H.out.mono ?_
  rintro e w2 ⟨rfl, hb⟩
  go_wp2
  go_ret
  exact ⟨rfl, hb⟩
set_option maxHeartbeats 2000000 in
theorem askI_any (w : World) (da ea ma : Option Addr) (ds es ms : List Nat) (dc ec mc : Nat) (hD : Fls w da ds) (hE : Fls w ea es) (hM : Fls w ma ms) (hn : ds.length ≤ maxLen) (hm : es.length ≤ maxLen) (hk : ms.length ≤ maxLen) :
    Calls Try.prog 72 #[.agg #[.slice da ds.length dc, .slice ea es.length ec], .slice ma ms.length mc] w fun e w' => e = .returned (.int .i64 (askS ds es ms)) ∧ Below w.heap.size w w' := by
  have HM := Lib.hid (fun (W : World) => May13_any W da ea ds.length es.length dc ec hn hm)
  have H1 := Lib.hid (fun (W : World) (hW : Below w.heap.size w W) => finI_any W da ds dc (hD.below hW) hn)
  have H2 := Lib.hid (fun (W : World) (hW : Below w.heap.size w W) => finI_any W ea es ec (hE.below hW) hm)
  have H3 := Lib.hid (fun (W : World) (hW : Below w.heap.size w W) => finI_any W ma ms mc (hM.below hW) hk)
  unfold askS
  generalize mayS ds.length es.length = q0 at *
  generalize ds.all fnS = q1 at *
  generalize es.all fnS = q2 at *
  generalize ms.all fnS = q3 at *
  clear hD hE hM hn hm hk
  have x0 : Box (w.alloc (.cells #[.slice da ds.length dc, .slice ea es.length ec] 54)) w.heap.size [.slice da ds.length dc, .slice ea es.length ec] := Box.newA w [_, _] _ rfl
  have hB0 : Below w.heap.size w (w.alloc (.cells #[.slice da ds.length dc, .slice ea es.length ec] 54)) := (Below.refl _ _).alloc (Nat.le_refl _) _
  go_enter Try.func72, Try.ntmps72
  go_wp2_with fail
  refine (HM.out _).mono ?_
  rintro e w1 ⟨rfl, hb1⟩
  have x1 := x0.below hb1
  have hB1 := below_step hB0 hB0.size hb1
  clear x0 hB0 hb1
  obtain ⟨a1, a2, a3⟩ := x1.facts
  cases q0
  case false =>
    go_wp2
    go_ret
    exact ⟨rfl, hB1⟩
  go_wp2_with fail
  refine (H1.out _ hB1).mono ?_
  rintro e w2 ⟨rfl, hb2⟩
  have x2 := x1.below hb2
  have hB2 := below_step hB1 hB1.size hb2
  clear a1 a2 a3 x1 hB1 hb2
  obtain ⟨a1, a2, a3⟩ := x2.facts
  cases q1
  case false =>
    go_wp2
    go_ret
    exact ⟨rfl, hB2⟩
  go_wp2_with fail
  refine (H2.out _ hB2).mono ?_
  rintro e w3 ⟨rfl, hb3⟩
  have hB3 := below_step hB2 hB2.size hb3
  clear a1 a2 a3 hB2 hb3
  cases q2
  case false =>
    go_wp2
    go_ret
    exact ⟨rfl, hB3⟩
  go_wp2_with fail
  refine (H3.out _ hB3).mono ?_
  rintro e w4 ⟨rfl, hb4⟩
  have hB4 := below_step hB3 hB3.size hb4
  cases q3 <;>
  · go_wp2
    go_ret
    exact ⟨rfl, hB4⟩
/-- Is one less than the other, as sorting sees it? -/
def lssW (x y : Nat) : Bool := isnan x && !isnan y || flt x y
set_option maxHeartbeats 1000000 in
theorem isNaNF (v s : Nat) (w : World) : Calls Try.prog 127 #[.float .f64 (raw v s)] w fun e w' => e = .returned (.bool (isnan v)) ∧ w' = w := by
  have h := feq_self v
  have e : isnan v = !feq v v := by rw [h, Bool.not_not]
  rw [e]
  clear h e
  go_enter Try.func127, Try.ntmps127
  go_wp2
  go_ret
  exact ⟨rfl, rfl⟩
set_option maxHeartbeats 2000000 in
theorem lessF (u s v t : Nat) (w : World) : Calls Try.prog 121 #[.float .f64 (raw u s), .float .f64 (raw v t)] w fun e w' => e = .returned (.bool (lssW u v)) ∧ w' = w := by
  have H1 := Lib.hid (fun W => isNaNF u s W)
  have H2 := Lib.hid (fun W => isNaNF v t W)
  unfold lssW
  generalize isnan u = p at *
  generalize isnan v = q at *
  cases p
  · go_enter Try.func121, Try.ntmps121
    go_wp2_with fail
    refine (H1.out _).mono ?_
    rintro e w' ⟨rfl, rfl⟩
    go_wp2
    go_ret
    exact ⟨by simp, rfl⟩
  · cases q
    all_goals
      go_enter Try.func121, Try.ntmps121
      go_wp2_with fail
      refine (H1.out _).mono ?_
      rintro e w' ⟨rfl, rfl⟩
      go_wp2_with fail
      refine (H2.out _).mono ?_
      rintro e w' ⟨rfl, rfl⟩
      go_wp2
      go_ret
      exact ⟨by simp, rfl⟩
/-- Are they sorted, from the last one down to k? -/
def srtB (l : List Nat) : Nat → Bool
  | 0 => true
  | k + 1 => srtB l k && !lssW (l.getD (k + 1) 0) (l.getD k 0)
set_option maxHeartbeats 4000000 in
theorem IsSorted_any (w : World) (a : Option Addr) (l : List Nat) (cap : Nat) (hZ : Fls w a l) (hl : l.length ≤ 262144) :
    Calls Try.prog 104 #[.slice a l.length cap] w fun e w' => e = .returned (.bool (srtB l (l.length - 1))) ∧ Below w.heap.size w w' := by
  have HZ := Lib.hid hZ
  have HS := Lib.hid (fun u s v t W => lessF u s v t W)
  clear hZ
  obtain ⟨R, hR⟩ : ∃ R, R = srtB l (l.length - 1) := ⟨_, rfl⟩
  rw [← hR]
  have HR := Lib.hid hR
  clear hR
  go_enter Try.func104, Try.ntmps104
  go_wp2_with fail
  go_loopw [3] (fun s3 wr => ∃ (i : Nat) (J : Int), s3 = .int .i64 J ∧ (J = i ∨ i = 0 ∧ J = -1) ∧ i ≤ l.length - 1 ∧ R = srtB l i ∧ Below w.heap.size w wr) (fun s3 _ => (intOf s3).toNat)
  case atStart => exact ⟨l.length - 1, _, rfl, by first | omega | (unfold wrap64; omega), Nat.le_refl _, HR.out, Below.refl _ _⟩
  case round =>
    obtain ⟨i, J, rfl, hJ, hi, hR, hB⟩ := hrel
    have HB := Lib.hid hB
    replace HR := Lib.hid hR
    clear hB hR
    cases i with
    | zero =>
      have h0 : ¬ 0 < J := by omega
      have hr : R = true := HR.out
      clear HR hJ hi
      subst hr
      go_wp2_with fail
      go_ret
      exact ⟨rfl, HB.out⟩
    | succ j =>
      obtain rfl : J = ((j + 1 : Nat) : Int) := by omega
      obtain ⟨k, hk⟩ : ∃ k, k = j + 1 := ⟨_, rfl⟩
      rw [← hk] at hi HR ⊢
      have hkl : k < l.length := by omega
      have hjl : j < l.length := by omega
      have HN := Lib.hid (show srtB l k = (srtB l j && !lssW (l.getD k 0) (l.getD j 0)) by rw [hk]; rfl)
      have h0 : (0 : Int) < (k : Int) := by omega
      have hk9 : (k : Int) - 1 = j := by omega
      have hk8 : k ≤ 262144 := by omega
      have hb1 : (k : Int) < l.length := by omega
      have hb2 : (j : Int) < l.length := by omega
      have hb3 : (0 : Int) ≤ k := by omega
      have hb4 : (0 : Int) ≤ j := by omega
      have hwj : IntKind.i64.wrap (j : Int) = j := by rw [IntKind.wrap_i64]; omega
      clear hk hJ
      obtain ⟨b, o, s, e1, _, _⟩ := FlsI.at (HZ.out.below HB.out) hkl
      subst e1
      go_upto_region 4 with (fail)
      have hdr := below_drewN 1 (Below.refl wr.heap.size wr)
      replace HB := Lib.hid (show Below w.heap.size w wr.drew from below_step HB.out HB.out.size hdr)
      clear hdr
      obtain ⟨b1, o1, s1, e1, _, c1⟩ := FlsI.at (HZ.out.below HB.out) hkl
      obtain ⟨rfl, rfl⟩ : b = b1 ∧ o = o1 := by injection e1 with e1; injection e1 with e4 e5; exact ⟨e4, e5⟩
      obtain ⟨b2, o2, s2, e2, _, c2⟩ := FlsI.at (HZ.out.below HB.out) hjl
      obtain ⟨rfl, rfl⟩ : b = b2 ∧ o = o2 := by injection e2 with e1; injection e1 with e4 e5; exact ⟨e4, e5⟩
      clear e1 e2
      obtain ⟨x, hx⟩ : ∃ x, x = l.getD k 0 := ⟨_, rfl⟩
      obtain ⟨y, hy⟩ : ∃ y, y = l.getD j 0 := ⟨_, rfl⟩
      rw [← hx] at c1 HN
      rw [← hy] at c2 HN
      refine wp_region_items 9 [(true, 0), (true, 1), (true, 2), (true, 3), (true, 4), (true, 5), (true, 6), (true, 7), (true, 8)] (fun W => W.cell? ⟨b, o + k, none⟩ = some (.float .f64 (raw x s1)) ∧ W.cell? ⟨b, o + j, none⟩ = some (.float .f64 (raw y s2))) (by kernel_rfl) (by kernel_rfl) ⟨c1, c2⟩ ?_
      generalize wr.drew = q0 at *
      clear c1 c2 hx hy
      iterate 9 (refine iW_take (v := ?_) rfl rfl ?_ ?_; rotate_left; (next => (intro w' hSw; (try dsimp only at hSw); go_simp; (try (rw [if_pos (by omega)]; go_simp)); (try with_reducible rfl))); (simp only [Act.put, List.setIfInBounds_toArray, List.set_cons_zero, List.set_cons_succ]))
      refine iW_nil ?_
      go_simp
      go_wp2_with fail
      refine (HS.out _ _ _ _ _).mono ?_
      rintro e w' ⟨rfl, rfl⟩
      cases hls : lssW x y
      · have hr : R = srtB l j := by rw [HR.out, HN.out, hls]; simp
        dsimp only
        clear HR
        go_wp2_with fail
        refine NoPanic.normal ?_
        go_wp2_with fail
        go_roundw
        case rel => exact ⟨j, _, rfl, .inl (by first | exact hk9 | go_num), by omega, hr, HB.out⟩
        case measure => simp [intOf]; omega
      · have hr : R = false := by rw [HR.out, HN.out, hls]; simp
        subst hr
        dsimp only
        clear HR
        go_wp2_with fail
        refine NoPanic.normal ?_
        go_wp2_with fail
        go_ret
        exact ⟨rfl, HB.out⟩
end Go.Proofs.Ytdljnhdhigbefaa

/- Layer 14, the program: what is asked of values. No condition but on lengths. -/
namespace Go.Proofs.Ytdljnhdhigbefaa
open Go Go.RowKit
set_option maxRecDepth 1000000
set_option linter.unusedSimpArgs false
set_option linter.unusedVariables false

def valI (ds es ws : List Nat) : Int := if mayS ds.length es.length && decide (ws.length ≤ ds.length) then (if decide (askS ds es ws = 0) && srtB ws (ws.length - 1) then 0 else 10) else 2
set_option maxHeartbeats 4000000 in
theorem values_any (w : World) (da ea ma : Option Addr) (ds es ms : List Nat) (dc ec mc : Nat) (hD : Fls w da ds) (hE : Fls w ea es) (hM : Fls w ma ms) (hn : ds.length ≤ maxLen) (hm : es.length ≤ maxLen) (hk : ms.length ≤ 262144) :
    Calls Try.prog 79 #[.agg #[.slice da ds.length dc, .slice ea es.length ec], .slice ma ms.length mc] w fun e w' => e = .returned (.int .i64 (valI ds es ms)) ∧ Below w.heap.size w w' := by
  have HM := Lib.hid (fun (W : World) => May13_any W da ea ds.length es.length dc ec hn hm)
  have H1 := Lib.hid (fun (W : World) (hW : Below w.heap.size w W) => askI_any W da ea ma ds es ms dc ec mc (hD.below hW) (hE.below hW) (hM.below hW) hn hm (by unfold maxLen; omega))
  have H2 := Lib.hid (fun (W : World) (hW : Below w.heap.size w W) => IsSorted_any W ma ms mc (hM.below hW) hk)
  obtain ⟨R, hR⟩ : ∃ R, R = valI ds es ms := ⟨_, rfl⟩
  rw [← hR]
  unfold valI at hR
  generalize mayS ds.length es.length = q0 at *
  generalize askS ds es ms = q1 at *
  generalize srtB ms (ms.length - 1) = q3 at *
  generalize ds.length = n at *
  generalize es.length = m at *
  generalize ms.length = k at *
  replace hR := Lib.hid hR
  clear hD hE hM hn hm hk
  have x0 : Box (w.alloc (.cells #[.slice da n dc, .slice ea m ec] 54)) w.heap.size [.slice da n dc, .slice ea m ec] := Box.newA w [_, _] _ rfl
  have hB0 : Below w.heap.size w (w.alloc (.cells #[.slice da n dc, .slice ea m ec] 54)) := (Below.refl _ _).alloc (Nat.le_refl _) _
  go_enter Try.func79, Try.ntmps79
  go_wp2_with fail
  refine (HM.out _).mono ?_
  rintro e w1 ⟨rfl, hb1⟩
  have x1 := x0.below hb1
  have hB1 := below_step hB0 hB0.size hb1
  clear x0 hB0 hb1
  obtain ⟨a1, a2, a3⟩ := x1.facts
  cases q0
  case false =>
    have hr : R = 2 := by rw [hR.out]; simp
    clear hR
    subst hr
    go_wp2
    go_ret
    exact ⟨rfl, hB1⟩
  by_cases hkn : k ≤ n
  case neg =>
    have t1 : decide ((n : Int) < (k : Int)) = true := decide_eq_true (by omega)
    have t1' : (n : Int) < (k : Int) := by omega
    have hr : R = 2 := by rw [hR.out]; simp [hkn]
    clear hR hkn
    subst hr
    go_wp2
    go_ret
    exact ⟨rfl, hB1⟩
  have t1 : decide ((n : Int) < (k : Int)) = false := decide_eq_false (by omega)
  have t1' : ¬ (n : Int) < (k : Int) := by omega
  replace hR := Lib.hid (show R = if decide (q1 = 0) && q3 then 0 else 10 by rw [hR.out]; simp [hkn])
  clear hkn
  go_wp2_with fail
  refine (H1.out _ hB1).mono ?_
  rintro e w2 ⟨rfl, hb2⟩
  have hB2 := below_step hB1 hB1.size hb2
  clear a1 a2 a3 x1 hB1 hb2
  by_cases hq : q1 = 0
  case neg =>
    have hr : R = 10 := by rw [hR.out]; simp [hq]
    clear hR
    subst hr
    go_wp2_with fail
    go_ret
    exact ⟨rfl, hB2⟩
  subst hq
  go_wp2_with fail
  refine (H2.out _ hB2).mono ?_
  rintro e w3 ⟨rfl, hb3⟩
  have hB3 := below_step hB2 hB2.size hb3
  cases q3
  · have hr : R = 10 := by rw [hR.out]; simp
    clear hR
    subst hr
    go_wp2
    go_ret
    exact ⟨rfl, hB3⟩
  · have hr : R = 0 := by rw [hR.out]; simp
    clear hR
    subst hr
    go_wp2
    go_ret
    exact ⟨rfl, hB3⟩
end Go.Proofs.Ytdljnhdhigbefaa

/- Slices of the call's own, of values of one cell each (ints, bools, slices). No condition but on lengths. -/
namespace Go.Proofs.Ytdljnhdhigbefaa
open Go Go.RowKit
set_option maxRecDepth 1000000

def OwnC (T : TypeId) (W : World) (B : Nat) (v : Value) (xs : List Value) : Prop := W.ownsRow B T 1 v xs.length xs
section
variable {T : TypeId} {w W W' : World} {B : Nat} {v : Value} {xs : List Value}
theorem OwnC.below (h : OwnC T W B v xs) (hb : Below W.heap.size W W') : OwnC T W' B v xs :=
  ⟨h.1, by
    rcases h.2 with h0 | ⟨g, cap, cur, e, hB, hg, rest⟩
    · exact .inl h0
    · exact .inr ⟨g, cap, cur, e, hB, by rw [hb.block g (Array.getElem?_eq_some_iff.1 hg).1]; exact hg, rest⟩⟩
theorem OwnC.nil (W : World) (B : Nat) : OwnC T W B (.slice none 0 0) [] := World.ownsRow_nil _ _ _ _
theorem OwnC.mono {B' : Nat} (h : OwnC T W B v xs) (hB : B' ≤ B) : OwnC T W B' v xs :=
  ⟨h.1, by
    rcases h.2 with h0 | ⟨g, cap, cur, e, hb, rest⟩
    · exact .inl h0
    · exact .inr ⟨g, cap, cur, e, Nat.le_trans hB hb, rest⟩⟩
/-- Its form; where it lies. -/
theorem OwnC.form (h : OwnC T W B v xs) : ∃ a b cap, v = .slice a xs.length cap ∧ xs.length ≤ cap ∧ cap ≤ maxLen ∧ B ≤ b ∧ (a = none → xs = [] ∧ cap = 0) ∧ (xs ≠ [] → a = some ⟨b, 0, none⟩ ∧ b < W.heap.size) ∧ (a = none ∨ a = some ⟨b, 0, none⟩) ∧ ∀ i x, xs[i]? = some x → W.cell? ⟨b, i, none⟩ = some x := by
  rcases h.2 with ⟨rfl, h0⟩ | ⟨g, cap, cur, rfl, hb, hg, hn, hm, hs, ht⟩
  · have hx : xs = [] := List.eq_nil_of_length_eq_zero h0
    subst hx
    exact ⟨none, B, 0, rfl, Nat.le_refl _, Nat.zero_le _, Nat.le_refl _, fun _ => ⟨rfl, rfl⟩, fun e => absurd rfl e, .inl rfl, fun i x hi => by simp at hi⟩
  · refine ⟨_, g, cap, rfl, hn, hm, hb, (fun e => by cases e), fun _ => ⟨rfl, (Array.getElem?_eq_some_iff.1 hg).1⟩, .inr rfl, fun i x hi => ?_⟩
    unfold World.cell?
    rw [hg]
    simp only [Option.isSome_none, Bool.false_eq_true, if_false]
    have h1 : (cur.toList.take (xs.length * 1))[i]? = some x := by rw [ht]; exact hi
    have hil : i < xs.length := (List.getElem?_eq_some_iff.1 hi).1
    rw [List.getElem?_take] at h1
    rw [if_pos (by omega)] at h1
    simpa using h1
theorem OwnC.at (h : OwnC T W B v xs) {i : Nat} {x : Value} (hi : xs[i]? = some x) : ∃ b cap, v = .slice (some ⟨b, 0, none⟩) xs.length cap ∧ B ≤ b ∧ b < W.heap.size ∧ W.cell? ⟨b, i, none⟩ = some x := by
  obtain ⟨a, b, cap, rfl, _, _, hb, _, h1, _, h2⟩ := h.form
  obtain ⟨rfl, h3⟩ := h1 (fun e => by rw [e] at hi; simp at hi)
  exact ⟨b, cap, rfl, hb, h3, h2 i x hi⟩
end
/-- One value of one cell, appended to a slice of the call's own; it lies in a block made for it. -/
theorem run_append_oneC {W : World} (t ty T : TypeId) (i0 : TypeInfo) (z : Value) (by8 : Nat) (ht : Try.prog.underlying t = some (.slice T)) (hi : Try.prog.info? T = some i0) (hz : i0.zero = some z) (hs : i0.size = 1) (hby : i0.bytes = by8) (hzs : z.cells.size = 1) (hb8 : by8 ≤ 24)
    (B : Nat) (sv : Value) (xs : List Value) (hO : OwnC T W B sv xs) (g : Nat) (x : Value) (hc : W.cell? ⟨g, 0, none⟩ = some x) (h1 : x.oneCell' = true) (hl : xs.length + 1 ≤ 262144) (hB : B ≤ W.heap.size) :
    ∃ v' w', (Builtin.append_ #[t, t] ty #[sv, .slice (some ⟨g, 0, none⟩) 1 1]).run Try.prog W = .ok v' w' ∧ OwnC T w' B v' (xs ++ [x]) ∧ Below B W w' ∧ W.grownBy w' sv.ownBlock ∧ (v'.ownBlock = sv.ownBlock ∨ v'.ownBlock = some W.heap.size) := by
  obtain ⟨v', w', hr, h2, h3, _, h5⟩ := run_append_own_at (P := Try.prog) (w := W) B t ty T i0 z 1 by8 ht hi hz hs hby hzs (by decide) sv xs.length xs hO ⟨g, 0, none⟩ 1 1 [x] rfl
    (fun j u hu => by
      cases j with
      | zero =>
        simp only [List.getElem?_cons_zero, Option.some.injEq] at hu
        subst hu
        exact hc
      | succ j => simp at hu)
    (by simp [h1]) (by unfold maxLen; omega) (by
      have : (xs.length + 1) * by8 ≤ 262144 * 24 := Nat.mul_le_mul hl hb8
      omega) hB
  refine ⟨v', w', hr, ?_, ⟨h3.os, h3.tape, h3.output, h3.size, fun k hk => h3.block k (Nat.lt_of_lt_of_le hk hB) (fun e => by have := (hO.lt k e.symm).1; omega)⟩, h3, h5⟩
  unfold OwnC
  rw [List.length_append]
  exact h2
theorem info_intG : (Try.prog.info? 3).map (fun i => (i.zero, i.size, i.bytes)) = some (some (.int .i64 0), 1, 8) := by kernel_rfl
theorem info_rowG : (Try.prog.info? 22).map (fun i => (i.zero, i.size, i.bytes)) = some (some (.slice none 0 0), 1, 24) := by kernel_rfl
set_option maxHeartbeats 1000000 in
theorem wpList_append_intG {w : World} {ops : Array Oper} {rest : List Oper} {o : Oper} {a : Act} {Q : Exit → Act → World → Prop} (hgd : o.guard = none) (s x : Operand)
    (ho : o.op = .call { callee := .builtin .append, args := #[s, x], argTypes := #[65, 65] })
    (B : Nat) (sv : Value) (xs : List Value) (hs : a.eval s = sv) (hO : OwnC 3 w B sv xs) (T : TypeId) (j : Int) (hx : a.eval x = .slice (some ⟨w.heap.size, 0, none⟩) 1 1) (hl : xs.length + 1 ≤ 262144) (hB : B ≤ w.heap.size)
    (h : ∀ v' w', OwnC 3 w' B v' (xs ++ [.int .i64 j]) → Below B w w' → wpList Try.prog ops Q rest (a.put o.dst v') w') : wpList Try.prog ops Q (o :: rest) a (w.alloc (.cells #[.int .i64 j] T)) := by
  have hb0 : Below w.heap.size w (w.alloc (.cells #[.int .i64 j] T)) := (Below.refl _ _).alloc (Nat.le_refl _) _
  obtain ⟨i0, hi, hz0, hz1, hz2⟩ := info_parts info_intG
  obtain ⟨v', w', hr, h1, h2, _⟩ := run_append_oneC 65 o.type 3 i0 _ 8 Try.underlying65 hi hz0 hz1 hz2 rfl (by decide) B sv xs (hO.below hb0) w.heap.size (.int .i64 j) ((Box.newA w [.int .i64 j] T rfl).cell 0) rfl hl (by simp; omega)
  refine wpList_plain hgd fun _ hK => ?_
  unfold Oper.wp execOp
  simp only [ho, resolve, invoke, builtin, Sem.run_bind, Sem.run_pure, Result.andThen_ok, List.map_toArray, List.map_cons, List.map_nil, hs, hx, hr]
  exact hK _ _ (h _ _ h1 ((Below.mono hb0 hB).trans h2))
set_option maxHeartbeats 1000000 in
theorem wpList_append_rowG {w : World} {ops : Array Oper} {rest : List Oper} {o : Oper} {a : Act} {Q : Exit → Act → World → Prop} (hgd : o.guard = none) (s x : Operand)
    (ho : o.op = .call { callee := .builtin .append, args := #[s, x], argTypes := #[72, 72] })
    (B : Nat) (sv : Value) (xs : List Value) (hs : a.eval s = sv) (hO : OwnC 22 w B sv xs) (T : TypeId) (y : Value) (h1 : y.oneCell' = true) (hx : a.eval x = .slice (some ⟨w.heap.size, 0, none⟩) 1 1) (hl : xs.length + 1 ≤ 262144) (hB : B ≤ w.heap.size)
    (h : ∀ v' w', OwnC 22 w' B v' (xs ++ [y]) → Below B w w' → w.grownBy w' sv.ownBlock → (v'.ownBlock = sv.ownBlock ∨ v'.ownBlock = some (w.heap.size + 1)) → wpList Try.prog ops Q rest (a.put o.dst v') w') : wpList Try.prog ops Q (o :: rest) a (w.alloc (.cells #[y] T)) := by
  have hb0 : Below w.heap.size w (w.alloc (.cells #[y] T)) := (Below.refl _ _).alloc (Nat.le_refl _) _
  obtain ⟨i0, hi, hz0, hz1, hz2⟩ := info_parts info_rowG
  obtain ⟨v', w', hr, h1, h2, h3, h4⟩ := run_append_oneC 72 o.type 22 i0 _ 24 Try.underlying72 hi hz0 hz1 hz2 rfl (by decide) B sv xs (hO.below hb0) w.heap.size y ((Box.newA w [y] T rfl).cell 0) h1 hl (by simp; omega)
  refine wpList_plain hgd fun _ hK => ?_
  unfold Oper.wp execOp
  simp only [ho, resolve, invoke, builtin, Sem.run_bind, Sem.run_pure, Result.andThen_ok, List.map_toArray, List.map_cons, List.map_nil, hs, hx, hr]
  refine hK _ _ (h _ _ h1 ((Below.mono hb0 hB).trans h2) ⟨h3.os, h3.tape, h3.output, Nat.le_trans (by simp) h3.size, fun k hk hne => ?_⟩ (by simpa using h4))
  rw [h3.block k (by simp; omega) hne]
  exact hb0.block k hk
end Go.Proofs.Ytdljnhdhigbefaa

/- Layer 14, the program: clusters. No condition but on lengths. -/
namespace Go.Proofs.Ytdljnhdhigbefaa
open Go Go.RowKit
set_option maxRecDepth 1000000
set_option linter.unusedSimpArgs false
set_option linter.unusedVariables false

/-- A tridiagonal in memory. -/
structure TrI (w : World) (da ea : Option Addr) (ds es : List Nat) (dc ec : Nat) : Prop where
  D : Fls w da ds
  E : Fls w ea es
  d0 : da = none → ds = [] ∧ dc = 0
  e0 : ea = none → es = [] ∧ ec = 0
  W : Words (ds ++ es)
theorem TrI.below {w w' : World} {da ea : Option Addr} {ds es : List Nat} {dc ec : Nat} (h : TrI w da ea ds es dc ec) (hb : Below w.heap.size w w') : TrI w' da ea ds es dc ec := ⟨h.D.below hb, h.E.below hb, h.d0, h.e0, h.W⟩
theorem TrI.wdD {w : World} {da ea : Option Addr} {ds es : List Nat} {dc ec : Nat} (h : TrI w da ea ds es dc ec) : Words ds := fun x hx => h.W x (List.mem_append.2 (.inl hx))
theorem TrI.wdE {w : World} {da ea : Option Addr} {ds es : List Nat} {dc ec : Nat} (h : TrI w da ea ds es dc ec) : Words es := fun x hx => h.W x (List.mem_append.2 (.inr hx))
structure OkI (ds es ws : List Nat) : Prop where
  n : ds.length ≤ 512
  m : es.length = ds.length - 1
  k : ws.length ≤ ds.length
  d : ds.all ffin = true
  e : es.all ffin = true
  w : ws.all ffin = true
  s : srtB ws (ws.length - 1) = true
theorem OkI.de {ds es ws : List Nat} (h : OkI ds es ws) : (ds ++ es).all ffin = true := by rw [List.all_append, h.d, h.e]; rfl
theorem askS_zero {ds es ws : List Nat} (h : askS ds es ws = 0) : (ds.length ≤ 512 ∧ es.length = ds.length - 1) ∧ ds.all ffin = true ∧ es.all ffin = true ∧ ws.all ffin = true := by
  unfold askS mayS at h
  rw [all_fnS, all_fnS, all_fnS] at h
  split at h
  · rename_i h1
    rw [Bool.and_eq_true, decide_eq_true_eq, decide_eq_true_eq] at h1
    split at h
    · rename_i h2
      rw [Bool.and_eq_true, Bool.and_eq_true] at h2
      exact ⟨h1, h2.1.1, h2.1.2, h2.2⟩
    · exact absurd h (by decide)
  · exact absurd h (by decide)
theorem valI_zero {ds es ws : List Nat} (h : valI ds es ws = 0) : OkI ds es ws := by
  unfold valI at h
  split at h
  · rename_i h1
    rw [Bool.and_eq_true, decide_eq_true_eq] at h1
    split at h
    · rename_i h2
      rw [Bool.and_eq_true, decide_eq_true_eq] at h2
      obtain ⟨⟨a, b⟩, c, d, e⟩ := askS_zero h2.1
      exact ⟨a, b, h1.2, c, d, e, h2.2⟩
    · exact absurd h (by decide)
  · exact absurd h (by decide)
def intsV (l : List Nat) : List Value := l.map fun p : Nat => .int .i64 (p : Int)
theorem intsV_at {l : List Nat} {i : Nat} (h : i < l.length) : (intsV l)[i]? = some (.int .i64 ((l.getD i 0 : Nat) : Int)) := by
  unfold intsV
  rw [List.getElem?_map, List.getD_eq_getElem?_getD, List.getElem?_eq_getElem h]
  rfl
theorem intsV_len (l : List Nat) : (intsV l).length = l.length := List.length_map _
set_option maxHeartbeats 4000000 in
theorem Clusters_err (w : World) (da ea ma : Option Addr) (ds es ms : List Nat) (dc ec mc : Nat) (hT : TrI w da ea ds es dc ec) (hM : Fls w ma ms) (hn : ds.length ≤ 1000) (hm : es.length ≤ 1000) (hk : ms.length ≤ 1000) (hv : valI ds es ms ≠ 0) :
    Calls Try.prog 42 #[.agg #[.slice da ds.length dc, .slice ea es.length ec], .slice ma ms.length mc] w fun e w' => e = .returned (.tuple #[.slice none 0 0, .int .i64 (valI ds es ms)]) ∧ Below w.heap.size w w' := by
  have H1 := Lib.hid (fun (W : World) (hW : Below w.heap.size w W) => values_any W da ea ma ds es ms dc ec mc (hT.D.below hW) (hT.E.below hW) (hM.below hW) (by unfold maxLen; omega) (by unfold maxLen; omega) (by omega))
  generalize valI ds es ms = q at *
  clear hT hM hn hm hk
  have x0 : Box (w.alloc (.cells #[.slice da ds.length dc, .slice ea es.length ec] 54)) w.heap.size [.slice da ds.length dc, .slice ea es.length ec] := Box.newA w [_, _] _ rfl
  have hB0 : Below w.heap.size w (w.alloc (.cells #[.slice da ds.length dc, .slice ea es.length ec] 54)) := (Below.refl _ _).alloc (Nat.le_refl _) _
  go_enter Try.func42, Try.ntmps42
  go_wp2_with fail
  refine (H1.out _ hB0).mono ?_
  rintro e w1 ⟨rfl, hb1⟩
  have hB1 := below_step hB0 hB0.size hb1
  have t1 : decide (q = 0) = false := decide_eq_false hv
  go_wp2_with fail
  exact bodyPost_ret (results_two rfl (rv_tmp rfl) (rv_tmp rfl)) rfl ⟨rfl, hB1⟩
set_option maxHeartbeats 8000000 in
theorem Clusters_ok (w : World) (da ea ma : Option Addr) (ds es ms : List Nat) (dc ec mc : Nat) (hT : TrI w da ea ds es dc ec) (hM : Fls w ma ms) (hv : valI ds es ms = 0) :
    Calls Try.prog 42 #[.agg #[.slice da ds.length dc, .slice ea es.length ec], .slice ma ms.length mc] w fun e w' => (∃ v, e = .returned (.tuple #[v, .int .i64 0]) ∧ OwnC 3 w' w.heap.size v (intsV (cluI ds es ms))) ∧ Below w.heap.size w w' := by
  have ok := valI_zero hv
  have hn := ok.n
  have hm := ok.m
  have hk := ok.k
  have hml : ms.length ≤ 512 := by omega
  have HO := Lib.hid ok
  have H1 := Lib.hid (fun (W : World) (hW : Below w.heap.size w W) => by
    have := values_any W da ea ma ds es ms dc ec mc (hT.D.below hW) (hT.E.below hW) (hM.below hW) (by unfold maxLen; omega) (by unfold maxLen; omega) (by omega)
    rw [hv] at this
    exact this)
  have H2 := Lib.hid (fun (W : World) (hW : Below w.heap.size w W) => isize_any W da ea ds es dc ec (hT.D.below hW) (hT.E.below hW) hT.d0 hT.e0 (by omega) (by omega) hT.W ok.de)
  have HM := Lib.hid (fun (W : World) (hW : Below w.heap.size w W) => hM.below hW)
  clear hT hM hn hm hk hv ok
  have x0 : Box (w.alloc (.cells #[.slice da ds.length dc, .slice ea es.length ec] 54)) w.heap.size [.slice da ds.length dc, .slice ea es.length ec] := Box.newA w [_, _] _ rfl
  have hB0 : Below w.heap.size w (w.alloc (.cells #[.slice da ds.length dc, .slice ea es.length ec] 54)) := (Below.refl _ _).alloc (Nat.le_refl _) _
  go_enter Try.func42, Try.ntmps42
  go_wp2_with fail
  refine (H1.out _ hB0).mono ?_
  rintro e w1 ⟨rfl, hb1⟩
  have hB1 := below_step hB0 hB0.size hb1
  have x1 := x0.below hb1
  clear x0 hB0 hb1
  obtain ⟨a1, a2, a3⟩ := x1.facts
  go_wp2_with fail
  refine (H2.out _ hB1).mono ?_
  rintro e w2 ⟨rfl, hb2⟩
  have HB := Lib.hid (below_step hB1 hB1.size hb2)
  clear a1 a2 a3 x1 hB1 hb2 H1 H2
  go_wp2_with (first | (refine wpList_flt rfl rfl rfl rfl rfl ?_; intro K hK sq nq; go_frame; refine hK _ _ ?_; clear hK K))
  obtain ⟨gap, hg⟩ : ∃ g, g = fmul (sizI ds es) 4562146422526312448 := ⟨_, rfl⟩
  have HG := Lib.hid (show cluI ds es ms = cluL gap ms ms.length by rw [hg]; rfl)
  rw [← hg]
  clear hg
  go_loopw [8, 22] (fun s8 s22 wr => ∃ j : Nat, OwnC 3 wr w.heap.size s8 (intsV (cluL gap ms j)) ∧ s22 = .int .i64 j ∧ j ≤ ms.length ∧ Below w.heap.size w wr) (fun _ s22 _ => ms.length - (intOf s22).toNat)
  case atStart => exact ⟨0, OwnC.nil _ _, rfl, Nat.zero_le _, HB.out.trans (below_drewN _ (Below.refl _ _))⟩
  case round =>
    obtain ⟨j, hO, rfl, hj, hB⟩ := hrel
    have HO2 := Lib.hid hO
    replace HB := Lib.hid hB
    clear hO hB
    by_cases hlt : j < ms.length
    case pos =>
      cases j with
      | zero =>
        have HN := Lib.hid (show cluL gap ms 1 = [0] by rfl)
        go_upto_region 10 with fail
        have e0 : decide ((0 : Int) < ((0 : Nat) : Int)) = false := by decide
        refine wp_region_nqb 16 (fun _ _ _ => False) (by kernel_rfl) (by kernel_rfl) ?_
        intro Cw Rw hc hb' hb2 hd hRw
        simp only [List.take_succ_cons, List.take_zero]
        repeat (
          first
            | (refine nqW_skip rfl (fun K hK => ?_); go_frame; refine hK _ ?_; clear hK K)
            | ((first | (refine nqW_plain (fun K hK => ?_)) | (refine nqW_want rfl (fun K hK => ?_)) | (refine nqW_step (fun K hK => ?_); go_simp))
               first
                 | (refine nq_move rfl ?_; go_simp; refine hK _ ?_; clear hK K)
                 | (refine nq_assign rfl ?_; go_simp; refine hK _ ?_; clear hK K)
                 | (refine nq_flt rfl rfl rfl rfl hd ?_; intro _; go_frame; refine hK _ ?_; clear hK K)
                 | (refine nq_same ?_; intro w' hw'; go_simp; (try go_bits); refine hK _ ?_; clear hK K hw' w')
                 | (refine nq_same ?_; intro w' hw'; go_simp; rw [if_pos (by omega)]; go_simp; (try go_bits); refine hK _ ?_; clear hK K hw' w')
                 | (go_simp; refine hK _ ?_; clear hK K)))
        refine nqW_nil (hRw _ ?_)
        clear hc hb' hb2 hd hRw
        intro w' hw'
        simp only [List.drop]
        replace HO2 := Lib.hid (HO2.out.below hw')
        replace HB := Lib.hid (below_step HB.out HB.out.size hw')
        clear hw'
        go_wp2_with (at_builtin; refine wpList_append_intG rfl _ _ rfl w.heap.size _ (intsV (cluL gap ms 0)) rfl HO2.out _ _ rfl (by rw [intsV_len, cluL_len]; omega) HB.out.size ?_; intro v' w6 hO6 hb6)
        go_roundw
        case rel => exact ⟨1, by rw [HN.out]; exact hO6, by go_num, hlt, HB.out.trans hb6⟩
        case measure => simp [intOf]; omega
      | succ k =>
        obtain ⟨j, hjk⟩ : ∃ j, j = k + 1 := ⟨_, rfl⟩
        rw [← hjk] at hlt HO2 ⊢
        have hkl : k < ms.length := by omega
        have h0 : (0 : Int) < (j : Int) := by omega
        have h0n : 0 < j := by omega
        have h0m : decide (0 < j) = true := decide_eq_true h0n
        have h0' : decide ((0 : Int) < (j : Int)) = true := decide_eq_true h0
        have hk9 : (j : Int) - 1 = k := by omega
        have hj8 : j < 512 := by omega
        have hb1 : (j : Int) < ms.length := by omega
        have hb2 : (k : Int) < ms.length := by omega
        have hb3 : (0 : Int) ≤ j := by omega
        have hb4 : (0 : Int) ≤ k := by omega
        have hwk : IntKind.i64.wrap (k : Int) = k := by rw [IntKind.wrap_i64]; omega
        obtain ⟨b, o, s1, e1, hbl, c1⟩ := FlsI.at (HM.out _ HB.out) hlt
        obtain ⟨b2, o2, s2, e2, _, c2⟩ := FlsI.at (HM.out _ HB.out) hkl
        subst e1
        obtain ⟨rfl, rfl⟩ : b = b2 ∧ o = o2 := by injection e2 with e1; injection e1 with e4 e5; exact ⟨e4, e5⟩
        obtain ⟨bl, cl, e3, hblB, hblS, c3⟩ := HO2.out.at (i := k) (intsV_at (by rw [cluL_len]; omega))
        subst e3
        have HN := Lib.hid (show cluL gap ms (j + 1) = cluL gap ms j ++ [if fle (fsub (ms.getD j 0) (ms.getD k 0)) gap then (cluL gap ms j).getD k 0 else j] by
          rw [cluL]
          have e : decide (0 < j) = true := decide_eq_true (by omega)
          have e' : j - 1 = k := by omega
          rw [e, e', Bool.true_and])
        rw [intsV_len, cluL_len] at HO2 ⊢
        clear hjk e2
        obtain ⟨x, hx⟩ : ∃ x, x = ms.getD j 0 := ⟨_, rfl⟩
        obtain ⟨y, hy⟩ : ∃ x, x = ms.getD k 0 := ⟨_, rfl⟩
        obtain ⟨z, hz⟩ : ∃ x, x = (cluL gap ms j).getD k 0 := ⟨_, rfl⟩
        rw [← hx] at c1 HN
        rw [← hy] at c2 HN
        rw [← hz] at c3 HN
        clear hx hy hz
        go_upto_region 10 with fail
        refine wp_region_nqb 16 (fun _ _ _ => False) (by kernel_rfl) (by kernel_rfl) ?_
        intro Cw Rw hc hb' hb2 hd hRw
        simp only [List.take_succ_cons, List.take_zero]
        repeat (
          first
            | (refine nqW_skip rfl (fun K hK => ?_); go_frame; refine hK _ ?_; clear hK K)
            | ((first | (refine nqW_plain (fun K hK => ?_)) | (refine nqW_want rfl (fun K hK => ?_)) | (refine nqW_step (fun K hK => ?_); go_simp))
               first
                 | (refine nq_move rfl ?_; go_simp; refine hK _ ?_; clear hK K)
                 | (refine nq_assign rfl ?_; go_simp; refine hK _ ?_; clear hK K)
                 | (refine nq_flt rfl rfl rfl rfl hd ?_; intro _; go_frame; refine hK _ ?_; clear hK K)
                 | (refine nq_same ?_; intro w' hw'; go_simp; (try go_bits); refine hK _ ?_; clear hK K hw' w')
                 | (refine nq_same ?_; intro w' hw'; go_simp; rw [if_pos (by omega)]; go_simp; (try go_bits); refine hK _ ?_; clear hK K hw' w')
                 | (go_simp; refine hK _ ?_; clear hK K)))
        refine nqW_nil (hRw _ ?_)
        clear hc hb' hb2 hd hRw
        intro w' hw'
        simp only [List.drop]
        replace HO2 := Lib.hid (HO2.out.below hw')
        replace HB := Lib.hid (below_step HB.out HB.out.size hw')
        have c4 := hw'.block bl hblS
        have c3' : w'.cell? ⟨bl, k, none⟩ = some (.int .i64 (z : Int)) := by rw [World.cell?_of_block c4]; exact c3
        clear c1 c2 c3 c4 hw' hbl
        try simp only [fle_rawl, fle_rawr, fsub_rawl, fsub_rawr]
        obtain ⟨c, hc⟩ : ∃ c, c = fle (fsub x y) gap := ⟨_, rfl⟩
        rw [← hc] at HN ⊢
        clear hc
        cases c
        · replace HN := Lib.hid (show cluL gap ms (j + 1) = cluL gap ms j ++ [j] by rw [HN.out]; simp)
          go_wp2_with (at_builtin; refine wpList_append_intG rfl _ _ rfl w.heap.size _ (intsV (cluL gap ms j)) rfl HO2.out _ _ rfl (by rw [intsV_len, cluL_len]; omega) HB.out.size ?_; intro v' w6 hO6 hb6)
          go_roundw
          case rel => exact ⟨j + 1, by rw [HN.out]; unfold intsV at hO6 ⊢; rw [List.map_append]; exact hO6, by go_num, hlt, HB.out.trans hb6⟩
          case measure => simp [intOf]; omega
        · replace HN := Lib.hid (show cluL gap ms (j + 1) = cluL gap ms j ++ [z] by rw [HN.out]; simp)
          go_wp2_with (at_builtin; refine wpList_append_intG rfl _ _ rfl w.heap.size _ (intsV (cluL gap ms j)) rfl HO2.out _ _ rfl (by rw [intsV_len, cluL_len]; omega) HB.out.size ?_; intro v' w6 hO6 hb6)
          go_roundw
          case rel => exact ⟨j + 1, by rw [HN.out]; unfold intsV at hO6 ⊢; rw [List.map_append]; exact hO6, by go_num, hlt, HB.out.trans hb6⟩
          case measure => simp [intOf]; omega
    case neg =>
      obtain rfl : j = ms.length := by omega
      rw [← HG.out] at HO2
      have HB2 := Lib.hid (And.intro HO2.out HB.out)
      clear HO2 HB
      go_wp2_with fail
      exact bodyPost_ret (results_two rfl (rv_tmp rfl) (rv_tmp rfl)) rfl ⟨⟨_, rfl, HB2.out.1⟩, HB2.out.2⟩
end Go.Proofs.Ytdljnhdhigbefaa
