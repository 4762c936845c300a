/- Package guard: words taken in as a matrix (printed by gen_gc.py). -/
import Derived.Test.YtogkmddhgfenkaaZz11
import Derived.Test.YtogkmddhgfenkaaZz8
namespace Go.Proofs.Ytogkmddhgfenkaa
open Go Go.RowKit
set_option maxRecDepth 100000
/-- What taking in gives: a code, and a matrix if it is 0. -/
def TakeR (w w' : World) (m n : Int) (ws : List Nat) (code : Int) (e : Ending) : Prop := ∃ m' n' dv, e = .returned (.tuple #[.agg #[.int .i64 m', .int .i64 n', dv], .int .i64 code]) ∧ (code = 0 → m' = m ∧ n' = n ∧ w'.ownsRow w.heap.size 35 1 dv ws.length (ws.map (Value.float .f64))) ∧ (code ≠ 0 → m' = 0 ∧ n' = 0 ∧ dv = .slice none 0 0) ∧ Below w.heap.size w w'
def badM (m n : Int) (len : Nat) : Bool := decide (m < 0) || decide (512 < m) || decide (n < 0) || decide (512 < n) || decide ((len : Int) ≠ m * n)
def okAll (m n : Nat) (ok : Nat → Nat → Bool) : Bool := (List.range m).all fun i => (List.range n).all fun k => ok i k
def takeC (m n : Int) (ws : List Nat) (ok : Bool) : Int := if badM m n ws.length = true then 1 else if ws.all ffin = false then 1 else if ok = false then 1 else if ws.all inrB = true then 0 else 2
theorem takeC_bad {m n : Int} {ws : List Nat} {ok : Bool} (h : badM m n ws.length = true) : takeC m n ws ok = 1 := by unfold takeC; rw [if_pos h]
theorem badM_false {m n : Int} {len : Nat} (h : badM m n len = false) : ∃ a b : Nat, m = a ∧ n = b ∧ a ≤ 512 ∧ b ≤ 512 ∧ len = a * b := by
  unfold badM at h
  simp only [Bool.or_eq_false_iff, decide_eq_false_iff_not, ne_eq, Classical.not_not] at h
  refine ⟨m.toNat, n.toNat, by omega, by omega, by omega, by omega, ?_⟩
  have h1 : ((m.toNat * n.toNat : Nat) : Int) = m * n := by rw [Int.natCast_mul, show (m.toNat : Int) = m by omega, show (n.toNat : Int) = n by omega]
  omega
theorem badM_true {m n : Int} {len : Nat} (h : badM m n len = true) : m < 0 ∨ (¬ m < 0 ∧ 512 < m) ∨ (¬ m < 0 ∧ ¬ 512 < m ∧ n < 0) ∨ (¬ m < 0 ∧ ¬ 512 < m ∧ ¬ n < 0 ∧ 512 < n) ∨ (∃ a b : Nat, m = a ∧ n = b ∧ a ≤ 512 ∧ b ≤ 512 ∧ len ≠ a * b) := by
  unfold badM at h
  simp only [Bool.or_eq_true, decide_eq_true_eq, ne_eq] at h
  by_cases h1 : m < 0
  · exact .inl h1
  · by_cases h2 : 512 < m
    · exact .inr (.inl ⟨h1, h2⟩)
    · by_cases h3 : n < 0
      · exact .inr (.inr (.inl ⟨h1, h2, h3⟩))
      · by_cases h4 : 512 < n
        · exact .inr (.inr (.inr (.inl ⟨h1, h2, h3, h4⟩)))
        · refine .inr (.inr (.inr (.inr ⟨m.toNat, n.toNat, by omega, by omega, by omega, by omega, fun e => ?_⟩)))
          have h5 : ((m.toNat * n.toNat : Nat) : Int) = m * n := by rw [Int.natCast_mul, show (m.toNat : Int) = m by omega, show (n.toNat : Int) = n by omega]
          rw [← h5] at h
          omega
set_option maxHeartbeats 4000000 in
theorem take_bad (w : World) (m n : Int) (a : Option Addr) (ws : List Nat) (ac : Nat) (fv : Value) (ok : Bool) (hl : ws.length ≤ maxLen) (h : badM m n ws.length = true) :
    Calls Try.prog 62 #[.int .i64 m, .int .i64 n, .slice a ws.length ac, fv] w fun e w' => TakeR w w' m n ws (takeC m n ws ok) e := by
  rw [takeC_bad h]
  have hB0 : Below w.heap.size w (w.alloc (.cells #[.int .i64 0, .int .i64 0, .slice none 0 0] 26)) := (Below.refl _ _).alloc (Nat.le_refl _) _
  have x0 : Box (w.alloc (.cells #[.int .i64 0, .int .i64 0, .slice none 0 0] 26)) w.heap.size [.int .i64 0, .int .i64 0, .slice none 0 0] := Box.newA w [_, _, _] _ rfl
  have h' := badM_true h
  clear h
  unfold maxLen at hl
  rcases h' with h1 | ⟨h1, h2⟩ | ⟨h1, h2, h3⟩ | ⟨h1, h2, h3, h4⟩ | ⟨p, q, rfl, rfl, hp, hq, h5⟩
  · have t1 := decide_eq_true h1
    clear h1
    go_enter Try.func62, Try.ntmps62
    go_wp2
    exact bodyPost_ret (results_two rfl (rv_cell (g := w.heap.size) rfl (Box.newA w [_, _, _] _ rfl) rfl Try.underlying26 (by kernel_rfl)) (rv_tmp rfl)) rfl ⟨_, _, _, rfl, fun h => absurd h (by decide), fun _ => ⟨rfl, rfl, rfl⟩, hB0⟩
  · have t1 := decide_eq_false h1
    have t2 := decide_eq_true h2
    clear h1 h2
    go_enter Try.func62, Try.ntmps62
    go_wp2
    exact bodyPost_ret (results_two rfl (rv_cell (g := w.heap.size) rfl (Box.newA w [_, _, _] _ rfl) rfl Try.underlying26 (by kernel_rfl)) (rv_tmp rfl)) rfl ⟨_, _, _, rfl, fun h => absurd h (by decide), fun _ => ⟨rfl, rfl, rfl⟩, hB0⟩
  · have t1 := decide_eq_false h1
    have t2 := decide_eq_false h2
    have t3 := decide_eq_true h3
    clear h1 h2 h3
    go_enter Try.func62, Try.ntmps62
    go_wp2
    exact bodyPost_ret (results_two rfl (rv_cell (g := w.heap.size) rfl (Box.newA w [_, _, _] _ rfl) rfl Try.underlying26 (by kernel_rfl)) (rv_tmp rfl)) rfl ⟨_, _, _, rfl, fun h => absurd h (by decide), fun _ => ⟨rfl, rfl, rfl⟩, hB0⟩
  · have t1 := decide_eq_false h1
    have t2 := decide_eq_false h2
    have t3 := decide_eq_false h3
    have t4 := decide_eq_true h4
    clear h1 h2 h3 h4
    go_enter Try.func62, Try.ntmps62
    go_wp2
    exact bodyPost_ret (results_two rfl (rv_cell (g := w.heap.size) rfl (Box.newA w [_, _, _] _ rfl) rfl Try.underlying26 (by kernel_rfl)) (rv_tmp rfl)) rfl ⟨_, _, _, rfl, fun h => absurd h (by decide), fun _ => ⟨rfl, rfl, rfl⟩, hB0⟩
  · have hpq : p * q ≤ 512 * 512 := Nat.mul_le_mul hp hq
    have e1 : (p : Int) * (q : Int) = ((p * q : Nat) : Int) := (Int.natCast_mul _ _).symm
    generalize hz : p * q = z at *
    generalize hlen : ws.length = len at *
    have t1 : decide ((p : Int) < 0) = false := decide_eq_false (by omega)
    have t2 : decide ((512 : Int) < (p : Int)) = false := decide_eq_false (by omega)
    have t3 : decide ((q : Int) < 0) = false := decide_eq_false (by omega)
    have t4 : decide ((512 : Int) < (q : Int)) = false := decide_eq_false (by omega)
    have t5 : ((len : Int) != (z : Int)) = true := by simp; omega
    clear h5 hz hp hq hl
    have HLN := Lib.hid hlen
    clear hlen
    go_enter Try.func62, Try.ntmps62
    go_wp2
    exact bodyPost_ret (results_two rfl (rv_cell (g := w.heap.size) rfl (Box.newA w [_, _, _] _ rfl) rfl Try.underlying26 (by kernel_rfl)) (rv_tmp rfl)) rfl ⟨_, _, _, rfl, fun h => absurd h (by decide), fun _ => ⟨rfl, rfl, rfl⟩, hB0⟩

def okT (_ _ : Nat) : Bool := true
theorem ownsRow_monoS' {W : World} {base base' size n : Nat} {e : TypeId} {v : Value} {xs : List Value} (h : W.ownsRow base e size v n xs) (hb : base' ≤ base) : W.ownsRow base' e size v n xs := by
  refine ⟨h.1, ?_⟩
  rcases h.2 with h0 | ⟨g, cap, cur, h1, h2, h3⟩
  · exact .inl h0
  · exact .inr ⟨g, cap, cur, h1, by omega, h3⟩
theorem Bel.drew {B s : Nat} {w w' : World} (h : Bel B s w w') : Bel B s w w'.drew := ⟨h.os, h.tape, h.output, h.size, h.block⟩

set_option maxHeartbeats 4000000 in
theorem take_fin_any (w : World) (m n : Nat) (a : Option Addr) (ws : List Nat) (ac : Nat) (hA : Wds w a ws) (hW : Words ws) (hm : m ≤ 512) (hn : n ≤ 512) (hl : ws.length = m * n) (h : ws.all ffin = false) :
    Calls Try.prog 62 #[.int .i64 m, .int .i64 n, .slice a ws.length ac, .func (.func 70) #[] #[]] w fun e w' => TakeR w w' m n ws 1 e := by
  have hmn : m * n ≤ 512 * 512 := Nat.mul_le_mul hm hn
  have hB0 : Below w.heap.size w (w.alloc (.cells #[.int .i64 0, .int .i64 0, .slice none 0 0] 26)) := (Below.refl _ _).alloc (Nat.le_refl _) _
  have HC := Lib.hid (fun W (hW' : Below w.heap.size w W) => ContainsFuncU_any 90 (fun x => !ffin x) (fun x w hx => take1_any x hx w) (fun _ _ => rfl) W a ws ac (hA.below hW') hW (by unfold maxLen; omega))
  have hany : ws.any (fun x => !ffin x) = true := by
    rw [List.all_eq_false] at h
    obtain ⟨x, hx, hf⟩ := h
    rw [List.any_eq_true]
    exact ⟨x, hx, by simpa using hf⟩
  rw [hany] at HC
  have e1 : (m : Int) * (n : Int) = (ws.length : Int) := by rw [hl]; exact (Int.natCast_mul _ _).symm
  have hlb : ws.length ≤ 262144 := by omega
  generalize hlen : ws.length = len at *
  have t1 : decide ((m : Int) < 0) = false := decide_eq_false (by omega)
  have t2 : decide ((512 : Int) < (m : Int)) = false := decide_eq_false (by omega)
  have t3 : decide ((n : Int) < 0) = false := decide_eq_false (by omega)
  have t4 : decide ((512 : Int) < (n : Int)) = false := decide_eq_false (by omega)
  have HLN := Lib.hid hlen
  clear hmn hl h hany hlen hA hW
  go_enter Try.func62, Try.ntmps62
  go_wp2_with fail
  refine (HC.out _ hB0).mono ?_
  rintro e w' ⟨rfl, rfl⟩
  go_wp2
  exact bodyPost_ret (results_two rfl (rv_cell (g := w.heap.size) rfl (Box.newA w [_, _, _] _ rfl) rfl Try.underlying26 (by kernel_rfl)) (rv_tmp rfl)) rfl ⟨_, _, _, rfl, fun h => absurd h (by decide), fun _ => ⟨rfl, rfl, rfl⟩, hB0⟩
/-- What the third loop holds on to. -/
def TI_any (W1 : World) (bm : Nat) (m n : Nat) (ws : List Nat) (k : Nat) (W : World) : Prop := OM W1 bm (bm + 1) (.int .i64 m) (.int .i64 n) 35 (ws.map (Value.float .f64)) k W ∧ ∀ j, j < k → inrB (ws.getD j 0) = true
set_option maxHeartbeats 16000000 in
theorem take_in_any (w : World) (m n : Nat) (a : Option Addr) (ws : List Nat) (ac : Nat) (hA : Wds w a ws) (hW : Words ws) (hm : m ≤ 512) (hn : n ≤ 512) (hl : ws.length = m * n) (h : ws.all ffin = true) :
    Calls Try.prog 62 #[.int .i64 m, .int .i64 n, .slice a ws.length ac, .func (.func 70) #[] #[]] w fun e w' => TakeR w w' m n ws (if okAll m n (okT) = false then 1 else if ws.all inrB = true then 0 else 2) e := by
  obtain ⟨i0, hi0, hz0, hz1, hz2⟩ := info_parts info_f64
  have hmn : m * n ≤ 512 * 512 := Nat.mul_le_mul hm hn
  have hB0 : Below w.heap.size w (w.alloc (.cells #[.int .i64 0, .int .i64 0, .slice none 0 0] 26)) := (Below.refl _ _).alloc (Nat.le_refl _) _
  have HC := Lib.hid (fun W (hW' : Below w.heap.size w W) => ContainsFuncU_any 90 (fun x => !ffin x) (fun x w hx => take1_any x hx w) (fun _ _ => rfl) W a ws ac (hA.below hW') hW (by unfold maxLen; omega))
  have hany : ws.any (fun x => !ffin x) = false := by
    rw [List.all_eq_true] at h
    rw [List.any_eq_false]
    intro x hx
    simp [h x hx]
  rw [hany] at HC
  obtain ⟨C, hC⟩ : ∃ C : Int, C = if okAll m n (okT) = false then 1 else if ws.all inrB = true then 0 else 2 := ⟨_, rfl⟩
  rw [← hC]
  have HCd := Lib.hid hC
  have e1 : (m : Int) * (n : Int) = (ws.length : Int) := by rw [hl]; exact (Int.natCast_mul _ _).symm
  have hlb : ws.length ≤ 262144 := by omega
  have t1 : decide ((m : Int) < 0) = false := decide_eq_false (by omega)
  have t2 : decide ((512 : Int) < (m : Int)) = false := decide_eq_false (by omega)
  have t3 : decide ((n : Int) < 0) = false := decide_eq_false (by omega)
  have t4 : decide ((512 : Int) < (n : Int)) = false := decide_eq_false (by omega)
  have x0 : Box (w.alloc (.cells #[.int .i64 0, .int .i64 0, .slice none 0 0] 26)) w.heap.size [.int .i64 0, .int .i64 0, .slice none 0 0] := Box.newA w [_, _, _] _ rfl
  have hs0 : (w.alloc (.cells #[.int .i64 0, .int .i64 0, .slice none 0 0] 26)).heap.size = w.heap.size + 1 := by simp
  have HAL := Lib.hid (fun (W : World) (_ : Below (w.alloc (.cells #[.int .i64 0, .int .i64 0, .slice none 0 0] 26)).heap.size (w.alloc (.cells #[.int .i64 0, .int .i64 0, .slice none 0 0] 26)) W) (i k : Nat) (_ : i < m) (_ : k < n) => (Any1_any i k W).mono (fun e w' (⟨h1, h2⟩ : e = Ending.returned (.bool true) ∧ W = w') => (⟨h1, h2 ▸ Below.refl _ _⟩ : e = Ending.returned (.bool (okT i k)) ∧ Below W.heap.size W w')))
  have HA := Lib.hid hA
  have HWd := Lib.hid hW
  have HL := Lib.hid hl
  clear hmn h hany hA hW hC hl
  go_enter Try.func62, Try.ntmps62
  go_wp2_with fail
  refine (HC.out _ hB0).mono ?_
  rintro e w' ⟨rfl, rfl⟩
  go_wp2
  clear t1 t2 t3 t4 HC e1
  generalize w.alloc (.cells #[.int .i64 0, .int .i64 0, .slice none 0 0] 26) = W0 at *
  go_loopw [43] (fun s wr => ∃ i : Nat, i ≤ m ∧ s = .int .i64 i ∧ (∀ i', i' < i → ∀ k', k' < n → okT i' k' = true) ∧ Below W0.heap.size W0 wr) (fun s _ => m - (intOf s).toNat)
  case atStart => exact ⟨0, Nat.zero_le _, rfl, fun _ h => absurd h (Nat.not_lt_zero _), Below.refl _ _⟩
  case round =>
    obtain ⟨i, hi, rfl, hall, hB⟩ := hrel
    have HAll := Lib.hid hall
    clear hall
    by_cases hlt : i < m
    · go_wp2
      obtain ⟨wo, rfl⟩ : ∃ wo : World, wo = wr := ⟨_, rfl⟩
      go_loopw [47] (fun s wr => ∃ k : Nat, k ≤ n ∧ s = .int .i64 k ∧ (∀ k', k' < k → okT i k' = true) ∧ Below W0.heap.size W0 wr) (fun s _ => n - (intOf s).toNat)
      case atStart => exact ⟨0, Nat.zero_le _, rfl, fun _ h => absurd h (Nat.not_lt_zero _), hB⟩
      case round =>
        obtain ⟨k, hk, rfl, hin, hB2⟩ := hrel
        have HIn := Lib.hid hin
        clear hin
        by_cases hlt2 : k < n
        · have HK := Lib.hid (HAL.out wr hB2 i k hlt hlt2)
          cases hok : okT i k
          · rw [hok] at HK
            have hCv : C = 1 := by
              rw [HCd.out, if_pos]
              unfold okAll
              rw [List.all_eq_false]
              refine ⟨i, List.mem_range.2 hlt, ?_⟩
              rw [Bool.not_eq_true, List.all_eq_false]
              exact ⟨k, List.mem_range.2 hlt2, by simp [hok]⟩
            have HCv := Lib.hid hCv
            clear hCv hok
            have y0 := x0.below hB2
            have hs2 := hB2.size
            have hB3 := below_step hB0 hB0.size hB2
            obtain ⟨q1, q2, q3⟩ := y0.facts
            clear y0 q1 q2 q3 hB
            go_wp2_with fail
            refine HK.out.mono ?_
            rintro e w2 ⟨rfl, hb2⟩
            have hB4 := below_step hB3 hB3.size hb2
            have y0 := (x0.below hB2).below hb2
            have hs3 := hb2.size
            obtain ⟨q1, q2, q3⟩ := y0.facts
            clear hB2 hB3 hb2
            go_wp2
            refine bodyPost_ret (results_two rfl (rv_cell (g := w.heap.size) rfl (((y0.set 0 _).set 1 _).set 2 _) rfl Try.underlying26 (by kernel_rfl)) (rv_tmp rfl)) rfl ⟨0, 0, .slice none 0 0, ?_, fun h => absurd (HCv.out ▸ h) (by decide), fun _ => ⟨rfl, rfl, rfl⟩, ?_⟩
            · rw [HCv.out]; rfl
            · exact below_set (below_set (below_set hB4 (Nat.le_refl _) _ _) (Nat.le_refl _) _ _) (Nat.le_refl _) _ _
          · rw [hok] at HK
            have HOk := Lib.hid hok
            clear hok
            go_wp2_with fail
            refine HK.out.mono ?_
            rintro e w2 ⟨rfl, hb2⟩
            have hB3 := below_step hB2 hB2.size hb2
            go_wp2
            go_roundw
            case rel => exact ⟨k + 1, hlt2, by go_num, fun k' hk' => (by
              by_cases e : k' = k
              · subst e; exact HOk.out
              · exact HIn.out k' (by omega)), hB3⟩
            case measure => simp [intOf]; omega
        · obtain rfl : k = n := by omega
          go_wp2
          go_roundw
          case rel => exact ⟨i + 1, hlt, by go_num, fun i' hi' k' hk' => (by
            by_cases e : i' = i
            · subst e; exact HIn.out k' hk'
            · exact HAll.out i' (by omega) k' hk'), hB2⟩
          case measure => simp [intOf]; omega
    · obtain rfl : i = m := by omega
      have hokk : okAll i n (okT) = true := by
        unfold okAll
        rw [List.all_eq_true]
        intro x hx
        rw [List.all_eq_true]
        intro y hy
        exact HAll.out x (List.mem_range.1 hx) y (List.mem_range.1 hy)
      have hC2 : C = if ws.all inrB = true then 0 else 2 := by rw [HCd.out, hokk, if_neg (by decide)]
      have HC2 := Lib.hid hC2
      clear hokk hC2 HAL HAll HCd
      have y0 := x0.below hB
      have hs2 := hB.size
      have hB3 := below_step hB0 hB0.size hB
      clear x0 hB0 hB hlt
      go_wp2
      obtain ⟨wo, rfl⟩ : ∃ wo : World, wo = wr := ⟨_, rfl⟩
      have hA1 : Below wo.heap.size wo (wo.alloc (.cells #[.int .i64 i, .int .i64 n, .slice none 0 0] 26)) := (Below.refl _ _).alloc (Nat.le_refl _) _
      have hzb : Box (wo.alloc (.cells #[.int .i64 i, .int .i64 n, .slice none 0 0] 26)) wo.heap.size [.int .i64 i, .int .i64 n, .slice none 0 0] := Box.newA wo [_, _, _] _ rfl
      have hs1 : (wo.alloc (.cells #[.int .i64 i, .int .i64 n, .slice none 0 0] 26)).heap.size = wo.heap.size + 1 := by simp
      have y1 := y0.below hA1
      have hB4 := below_step hB3 hB3.size hA1
      have hlw := y0.lt
      clear hA1 y0 hB3
      have hgen : wo.heap.size = wo.heap.size := rfl
      generalize wo.alloc (.cells #[.int .i64 i, .int .i64 n, .slice none 0 0] 26) = W1 at *
      generalize wo.heap.size = bm at *
      go_loopw [63] (fun s wr => ∃ k : Nat, k ≤ ws.length ∧ s = .int .i64 k ∧ TI_any W1 bm i n ws k wr) (fun s _ => ws.length - (intOf s).toNat)
      case atStart => exact ⟨0, Nat.zero_le _, rfl, ⟨⟨.slice none 0 0, hzb, World.ownsRow_nil _ _ _ _⟩, Bel.refl _ _ _, by omega⟩, fun _ h => absurd h (Nat.not_lt_zero _)⟩
      case round =>
        obtain ⟨k, hk, rfl, hO, hin⟩ := hrel
        obtain ⟨⟨sv, hbx, hrow⟩, hbel, hsz⟩ := hO
        have HIn := Lib.hid hin
        clear hin
        have z0 := y1.belB (by omega) (by omega) hbel
        by_cases hlt : k < ws.length
        · obtain ⟨b, o, rfl, hb, c0⟩ := HA.out.at hlt
          have c1 : wr.cell? ⟨b, o + k, none⟩ = some (.int .u64 (ws.getD k 0 : Nat)) := by
            unfold World.cell? at c0 ⊢
            rw [show wr.heap[(⟨b, o + k, none⟩ : Addr).block]? = wr.heap[b]? from rfl, hbel.block b (by omega) (by omega), hB4.block b hb]
            exact c0
          clear c0
          have hv := HWd.out.at k
          have HI := Lib.hid (fun W => ginr_any (ws.getD k 0) hv W)
          have hxk : (ws.map (Value.float .f64))[k]? = some (.float .f64 (ws.getD k 0)) := by simp [hlt]
          have HT := Lib.hid (take_get hxk)
          cases hir : inrB (ws.getD k 0)
          · rw [hir] at HI
            have hCv : C = 2 := by
              rw [HC2.out, if_neg]
              rw [Bool.not_eq_true, List.all_eq_false]
              exact ⟨ws.getD k 0, by simp [hlt], by rw [hir]; decide⟩
            have HCv := Lib.hid hCv
            clear hCv hir hxk hv hbx hrow
            obtain ⟨q1, q2, q3⟩ := z0.facts
            generalize ws.getD k 0 = z at *
            go_wp2_with (go_at_call 21; refine (HI.out _).mono ?_; rintro e w' ⟨rfl, rfl⟩)
            refine bodyPost_ret (results_two rfl (rv_cell (g := w.heap.size) rfl (((z0.set 0 _).set 1 _).set 2 _) rfl Try.underlying26 (by kernel_rfl)) (rv_tmp rfl)) rfl ⟨0, 0, .slice none 0 0, ?_, fun h => absurd (HCv.out ▸ h) (by decide), fun _ => ⟨rfl, rfl, rfl⟩, ?_⟩
            · rw [HCv.out]; rfl
            · have hB5 : Below w.heap.size w wr := hB4.trans ((hbel.mono (by omega)).below (by omega))
              exact below_set (below_set (below_set hB5 (Nat.le_refl _) _ _) (Nat.le_refl _) _ _) (Nat.le_refl _) _ _
          · rw [hir] at HI
            have HIr := Lib.hid hir
            clear hir hxk
            have HR := Lib.hid hrow
            obtain ⟨q1, q2, q3⟩ := hbx.facts
            have hzz : (ws.getD k 0 : Int).toNat = ws.getD k 0 := Int.toNat_natCast _
            generalize hz : ws.getD k 0 = z at *
            have HZk := Lib.hid hz
            clear hz hrow hv
            have hkr : k + 1 ≤ 262144 := by omega
            go_wp2_with (go_at_call 21; refine (HI.out _).mono ?_; rintro e w' ⟨rfl, rfl⟩)
            have s0 := (SB.refl hsz).S
            have hl1 : bm < bm + 1 := by omega
            have hn3 : bm ≠ wr.heap.size := by omega
            refine wp_region_first 6 [0, 1, 2, 3] [4, 5] (fun W => SB (bm + 1) wr W ∧ ∀ b o, b < bm + 1 → W.cell? ⟨b, o, none⟩ = wr.cell? ⟨b, o, none⟩) (by kernel_rfl) (by kernel_rfl) (SBS.drew s0) ?_
            iterate 4 (refine pW_take (v := ?_) rfl rfl ?_ ?_; rotate_left; (next => (intro w' hSw; (try dsimp only at hSw); go_simp; (try with_reducible rfl))); (simp only [Act.put, List.setIfInBounds_toArray, List.set_cons_zero, List.set_cons_succ]))
            refine pW_nil ?_
            refine mW_take rfl rfl ?_
            go_simp
            refine ⟨SBS.alloc (SBS.drew s0), ?_⟩
            refine mW_take rfl rfl ?_
            refine wp_append_lies _ (.tmp 72) (.tmp 75) 24 rfl (bm + 1) 35 i0 (.float .f64 0) 1 8 Try.underlying24 hi0 hz0 hz1 hz2 rfl (by decide) _ k _ rfl (HR.out.drew.alloc _) _ 1 1 [.float .f64 z] rfl rfl (cell_one_new _ _ _) (by simp [Value.oneCell']) (by decide) (by unfold maxLen; omega) (by omega) (by simp; omega) _ rfl ?_
            intro g cap w1 hown hgrow hat hlt'
            refine ⟨SBS.grown (SBS.alloc (SBS.drew s0)) hgrow (fun q e => (HR.out.lt q e).1), ?_⟩
            refine mW_nil ?_
            have hbx1 := Box.grown (Box.alloc (show Box wr.drew _ _ from hbx) _) hgrow (fun q e => by have := (HR.out.lt q e).1; omega)
            obtain ⟨q1, q2, q3⟩ := hbx1.facts
            simp only [List.drop, Act.put, List.setIfInBounds_toArray, List.set_cons_zero, List.set_cons_succ]
            go_wp2
            refine NoPanic.normal ?_
            go_wp2
            go_roundw
            case rel => exact ⟨k + 1, hlt, by go_num, OM.app (W := wr.drew) hbx HR.out.drew hbel.drew hsz (by omega) HT.out hgrow hown, fun j hj => (by
              by_cases e : j = k
              · subst e; rw [HZk.out]; exact HIr.out
              · exact HIn.out j (by omega))⟩
            case measure => simp [intOf]; omega
        · obtain rfl : k = ws.length := by omega
          have hCv : C = 0 := by
            rw [HC2.out, if_pos]
            rw [List.all_eq_true]
            intro x hx
            obtain ⟨j, hj, rfl⟩ := List.getElem_of_mem hx
            have := HIn.out j hj
            simpa [hj] using this
          have HCv := Lib.hid hCv
          clear hCv
          rw [List.take_of_length_le (by simp)] at hrow
          have HR := Lib.hid hrow
          obtain ⟨sa, scap, rfl⟩ := ownsRow_slice hrow
          clear hrow
          obtain ⟨q1, q2, q3⟩ := z0.facts
          obtain ⟨q4, q5, q6⟩ := hbx.facts
          go_wp2
          refine bodyPost_ret (results_two rfl (rv_cell (g := w.heap.size) rfl (((z0.set 0 _).set 1 _).set 2 _) rfl Try.underlying26 (by kernel_rfl)) (rv_tmp rfl)) rfl ⟨i, n, .slice sa ws.length scap, ?_, fun _ => ⟨rfl, rfl, ?_⟩, fun h => absurd HCv.out h, ?_⟩
          · rw [HCv.out]; rfl
          · have hset : Bel wr.heap.size w.heap.size wr (((wr.setCell ⟨w.heap.size, 0, none⟩ (.int .i64 (i : Int))).setCell ⟨w.heap.size, 1, none⟩ (.int .i64 (n : Int))).setCell ⟨w.heap.size, 2, none⟩ (.slice sa ws.length scap)) := (((Bel.refl _ _ _).set _ _).set _ _).set _ _
            exact ownsRow_monoS' (ownsRow_bel HR.out hset (by omega)) (by omega)
          · have hB5 : Below w.heap.size w wr := hB4.trans ((hbel.mono (by omega)).below (by omega))
            exact below_set (below_set (below_set hB5 (Nat.le_refl _) _ _) (Nat.le_refl _) _ _) (Nat.le_refl _) _ _

set_option maxHeartbeats 4000000 in
theorem take_fin_sq (w : World) (m n : Nat) (a : Option Addr) (ws : List Nat) (ac : Nat) (Bw Bn : Nat) (hA : Wds w a ws) (hW : Words ws) (hm : m ≤ 512) (hn : n ≤ 512) (hl : ws.length = m * n) (h : ws.all ffin = false) :
    Calls Try.prog 62 #[.int .i64 m, .int .i64 n, .slice a ws.length ac, .func (.func 63) #[] #[.pointer (some ⟨Bw, 0, none⟩), .pointer (some ⟨Bn, 0, none⟩)]] w fun e w' => TakeR w w' m n ws 1 e := by
  have hmn : m * n ≤ 512 * 512 := Nat.mul_le_mul hm hn
  have hB0 : Below w.heap.size w (w.alloc (.cells #[.int .i64 0, .int .i64 0, .slice none 0 0] 26)) := (Below.refl _ _).alloc (Nat.le_refl _) _
  have HC := Lib.hid (fun W (hW' : Below w.heap.size w W) => ContainsFuncU_any 90 (fun x => !ffin x) (fun x w hx => take1_any x hx w) (fun _ _ => rfl) W a ws ac (hA.below hW') hW (by unfold maxLen; omega))
  have hany : ws.any (fun x => !ffin x) = true := by
    rw [List.all_eq_false] at h
    obtain ⟨x, hx, hf⟩ := h
    rw [List.any_eq_true]
    exact ⟨x, hx, by simpa using hf⟩
  rw [hany] at HC
  have e1 : (m : Int) * (n : Int) = (ws.length : Int) := by rw [hl]; exact (Int.natCast_mul _ _).symm
  have hlb : ws.length ≤ 262144 := by omega
  generalize hlen : ws.length = len at *
  have t1 : decide ((m : Int) < 0) = false := decide_eq_false (by omega)
  have t2 : decide ((512 : Int) < (m : Int)) = false := decide_eq_false (by omega)
  have t3 : decide ((n : Int) < 0) = false := decide_eq_false (by omega)
  have t4 : decide ((512 : Int) < (n : Int)) = false := decide_eq_false (by omega)
  have HLN := Lib.hid hlen
  clear hmn hl h hany hlen hA hW
  go_enter Try.func62, Try.ntmps62
  go_wp2_with fail
  refine (HC.out _ hB0).mono ?_
  rintro e w' ⟨rfl, rfl⟩
  go_wp2
  exact bodyPost_ret (results_two rfl (rv_cell (g := w.heap.size) rfl (Box.newA w [_, _, _] _ rfl) rfl Try.underlying26 (by kernel_rfl)) (rv_tmp rfl)) rfl ⟨_, _, _, rfl, fun h => absurd h (by decide), fun _ => ⟨rfl, rfl, rfl⟩, hB0⟩
/-- What the third loop holds on to. -/
def TI_sq (W1 : World) (bm : Nat) (m n : Nat) (ws : List Nat) (k : Nat) (W : World) : Prop := OM W1 bm (bm + 1) (.int .i64 m) (.int .i64 n) 35 (ws.map (Value.float .f64)) k W ∧ ∀ j, j < k → inrB (ws.getD j 0) = true
set_option maxHeartbeats 16000000 in
theorem take_in_sq (w : World) (m n : Nat) (a : Option Addr) (ws : List Nat) (ac : Nat) (Bw Bn : Nat) (hA : Wds w a ws) (hW : Words ws) (hm : m ≤ 512) (hn : n ≤ 512) (hl : ws.length = m * n) (h : ws.all ffin = true) (hmn' : m = n) (xw : Box w Bw [.slice a ws.length ac]) (xn : Box w Bn [.int .i64 n]) :
    Calls Try.prog 62 #[.int .i64 m, .int .i64 n, .slice a ws.length ac, .func (.func 63) #[] #[.pointer (some ⟨Bw, 0, none⟩), .pointer (some ⟨Bn, 0, none⟩)]] w fun e w' => TakeR w w' m n ws (if okAll m n (okSq ws n) = false then 1 else if ws.all inrB = true then 0 else 2) e := by
  obtain ⟨i0, hi0, hz0, hz1, hz2⟩ := info_parts info_f64
  have hmn : m * n ≤ 512 * 512 := Nat.mul_le_mul hm hn
  have hB0 : Below w.heap.size w (w.alloc (.cells #[.int .i64 0, .int .i64 0, .slice none 0 0] 26)) := (Below.refl _ _).alloc (Nat.le_refl _) _
  have HC := Lib.hid (fun W (hW' : Below w.heap.size w W) => ContainsFuncU_any 90 (fun x => !ffin x) (fun x w hx => take1_any x hx w) (fun _ _ => rfl) W a ws ac (hA.below hW') hW (by unfold maxLen; omega))
  have hany : ws.any (fun x => !ffin x) = false := by
    rw [List.all_eq_true] at h
    rw [List.any_eq_false]
    intro x hx
    simp [h x hx]
  rw [hany] at HC
  obtain ⟨C, hC⟩ : ∃ C : Int, C = if okAll m n (okSq ws n) = false then 1 else if ws.all inrB = true then 0 else 2 := ⟨_, rfl⟩
  rw [← hC]
  have HCd := Lib.hid hC
  have e1 : (m : Int) * (n : Int) = (ws.length : Int) := by rw [hl]; exact (Int.natCast_mul _ _).symm
  have hlb : ws.length ≤ 262144 := by omega
  have t1 : decide ((m : Int) < 0) = false := decide_eq_false (by omega)
  have t2 : decide ((512 : Int) < (m : Int)) = false := decide_eq_false (by omega)
  have t3 : decide ((n : Int) < 0) = false := decide_eq_false (by omega)
  have t4 : decide ((512 : Int) < (n : Int)) = false := decide_eq_false (by omega)
  have x0 : Box (w.alloc (.cells #[.int .i64 0, .int .i64 0, .slice none 0 0] 26)) w.heap.size [.int .i64 0, .int .i64 0, .slice none 0 0] := Box.newA w [_, _, _] _ rfl
  have hs0 : (w.alloc (.cells #[.int .i64 0, .int .i64 0, .slice none 0 0] 26)).heap.size = w.heap.size + 1 := by simp
  have HAL := Lib.hid (fun (W : World) (hW' : Below (w.alloc (.cells #[.int .i64 0, .int .i64 0, .slice none 0 0] 26)).heap.size (w.alloc (.cells #[.int .i64 0, .int .i64 0, .slice none 0 0] 26)) W) (i k : Nat) (hi : i < m) (hk : k < n) => Square1_any W a ws ac n i k Bw Bn ((hA.below hB0).below hW') hW (by rw [hl, hmn']) hn (by omega) hk ((xw.below hB0).below hW') ((xn.below hB0).below hW'))
  clear xw xn hmn'
  have HA := Lib.hid hA
  have HWd := Lib.hid hW
  have HL := Lib.hid hl
  clear hmn h hany hA hW hC hl
  go_enter Try.func62, Try.ntmps62
  go_wp2_with fail
  refine (HC.out _ hB0).mono ?_
  rintro e w' ⟨rfl, rfl⟩
  go_wp2
  clear t1 t2 t3 t4 HC e1
  generalize w.alloc (.cells #[.int .i64 0, .int .i64 0, .slice none 0 0] 26) = W0 at *
  go_loopw [43] (fun s wr => ∃ i : Nat, i ≤ m ∧ s = .int .i64 i ∧ (∀ i', i' < i → ∀ k', k' < n → okSq ws n i' k' = true) ∧ Below W0.heap.size W0 wr) (fun s _ => m - (intOf s).toNat)
  case atStart => exact ⟨0, Nat.zero_le _, rfl, fun _ h => absurd h (Nat.not_lt_zero _), Below.refl _ _⟩
  case round =>
    obtain ⟨i, hi, rfl, hall, hB⟩ := hrel
    have HAll := Lib.hid hall
    clear hall
    by_cases hlt : i < m
    · go_wp2
      obtain ⟨wo, rfl⟩ : ∃ wo : World, wo = wr := ⟨_, rfl⟩
      go_loopw [47] (fun s wr => ∃ k : Nat, k ≤ n ∧ s = .int .i64 k ∧ (∀ k', k' < k → okSq ws n i k' = true) ∧ Below W0.heap.size W0 wr) (fun s _ => n - (intOf s).toNat)
      case atStart => exact ⟨0, Nat.zero_le _, rfl, fun _ h => absurd h (Nat.not_lt_zero _), hB⟩
      case round =>
        obtain ⟨k, hk, rfl, hin, hB2⟩ := hrel
        have HIn := Lib.hid hin
        clear hin
        by_cases hlt2 : k < n
        · have HK := Lib.hid (HAL.out wr hB2 i k hlt hlt2)
          cases hok : okSq ws n i k
          · rw [hok] at HK
            have hCv : C = 1 := by
              rw [HCd.out, if_pos]
              unfold okAll
              rw [List.all_eq_false]
              refine ⟨i, List.mem_range.2 hlt, ?_⟩
              rw [Bool.not_eq_true, List.all_eq_false]
              exact ⟨k, List.mem_range.2 hlt2, by simp [hok]⟩
            have HCv := Lib.hid hCv
            clear hCv hok
            have y0 := x0.below hB2
            have hs2 := hB2.size
            have hB3 := below_step hB0 hB0.size hB2
            obtain ⟨q1, q2, q3⟩ := y0.facts
            clear y0 q1 q2 q3 hB
            go_wp2_with fail
            refine HK.out.mono ?_
            rintro e w2 ⟨rfl, hb2⟩
            have hB4 := below_step hB3 hB3.size hb2
            have y0 := (x0.below hB2).below hb2
            have hs3 := hb2.size
            obtain ⟨q1, q2, q3⟩ := y0.facts
            clear hB2 hB3 hb2
            go_wp2
            refine bodyPost_ret (results_two rfl (rv_cell (g := w.heap.size) rfl (((y0.set 0 _).set 1 _).set 2 _) rfl Try.underlying26 (by kernel_rfl)) (rv_tmp rfl)) rfl ⟨0, 0, .slice none 0 0, ?_, fun h => absurd (HCv.out ▸ h) (by decide), fun _ => ⟨rfl, rfl, rfl⟩, ?_⟩
            · rw [HCv.out]; rfl
            · exact below_set (below_set (below_set hB4 (Nat.le_refl _) _ _) (Nat.le_refl _) _ _) (Nat.le_refl _) _ _
          · rw [hok] at HK
            have HOk := Lib.hid hok
            clear hok
            go_wp2_with fail
            refine HK.out.mono ?_
            rintro e w2 ⟨rfl, hb2⟩
            have hB3 := below_step hB2 hB2.size hb2
            go_wp2
            go_roundw
            case rel => exact ⟨k + 1, hlt2, by go_num, fun k' hk' => (by
              by_cases e : k' = k
              · subst e; exact HOk.out
              · exact HIn.out k' (by omega)), hB3⟩
            case measure => simp [intOf]; omega
        · obtain rfl : k = n := by omega
          go_wp2
          go_roundw
          case rel => exact ⟨i + 1, hlt, by go_num, fun i' hi' k' hk' => (by
            by_cases e : i' = i
            · subst e; exact HIn.out k' hk'
            · exact HAll.out i' (by omega) k' hk'), hB2⟩
          case measure => simp [intOf]; omega
    · obtain rfl : i = m := by omega
      have hokk : okAll i n (okSq ws n) = true := by
        unfold okAll
        rw [List.all_eq_true]
        intro x hx
        rw [List.all_eq_true]
        intro y hy
        exact HAll.out x (List.mem_range.1 hx) y (List.mem_range.1 hy)
      have hC2 : C = if ws.all inrB = true then 0 else 2 := by rw [HCd.out, hokk, if_neg (by decide)]
      have HC2 := Lib.hid hC2
      clear hokk hC2 HAL HAll HCd
      have y0 := x0.below hB
      have hs2 := hB.size
      have hB3 := below_step hB0 hB0.size hB
      clear x0 hB0 hB hlt
      go_wp2
      obtain ⟨wo, rfl⟩ : ∃ wo : World, wo = wr := ⟨_, rfl⟩
      have hA1 : Below wo.heap.size wo (wo.alloc (.cells #[.int .i64 i, .int .i64 n, .slice none 0 0] 26)) := (Below.refl _ _).alloc (Nat.le_refl _) _
      have hzb : Box (wo.alloc (.cells #[.int .i64 i, .int .i64 n, .slice none 0 0] 26)) wo.heap.size [.int .i64 i, .int .i64 n, .slice none 0 0] := Box.newA wo [_, _, _] _ rfl
      have hs1 : (wo.alloc (.cells #[.int .i64 i, .int .i64 n, .slice none 0 0] 26)).heap.size = wo.heap.size + 1 := by simp
      have y1 := y0.below hA1
      have hB4 := below_step hB3 hB3.size hA1
      have hlw := y0.lt
      clear hA1 y0 hB3
      have hgen : wo.heap.size = wo.heap.size := rfl
      generalize wo.alloc (.cells #[.int .i64 i, .int .i64 n, .slice none 0 0] 26) = W1 at *
      generalize wo.heap.size = bm at *
      go_loopw [63] (fun s wr => ∃ k : Nat, k ≤ ws.length ∧ s = .int .i64 k ∧ TI_sq W1 bm i n ws k wr) (fun s _ => ws.length - (intOf s).toNat)
      case atStart => exact ⟨0, Nat.zero_le _, rfl, ⟨⟨.slice none 0 0, hzb, World.ownsRow_nil _ _ _ _⟩, Bel.refl _ _ _, by omega⟩, fun _ h => absurd h (Nat.not_lt_zero _)⟩
      case round =>
        obtain ⟨k, hk, rfl, hO, hin⟩ := hrel
        obtain ⟨⟨sv, hbx, hrow⟩, hbel, hsz⟩ := hO
        have HIn := Lib.hid hin
        clear hin
        have z0 := y1.belB (by omega) (by omega) hbel
        by_cases hlt : k < ws.length
        · obtain ⟨b, o, rfl, hb, c0⟩ := HA.out.at hlt
          have c1 : wr.cell? ⟨b, o + k, none⟩ = some (.int .u64 (ws.getD k 0 : Nat)) := by
            unfold World.cell? at c0 ⊢
            rw [show wr.heap[(⟨b, o + k, none⟩ : Addr).block]? = wr.heap[b]? from rfl, hbel.block b (by omega) (by omega), hB4.block b hb]
            exact c0
          clear c0
          have hv := HWd.out.at k
          have HI := Lib.hid (fun W => ginr_any (ws.getD k 0) hv W)
          have hxk : (ws.map (Value.float .f64))[k]? = some (.float .f64 (ws.getD k 0)) := by simp [hlt]
          have HT := Lib.hid (take_get hxk)
          cases hir : inrB (ws.getD k 0)
          · rw [hir] at HI
            have hCv : C = 2 := by
              rw [HC2.out, if_neg]
              rw [Bool.not_eq_true, List.all_eq_false]
              exact ⟨ws.getD k 0, by simp [hlt], by rw [hir]; decide⟩
            have HCv := Lib.hid hCv
            clear hCv hir hxk hv hbx hrow
            obtain ⟨q1, q2, q3⟩ := z0.facts
            generalize ws.getD k 0 = z at *
            go_wp2_with (go_at_call 21; refine (HI.out _).mono ?_; rintro e w' ⟨rfl, rfl⟩)
            refine bodyPost_ret (results_two rfl (rv_cell (g := w.heap.size) rfl (((z0.set 0 _).set 1 _).set 2 _) rfl Try.underlying26 (by kernel_rfl)) (rv_tmp rfl)) rfl ⟨0, 0, .slice none 0 0, ?_, fun h => absurd (HCv.out ▸ h) (by decide), fun _ => ⟨rfl, rfl, rfl⟩, ?_⟩
            · rw [HCv.out]; rfl
            · have hB5 : Below w.heap.size w wr := hB4.trans ((hbel.mono (by omega)).below (by omega))
              exact below_set (below_set (below_set hB5 (Nat.le_refl _) _ _) (Nat.le_refl _) _ _) (Nat.le_refl _) _ _
          · rw [hir] at HI
            have HIr := Lib.hid hir
            clear hir hxk
            have HR := Lib.hid hrow
            obtain ⟨q1, q2, q3⟩ := hbx.facts
            have hzz : (ws.getD k 0 : Int).toNat = ws.getD k 0 := Int.toNat_natCast _
            generalize hz : ws.getD k 0 = z at *
            have HZk := Lib.hid hz
            clear hz hrow hv
            have hkr : k + 1 ≤ 262144 := by omega
            go_wp2_with (go_at_call 21; refine (HI.out _).mono ?_; rintro e w' ⟨rfl, rfl⟩)
            have s0 := (SB.refl hsz).S
            have hl1 : bm < bm + 1 := by omega
            have hn3 : bm ≠ wr.heap.size := by omega
            refine wp_region_first 6 [0, 1, 2, 3] [4, 5] (fun W => SB (bm + 1) wr W ∧ ∀ b o, b < bm + 1 → W.cell? ⟨b, o, none⟩ = wr.cell? ⟨b, o, none⟩) (by kernel_rfl) (by kernel_rfl) (SBS.drew s0) ?_
            iterate 4 (refine pW_take (v := ?_) rfl rfl ?_ ?_; rotate_left; (next => (intro w' hSw; (try dsimp only at hSw); go_simp; (try with_reducible rfl))); (simp only [Act.put, List.setIfInBounds_toArray, List.set_cons_zero, List.set_cons_succ]))
            refine pW_nil ?_
            refine mW_take rfl rfl ?_
            go_simp
            refine ⟨SBS.alloc (SBS.drew s0), ?_⟩
            refine mW_take rfl rfl ?_
            refine wp_append_lies _ (.tmp 72) (.tmp 75) 24 rfl (bm + 1) 35 i0 (.float .f64 0) 1 8 Try.underlying24 hi0 hz0 hz1 hz2 rfl (by decide) _ k _ rfl (HR.out.drew.alloc _) _ 1 1 [.float .f64 z] rfl rfl (cell_one_new _ _ _) (by simp [Value.oneCell']) (by decide) (by unfold maxLen; omega) (by omega) (by simp; omega) _ rfl ?_
            intro g cap w1 hown hgrow hat hlt'
            refine ⟨SBS.grown (SBS.alloc (SBS.drew s0)) hgrow (fun q e => (HR.out.lt q e).1), ?_⟩
            refine mW_nil ?_
            have hbx1 := Box.grown (Box.alloc (show Box wr.drew _ _ from hbx) _) hgrow (fun q e => by have := (HR.out.lt q e).1; omega)
            obtain ⟨q1, q2, q3⟩ := hbx1.facts
            simp only [List.drop, Act.put, List.setIfInBounds_toArray, List.set_cons_zero, List.set_cons_succ]
            go_wp2
            refine NoPanic.normal ?_
            go_wp2
            go_roundw
            case rel => exact ⟨k + 1, hlt, by go_num, OM.app (W := wr.drew) hbx HR.out.drew hbel.drew hsz (by omega) HT.out hgrow hown, fun j hj => (by
              by_cases e : j = k
              · subst e; rw [HZk.out]; exact HIr.out
              · exact HIn.out j (by omega))⟩
            case measure => simp [intOf]; omega
        · obtain rfl : k = ws.length := by omega
          have hCv : C = 0 := by
            rw [HC2.out, if_pos]
            rw [List.all_eq_true]
            intro x hx
            obtain ⟨j, hj, rfl⟩ := List.getElem_of_mem hx
            have := HIn.out j hj
            simpa [hj] using this
          have HCv := Lib.hid hCv
          clear hCv
          rw [List.take_of_length_le (by simp)] at hrow
          have HR := Lib.hid hrow
          obtain ⟨sa, scap, rfl⟩ := ownsRow_slice hrow
          clear hrow
          obtain ⟨q1, q2, q3⟩ := z0.facts
          obtain ⟨q4, q5, q6⟩ := hbx.facts
          go_wp2
          refine bodyPost_ret (results_two rfl (rv_cell (g := w.heap.size) rfl (((z0.set 0 _).set 1 _).set 2 _) rfl Try.underlying26 (by kernel_rfl)) (rv_tmp rfl)) rfl ⟨i, n, .slice sa ws.length scap, ?_, fun _ => ⟨rfl, rfl, ?_⟩, fun h => absurd HCv.out h, ?_⟩
          · rw [HCv.out]; rfl
          · have hset : Bel wr.heap.size w.heap.size wr (((wr.setCell ⟨w.heap.size, 0, none⟩ (.int .i64 (i : Int))).setCell ⟨w.heap.size, 1, none⟩ (.int .i64 (n : Int))).setCell ⟨w.heap.size, 2, none⟩ (.slice sa ws.length scap)) := (((Bel.refl _ _ _).set _ _).set _ _).set _ _
            exact ownsRow_monoS' (ownsRow_bel HR.out hset (by omega)) (by omega)
          · have hB5 : Below w.heap.size w wr := hB4.trans ((hbel.mono (by omega)).below (by omega))
            exact below_set (below_set (below_set hB5 (Nat.le_refl _) _ _) (Nat.le_refl _) _ _) (Nat.le_refl _) _ _
end Go.Proofs.Ytogkmddhgfenkaa
