/- Layer 17: values that are not finite are not sorted (printed by gen_ul.py). No condition but on lengths. -/
import Derived.Test.YtdljnhdhigbefaaZz11
namespace Go.Proofs.Ytdljnhdhigbefaa
open Go Go.RowKit
set_option maxRecDepth 1000000

set_option maxHeartbeats 8000000 in
theorem gsorted_bad (w : World) (a ua va : Option Addr) (l u v : List Nat) (wc uc vc ru rv : Nat) (hl : Fls w a l) (hW : Words l) (hn : l.length ≤ 512) (hru : ru ≤ 512) (hrv : rv ≤ 512) (hul : u.length = ru * l.length) (hvl : v.length = rv * l.length) (hfin : l.all ffin = false) :
    Calls Try.prog 60 #[.slice a l.length wc, .agg #[.int .i64 ru, .int .i64 l.length, .slice ua u.length uc], .agg #[.int .i64 rv, .int .i64 l.length, .slice va v.length vc]] w fun r w' => r = .returned (.tuple #[.slice none 0 0, nilM, nilM, .int .i64 10]) ∧ Below w.heap.size w w' := by
  have hlu : u.length ≤ 262144 := by rw [hul]; exact Nat.le_trans (Nat.mul_le_mul hru hn) (by decide)
  have hlv : v.length ≤ 262144 := by rw [hvl]; exact Nat.le_trans (Nat.mul_le_mul hrv hn) (by decide)
  have HMu := Lib.hid (fun W => mayB_of hru hn hul ▸ GmayM_any W (ru : Int) (l.length : Int) ua u.length uc (by unfold maxLen; omega))
  have HMv := Lib.hid (fun W => mayB_of hrv hn hvl ▸ GmayM_any W (rv : Int) (l.length : Int) va v.length vc (by unfold maxLen; omega))
  have HF := Lib.hid (fun W (h : Below w.heap.size w W) => hfin ▸ GFin_any W a l wc (hl.below h) hW (by unfold maxLen; omega))
  have t1 : ((l.length : Int) != (l.length : Int)) = false := bne_self_eq_false _
  obtain ⟨W0, hW0⟩ : ∃ W0, W0 = ((((w.alloc (.cells #[.int .i64 ru, .int .i64 l.length, .slice ua u.length uc] 26)).alloc (.cells #[.int .i64 rv, .int .i64 l.length, .slice va v.length vc] 26)).alloc (.cells #[.int .i64 0, .int .i64 0, .slice none 0 0] 26)).alloc (.cells #[.int .i64 0, .int .i64 0, .slice none 0 0] 26)) := ⟨_, rfl⟩
  have hB0 : Below w.heap.size w W0 := hW0 ▸ ((((Below.refl _ _).alloc (Nat.le_refl _) _).alloc (by simp) _).alloc (by simp; omega) _).alloc (by simp; omega) _
  have x4 : Box W0 w.heap.size [.int .i64 ru, .int .i64 l.length, .slice ua u.length uc] := hW0 ▸ (((Box.newA w [.int .i64 ru, .int .i64 l.length, .slice ua u.length uc] _ rfl).alloc _).alloc _).alloc _
  have x5 : Box W0 (w.heap.size + 1) [.int .i64 rv, .int .i64 l.length, .slice va v.length vc] := hW0 ▸ ((Box.newA _ [.int .i64 rv, .int .i64 l.length, .slice va v.length vc] _ (by simp)).alloc _).alloc _
  have x7 : Box W0 (w.heap.size + 1 + 1) [.int .i64 0, .int .i64 0, .slice none 0 0] := hW0 ▸ (Box.newA _ [.int .i64 0, .int .i64 0, .slice none 0 0] _ (by simp)).alloc _
  have x8 : Box W0 (w.heap.size + 1 + 1 + 1) [.int .i64 0, .int .i64 0, .slice none 0 0] := hW0 ▸ Box.newA _ [.int .i64 0, .int .i64 0, .slice none 0 0] _ (by simp)
  have S0 := Lib.hid (show BoxU w W0 [(w.heap.size, [.int .i64 ru, .int .i64 l.length, .slice ua u.length uc]), (w.heap.size + 1, [.int .i64 rv, .int .i64 l.length, .slice va v.length vc]), (w.heap.size + 1 + 1, [.int .i64 0, .int .i64 0, .slice none 0 0]), (w.heap.size + 1 + 1 + 1, [.int .i64 0, .int .i64 0, .slice none 0 0])] from ⟨fun p hp => by
    simp only [List.mem_cons, List.not_mem_nil, or_false] at hp
    rcases hp with rfl | rfl | rfl | rfl
    · exact x4
    · exact x5
    · exact x7
    · exact x8
    , hB0⟩)
  clear hl hW hn hru hrv hul hvl hfin hB0 x4 x5 x7 x8 hlu hlv
  go_enter Try.func60, Try.ntmps60
  go_upto_region 1 with (fail)
  rw [← hW0]
  clear hW0
  obtain ⟨f01, f02, f03⟩ := (S0.out.get 0 rfl).facts
  obtain ⟨f11, f12, f13⟩ := (S0.out.get 1 rfl).facts
  go_wp2_with fail
  refine (HMu.out _).mono ?_
  rintro e w1 ⟨rfl, hb⟩
  clear f01 f02 f03 f11 f12 f13
  have S1 := Lib.hid (S0.out.step hb)
  clear hb S0
  dsimp only
  obtain ⟨f01, f02, f03⟩ := (S1.out.get 0 rfl).facts
  obtain ⟨f11, f12, f13⟩ := (S1.out.get 1 rfl).facts
  go_wp2_with fail
  refine (HMv.out _).mono ?_
  rintro e w2 ⟨rfl, hb⟩
  clear f01 f02 f03 f11 f12 f13
  have S2 := Lib.hid (S1.out.step hb)
  clear hb S1
  dsimp only
  obtain ⟨f01, f02, f03⟩ := (S2.out.get 0 rfl).facts
  obtain ⟨f11, f12, f13⟩ := (S2.out.get 1 rfl).facts
  go_wp2_with fail
  refine (HF.out _ S2.out.below).mono ?_
  rintro e w3 ⟨rfl, rfl⟩
  clear f01 f02 f03 f11 f12 f13
  dsimp only
  obtain ⟨f01, f02, f03⟩ := (S2.out.get 0 rfl).facts
  obtain ⟨f11, f12, f13⟩ := (S2.out.get 1 rfl).facts
  go_wp2_with fail
  refine (none4_any _ 10).mono ?_
  rintro e w3 ⟨rfl, hb⟩
  clear f01 f02 f03 f11 f12 f13
  have S3 := Lib.hid (S2.out.step hb)
  clear hb S2
  unfold nilM
  obtain ⟨f21, f22, f23⟩ := (S3.out.get 2 rfl).facts
  obtain ⟨f31, f32, f33⟩ := (S3.out.get 3 rfl).facts
  go_wp2_with fail
  have h7 := S3.out.get 2 rfl
  have h8 := S3.out.get 3 rfl
  have hB := S3.out.below
  have z7 := (Box.put3 h7 (.int .i64 0) (.int .i64 0) (.slice none 0 0)).set_other3U (m := w.heap.size + 1 + 1 + 1) (by omega) (v0 := .int .i64 0) (v1 := .int .i64 0) (v2 := .slice none 0 0)
  have z8 := Box.put3 (h8.set_other3U (m := w.heap.size + 1 + 1) (by omega) (v0 := .int .i64 0) (v1 := .int .i64 0) (v2 := .slice none 0 0)) (.int .i64 0) (.int .i64 0) (.slice none 0 0)
  exact bodyPost_ret (results_four rfl (rv_tmp rfl) (rv_cell (g := w.heap.size + 1 + 1) rfl z7 rfl Try.underlying26 (by kernel_rfl)) (rv_cell (g := w.heap.size + 1 + 1 + 1) rfl z8 rfl Try.underlying26 (by kernel_rfl)) (rv_tmp rfl)) rfl ⟨rfl, below_put3 (below_put3 hB (by omega) _ _ _) (by omega) _ _ _⟩
end Go.Proofs.Ytdljnhdhigbefaa

/- Layer 17: what can't be solved is refused (printed by gen_um.py). No condition but on lengths. -/
namespace Go.Proofs.Ytdljnhdhigbefaa
open Go Go.RowKit
set_option maxRecDepth 1000000

/-- Why it can't be solved. -/
def wrongG (m1 m2 m3 c1 c2 f1 f2 f3 f4 : Bool) : Int := if m1 && m2 && m3 then (if c1 && c2 then (if f1 && f2 && f3 && f4 then 0 else 10) else 8) else 2

set_option maxHeartbeats 16000000 in
theorem gsolve_err (w : World) (da ea ua va : Option Addr) (nd dc ne ec nu uc nv vc : Nat) (ur uk vr vk : Int) (m1 m2 m3 f1 f2 f3 f4 : Bool)
    (M1 : ∀ W, Below w.heap.size w W → Calls Try.prog 21 #[.agg #[.slice da nd dc, .slice ea ne ec]] W fun e w' => e = .returned (.bool m1) ∧ Below W.heap.size W w')
    (M2 : ∀ W, Below w.heap.size w W → Calls Try.prog 52 #[.agg #[.int .i64 ur, .int .i64 uk, .slice ua nu uc]] W fun e w' => e = .returned (.bool m2) ∧ Below W.heap.size W w')
    (M3 : ∀ W, Below w.heap.size w W → Calls Try.prog 52 #[.agg #[.int .i64 vr, .int .i64 vk, .slice va nv vc]] W fun e w' => e = .returned (.bool m3) ∧ Below W.heap.size W w')
    (F1 : ∀ W, Below w.heap.size w W → Calls Try.prog 53 #[.slice da nd dc] W fun e w' => e = .returned (.bool f1) ∧ Below W.heap.size W w')
    (F2 : ∀ W, Below w.heap.size w W → Calls Try.prog 53 #[.slice ea ne ec] W fun e w' => e = .returned (.bool f2) ∧ Below W.heap.size W w')
    (F3 : ∀ W, Below w.heap.size w W → Calls Try.prog 53 #[.slice ua nu uc] W fun e w' => e = .returned (.bool f3) ∧ Below W.heap.size W w')
    (F4 : ∀ W, Below w.heap.size w W → Calls Try.prog 53 #[.slice va nv vc] W fun e w' => e = .returned (.bool f4) ∧ Below W.heap.size W w')
    (E : Int) (hE : wrongG m1 m2 m3 (decide (uk = (nd : Int))) (decide (vk = (nd : Int))) f1 f2 f3 f4 = E) (h0 : E ≠ 0) :
    Calls Try.prog 16 #[.agg #[.slice da nd dc, .slice ea ne ec], .agg #[.int .i64 ur, .int .i64 uk, .slice ua nu uc], .agg #[.int .i64 vr, .int .i64 vk, .slice va nv vc]] w fun r w' => r = .returned (.tuple #[.slice none 0 0, nilM, nilM, .int .i64 0, .int .i64 E]) ∧ Below w.heap.size w w' := by
  have HM1 := Lib.hid M1
  have HM2 := Lib.hid M2
  have HM3 := Lib.hid M3
  have HF1 := Lib.hid F1
  have HF2 := Lib.hid F2
  have HF3 := Lib.hid F3
  have HF4 := Lib.hid F4
  have HE := Lib.hid (And.intro hE h0)
  clear M1 M2 M3 F1 F2 F3 F4 hE h0
  obtain ⟨W0, hW0⟩ : ∃ W0, W0 = (((((w.alloc (.cells #[.slice da nd dc, .slice ea ne ec] 24)).alloc (.cells #[.int .i64 ur, .int .i64 uk, .slice ua nu uc] 26)).alloc (.cells #[.int .i64 vr, .int .i64 vk, .slice va nv vc] 26)).alloc (.cells #[.int .i64 0, .int .i64 0, .slice none 0 0] 26)).alloc (.cells #[.int .i64 0, .int .i64 0, .slice none 0 0] 26)) := ⟨_, rfl⟩
  have hB0 : Below w.heap.size w W0 := hW0 ▸ (((((Below.refl _ _).alloc (Nat.le_refl _) _).alloc (by simp) _).alloc (by simp; omega) _).alloc (by simp; omega) _).alloc (by simp; omega) _
  have x0 : Box W0 (w.heap.size) [.slice da nd dc, .slice ea ne ec] := hW0 ▸ (((((Box.newA w [.slice da nd dc, .slice ea ne ec] _ rfl).alloc _).alloc _).alloc _).alloc _)
  have x1 : Box W0 (w.heap.size + 1) [.int .i64 ur, .int .i64 uk, .slice ua nu uc] := hW0 ▸ ((((Box.newA _ [.int .i64 ur, .int .i64 uk, .slice ua nu uc] _ (by simp)).alloc _).alloc _).alloc _)
  have x2 : Box W0 (w.heap.size + 1 + 1) [.int .i64 vr, .int .i64 vk, .slice va nv vc] := hW0 ▸ (((Box.newA _ [.int .i64 vr, .int .i64 vk, .slice va nv vc] _ (by simp)).alloc _).alloc _)
  have x3 : Box W0 (w.heap.size + 1 + 1 + 1) [.int .i64 0, .int .i64 0, .slice none 0 0] := hW0 ▸ ((Box.newA _ [.int .i64 0, .int .i64 0, .slice none 0 0] _ (by simp)).alloc _)
  have x4 : Box W0 (w.heap.size + 1 + 1 + 1 + 1) [.int .i64 0, .int .i64 0, .slice none 0 0] := hW0 ▸ (Box.newA _ [.int .i64 0, .int .i64 0, .slice none 0 0] _ (by simp))
  have S0 := Lib.hid (show BoxU w W0 [(w.heap.size, [.slice da nd dc, .slice ea ne ec]), (w.heap.size + 1, [.int .i64 ur, .int .i64 uk, .slice ua nu uc]), (w.heap.size + 1 + 1, [.int .i64 vr, .int .i64 vk, .slice va nv vc]), (w.heap.size + 1 + 1 + 1, [.int .i64 0, .int .i64 0, .slice none 0 0]), (w.heap.size + 1 + 1 + 1 + 1, [.int .i64 0, .int .i64 0, .slice none 0 0])] from ⟨fun p hp => by
    simp only [List.mem_cons, List.not_mem_nil, or_false] at hp
    rcases hp with rfl | rfl | rfl | rfl | rfl
    · exact x0
    · exact x1
    · exact x2
    · exact x3
    · exact x4
    , hB0⟩)
  clear hB0 x0 x1 x2 x3 x4
  go_enter Try.func16, Try.ntmps16
  go_upto_region 1 with (fail)
  rw [← hW0]
  clear hW0
  obtain ⟨f01, f02, f03⟩ := (S0.out.get 0 rfl).facts
  obtain ⟨f11, f12, f13⟩ := (S0.out.get 1 rfl).facts
  obtain ⟨f21, f22, f23⟩ := (S0.out.get 2 rfl).facts
  go_wp2_with fail
  refine (HM1.out _ S0.out.below).mono ?_
  rintro e w1 ⟨rfl, hb⟩
  clear f01 f02 f03 f11 f12 f13 f21 f22 f23
  have S1 := Lib.hid (S0.out.step hb)
  clear hb
  dsimp only
  cases m1
  case false =>
    have hE : E = 2 := HE.out.1.symm
    obtain ⟨f01, f02, f03⟩ := (S1.out.get 0 rfl).facts
    obtain ⟨f11, f12, f13⟩ := (S1.out.get 1 rfl).facts
    obtain ⟨f21, f22, f23⟩ := (S1.out.get 2 rfl).facts
    go_wp2_with fail
    refine (none5_any _ 0 2).mono ?_
    rintro e w2 ⟨rfl, hb⟩
    clear f01 f02 f03 f11 f12 f13 f21 f22 f23
    have S2 := Lib.hid (S1.out.step hb)
    clear hb
    dsimp only
    unfold nilM
    obtain ⟨f31, f32, f33⟩ := (S2.out.get 3 rfl).facts
    obtain ⟨f41, f42, f43⟩ := (S2.out.get 4 rfl).facts
    go_wp2_with fail
    have h7 := S2.out.get 3 rfl
    have h8 := S2.out.get 4 rfl
    have hB := S2.out.below
    have z7 := (Box.put3 h7 (.int .i64 0) (.int .i64 0) (.slice none 0 0)).set_other3U (m := w.heap.size + 1 + 1 + 1 + 1) (by omega) (v0 := .int .i64 0) (v1 := .int .i64 0) (v2 := .slice none 0 0)
    have z8 := Box.put3 (h8.set_other3U (m := w.heap.size + 1 + 1 + 1) (by omega) (v0 := .int .i64 0) (v1 := .int .i64 0) (v2 := .slice none 0 0)) (.int .i64 0) (.int .i64 0) (.slice none 0 0)
    exact bodyPost_ret (results_five rfl (rv_tmp rfl) (rv_cell (g := w.heap.size + 1 + 1 + 1) rfl z7 rfl Try.underlying26 (by kernel_rfl)) (rv_cell (g := w.heap.size + 1 + 1 + 1 + 1) rfl z8 rfl Try.underlying26 (by kernel_rfl)) (rv_tmp rfl) (rv_tmp rfl)) rfl ⟨by rw [hE]; rfl, below_put3 (below_put3 hB (by omega) _ _ _) (by omega) _ _ _⟩
  case true =>
  obtain ⟨f01, f02, f03⟩ := (S1.out.get 0 rfl).facts
  obtain ⟨f11, f12, f13⟩ := (S1.out.get 1 rfl).facts
  obtain ⟨f21, f22, f23⟩ := (S1.out.get 2 rfl).facts
  go_wp2_with fail
  refine (HM2.out _ S1.out.below).mono ?_
  rintro e w3 ⟨rfl, hb⟩
  clear f01 f02 f03 f11 f12 f13 f21 f22 f23
  have S3 := Lib.hid (S1.out.step hb)
  clear hb
  dsimp only
  cases m2
  case false =>
    have hE : E = 2 := HE.out.1.symm
    obtain ⟨f01, f02, f03⟩ := (S3.out.get 0 rfl).facts
    obtain ⟨f11, f12, f13⟩ := (S3.out.get 1 rfl).facts
    obtain ⟨f21, f22, f23⟩ := (S3.out.get 2 rfl).facts
    go_wp2_with fail
    refine (none5_any _ 0 2).mono ?_
    rintro e w4 ⟨rfl, hb⟩
    clear f01 f02 f03 f11 f12 f13 f21 f22 f23
    have S4 := Lib.hid (S3.out.step hb)
    clear hb
    dsimp only
    unfold nilM
    obtain ⟨f31, f32, f33⟩ := (S4.out.get 3 rfl).facts
    obtain ⟨f41, f42, f43⟩ := (S4.out.get 4 rfl).facts
    go_wp2_with fail
    have h7 := S4.out.get 3 rfl
    have h8 := S4.out.get 4 rfl
    have hB := S4.out.below
    have z7 := (Box.put3 h7 (.int .i64 0) (.int .i64 0) (.slice none 0 0)).set_other3U (m := w.heap.size + 1 + 1 + 1 + 1) (by omega) (v0 := .int .i64 0) (v1 := .int .i64 0) (v2 := .slice none 0 0)
    have z8 := Box.put3 (h8.set_other3U (m := w.heap.size + 1 + 1 + 1) (by omega) (v0 := .int .i64 0) (v1 := .int .i64 0) (v2 := .slice none 0 0)) (.int .i64 0) (.int .i64 0) (.slice none 0 0)
    exact bodyPost_ret (results_five rfl (rv_tmp rfl) (rv_cell (g := w.heap.size + 1 + 1 + 1) rfl z7 rfl Try.underlying26 (by kernel_rfl)) (rv_cell (g := w.heap.size + 1 + 1 + 1 + 1) rfl z8 rfl Try.underlying26 (by kernel_rfl)) (rv_tmp rfl) (rv_tmp rfl)) rfl ⟨by rw [hE]; rfl, below_put3 (below_put3 hB (by omega) _ _ _) (by omega) _ _ _⟩
  case true =>
  obtain ⟨f01, f02, f03⟩ := (S3.out.get 0 rfl).facts
  obtain ⟨f11, f12, f13⟩ := (S3.out.get 1 rfl).facts
  obtain ⟨f21, f22, f23⟩ := (S3.out.get 2 rfl).facts
  go_wp2_with fail
  refine (HM3.out _ S3.out.below).mono ?_
  rintro e w5 ⟨rfl, hb⟩
  clear f01 f02 f03 f11 f12 f13 f21 f22 f23
  have S5 := Lib.hid (S3.out.step hb)
  clear hb
  dsimp only
  cases m3
  case false =>
    have hE : E = 2 := HE.out.1.symm
    obtain ⟨f01, f02, f03⟩ := (S5.out.get 0 rfl).facts
    obtain ⟨f11, f12, f13⟩ := (S5.out.get 1 rfl).facts
    obtain ⟨f21, f22, f23⟩ := (S5.out.get 2 rfl).facts
    go_wp2_with fail
    refine (none5_any _ 0 2).mono ?_
    rintro e w6 ⟨rfl, hb⟩
    clear f01 f02 f03 f11 f12 f13 f21 f22 f23
    have S6 := Lib.hid (S5.out.step hb)
    clear hb
    dsimp only
    unfold nilM
    obtain ⟨f31, f32, f33⟩ := (S6.out.get 3 rfl).facts
    obtain ⟨f41, f42, f43⟩ := (S6.out.get 4 rfl).facts
    go_wp2_with fail
    have h7 := S6.out.get 3 rfl
    have h8 := S6.out.get 4 rfl
    have hB := S6.out.below
    have z7 := (Box.put3 h7 (.int .i64 0) (.int .i64 0) (.slice none 0 0)).set_other3U (m := w.heap.size + 1 + 1 + 1 + 1) (by omega) (v0 := .int .i64 0) (v1 := .int .i64 0) (v2 := .slice none 0 0)
    have z8 := Box.put3 (h8.set_other3U (m := w.heap.size + 1 + 1 + 1) (by omega) (v0 := .int .i64 0) (v1 := .int .i64 0) (v2 := .slice none 0 0)) (.int .i64 0) (.int .i64 0) (.slice none 0 0)
    exact bodyPost_ret (results_five rfl (rv_tmp rfl) (rv_cell (g := w.heap.size + 1 + 1 + 1) rfl z7 rfl Try.underlying26 (by kernel_rfl)) (rv_cell (g := w.heap.size + 1 + 1 + 1 + 1) rfl z8 rfl Try.underlying26 (by kernel_rfl)) (rv_tmp rfl) (rv_tmp rfl)) rfl ⟨by rw [hE]; rfl, below_put3 (below_put3 hB (by omega) _ _ _) (by omega) _ _ _⟩
  case true =>
  by_cases hc1 : uk = (nd : Int)
  case neg =>
    have hE : E = 8 := by have h := HE.out.1; rw [decide_eq_false hc1] at h; exact h.symm
    have tc1 : (uk != (nd : Int)) = true := by simpa using hc1
    clear hc1
    obtain ⟨f01, f02, f03⟩ := (S5.out.get 0 rfl).facts
    obtain ⟨f11, f12, f13⟩ := (S5.out.get 1 rfl).facts
    obtain ⟨f21, f22, f23⟩ := (S5.out.get 2 rfl).facts
    go_wp2_with fail
    refine (none5_any _ 0 8).mono ?_
    rintro e w7 ⟨rfl, hb⟩
    clear f01 f02 f03 f11 f12 f13 f21 f22 f23
    have S7 := Lib.hid (S5.out.step hb)
    clear hb
    dsimp only
    unfold nilM
    obtain ⟨f31, f32, f33⟩ := (S7.out.get 3 rfl).facts
    obtain ⟨f41, f42, f43⟩ := (S7.out.get 4 rfl).facts
    go_wp2_with fail
    have h7 := S7.out.get 3 rfl
    have h8 := S7.out.get 4 rfl
    have hB := S7.out.below
    have z7 := (Box.put3 h7 (.int .i64 0) (.int .i64 0) (.slice none 0 0)).set_other3U (m := w.heap.size + 1 + 1 + 1 + 1) (by omega) (v0 := .int .i64 0) (v1 := .int .i64 0) (v2 := .slice none 0 0)
    have z8 := Box.put3 (h8.set_other3U (m := w.heap.size + 1 + 1 + 1) (by omega) (v0 := .int .i64 0) (v1 := .int .i64 0) (v2 := .slice none 0 0)) (.int .i64 0) (.int .i64 0) (.slice none 0 0)
    exact bodyPost_ret (results_five rfl (rv_tmp rfl) (rv_cell (g := w.heap.size + 1 + 1 + 1) rfl z7 rfl Try.underlying26 (by kernel_rfl)) (rv_cell (g := w.heap.size + 1 + 1 + 1 + 1) rfl z8 rfl Try.underlying26 (by kernel_rfl)) (rv_tmp rfl) (rv_tmp rfl)) rfl ⟨by rw [hE]; rfl, below_put3 (below_put3 hB (by omega) _ _ _) (by omega) _ _ _⟩
  case pos =>
  by_cases hc2 : vk = (nd : Int)
  case neg =>
    have hE : E = 8 := by have h := HE.out.1; rw [decide_eq_false hc2] at h; rw [decide_eq_true hc1] at h; exact h.symm
    have tc2 : (vk != (nd : Int)) = true := by simpa using hc2
    have tc1 : (uk != (nd : Int)) = false := by simpa using hc1
    clear hc2 hc1
    obtain ⟨f01, f02, f03⟩ := (S5.out.get 0 rfl).facts
    obtain ⟨f11, f12, f13⟩ := (S5.out.get 1 rfl).facts
    obtain ⟨f21, f22, f23⟩ := (S5.out.get 2 rfl).facts
    go_wp2_with fail
    refine (none5_any _ 0 8).mono ?_
    rintro e w8 ⟨rfl, hb⟩
    clear f01 f02 f03 f11 f12 f13 f21 f22 f23
    have S8 := Lib.hid (S5.out.step hb)
    clear hb
    dsimp only
    unfold nilM
    obtain ⟨f31, f32, f33⟩ := (S8.out.get 3 rfl).facts
    obtain ⟨f41, f42, f43⟩ := (S8.out.get 4 rfl).facts
    go_wp2_with fail
    have h7 := S8.out.get 3 rfl
    have h8 := S8.out.get 4 rfl
    have hB := S8.out.below
    have z7 := (Box.put3 h7 (.int .i64 0) (.int .i64 0) (.slice none 0 0)).set_other3U (m := w.heap.size + 1 + 1 + 1 + 1) (by omega) (v0 := .int .i64 0) (v1 := .int .i64 0) (v2 := .slice none 0 0)
    have z8 := Box.put3 (h8.set_other3U (m := w.heap.size + 1 + 1 + 1) (by omega) (v0 := .int .i64 0) (v1 := .int .i64 0) (v2 := .slice none 0 0)) (.int .i64 0) (.int .i64 0) (.slice none 0 0)
    exact bodyPost_ret (results_five rfl (rv_tmp rfl) (rv_cell (g := w.heap.size + 1 + 1 + 1) rfl z7 rfl Try.underlying26 (by kernel_rfl)) (rv_cell (g := w.heap.size + 1 + 1 + 1 + 1) rfl z8 rfl Try.underlying26 (by kernel_rfl)) (rv_tmp rfl) (rv_tmp rfl)) rfl ⟨by rw [hE]; rfl, below_put3 (below_put3 hB (by omega) _ _ _) (by omega) _ _ _⟩
  case pos =>
  have tc1 : (uk != (nd : Int)) = false := by simpa using hc1
  have tc2 : (vk != (nd : Int)) = false := by simpa using hc2
  have HE2 := Lib.hid (show wrongG true true true true true f1 f2 f3 f4 = E by have h := HE.out.1; rw [decide_eq_true hc1, decide_eq_true hc2] at h; exact h)
  clear hc1 hc2
  obtain ⟨f01, f02, f03⟩ := (S5.out.get 0 rfl).facts
  obtain ⟨f11, f12, f13⟩ := (S5.out.get 1 rfl).facts
  obtain ⟨f21, f22, f23⟩ := (S5.out.get 2 rfl).facts
  go_wp2_with fail
  refine (HF1.out _ S5.out.below).mono ?_
  rintro e w9 ⟨rfl, hb⟩
  clear f01 f02 f03 f11 f12 f13 f21 f22 f23
  have S9 := Lib.hid (S5.out.step hb)
  clear hb
  dsimp only
  cases f1
  case false =>
    have hE : E = 10 := HE2.out.symm
    obtain ⟨f01, f02, f03⟩ := (S9.out.get 0 rfl).facts
    obtain ⟨f11, f12, f13⟩ := (S9.out.get 1 rfl).facts
    obtain ⟨f21, f22, f23⟩ := (S9.out.get 2 rfl).facts
    go_wp2_with fail
    refine (none5_any _ 0 10).mono ?_
    rintro e w10 ⟨rfl, hb⟩
    clear f01 f02 f03 f11 f12 f13 f21 f22 f23
    have S10 := Lib.hid (S9.out.step hb)
    clear hb
    dsimp only
    unfold nilM
    obtain ⟨f31, f32, f33⟩ := (S10.out.get 3 rfl).facts
    obtain ⟨f41, f42, f43⟩ := (S10.out.get 4 rfl).facts
    go_wp2_with fail
    have h7 := S10.out.get 3 rfl
    have h8 := S10.out.get 4 rfl
    have hB := S10.out.below
    have z7 := (Box.put3 h7 (.int .i64 0) (.int .i64 0) (.slice none 0 0)).set_other3U (m := w.heap.size + 1 + 1 + 1 + 1) (by omega) (v0 := .int .i64 0) (v1 := .int .i64 0) (v2 := .slice none 0 0)
    have z8 := Box.put3 (h8.set_other3U (m := w.heap.size + 1 + 1 + 1) (by omega) (v0 := .int .i64 0) (v1 := .int .i64 0) (v2 := .slice none 0 0)) (.int .i64 0) (.int .i64 0) (.slice none 0 0)
    exact bodyPost_ret (results_five rfl (rv_tmp rfl) (rv_cell (g := w.heap.size + 1 + 1 + 1) rfl z7 rfl Try.underlying26 (by kernel_rfl)) (rv_cell (g := w.heap.size + 1 + 1 + 1 + 1) rfl z8 rfl Try.underlying26 (by kernel_rfl)) (rv_tmp rfl) (rv_tmp rfl)) rfl ⟨by rw [hE]; rfl, below_put3 (below_put3 hB (by omega) _ _ _) (by omega) _ _ _⟩
  case true =>
  obtain ⟨f01, f02, f03⟩ := (S9.out.get 0 rfl).facts
  obtain ⟨f11, f12, f13⟩ := (S9.out.get 1 rfl).facts
  obtain ⟨f21, f22, f23⟩ := (S9.out.get 2 rfl).facts
  go_wp2_with fail
  refine (HF2.out _ S9.out.below).mono ?_
  rintro e w11 ⟨rfl, hb⟩
  clear f01 f02 f03 f11 f12 f13 f21 f22 f23
  have S11 := Lib.hid (S9.out.step hb)
  clear hb
  dsimp only
  cases f2
  case false =>
    have hE : E = 10 := HE2.out.symm
    obtain ⟨f01, f02, f03⟩ := (S11.out.get 0 rfl).facts
    obtain ⟨f11, f12, f13⟩ := (S11.out.get 1 rfl).facts
    obtain ⟨f21, f22, f23⟩ := (S11.out.get 2 rfl).facts
    go_wp2_with fail
    refine (none5_any _ 0 10).mono ?_
    rintro e w12 ⟨rfl, hb⟩
    clear f01 f02 f03 f11 f12 f13 f21 f22 f23
    have S12 := Lib.hid (S11.out.step hb)
    clear hb
    dsimp only
    unfold nilM
    obtain ⟨f31, f32, f33⟩ := (S12.out.get 3 rfl).facts
    obtain ⟨f41, f42, f43⟩ := (S12.out.get 4 rfl).facts
    go_wp2_with fail
    have h7 := S12.out.get 3 rfl
    have h8 := S12.out.get 4 rfl
    have hB := S12.out.below
    have z7 := (Box.put3 h7 (.int .i64 0) (.int .i64 0) (.slice none 0 0)).set_other3U (m := w.heap.size + 1 + 1 + 1 + 1) (by omega) (v0 := .int .i64 0) (v1 := .int .i64 0) (v2 := .slice none 0 0)
    have z8 := Box.put3 (h8.set_other3U (m := w.heap.size + 1 + 1 + 1) (by omega) (v0 := .int .i64 0) (v1 := .int .i64 0) (v2 := .slice none 0 0)) (.int .i64 0) (.int .i64 0) (.slice none 0 0)
    exact bodyPost_ret (results_five rfl (rv_tmp rfl) (rv_cell (g := w.heap.size + 1 + 1 + 1) rfl z7 rfl Try.underlying26 (by kernel_rfl)) (rv_cell (g := w.heap.size + 1 + 1 + 1 + 1) rfl z8 rfl Try.underlying26 (by kernel_rfl)) (rv_tmp rfl) (rv_tmp rfl)) rfl ⟨by rw [hE]; rfl, below_put3 (below_put3 hB (by omega) _ _ _) (by omega) _ _ _⟩
  case true =>
  obtain ⟨f01, f02, f03⟩ := (S11.out.get 0 rfl).facts
  obtain ⟨f11, f12, f13⟩ := (S11.out.get 1 rfl).facts
  obtain ⟨f21, f22, f23⟩ := (S11.out.get 2 rfl).facts
  go_wp2_with fail
  refine (HF3.out _ S11.out.below).mono ?_
  rintro e w13 ⟨rfl, hb⟩
  clear f01 f02 f03 f11 f12 f13 f21 f22 f23
  have S13 := Lib.hid (S11.out.step hb)
  clear hb
  dsimp only
  cases f3
  case false =>
    have hE : E = 10 := HE2.out.symm
    obtain ⟨f01, f02, f03⟩ := (S13.out.get 0 rfl).facts
    obtain ⟨f11, f12, f13⟩ := (S13.out.get 1 rfl).facts
    obtain ⟨f21, f22, f23⟩ := (S13.out.get 2 rfl).facts
    go_wp2_with fail
    refine (none5_any _ 0 10).mono ?_
    rintro e w14 ⟨rfl, hb⟩
    clear f01 f02 f03 f11 f12 f13 f21 f22 f23
    have S14 := Lib.hid (S13.out.step hb)
    clear hb
    dsimp only
    unfold nilM
    obtain ⟨f31, f32, f33⟩ := (S14.out.get 3 rfl).facts
    obtain ⟨f41, f42, f43⟩ := (S14.out.get 4 rfl).facts
    go_wp2_with fail
    have h7 := S14.out.get 3 rfl
    have h8 := S14.out.get 4 rfl
    have hB := S14.out.below
    have z7 := (Box.put3 h7 (.int .i64 0) (.int .i64 0) (.slice none 0 0)).set_other3U (m := w.heap.size + 1 + 1 + 1 + 1) (by omega) (v0 := .int .i64 0) (v1 := .int .i64 0) (v2 := .slice none 0 0)
    have z8 := Box.put3 (h8.set_other3U (m := w.heap.size + 1 + 1 + 1) (by omega) (v0 := .int .i64 0) (v1 := .int .i64 0) (v2 := .slice none 0 0)) (.int .i64 0) (.int .i64 0) (.slice none 0 0)
    exact bodyPost_ret (results_five rfl (rv_tmp rfl) (rv_cell (g := w.heap.size + 1 + 1 + 1) rfl z7 rfl Try.underlying26 (by kernel_rfl)) (rv_cell (g := w.heap.size + 1 + 1 + 1 + 1) rfl z8 rfl Try.underlying26 (by kernel_rfl)) (rv_tmp rfl) (rv_tmp rfl)) rfl ⟨by rw [hE]; rfl, below_put3 (below_put3 hB (by omega) _ _ _) (by omega) _ _ _⟩
  case true =>
  obtain ⟨f01, f02, f03⟩ := (S13.out.get 0 rfl).facts
  obtain ⟨f11, f12, f13⟩ := (S13.out.get 1 rfl).facts
  obtain ⟨f21, f22, f23⟩ := (S13.out.get 2 rfl).facts
  go_wp2_with fail
  refine (HF4.out _ S13.out.below).mono ?_
  rintro e w15 ⟨rfl, hb⟩
  clear f01 f02 f03 f11 f12 f13 f21 f22 f23
  have S15 := Lib.hid (S13.out.step hb)
  clear hb
  dsimp only
  cases f4
  case false =>
    have hE : E = 10 := HE2.out.symm
    obtain ⟨f01, f02, f03⟩ := (S15.out.get 0 rfl).facts
    obtain ⟨f11, f12, f13⟩ := (S15.out.get 1 rfl).facts
    obtain ⟨f21, f22, f23⟩ := (S15.out.get 2 rfl).facts
    go_wp2_with fail
    refine (none5_any _ 0 10).mono ?_
    rintro e w16 ⟨rfl, hb⟩
    clear f01 f02 f03 f11 f12 f13 f21 f22 f23
    have S16 := Lib.hid (S15.out.step hb)
    clear hb
    dsimp only
    unfold nilM
    obtain ⟨f31, f32, f33⟩ := (S16.out.get 3 rfl).facts
    obtain ⟨f41, f42, f43⟩ := (S16.out.get 4 rfl).facts
    go_wp2_with fail
    have h7 := S16.out.get 3 rfl
    have h8 := S16.out.get 4 rfl
    have hB := S16.out.below
    have z7 := (Box.put3 h7 (.int .i64 0) (.int .i64 0) (.slice none 0 0)).set_other3U (m := w.heap.size + 1 + 1 + 1 + 1) (by omega) (v0 := .int .i64 0) (v1 := .int .i64 0) (v2 := .slice none 0 0)
    have z8 := Box.put3 (h8.set_other3U (m := w.heap.size + 1 + 1 + 1) (by omega) (v0 := .int .i64 0) (v1 := .int .i64 0) (v2 := .slice none 0 0)) (.int .i64 0) (.int .i64 0) (.slice none 0 0)
    exact bodyPost_ret (results_five rfl (rv_tmp rfl) (rv_cell (g := w.heap.size + 1 + 1 + 1) rfl z7 rfl Try.underlying26 (by kernel_rfl)) (rv_cell (g := w.heap.size + 1 + 1 + 1 + 1) rfl z8 rfl Try.underlying26 (by kernel_rfl)) (rv_tmp rfl) (rv_tmp rfl)) rfl ⟨by rw [hE]; rfl, below_put3 (below_put3 hB (by omega) _ _ _) (by omega) _ _ _⟩
  case true =>
  exact absurd HE2.out.symm HE.out.2
end Go.Proofs.Ytdljnhdhigbefaa

/- Layer 17: a slice of one nought, just made. -/
namespace Go.Proofs.Ytdljnhdhigbefaa
open Go Go.RowKit
set_option maxRecDepth 1000000

theorem OwnF.zero (w : World) : OwnF (w.alloc (.cells #[.float .f64 0] 40)) w.heap.size (.slice (some ⟨w.heap.size, 0, none⟩) 1 1) [0] :=
  ⟨[0], rfl, fun i u hi => by
    cases i with
    | zero => simp at hi; subst hi; exact ⟨0, by rw [raw_of_not (by kernel_rfl)]; rfl⟩
    | succ i => simp at hi, ⟨rfl, .inr ⟨w.heap.size, 1, #[.float .f64 0], rfl, Nat.le_refl _, by unfold World.alloc; exact Array.getElem?_push_size, by decide, by unfold maxLen; omega, rfl, rfl⟩⟩⟩
end Go.Proofs.Ytdljnhdhigbefaa

/- Layer 17: what gk.Solve holds while it goes on (no rows, too). No condition but on lengths. -/
namespace Go.Proofs.Ytdljnhdhigbefaa
open Go Go.RowKit
set_option maxRecDepth 1000000

/-- Floats, appended to a slice of one nought: they come into its own block, or into a new one. -/
theorem run_append_oneF (w : World) (ty : TypeId) (g : Nat) (xa : Option Addr) (l2 : List Nat) (cap : Nat) (hO : OwnF w g (.slice (some ⟨g, 0, none⟩) 1 1) [0]) (hZ : Fls w xa l2) (hn : xa = none → l2 = [] ∧ cap = 0) (hl : l2.length ≤ 262000) (hg : g < w.heap.size) :
    ∃ b c w', (Builtin.append_ #[22, 22] ty #[.slice (some ⟨g, 0, none⟩) 1 1, .slice xa l2.length cap]).run Try.prog w = .ok (.slice (some ⟨b, 0, none⟩) (0 :: l2).length c) w' ∧ FS w' (some ⟨b, 0, none⟩) b (0 :: l2) ∧ b < w'.heap.size ∧ (b = g ∨ w.heap.size ≤ b) ∧ Bel w.heap.size g w w' := by
  have fin : ∀ (b c : Nat) (w' : World), OwnF w' g (.slice (some ⟨b, 0, none⟩) (0 :: l2).length c) (0 :: l2) → FS w' (some ⟨b, 0, none⟩) b (0 :: l2) ∧ b < w'.heap.size := fun b c w' h => by
    obtain ⟨a, b', cp, hv, _, _, _, hF, hlt⟩ := h.fs
    have hlt := hlt (by simp)
    rcases hF with h0 | ⟨rfl, hF⟩
    · cases h0
    · obtain rfl : b = b' := by injection hv with h1 _ _; injection h1 with h1; injection h1
      exact ⟨.inr ⟨rfl, hF⟩, hlt⟩
  obtain ⟨i0, hi, hz0, hz1, hz2⟩ := info_parts info_f64
  cases xa with
  | none =>
    obtain ⟨rfl, rfl⟩ := hn rfl
    have hF := fin g 1 w hO
    obtain ⟨us, hul, hus, hO⟩ := hO
    exact ⟨g, 1, w, run_append_owned_none (P := Try.prog) (w := w) g 22 ty 40 i0 1 Try.underlying22 hi _ _ _ hO, hF.1, hF.2, .inl rfl, Bel.refl _ _ _⟩
  | some ad =>
    obtain ⟨ws, hwl, hws, hC⟩ := hZ.words
    obtain ⟨us, hul, hus, hO⟩ := hO
    have hnews : ∀ j u, (ws.map (Value.float .f64))[j]? = some u → w.cell? (ad.add j) = some u := fun j u hu => by
      simp only [List.getElem?_map, Option.map_eq_some_iff] at hu
      obtain ⟨x, hx, rfl⟩ := hu
      have hw0 : ws ≠ [] := fun h => by rw [h] at hx; simp at hx
      obtain ⟨b, off, e, _, hc⟩ := hC hw0
      obtain rfl : ad = ⟨b, off, none⟩ := by simpa using e
      have h2 : (⟨b, off, none⟩ : Addr).add j = ⟨b, off + j, none⟩ := by unfold Addr.add; split <;> simp_all
      rw [h2]
      exact hc j x hx
    have hn1 : (ws.map (Value.float .f64)).length = l2.length * i0.size := by rw [List.length_map, hwl, hz1, Nat.mul_one]
    obtain ⟨v', w', hr, h2, h3, _⟩ := run_append_own (P := Try.prog) w g 22 ty 40 i0 (.float .f64 0) 1 8 Try.underlying22 hi hz0 hz1 hz2 rfl (by decide) _ _ (us.map (Value.float .f64)) hO ad l2.length cap (ws.map (Value.float .f64)) (by rw [List.length_map, hwl, Nat.mul_one]) hnews (by simp [Value.oneCell']) (by simp; unfold maxLen; omega) (by simp; omega) (Nat.le_of_lt hg)
    have hOF : OwnF w' g v' (0 :: l2) := ⟨us ++ ws, by rw [List.length_append, hul, hwl]; simp; omega, fun i u hi => by
      cases i with
      | zero => obtain ⟨s, hs⟩ := hus 0 u (by simpa using hi); exact ⟨s, by rw [List.getElem?_append_left (by rw [hul]; decide)]; exact hs⟩
      | succ i =>
        obtain ⟨s, hs⟩ := hws i u (by simpa using hi)
        exact ⟨s, by rw [List.getElem?_append_right (by rw [hul]; simp), hul]; simpa using hs⟩, by
      have : (0 :: l2).length = [0].length + l2.length := by simp; omega
      rw [this, List.map_append]; exact h2⟩
    have hB : Bel w.heap.size g w w' := ⟨h3.os, h3.tape, h3.output, h3.size, fun k hk hne => h3.block k hk (by simp only [Value.ownBlock, ne_eq, Option.some.injEq]; omega)⟩
    have hval : ∃ b c, v' = .slice (some ⟨b, 0, none⟩) (0 :: l2).length c ∧ (b = g ∨ w.heap.size ≤ b) := by
      have hlen : (0 :: l2).length = 1 + l2.length := by simp; omega
      by_cases h0 : l2.length = 0
      · rcases hO.2 with ⟨h, _⟩ | ⟨g', cp, cur, he, _, hg', hnc, hcm, hcs, _⟩
        · cases h
        · injection he with e1 _ e3
          injection e1 with e1
          injection e1 with e1
          subst e1 e3
          have hr2 := run_append_room (P := Try.prog) w 22 ty 40 i0 Try.underlying22 hi g 1 1 cur hg' ad l2.length cap (ws.map (Value.float .f64)) hn1 hnews (by simp [Value.oneCell']) (by omega) (by rw [List.length_map, hwl, h0, hz1, hcs]; decide)
          rw [hr2] at hr
          injection hr with hr _
          exact ⟨g, 1, by rw [← hr, hlen], .inl rfl⟩
      · have holds : ∀ j u, (us.map (Value.float .f64))[j]? = some u → w.cell? ((⟨g, 0, none⟩ : Addr).add j) = some u := World.ownsRow.cells (g := g) hO rfl
        have hr2 := run_append_grow (P := Try.prog) w 22 ty 40 i0 (.float .f64 0) Try.underlying22 hi hz0 ⟨g, 0, none⟩ 1 1 (us.map (Value.float .f64)) (by rw [List.length_map, hul, hz1]; rfl) holds ad l2.length cap (ws.map (Value.float .f64)) hn1 hnews (by omega) (by omega) (growslice_fits (by omega) (by rw [hz2]; omega))
        have hr3 := hr
        change (Builtin.append_ _ ty #[.slice (some ⟨g, 0, none⟩) 1 1, _]).run Try.prog w = _ at hr3
        rw [hr2] at hr3
        injection hr3 with hr3 _
        exact ⟨w.heap.size, _, by rw [← hr3, hlen], .inr (Nat.le_refl _)⟩
    obtain ⟨b, c, rfl, hb⟩ := hval
    have hF := fin b c w' hOF
    exact ⟨b, c, w', hr, hF.1, hF.2, hb, hB⟩
theorem wp_append_oneF {w : World} {o : Oper} {a : Act} {K : Act → World → Prop} {Q : Exit → Act → World → Prop} (s x : Operand)
    (ho : o.op = .call { callee := .builtin .append, args := #[s, x], argTypes := #[22, 22] })
    (g : Nat) (hs : a.eval s = .slice (some ⟨g, 0, none⟩) 1 1) (hO : OwnF w g (.slice (some ⟨g, 0, none⟩) 1 1) [0]) (xa : Option Addr) (l2 : List Nat) (cap : Nat) (hx : a.eval x = .slice xa l2.length cap) (hZ : Fls w xa l2) (hn : xa = none → l2 = [] ∧ cap = 0) (hl : l2.length ≤ 262000) (hg : g < w.heap.size)
    (h : ∀ b c w', FS w' (some ⟨b, 0, none⟩) b (0 :: l2) → b < w'.heap.size → (b = g ∨ w.heap.size ≤ b) → Bel w.heap.size g w w' → K (a.put o.dst (.slice (some ⟨b, 0, none⟩) (0 :: l2).length c)) w') : Oper.wp Try.prog o a w K Q := by
  obtain ⟨b, c, w', hr, h1, h2, h3, h4⟩ := run_append_oneF w o.type g xa l2 cap hO hZ hn hl hg
  unfold Oper.wp execOp
  simp only [ho, resolve, invoke, builtin, Sem.run_bind, Sem.run_pure, Result.andThen_ok, List.map_toArray, List.map_cons, List.map_nil, hs, hx, hr]
  exact h _ _ _ h1 h2 h3 h4
/-- Where gk.Solve's parts lie. -/
structure GsP where
  X : Nat
  n : Nat
  ne : Nat
  ru : Nat
  rv : Nat
  ad : Option Addr
  ae : Option Addr
  au : Option Addr
  av : Option Addr
  dc : Nat
  ec : Nat
  uc : Nat
  vc : Nat
  bd : Nat
  be : Nat
  bu : Nat
  bv : Nat
def GsP.cs (p : GsP) (big sb : Nat) : List Value :=
  [.slice p.ad p.n p.dc, .slice p.ae p.ne p.ec, .int .i64 p.ru, .int .i64 p.n, .slice p.au (p.ru * p.n) p.uc, .int .i64 p.rv, .int .i64 p.n, .slice p.av (p.rv * p.n) p.vc, .float .f64 (raw big sb)]
def GsP.q (p : GsP) (big sb : Nat) : GkP := ⟨p.n, p.ne, p.ru, p.rv, p.bd, p.be, p.bu, p.bv, p.dc, p.ec, p.uc, p.vc, p.au, p.av, big, sb⟩
structure GSt (w W : World) (p : GsP) (g : GkS) (big : Nat) : Prop where
  box : ∃ sb, Box W p.X (p.cs big sb)
  x3 : Box W (w.heap.size + 1 + 1 + 1) [.int .i64 0, .int .i64 0, .slice none 0 0]
  x4 : Box W (w.heap.size + 1 + 1 + 1 + 1) [.int .i64 0, .int .i64 0, .slice none 0 0]
  d : FS W p.ad p.bd g.d
  e : FS W p.ae p.be g.e
  u : MxF W p.ru p.n p.au p.uc p.bu g.u
  v : MxF W p.rv p.n p.av p.vc p.bv g.v
  ld : g.d.length = p.n
  le : g.e.length = p.ne
  hn : p.n ≤ p.ne ∧ p.ne ≤ 600 ∧ p.n ≤ 512 ∧ p.ru ≤ 512 ∧ p.rv ≤ 512
  wd : Words g.d
  we : Words g.e
  wb : big < 18446744073709551616
  nd : [p.X, p.bd, p.be, p.bu, p.bv].Nodup
  lo : w.heap.size + 1 + 1 + 1 + 1 < p.X ∧ w.heap.size + 1 + 1 + 1 + 1 < p.bd ∧ w.heap.size + 1 + 1 + 1 + 1 < p.be ∧ w.heap.size + 1 + 1 + 1 + 1 < p.bu ∧ w.heap.size + 1 + 1 + 1 + 1 < p.bv
  below : Below w.heap.size w W
section
variable {w W W' : World} {p : GsP} {g g' : GkS} {big big' sb' : Nat}
theorem GSt.step (h : GSt w W p g big) (hb : Below W.heap.size W W') : GSt w W' p g big := by
  obtain ⟨sb, hx⟩ := h.box
  exact ⟨⟨sb, hx.below hb⟩, h.x3.below hb, h.x4.below hb, h.d.below hb, h.e.below hb, h.u.below hb, h.v.below hb, h.ld, h.le, h.hn, h.wd, h.we, h.wb, h.nd, h.lo, below_step h.below h.below.size hb⟩
theorem GSt.stw (h : GSt w W p g big) (h0 : 0 < p.n) : ∃ sb, StW W p.X (p.q big sb) g := by
  obtain ⟨sb, hx⟩ := h.box
  have hd0 : g.d ≠ [] := fun e => by have := h.ld; rw [e] at this; simp at this; omega
  have he0 : g.e ≠ [] := fun e => by have hq := h.le; have := h.hn; rw [e] at hq; simp at hq; omega
  obtain ⟨hd1, hd2⟩ : p.ad = some ⟨p.bd, 0, none⟩ ∧ Flb W p.bd g.d := h.d.resolve_left hd0
  obtain ⟨he1, he2⟩ : p.ae = some ⟨p.be, 0, none⟩ ∧ Flb W p.be g.e := h.e.resolve_left he0
  refine ⟨sb, ?_, hd2, he2, h.u, h.v, h.ld, h.le, h.hn, h.wd, h.we, h.wb, h.nd⟩
  have : p.cs big sb = (p.q big sb).cs := by unfold GsP.cs GkP.cs GsP.q; rw [hd1, he1]
  exact this ▸ hx
theorem GSt.back (h : GSt w W p g big) (h0 : 0 < p.n) (hs : StW W' p.X (p.q big' sb') g') (hb : Bls [p.X, p.bd, p.be, p.bu, p.bv] W.heap.size W W') : GSt w W' p g' big' := by
  have hd0 : g.d ≠ [] := fun e => by have := h.ld; rw [e] at this; simp at this; omega
  have he0 : g.e ≠ [] := fun e => by have hq := h.le; have := h.hn; rw [e] at hq; simp at hq; omega
  obtain ⟨hd1, hd2⟩ : p.ad = some ⟨p.bd, 0, none⟩ ∧ Flb W p.bd g.d := h.d.resolve_left hd0
  obtain ⟨he1, he2⟩ : p.ae = some ⟨p.be, 0, none⟩ ∧ Flb W p.be g.e := h.e.resolve_left he0
  have hl := h.lo
  have hc : p.cs big' sb' = (p.q big' sb').cs := by unfold GsP.cs GkP.cs GsP.q; rw [hd1, he1]
  refine ⟨⟨sb', hc ▸ hs.box⟩, h.x3.bls hb h.x3.lt (by simp only [List.mem_cons, List.not_mem_nil, or_false, not_or]; omega), h.x4.bls hb h.x4.lt (by simp only [List.mem_cons, List.not_mem_nil, or_false, not_or]; omega), .inr ⟨hd1, hs.d⟩, .inr ⟨he1, hs.e⟩, hs.u, hs.v, hs.ld, hs.le, h.hn, hs.wd, hs.we, hs.wb, h.nd, h.lo, ?_⟩
  exact h.below.trans ((hb.mono h.below.size).below (by intro k hk; simp only [List.mem_cons, List.not_mem_nil, or_false] at hk; omega))
theorem StW.setB (hs : StW W p.X (p.q big sb') g) (b s : Nat) (hb : b < 18446744073709551616) : StW (W.setCell ⟨p.X, 8, none⟩ (.float .f64 (raw b s))) p.X (p.q b s) g := by
  have hne := hs.ne
  obtain ⟨⟨n1, n2, n3, n4⟩, ⟨n5, n6, n7⟩, ⟨n8, n9⟩, n10⟩ := hne
  have hB : Bel W.heap.size p.X W (W.setCell ⟨p.X, 8, none⟩ (.float .f64 (raw b s))) := (Bel.refl _ _ _).set _ _
  exact ⟨hs.box.set 8 (.float .f64 (raw b s)), hs.d.other (fun e => n1 e.symm) _ _, hs.e.other (fun e => n2 e.symm) _ _, hs.u.bel (fun _ e => n3 e.symm) hB, hs.v.bel (fun _ e => n4 e.symm) hB, hs.ld, hs.le, hs.hn, hs.wd, hs.we, hb, hs.nd⟩
theorem GSt.setBig (h : GSt w W p g big) (h0 : 0 < p.n) (b s : Nat) (hb : b < 18446744073709551616) : GSt w (W.setCell ⟨p.X, 8, none⟩ (.float .f64 (raw b s))) p g b := by
  obtain ⟨sb, hs⟩ := h.stw h0
  exact h.back h0 (hs.setB b s hb) ((Bls.refl _ _ _).set (by simp) _ _)
end
/-- What is made becomes what is held. -/
theorem GSt.mk0 {w W : World} {X ru rv n ne : Nat} {ad ae au av : Option Addr} {dc ec uc vc bd be bu bv : Nat} {d e u v : List Nat}
    (hx : Box W X [.slice ad n dc, .slice ae ne ec, .int .i64 ru, .int .i64 n, .slice au (ru * n) uc, .int .i64 rv, .int .i64 n, .slice av (rv * n) vc, .float .f64 0])
    (h3 : Box W (w.heap.size + 1 + 1 + 1) [.int .i64 0, .int .i64 0, .slice none 0 0]) (h4 : Box W (w.heap.size + 1 + 1 + 1 + 1) [.int .i64 0, .int .i64 0, .slice none 0 0])
    (hd : FS W ad bd d) (he : FS W ae be e) (hu : FS W au bu u) (hv : FS W av bv v)
    (hlu : u.length = ru * n ∧ u.length ≤ uc ∧ uc ≤ maxLen ∧ Words u) (hlv : v.length = rv * n ∧ v.length ≤ vc ∧ vc ≤ maxLen ∧ Words v)
    (hl : d.length = n ∧ e.length = ne) (hn : n ≤ ne ∧ ne ≤ 600 ∧ n ≤ 512 ∧ ru ≤ 512 ∧ rv ≤ 512) (hw : Words d ∧ Words e)
    (hX : w.heap.size + 1 + 1 + 1 + 1 < X) (hbd : d ≠ [] → w.heap.size + 1 + 1 + 1 + 1 < bd ∧ bd ≠ X) (hbe : e ≠ [] → w.heap.size + 1 + 1 + 1 + 1 < be ∧ be ≠ X) (hbu : u ≠ [] → w.heap.size + 1 + 1 + 1 + 1 < bu ∧ bu ≠ X) (hbv : v ≠ [] → w.heap.size + 1 + 1 + 1 + 1 < bv ∧ bv ≠ X)
    (k1 : d ≠ [] → e ≠ [] → bd ≠ be) (k2 : d ≠ [] → u ≠ [] → bd ≠ bu) (k3 : d ≠ [] → v ≠ [] → bd ≠ bv) (k4 : e ≠ [] → u ≠ [] → be ≠ bu) (k5 : e ≠ [] → v ≠ [] → be ≠ bv) (k6 : u ≠ [] → v ≠ [] → bu ≠ bv)
    (hB : Below w.heap.size w W) : ∃ p : GsP, p.X = X ∧ p.n = n ∧ p.ne = ne ∧ p.ru = ru ∧ p.rv = rv ∧ GSt w W p ⟨d, e, u, v⟩ 0 := by
  obtain ⟨N, hN⟩ : ∃ N, N = X + bd + be + bu + bv + 1 := ⟨_, rfl⟩
  have pick : ∀ (l : List Nat) (a : Option Addr) (b k : Nat), FS W a b l → ∃ b', FS W a b' l ∧ ((l = [] ∧ b' = N + k) ∨ (l ≠ [] ∧ b' = b)) := fun l a b k h => by
    by_cases h0 : l = []
    · exact ⟨N + k, .inl h0, .inl ⟨h0, rfl⟩⟩
    · exact ⟨b, h, .inr ⟨h0, rfl⟩⟩
  obtain ⟨b1, f1, g1⟩ := pick _ _ _ 0 hd
  obtain ⟨b2, f2, g2⟩ := pick _ _ _ 1 he
  obtain ⟨b3, f3, g3⟩ := pick _ _ _ 2 hu
  obtain ⟨b4, f4, g4⟩ := pick _ _ _ 3 hv
  refine ⟨⟨X, n, ne, ru, rv, ad, ae, au, av, dc, ec, uc, vc, b1, b2, b3, b4⟩, rfl, rfl, rfl, rfl, rfl, ⟨0, ?_⟩, h3, h4, f1, f2, ⟨f3, hlu.1, ⟨hlu.2.1, hlu.2.2.1⟩, hlu.2.2.2⟩, ⟨f4, hlv.1, ⟨hlv.2.1, hlv.2.2.1⟩, hlv.2.2.2⟩, hl.1, hl.2, hn, hw.1, hw.2, by decide, ?_, ?_, hB⟩
  · have h0 : raw 0 0 = 0 := by rw [raw_of_not (by kernel_rfl)]
    unfold GsP.cs
    rw [h0]
    exact hx
  · simp only [List.nodup_cons, List.mem_cons, List.not_mem_nil, or_false, not_or, not_false_eq_true, List.nodup_nil, and_true]
    rcases g1 with ⟨_, g1⟩ | ⟨z1, g1⟩ <;> rcases g2 with ⟨_, g2⟩ | ⟨z2, g2⟩ <;> rcases g3 with ⟨_, g3⟩ | ⟨z3, g3⟩ <;> rcases g4 with ⟨_, g4⟩ | ⟨z4, g4⟩ <;>
      (try have a1 := (hbd z1).2) <;> (try have a2 := (hbe z2).2) <;> (try have a3 := (hbu z3).2) <;> (try have a4 := (hbv z4).2) <;>
      (try have c1 := k1 z1 z2) <;> (try have c2 := k2 z1 z3) <;> (try have c3 := k3 z1 z4) <;> (try have c4 := k4 z2 z3) <;> (try have c5 := k5 z2 z4) <;> (try have c6 := k6 z3 z4) <;> omega
  · show w.heap.size + 1 + 1 + 1 + 1 < X ∧ w.heap.size + 1 + 1 + 1 + 1 < b1 ∧ w.heap.size + 1 + 1 + 1 + 1 < b2 ∧ w.heap.size + 1 + 1 + 1 + 1 < b3 ∧ w.heap.size + 1 + 1 + 1 + 1 < b4
    rcases g1 with ⟨_, g1⟩ | ⟨z1, g1⟩ <;> rcases g2 with ⟨_, g2⟩ | ⟨z2, g2⟩ <;> rcases g3 with ⟨_, g3⟩ | ⟨z3, g3⟩ <;> rcases g4 with ⟨_, g4⟩ | ⟨z4, g4⟩ <;>
      (try have a1 := (hbd z1).1) <;> (try have a2 := (hbe z2).1) <;> (try have a3 := (hbu z3).1) <;> (try have a4 := (hbv z4).1) <;> omega
end Go.Proofs.Ytdljnhdhigbefaa
