/- 'plumblinelaw14.InverseNil' answers true (printed by gen_jc.py). No condition. -/
import Derived.Test.YtdljnhdhigbefaaZz27
import Derived.Test.YtdljnhdhigbefaaZz2
import Derived.Deep.Slices
import Derived.Laws.Cover2
import Derived.Lib.SmallJoins
import Derived.ProofKit
namespace Go.Proofs.Ytdljnhdhigbefaa
open Go Go.RowKit
set_option maxRecDepth 1000000
set_option linter.unusedSimpArgs false
set_option linter.unusedVariables false

set_option maxHeartbeats 2000000 in
theorem Start_err (w : World) (n j : Int) (h : n < 0 ∨ 512 < n ∨ j < 0) :
    Calls Try.prog 32 #[.int .i64 n, .int .i64 j] w fun e w' => e = .returned (.tuple #[.slice none 0 0, .int .i64 2]) ∧ w = w' := by
  by_cases h1 : n < 0
  · clear h
    go_enter Try.func32, Try.ntmps32
    go_wp2_with fail
    exact bodyPost_ret (results_two rfl (rv_tmp rfl) (rv_tmp rfl)) rfl ⟨rfl, rfl⟩
  · by_cases h2 : 512 < n
    · clear h
      go_enter Try.func32, Try.ntmps32
      go_wp2_with fail
      exact bodyPost_ret (results_two rfl (rv_tmp rfl) (rv_tmp rfl)) rfl ⟨rfl, rfl⟩
    · have h3 : j < 0 := by omega
      clear h
      go_enter Try.func32, Try.ntmps32
      go_wp2_with fail
      exact bodyPost_ret (results_two rfl (rv_tmp rfl) (rv_tmp rfl)) rfl ⟨rfl, rfl⟩
theorem knl1 : (let v := vcsL [9218868437227405311, 18442240474082181119] [9218868437227405311] [9218868437227405311] [0] 1; decide (1 ≤ v.steps) && decide (v.steps ≤ 3)) = true := by kernel_rfl
theorem knl2 : (let v := vcsL [0] [] [0] [0] 1; v.ok && decide (v.steps = 3)) = true := by kernel_rfl
theorem vkn1 (w : World) (a b m : Addr) (ha : Fls w (some a) [9218868437227405311, 18442240474082181119]) (hb : Fls w (some b) [9218868437227405311]) (hm : Fls w (some m) [9218868437227405311]) :
    Calls Try.prog 33 #[.agg #[.slice (some a) 2 2, .slice (some b) 1 1], .slice (some m) 1 1] w fun e w' => (∃ (r c : Int) (x : Option Addr) (y z : Nat) (st : Nat) (q : Int), e = .returned (.tuple #[.agg #[.int .i64 r, .int .i64 c, .slice x y z], .int .i64 st, .int .i64 q]) ∧ (q = 7 ∨ q = 0) ∧ 1 ≤ st ∧ st ≤ 3) ∧ Below w.heap.size w w' := by
  have hT : TrI w (some a) (some b) [9218868437227405311, 18442240474082181119] [9218868437227405311] 2 1 := ⟨ha, hb, (fun h => by cases h), (fun h => by cases h), wordsI_of (by kernel_rfl)⟩
  have hc : cluI [9218868437227405311, 18442240474082181119] [9218868437227405311] [9218868437227405311] = [0] := by kernel_rfl
  refine (Vectors_of w (some a) (some b) (some m) _ _ _ 2 1 1 2 1 1 rfl rfl rfl hT hm (wordsI_of (by kernel_rfl)) (by kernel_rfl) (fun x => askS [9218868437227405311, 18442240474082181119] [9218868437227405311] [x] = 0 ∧ x < 18446744073709551616) (fun h0 W x j ka kl kc cl h1 h2 => spec_fin w (some a) (some b) _ _ 2 1 2 1 rfl rfl h0 hT W x j ka kl kc cl h1 h2.1) (fun x hx => ⟨by have h := (askS_zero hx.1).2.2.2; exact isnan_ffinq (by simpa using h), hx.2⟩) (fun j hj _ => ?_)).mono ?_
  · rw [hc]
    match j, hj with
    | 0, _ => exact ⟨(by kernel_rfl : askS [9218868437227405311, 18442240474082181119] [9218868437227405311] [9218868437227405311] = 0), by decide⟩
  · rw [hc]
    rintro e w' ⟨h1, h2, h3⟩
    have k3 := knl1
    dsimp only at k3
    generalize vcsL [9218868437227405311, 18442240474082181119] [9218868437227405311] [9218868437227405311] [0] 1 = v at *
    simp only [Bool.and_eq_true, decide_eq_true_eq] at k3
    cases ho : v.ok
    · exact ⟨⟨_, _, _, _, _, _, _, h2 ho, .inl rfl, k3.1, k3.2⟩, h3⟩
    · obtain ⟨D, rfl, _⟩ := h1 ho
      exact ⟨⟨_, _, _, _, _, _, _, rfl, .inr rfl, k3.1, k3.2⟩, h3⟩
theorem vkn2 (w : World) (a m : Addr) (ha : Fls w (some a) [0]) (hm : Fls w (some m) [0]) :
    Calls Try.prog 33 #[.agg #[.slice (some a) 1 1, .slice none 0 0], .slice (some m) 1 1] w fun e w' => (∃ D, e = .returned (.tuple #[.agg #[.int .i64 1, .int .i64 1, .slice (some ⟨D, 0, none⟩) 1 1], .int .i64 3, .int .i64 0])) ∧ Below w.heap.size w w' := by
  have hT : TrI w (some a) none [0] [] 1 0 := ⟨ha, (fun h => absurd rfl h), (fun h => by cases h), (fun _ => ⟨rfl, rfl⟩), wordsI_of (by kernel_rfl)⟩
  have hc : cluI [0] [] [0] = [0] := by kernel_rfl
  refine (Vectors_of w (some a) none (some m) _ _ _ 1 0 1 1 0 1 rfl rfl rfl hT hm (wordsI_of (by kernel_rfl)) (by kernel_rfl) (fun x => askS [0] [] [x] = 0 ∧ x < 18446744073709551616) (fun h0 W x j ka kl kc cl h1 h2 => spec_fin w (some a) none _ _ 1 0 1 0 rfl rfl h0 hT W x j ka kl kc cl h1 h2.1) (fun x hx => ⟨by have h := (askS_zero hx.1).2.2.2; exact isnan_ffinq (by simpa using h), hx.2⟩) (fun j hj _ => ?_)).mono ?_
  · rw [hc]
    match j, hj with
    | 0, _ => exact ⟨(by kernel_rfl : askS [0] [] [0] = 0), by decide⟩
  · rw [hc]
    rintro e w' ⟨h1, h2, h3⟩
    have k3 := knl2
    dsimp only at k3
    generalize vcsL [0] [] [0] [0] 1 = v at *
    simp only [Bool.and_eq_true, decide_eq_true_eq] at k3
    obtain ⟨D, rfl, _⟩ := h1 k3.1
    exact ⟨⟨D, by rw [k3.2]; rfl⟩, h3⟩
set_option maxHeartbeats 16000000 in
theorem nil14 (w : World) : Calls Try.prog 7 #[] w fun e w' => e = .returned (.bool true) ∧ Below w.heap.size w w' := by
  go_enter Try.func7, Try.ntmps7
  have HN := Lib.hid num14
  have HK := Lib.hid known14_any
  have BW := Lib.hid (show Below w.heap.size w w from Below.refl _ _)
  go_upto_region 1 with (fail)
  go_wp2_with fail
  have hs := Start_ok w 512 0 (by decide) (by decide)
  refine (hs).mono ?_
  rintro e V1 ⟨⟨v, rfl, hO⟩, hb⟩
  replace BW := Lib.hid (below_step BW.out BW.out.size hb)
  dsimp only
  obtain ⟨sa, sc, rfl, hF⟩ := hO.fls
  have hl : (srtI 0 512).length = 512 := srtI_len 0 512
  rw [hl]
  clear hs hO hF hl hb
  go_wp2_with fail
  refine (Start_err _ 513 0 (by decide)).mono ?_
  rintro e w' ⟨rfl, rfl⟩
  dsimp only
  go_wp2_with fail
  have hso := isolve_ok V1 none none none none none none [] [] [] [] [] [] 0 0 0 0 0 0 0 0 (fun h => absurd rfl h) (fun h => absurd rfl h) (fun h => absurd rfl h) (fun h => absurd rfl h) (fun h => absurd rfl h) (fun h => absurd rfl h) (fun _ => rfl) (fun x hx => by cases hx) (by decide) rfl rfl rfl rfl rfl rfl rfl
  refine (hso).mono ?_
  rintro e V2 ⟨a1, c1, b1, rfl, _, _, _, hb⟩
  replace BW := Lib.hid (below_step BW.out BW.out.size hb)
  dsimp only
  clear hso hb
  go_wp2_with fail
  have hl := litI2 V2 [4607182418800017408] [4607182418800017408] (by kernel_rfl) (by kernel_rfl)
  simp only [List.map_cons, List.map_nil] at hl
  obtain ⟨V3, hV⟩ : ∃ V, V = ((V2.alloc (.cells #[.float .f64 4607182418800017408] 40)).alloc (.cells #[.float .f64 4607182418800017408] 40)) := ⟨_, rfl⟩
  rw [← hV] at hl ⊢
  obtain ⟨hl1, hl2, hlb⟩ := hl
  replace BW := Lib.hid (below_step BW.out BW.out.size hlb)
  obtain ⟨pA1, hp0⟩ : ∃ p, p = V2.heap.size := ⟨_, rfl⟩
  obtain ⟨pB1, hp1⟩ : ∃ p, p = V2.heap.size + 1 := ⟨_, rfl⟩
  rw [← hp1] at hl2 ⊢
  rw [← hp0] at hl1 ⊢
  have A1 := Lib.hid (show Fls V3 (some ⟨pA1, 0, none⟩) [4607182418800017408] from hl1)
  have B1 := Lib.hid (show Fls V3 (some ⟨pB1, 0, none⟩) [4607182418800017408] from hl2)
  clear hl1 hlb hV hp0 hp1 hl2
  have hse := isolve_err V3 (some ⟨pA1, 0, none⟩) none none none none (some ⟨pB1, 0, none⟩) 1 1 0 0 0 0 1 0 0 0 0 1 (by decide) ⟨by unfold maxLen; decide, by unfold maxLen; decide, by unfold maxLen; decide, by unfold maxLen; decide, by unfold maxLen; decide⟩ (by kernel_rfl)
  refine (hse).mono ?_
  rintro e V4 ⟨rfl, hb⟩
  replace BW := Lib.hid (below_step BW.out BW.out.size hb)
  dsimp only
  clear A1 B1 hb hse
  go_wp2_with fail
  have hl := litI2 V4 [9218868437227405311, 18442240474082181119] [9218868437227405311] (by kernel_rfl) (by kernel_rfl)
  simp only [List.map_cons, List.map_nil] at hl
  obtain ⟨V5, hV⟩ : ∃ V, V = ((V4.alloc (.cells #[.float .f64 9218868437227405311, .float .f64 18442240474082181119] 40)).alloc (.cells #[.float .f64 9218868437227405311] 40)) := ⟨_, rfl⟩
  rw [← hV] at hl ⊢
  obtain ⟨hl1, hl2, hlb⟩ := hl
  replace BW := Lib.hid (below_step BW.out BW.out.size hlb)
  obtain ⟨pA2, hp0⟩ : ∃ p, p = V4.heap.size := ⟨_, rfl⟩
  obtain ⟨pB2, hp1⟩ : ∃ p, p = V4.heap.size + 1 := ⟨_, rfl⟩
  rw [← hp1] at hl2 ⊢
  rw [← hp0] at hl1 ⊢
  have A2 := Lib.hid (show Fls V5 (some ⟨pA2, 0, none⟩) [9218868437227405311, 18442240474082181119] from hl1)
  have B2 := Lib.hid (show Fls V5 (some ⟨pB2, 0, none⟩) [9218868437227405311] from hl2)
  clear hl1 hlb hV hp0 hp1 hl2
  refine (tri14 _ _ _ _ _ _ _).mono ?_
  rintro e V6 ⟨rfl, hb⟩
  replace BW := Lib.hid (below_step BW.out BW.out.size hb)
  replace A2 := Lib.hid (A2.out.below hb)
  replace B2 := Lib.hid (B2.out.below hb)
  dsimp only
  clear hb
  go_wp2_with fail
  have hl := litI1 V6 [9218868437227405311] (by kernel_rfl)
  simp only [List.map_cons, List.map_nil] at hl
  obtain ⟨V7, hV⟩ : ∃ V, V = (V6.alloc (.cells #[.float .f64 9218868437227405311] 40)) := ⟨_, rfl⟩
  rw [← hV] at hl ⊢
  obtain ⟨hl1, hlb⟩ := hl
  replace BW := Lib.hid (below_step BW.out BW.out.size hlb)
  replace A2 := Lib.hid (A2.out.below hlb)
  replace B2 := Lib.hid (B2.out.below hlb)
  obtain ⟨pC2, hp0⟩ : ∃ p, p = V6.heap.size := ⟨_, rfl⟩
  rw [← hp0] at hl1 ⊢
  have C2 := Lib.hid (show Fls V7 (some ⟨pC2, 0, none⟩) [9218868437227405311] from hl1)
  clear hl1 hlb hV hp0
  refine (vkn1 _ _ _ _ A2.out B2.out C2.out).mono ?_
  rintro e V8 ⟨⟨r2, k2, x2, y2, z2, st, qc, rfl, hq, hs1, hs2⟩, hb⟩
  replace BW := Lib.hid (below_step BW.out BW.out.size hb)
  dsimp only
  clear A2 B2 C2 hb
  have HQ := Lib.hid (And.intro hq (And.intro hs1 hs2))
  clear hq hs1 hs2
  go_upto_region 6 with (fail)
  have hm := Box.newA V8 [.int .i64 r2, .int .i64 k2, .slice x2 y2 z2] 26 rfl
  have hb := (Below.refl V8.heap.size V8).alloc (Nat.le_refl _) (.cells #[.int .i64 r2, .int .i64 k2, .slice x2 y2 z2] 26)
  obtain ⟨V9, hV⟩ : ∃ V, V = V8.alloc (.cells #[.int .i64 r2, .int .i64 k2, .slice x2 y2 z2] 26) := ⟨_, rfl⟩
  have hm2 : Box V9 V8.heap.size [.int .i64 r2, .int .i64 k2, .slice x2 y2 z2] := hV ▸ hm
  rw [← hV] at hb ⊢
  replace BW := Lib.hid (below_step BW.out BW.out.size hb)
  obtain ⟨pM1, hp⟩ : ∃ p, p = V8.heap.size := ⟨_, rfl⟩
  rw [← hp] at hm2 ⊢
  have M1 := Lib.hid (show Box V9 pM1 [.int .i64 r2, .int .i64 k2, .slice x2 y2 z2] from hm2)
  clear hm hm2 hb hV hp
  go_wp2_with fail
  have hl := litI1 V9 [0] (by kernel_rfl)
  simp only [List.map_cons, List.map_nil] at hl
  obtain ⟨V10, hV⟩ : ∃ V, V = (V9.alloc (.cells #[.float .f64 0] 40)) := ⟨_, rfl⟩
  rw [← hV] at hl ⊢
  obtain ⟨hl1, hlb⟩ := hl
  replace BW := Lib.hid (below_step BW.out BW.out.size hlb)
  replace M1 := Lib.hid (M1.out.below hlb)
  obtain ⟨pA3, hp0⟩ : ∃ p, p = V9.heap.size := ⟨_, rfl⟩
  rw [← hp0] at hl1 ⊢
  have A3 := Lib.hid (show Fls V10 (some ⟨pA3, 0, none⟩) [0] from hl1)
  clear hl1 hlb hV hp0
  refine (tri14 _ _ _ _ _ _ _).mono ?_
  rintro e V11 ⟨rfl, hb⟩
  replace BW := Lib.hid (below_step BW.out BW.out.size hb)
  replace M1 := Lib.hid (M1.out.below hb)
  replace A3 := Lib.hid (A3.out.below hb)
  dsimp only
  clear hb
  go_wp2_with fail
  have hl := litI1 V11 [0] (by kernel_rfl)
  simp only [List.map_cons, List.map_nil] at hl
  obtain ⟨V12, hV⟩ : ∃ V, V = (V11.alloc (.cells #[.float .f64 0] 40)) := ⟨_, rfl⟩
  rw [← hV] at hl ⊢
  obtain ⟨hl1, hlb⟩ := hl
  replace BW := Lib.hid (below_step BW.out BW.out.size hlb)
  replace M1 := Lib.hid (M1.out.below hlb)
  replace A3 := Lib.hid (A3.out.below hlb)
  obtain ⟨pC3, hp0⟩ : ∃ p, p = V11.heap.size := ⟨_, rfl⟩
  rw [← hp0] at hl1 ⊢
  have C3 := Lib.hid (show Fls V12 (some ⟨pC3, 0, none⟩) [0] from hl1)
  clear hl1 hlb hV hp0
  refine (vkn2 _ _ _ A3.out C3.out).mono ?_
  rintro e V13 ⟨⟨D3, rfl⟩, hb⟩
  replace BW := Lib.hid (below_step BW.out BW.out.size hb)
  replace M1 := Lib.hid (M1.out.below hb)
  dsimp only
  clear A3 C3 hb
  go_upto_region 7 with (fail)
  have hm := Box.newA V13 [.int .i64 1, .int .i64 1, .slice (some ⟨D3, 0, none⟩) 1 1] 26 rfl
  have hb := (Below.refl V13.heap.size V13).alloc (Nat.le_refl _) (.cells #[.int .i64 1, .int .i64 1, .slice (some ⟨D3, 0, none⟩) 1 1] 26)
  obtain ⟨V14, hV⟩ : ∃ V, V = V13.alloc (.cells #[.int .i64 1, .int .i64 1, .slice (some ⟨D3, 0, none⟩) 1 1] 26) := ⟨_, rfl⟩
  have hm2 : Box V14 V13.heap.size [.int .i64 1, .int .i64 1, .slice (some ⟨D3, 0, none⟩) 1 1] := hV ▸ hm
  rw [← hV] at hb ⊢
  replace BW := Lib.hid (below_step BW.out BW.out.size hb)
  replace M1 := Lib.hid (M1.out.below hb)
  obtain ⟨pM3, hp⟩ : ∃ p, p = V13.heap.size := ⟨_, rfl⟩
  rw [← hp] at hm2 ⊢
  have M3 := Lib.hid (show Box V14 pM3 [.int .i64 1, .int .i64 1, .slice (some ⟨D3, 0, none⟩) 1 1] from hm2)
  clear hm hm2 hb hV hp
  obtain ⟨f1, f2, f3⟩ := M3.out.facts
  have hs1 : (1 : Int) ≤ (st : Int) := by have := HQ.out.2.1; omega
  have hs2 : (st : Int) ≤ 3 := by have := HQ.out.2.2; omega
  have hs3 : 1 ≤ st := HQ.out.2.1
  have hs4 : st ≤ 3 := HQ.out.2.2
  rcases HQ.out.1 with rfl | rfl
  · skip
    go_wp2_with (go_at_call 30; refine (HN.out _ _).mono ?_; rintro e w' ⟨rfl, rfl⟩)
    refine (HK.out _).mono ?_
    rintro e w9 ⟨rfl, hb⟩
    have hf := below_step BW.out BW.out.size hb
    dsimp only
    go_wp2_with fail
    go_ret
    exact ⟨rfl, hf⟩
  · skip
    go_wp2_with (go_at_call 30; refine (HN.out _ _).mono ?_; rintro e w' ⟨rfl, rfl⟩)
    refine (HK.out _).mono ?_
    rintro e w9 ⟨rfl, hb⟩
    have hf := below_step BW.out BW.out.size hb
    dsimp only
    go_wp2_with fail
    go_ret
    exact ⟨rfl, hf⟩
end Go.Proofs.Ytdljnhdhigbefaa

/- Arguments opened: slices of floats; a way up for results. No condition. -/
namespace Go.Proofs.Ytdljnhdhigbefaa
open Go Go.RowKit Go.ChangeShapes Go.WideShapes Go.Deep

section
variable {H : Type} {enc : TypeId × Value → H} {P : Program} {w : World} {base : Nat} {spare : Nat → Bool} {held : Bool}

theorem trod_f64 {fuel : Nat} {t : TypeId} {cs : List Value} {x : DataW H × List MemPlace} (ht : P.underlying t = some (.float .f64)) (h : DataW.trod enc P w base spare held fuel t cs = some x) : ∃ n, cs = [.float .f64 n] ∧ x = (.lit (.float .f64 n), []) ∧ n < 18446744073709551616 := by
  cases fuel with
  | zero => simp [DataW.trod] at h
  | succ n =>
    unfold DataW.trod at h
    rw [ht] at h
    split at h <;> simp_all
    rename_i k k' b hk
    subst hk
    obtain ⟨⟨rfl, hw⟩, rfl⟩ := h
    simp [Lit.wf] at hw
    exact hw

/-- A slice of floats: where it lies, its floats. -/
theorem open_fls {t e : TypeId} {fuel : Nat} {v : Value} {x : DataW H × List MemPlace} (ht : P.underlying t = some (.slice e)) (he : P.underlying e = some (.float .f64)) (hc : P.cellsOf e = 1) (h : DataW.trod enc P w base spare held fuel t [v] = some x) :
    ∃ (a : Option Addr) (zs : List Nat) (cap : Nat), v = .slice a zs.length cap ∧ Fls w a zs ∧ Words zs ∧ zs.length ≤ maxLen := by
  rcases open_slice1 ht hc h with ⟨h1, h2⟩ | ⟨a, len, cap, m, n, V, D, Pl, h1, hb, hl, hm, hmm, h2, hx⟩
  · simp only [List.cons.injEq, and_true] at h1
    subst h1
    exact ⟨none, [], 0, rfl, fun hz => absurd rfl hz, fun v hv => (by cases hv), Nat.zero_le _⟩
  · simp only [List.cons.injEq, and_true] at h1
    subst h1
    have hlm : len ≤ m := by rw [hmm]; split <;> omega
    obtain ⟨F, hF⟩ := choose_lt (α := Nat) (p := fun i x => w.cell? (a.add i) = some (.float .f64 x) ∧ x < 18446744073709551616) (n := len) (fun i hi => by
      obtain ⟨c, ht2⟩ := hx i (by omega)
      obtain ⟨x, hx1, _, hx2⟩ := trod_f64 he ht2
      simp only [List.cons.injEq, and_true] at hx1
      exact ⟨x, by rw [c, hx1], hx2⟩)
    refine ⟨some a, (List.range len).map F, cap, by simp, ?_, ?_, by simp; omega⟩
    · intro hz
      have hlen : 0 < len := by
        cases len with
        | zero => exact absurd rfl hz
        | succ n => omega
      have h0 := (hF 0 hlen).1
      obtain ⟨b, off, spot⟩ := a
      have hsp : spot = none ∧ b < w.heap.size := by
        unfold Addr.add World.cell? at h0
        simp only [if_true] at h0
        cases hh : w.heap[b]? with
        | none => rw [hh] at h0; cases h0
        | some o =>
          rw [hh] at h0
          refine ⟨?_, (Array.getElem?_eq_some_iff.1 hh).1⟩
          cases o with
          | cells c T r => simp only [] at h0; cases spot with
            | none => rfl
            | some s => simp at h0
          | _ => simp at h0
      obtain ⟨rfl, hbl⟩ := hsp
      refine ⟨b, off, rfl, hbl, fun i v hv => ?_⟩
      simp only [List.getElem?_map, Option.map_eq_some_iff] at hv
      obtain ⟨j, hj, rfl⟩ := hv
      have hi : i < len := by
        by_cases hi : i < len
        · exact hi
        · rw [List.getElem?_eq_none (by simp; omega)] at hj; cases hj
      rw [List.getElem?_range hi] at hj
      cases hj
      have := (hF i hi).1
      have ha : (Addr.add ⟨b, off, none⟩ i) = ⟨b, off + i, none⟩ := by
        unfold Addr.add
        split
        · subst_vars; rfl
        · rfl
      rw [ha] at this
      obtain ⟨s, hs⟩ := raw_self (hF i hi).2
      exact ⟨s, by rw [this, ← hs]⟩
    · intro v hv
      simp only [List.mem_map, List.mem_range] at hv
      obtain ⟨i, hi, rfl⟩ := hv
      exact (hF i hi).2
end
end Go.Proofs.Ytdljnhdhigbefaa

/- A law's row closed: the result is true, nothing that was there has turned, each argument reads as it did. No condition. -/
namespace Go.Proofs.Ytdljnhdhigbefaa
open Go Go.RowKit Go.ChangeShapes Go.WideShapes

section
variable {H : Type} {enc : TypeId × Value → H} {P : Program}

theorem trodAll_stays (hl : laidOutB P = true) {W W' : World} {sp : Nat → Bool} : ∀ {ts : List TypeId} {vs : List Value} {ds : List (DataW H)} {ps : List MemPlace},
    ts.all (fun t => P.readableRec t && decide (t < P.types.size)) = true → DataW.TrodAll enc P W 0 (fun _ => true) true ts vs ds ps → (∀ p ∈ ps, W.sameAt W' p) → (∀ p ∈ ps, sp p.block = true) → DataW.TrodAll enc P W' 0 sp true ts vs ds ps
  | [], _, _, _, _, h, _, _ => by
    obtain ⟨rfl, rfl, rfl⟩ := trodAll_nil h
    rfl
  | t :: ts, _, _, _, ht, h, h1, h2 => by
    obtain ⟨v, vs, d, ds, p, q, rfl, rfl, rfl, hd, hr⟩ := trodAll_cons h
    simp only [List.all_cons, Bool.and_eq_true, decide_eq_true_eq] at ht
    refine ⟨p, q, WideElems.Trod_stays hl ht.1.1 ht.1.2 hd (fun x hx => h1 x (by simp [hx])) (fun x hx => h2 x (by simp [hx])), trodAll_stays hl ht.2 hr (fun x hx => h1 x (by simp [hx])) (fun x hx => h2 x (by simp [hx])), rfl⟩

/-- What a law's row asks in the end. -/
theorem post_of_below {f : Func} {s : ChangeSpec} {apart fresh handsOn again : Bool} {W W' : World} {args : Array Value} {ds : List (DataW H)} {before : List MemPlace} {tb : TypeId}
    (hl : laidOutB P = true) (hread : f.params.toList.all (fun t => P.readableRec t && decide (t < P.types.size)) = true) (hv : s.vars = [])
    (hW : DataW.Whole enc P f.params.toList s.vars apart W args.toList ds [] before)
    (hs : s.fn H ds = { results := [.lit (.bool true)], args := ds }) (hb : Below W.heap.size W W') (hr : f.resultTypes = #[tb]) (htb : P.underlying tb = some .bool) :
    s.post enc P f apart fresh handsOn again W args (.bool true) W' := by
  have hlt : ∀ p ∈ before, p.block < W.heap.size := fun p hp => hW.lt p hp
  have hsame : ∀ p ∈ before, W.sameAt W' p := fun p hp => hb.same (hlt p hp)
  have hW0 := hW
  obtain ⟨p, q, hA, hV, rfl, hz, hn⟩ := hW0
  have hq : q = [] := by rw [hv] at hV; exact hV
  subst hq
  rw [List.append_nil] at hlt hsame hz hn
  have hres : ∀ (b : Nat) (sp : Nat → Bool) (hd : Bool), DataW.TrodAll enc P W' b sp hd f.resultTypes.toList ((Value.bool true).resultList f.resultTypes.size) (s.fn H (ds ++ [])).results [] := by
    intro b sp hd
    rw [List.append_nil, hs, hr]
    exact trodAll_mk1 (shut_bool htb _)
  have hargs : ∀ sp : Nat → Bool, (∀ x ∈ p, sp x.block = true) → DataW.TrodAll enc P W' 0 sp true f.params.toList args.toList (s.fn H (ds ++ [])).args p := by
    intro sp hsp
    rw [List.append_nil, hs]
    exact trodAll_stays hl hread hA hsame hsp
  have hvars : ∀ sp : Nat → Bool, DataW.TrodVars enc P W' sp s.vars (s.fn H (ds ++ [])).vars [] := by
    intro sp
    rw [List.append_nil, hs, hv]
    rfl
  have hold : ∀ x ∈ p, (fun b => decide (b < W.heap.size)) x.block = true := fun x hx => by simpa using hlt x hx
  refine ⟨ds, [], p ++ [], [], p, [], hW, hres _ _ _, hargs _ hold, hvars _, hb.frame _, fun _ => ?_⟩
  refine ⟨?_, _, _, ([] ++ p) ++ [], ⟨[] ++ p, [], trodAll_append (hargs _ (fun _ _ => rfl)) (hres _ _ _), hvars _, rfl, ?_, ?_⟩, ?_⟩
  · exact ok_one hr rfl (okWide_bool_mk htb _)
  · intro b off hp
    have h1 := hlt (MemPlace.cell b off) (by simpa using hp)
    rw [hb.frozen (p := ⟨b, off, none⟩) h1]
    exact hz b off (by simpa using hp)
  · intro ha
    have := hn ha
    simpa using this
  · intro x hx _
    simpa using hx
end
end Go.Proofs.Ytdljnhdhigbefaa

/- An argument opened: a float. No condition. -/
namespace Go.Proofs.Ytdljnhdhigbefaa
open Go Go.RowKit Go.ChangeShapes Go.WideShapes Go.Deep

section
variable {H : Type} {enc : TypeId × Value → H} {P : Program} {w : World} {base : Nat} {spare : Nat → Bool} {held : Bool}
theorem open_f64w {r : Reach} {b0 : Nat} {t : TypeId} {v : Value} {d : DataW H} {ps : List MemPlace} (ht : P.underlying t = some (.float .f64)) (hval : Value.okWide P w r b0 t v) (hd : DataW.Trod enc P w base spare held t v d ps) :
    ∃ n, v = .float .f64 n ∧ d = .lit (.float .f64 n) ∧ ps = [] ∧ n < 18446744073709551616 := by
  obtain ⟨n, rfl⟩ : ∃ n, v = .float .f64 n := by
    simp only [Value.okWide, ht, Cell.okWide] at hval
    cases v <;> simp_all [Cell.ok]
  obtain ⟨fuel, hf⟩ := hd
  obtain ⟨n', h, hx, hw⟩ := trod_f64 ht hf
  simp [Value.cells] at h
  subst h
  simp only [Prod.mk.injEq] at hx
  exact ⟨n, rfl, hx.1, hx.2, hw⟩
end
end Go.Proofs.Ytdljnhdhigbefaa
