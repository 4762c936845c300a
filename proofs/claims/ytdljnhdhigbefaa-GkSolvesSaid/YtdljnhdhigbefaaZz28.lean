/- 'GkSolves': the law's call (printed by gen_do.py). No condition but on lengths. -/
import Derived.Test.YtdljnhdhigbefaaZz18
import Derived.Test.YtdljnhdhigbefaaDhZ
import Derived.Test.YtdljnhdhigbefaaDnZ
import Derived.Test.YtdljnhdhigbefaaZz2
import Derived.Deep.Slices
import Derived.Laws.Cover2
import Derived.Lib.SmallJoins
import Derived.ProofKit
namespace Go.Proofs.Ytdljnhdhigbefaa
open Go Go.RowKit
set_option maxRecDepth 1000000

set_option maxHeartbeats 32000000 in
theorem gkSolves_any (w : World) (da ea ua va : Option Addr) (d e u v : List Nat) (dc ec uc vc : Nat) (ur uk vr vk : Int) (hd : Fls w da d) (he : Fls w ea e) (hu : Fls w ua u) (hv : Fls w va v) (hda : da = none → d = [] ∧ dc = 0) (hea : ea = none → e = [] ∧ ec = 0) (hua : ua = none → u = [] ∧ uc = 0) (hva : va = none → v = [] ∧ vc = 0) (hWd : Words d) (hWe : Words e) (hWu : Words u) (hWv : Words v) (hld : d.length ≤ maxLen) (hle : e.length ≤ maxLen) (hlu : u.length ≤ maxLen) (hlv : v.length ≤ maxLen) :
    Calls Try.prog 3 #[.agg #[.slice da d.length dc, .slice ea e.length ec], .agg #[.int .i64 ur, .int .i64 uk, .slice ua u.length uc], .agg #[.int .i64 vr, .int .i64 vk, .slice va v.length vc]] w fun x w' => x = .returned (.bool true) ∧ Below w.heap.size w w' := by
  have HF := Lib.hid (fun W => few17_any W da ea ua va d.length e.length u.length v.length dc ec uc vc ur uk vr vk hld hle hlu hlv)
  have HS := Lib.hid (fun W (h : Below w.heap.size w W) => gs_any W da ea ua va d e u v dc ec uc vc ur uk vr vk (hd.below h) (he.below h) (hu.below h) (hv.below h) (fun k => (hda k).1) hea (fun k => (hua k).1) (fun k => (hva k).1) hWd hWe hWu hWv hld hle hlu hlv)
  have HWr := Lib.hid (fun W (h : Below w.heap.size w W) => rw_any W da ea ua va d e u v dc ec uc vc ur uk vr vk (hd.below h) (he.below h) (hu.below h) (hv.below h) hld hle hlu hlv)
  have HR := Lib.hid (fun W (h : Below w.heap.size w W) ru rv h1 h2 h3 h4 h5 h6 => RSolve17 W da ea ua va d e u v dc ec uc vc ru rv (hd.below h) (he.below h) (hu.below h) (hv.below h) hda hea hua hva hWd hWe hWu hWv h1 h2 h3 h4 h5 h6)
  have HZ := Lib.hid (show _ ∧ _ from ⟨hu, hv⟩)
  have HNN := Lib.hid (show _ ∧ _ from ⟨hua, hva⟩)
  obtain ⟨W0, hW0⟩ : ∃ W0, W0 = (((w.alloc (.cells #[.slice da d.length dc, .slice ea e.length ec] 24)).alloc (.cells #[.int .i64 ur, .int .i64 uk, .slice ua u.length uc] 26)).alloc (.cells #[.int .i64 vr, .int .i64 vk, .slice va v.length vc] 26)) := ⟨_, rfl⟩
  have hB0 : Below w.heap.size w W0 := hW0 ▸ (((Below.refl _ _).alloc (Nat.le_refl _) _).alloc (by simp) _).alloc (by simp; omega) _
  have x0 : Box W0 (w.heap.size) [.slice da d.length dc, .slice ea e.length ec] := hW0 ▸ (((Box.newA w [.slice da d.length dc, .slice ea e.length ec] _ rfl).alloc _).alloc _)
  have x1 : Box W0 (w.heap.size + 1) [.int .i64 ur, .int .i64 uk, .slice ua u.length uc] := hW0 ▸ ((Box.newA _ [.int .i64 ur, .int .i64 uk, .slice ua u.length uc] _ (by simp)).alloc _)
  have x2 : Box W0 (w.heap.size + 1 + 1) [.int .i64 vr, .int .i64 vk, .slice va v.length vc] := hW0 ▸ (Box.newA _ [.int .i64 vr, .int .i64 vk, .slice va v.length vc] _ (by simp))
  have S := Lib.hid (show BoxU w W0 [(w.heap.size, [.slice da d.length dc, .slice ea e.length ec]), (w.heap.size + 1, [.int .i64 ur, .int .i64 uk, .slice ua u.length uc]), (w.heap.size + 1 + 1, [.int .i64 vr, .int .i64 vk, .slice va v.length vc])] from ⟨fun p hp => by
    simp only [List.mem_cons, List.not_mem_nil, or_false] at hp
    rcases hp with rfl | rfl | rfl
    · exact x0
    · exact x1
    · exact x2
    , hB0⟩)
  clear hB0 x0 x1 x2 hd he hu hv hda hea hua hva hWd hWe hWu hWv
  cases hfew : (decide (d.length ≤ 20) && decide (e.length ≤ 20) && decide (u.length ≤ 200) && decide (v.length ≤ 200))
  case false =>
    rw [hfew] at HF
    clear HS HWr HR HZ HNN hfew
    go_enter Try.func3, Try.ntmps3
    go_upto_region 1 with (fail)
    rw [← hW0]
    clear hW0
    obtain ⟨f01, f02, f03⟩ := (S.out.get 0 rfl).facts
    obtain ⟨f11, f12, f13⟩ := (S.out.get 1 rfl).facts
    obtain ⟨f21, f22, f23⟩ := (S.out.get 2 rfl).facts
    go_wp2_with fail
    refine (HF.out _).mono ?_
    rintro e_ w1_ ⟨rfl, hb⟩
    clear f01 f02 f03 f11 f12 f13 f21 f22 f23
    replace S := Lib.hid (S.out.step hb)
    clear hb
    go_wp2_with fail
    refine (known17_any _).mono ?_
    rintro e_ w2_ ⟨rfl, hb⟩
    go_wp2
    go_ret
    exact ⟨rfl, below_step S.out.below S.out.below.size hb⟩
  case true =>
    rw [hfew] at HF
    simp only [Bool.and_eq_true, decide_eq_true_eq] at hfew
    obtain ⟨⟨⟨hn1, hn2⟩, hn3⟩, hn4⟩ := hfew
    clear hld hle hlu hlv
    have HCu := Lib.hid (fun W (h : Below w.heap.size w W) => Copy9 W ur uk ua u uc (HZ.out.1.below h) (by omega) HNN.out.1)
    have HCv := Lib.hid (fun W (h : Below w.heap.size w W) => Copy9 W vr vk va v vc (HZ.out.2.below h) (by omega) HNN.out.2)
    go_enter Try.func3, Try.ntmps3
    go_upto_region 1 with (fail)
    rw [← hW0]
    clear hW0
    obtain ⟨f01, f02, f03⟩ := (S.out.get 0 rfl).facts
    obtain ⟨f11, f12, f13⟩ := (S.out.get 1 rfl).facts
    obtain ⟨f21, f22, f23⟩ := (S.out.get 2 rfl).facts
    go_wp2_with fail
    refine (HF.out _).mono ?_
    rintro e_ w2_ ⟨rfl, hb⟩
    clear f01 f02 f03 f11 f12 f13 f21 f22 f23
    replace S := Lib.hid (S.out.step hb)
    clear hb HF
    dsimp only
    go_upto_region 3 with (fail)
    refine region3_q _ _ _ _ _ _ _ _ _ _ _ _ _ _ _ _ _ _ _ _ _ _ _ _ _ _ _ _ _ _ _ _ _ _ _ _ _ _ _ _ _ _ _ _ _ _ _ _ _ _ _ _ _ _ _ _ _ _ _ _ _ _ _ _ _ _ _ _ _ _ _ _ _ _ _ _ _ _ _ _ _ _ _ _ _ _ _ _ _ _ _ _ _ _ _ _ _ _ _ _ _ _ _ _ _ _ _ _ _ _ _ _ _ _ _ _ _ _ _ _ _ _ _ _ _ _ _ _ _ _ _ _ _ _ _ _ _ _ _ _ _ w da ea ua va d e u v dc ec uc vc ur uk vr vk _ S.out HCu.out HCv.out _ ?_
    intro u7 u8 u26 u27 u28 u29 w3_ hcut
    obtain ⟨bY, bZ, a2, a3, b2, c2, b3, c3, rfl, rfl, hS, hY, hZ, hu, hv, _, _, _, _, _⟩ := hcut
    replace S := Lib.hid hS
    have BY := Lib.hid hY
    have BZ := Lib.hid hZ
    have FU := Lib.hid hu.fls
    have FV := Lib.hid hv.fls
    clear hS hY hZ hu hv HCu HCv
    obtain ⟨f01, f02, f03⟩ := (S.out.get 0 rfl).facts
    obtain ⟨f11, f12, f13⟩ := (S.out.get 1 rfl).facts
    obtain ⟨f21, f22, f23⟩ := (S.out.get 2 rfl).facts
    go_wp2_with fail
    refine (HS.out _ S.out.below).mono ?_
    rintro e_ w4_ ⟨⟨a4, a5, a6, n4, c4, l5, c5, l6, c6, r5, k5, r6, k6, m4, code⟩, rfl, hSG, hb⟩
    clear f01 f02 f03 f11 f12 f13 f21 f22 f23
    replace S := Lib.hid (S.out.step hb)
    replace BY := Lib.hid (BY.out.below hb)
    replace BZ := Lib.hid (BZ.out.below hb)
    replace FU := Lib.hid (FU.out.below hb)
    replace FV := Lib.hid (FV.out.below hb)
    have SG := Lib.hid hSG
    clear hb hSG HS
    dsimp only [GR.val]
    go_upto_region 5 with (fail)
    obtain ⟨w5_, hw_⟩ : ∃ x, x = (w4_.alloc (.cells #[.int .i64 r5, .int .i64 k5, .slice a5 l5 c5] 26)).alloc (.cells #[.int .i64 r6, .int .i64 k6, .slice a6 l6 c6] 26) := ⟨_, rfl⟩
    rw [← hw_]
    have hb : Below w4_.heap.size w4_ w5_ := hw_ ▸ ((Below.refl _ _).alloc (Nat.le_refl _) _).alloc (by simp) _
    have B1 := Lib.hid (show Box w5_ w4_.heap.size [.int .i64 r5, .int .i64 k5, .slice a5 l5 c5] from hw_ ▸ (Box.newA w4_ [.int .i64 r5, .int .i64 k5, .slice a5 l5 c5] _ rfl).alloc _)
    have B2 := Lib.hid (show Box w5_ (w4_.heap.size + 1) [.int .i64 r6, .int .i64 k6, .slice a6 l6 c6] from hw_ ▸ Box.newA _ [.int .i64 r6, .int .i64 k6, .slice a6 l6 c6] _ (by simp))
    replace S := Lib.hid (S.out.step hb)
    replace BY := Lib.hid (BY.out.below hb)
    replace BZ := Lib.hid (BZ.out.below hb)
    replace FU := Lib.hid (FU.out.below hb)
    replace FV := Lib.hid (FV.out.below hb)
    replace SG := Lib.hid (SG.out.below hb)
    clear hb hw_
    obtain ⟨f01, f02, f03⟩ := BY.out.facts
    obtain ⟨f11, f12, f13⟩ := (S.out.get 1 rfl).facts
    go_wp2_with fail
    refine (Same9F _ ur uk a2 ua u c2 uc FU.out (HZ.out.1.below S.out.below) (by omega)).mono ?_
    rintro e_ w6_ ⟨rfl, hb⟩
    clear f01 f02 f03 f11 f12 f13
    replace S := Lib.hid (S.out.step hb)
    replace BY := Lib.hid (BY.out.below hb)
    replace BZ := Lib.hid (BZ.out.below hb)
    replace FU := Lib.hid (FU.out.below hb)
    replace FV := Lib.hid (FV.out.below hb)
    replace SG := Lib.hid (SG.out.below hb)
    replace B1 := Lib.hid (B1.out.below hb)
    replace B2 := Lib.hid (B2.out.below hb)
    clear hb
    dsimp only
    obtain ⟨f01, f02, f03⟩ := BZ.out.facts
    obtain ⟨f11, f12, f13⟩ := (S.out.get 2 rfl).facts
    go_wp2_with fail
    refine (Same9F _ vr vk a3 va v c3 vc FV.out (HZ.out.2.below S.out.below) (by omega)).mono ?_
    rintro e_ w7_ ⟨rfl, hb⟩
    clear f01 f02 f03 f11 f12 f13
    replace S := Lib.hid (S.out.step hb)
    replace BY := Lib.hid (BY.out.below hb)
    replace BZ := Lib.hid (BZ.out.below hb)
    replace FU := Lib.hid (FU.out.below hb)
    replace FV := Lib.hid (FV.out.below hb)
    replace SG := Lib.hid (SG.out.below hb)
    replace B1 := Lib.hid (B1.out.below hb)
    replace B2 := Lib.hid (B2.out.below hb)
    clear hb BY BZ FU FV HZ HNN
    dsimp only
    obtain ⟨f01, f02, f03⟩ := (S.out.get 0 rfl).facts
    obtain ⟨f11, f12, f13⟩ := (S.out.get 1 rfl).facts
    obtain ⟨f21, f22, f23⟩ := (S.out.get 2 rfl).facts
    go_wp2_with fail
    refine (HWr.out _ S.out.below).mono ?_
    rintro e_ w8_ ⟨rfl, hb⟩
    clear f01 f02 f03 f11 f12 f13 f21 f22 f23
    replace S := Lib.hid (S.out.step hb)
    replace SG := Lib.hid (SG.out.below hb)
    replace B1 := Lib.hid (B1.out.below hb)
    replace B2 := Lib.hid (B2.out.below hb)
    clear hb HWr
    dsimp only
    by_cases h0 : wG d e u v ur uk vr vk = 0
    case neg =>
      have hSG := SG.out
      rcases hSG with ⟨_, h1, h2, h3, h4, h5, h6, h7, h8, h9⟩ | hSG
      rotate_left
      · exact absurd hSG.1 h0
      dsimp only at h1 h2 h3 h4 h5 h6 h7 h8 h9
      subst h1 h2 h3 h4 h5 h6 h7 h8 h9
      clear SG
      have t1 : (wG d e u v ur uk vr vk != 0) = true := by simp [h0]
      have t2 : (wG d e u v ur uk vr vk == wG d e u v ur uk vr vk) = true := beq_self_eq_true _
      generalize wG d e u v ur uk vr vk = code at *
      obtain ⟨f01, f02, f03⟩ := B1.out.facts
      go_wp2_with fail
      refine (same_nilU _ a5 c5).mono ?_
      rintro e_ w9_ ⟨rfl, hb⟩
      clear f01 f02 f03
      replace S := Lib.hid (S.out.step hb)
      replace B1 := Lib.hid (B1.out.below hb)
      replace B2 := Lib.hid (B2.out.below hb)
      clear hb
      dsimp only
      obtain ⟨f01, f02, f03⟩ := B2.out.facts
      go_wp2_with fail
      refine (same_nilU _ a6 c6).mono ?_
      rintro e_ w10_ ⟨rfl, hb⟩
      clear f01 f02 f03
      replace S := Lib.hid (S.out.step hb)
      replace B1 := Lib.hid (B1.out.below hb)
      replace B2 := Lib.hid (B2.out.below hb)
      clear hb
      dsimp only
      go_wp2_with fail
      refine (known17_any _).mono ?_
      rintro e_ wz_ ⟨rfl, hb⟩
      have HB := Lib.hid (below_step S.out.below S.out.below.size hb)
      clear hb
      dsimp only
      go_wp2_with fail
      go_ret
      exact ⟨rfl, HB.out⟩
    case pos =>
      have hSG := SG.out
      rcases hSG with hSG | ⟨_, ru, rv, ho, y, hy, hm, hSG⟩
      · exact absurd h0 hSG.1
      obtain ⟨⟨e1, e2⟩, ⟨e3, e4⟩, ⟨g1, g2, g3⟩, gt, gu, gv, _⟩ := ho
      subst e1 e2 e3 e4
      dsimp only at hm
      subst hm
      have HRS := Lib.hid (HR.out _ S.out.below ru rv g3 gt g1 g2 gu gv)
      rw [← hy] at HRS
      have hL := solG_ln d.length ru rv (bigG d (0 :: e) d.length) d.length ⟨d, 0 :: e, u, v⟩ 0
      rw [← hy] at hL
      have hT := sortG_ln d.length ru rv y.1.d y.1.u y.1.v d.length
      rw [hL.1, hL.2.2.1, hL.2.2.2] at hT
      dsimp only at hT
      rw [gu, gv] at hT
      have HL := Lib.hid (show _ ∧ _ ∧ _ ∧ ru * d.length ≤ 200 ∧ rv * d.length ≤ 200 from ⟨hT.1, hT.2.1, hT.2.2, by omega, by omega⟩)
      clear hL hT SG HR hy g1 g2 g3 gt gu gv
      unfold RSolveGQ at HRS
      rw [h0]
      clear h0
      rcases hSG with ⟨hq, h1, h2, h3, h4, h5, h6, h7, h8, f1, f2, f3⟩ | ⟨hq, h1, h2, h3, h4, h5, h6, h7, h8⟩
      · dsimp only at h1 h2 h3 h4 h5 h6 h7 h8 f1 f2 f3
        subst h1 h2 h3 h4 h5 h6 h7 h8
        simp only [if_pos hq] at HRS
        have G1 := Lib.hid f1
        have G2 := Lib.hid f2
        have G3 := Lib.hid f3
        clear hq f1 f2 f3
        obtain ⟨f01, f02, f03⟩ := (S.out.get 0 rfl).facts
        obtain ⟨f11, f12, f13⟩ := (S.out.get 1 rfl).facts
        obtain ⟨f21, f22, f23⟩ := (S.out.get 2 rfl).facts
        go_wp2_with fail
        refine (HRS.out).mono ?_
        rintro e_ w9_ ⟨a7, c7, a8, c8, a9, c9, rfl, f1, f2, f3, hb⟩
        clear f01 f02 f03 f11 f12 f13 f21 f22 f23
        replace S := Lib.hid (S.out.step hb)
        replace B1 := Lib.hid (B1.out.below hb)
        replace B2 := Lib.hid (B2.out.below hb)
        replace G1 := Lib.hid (G1.out.below hb)
        replace G2 := Lib.hid (G2.out.below hb)
        replace G3 := Lib.hid (G3.out.below hb)
        have K1 := Lib.hid f1
        have K2 := Lib.hid f2
        have K3 := Lib.hid f3
        clear hb f1 f2 f3 HRS
        dsimp only
        go_upto_region 11 with (fail)
        obtain ⟨wA_, hw_⟩ : ∃ x, x = (w9_.alloc (.cells #[.int .i64 ru, .int .i64 d.length, .slice a8 (ru * d.length : Nat) c8] 26)).alloc (.cells #[.int .i64 rv, .int .i64 d.length, .slice a9 (rv * d.length : Nat) c9] 26) := ⟨_, rfl⟩
        rw [← hw_]
        have hb : Below w9_.heap.size w9_ wA_ := hw_ ▸ ((Below.refl _ _).alloc (Nat.le_refl _) _).alloc (by simp) _
        have B3 := Lib.hid (show Box wA_ w9_.heap.size [.int .i64 ru, .int .i64 d.length, .slice a8 (ru * d.length : Nat) c8] from hw_ ▸ (Box.newA w9_ [.int .i64 ru, .int .i64 d.length, .slice a8 (ru * d.length : Nat) c8] _ rfl).alloc _)
        have B4 := Lib.hid (show Box wA_ (w9_.heap.size + 1) [.int .i64 rv, .int .i64 d.length, .slice a9 (rv * d.length : Nat) c9] from hw_ ▸ Box.newA _ [.int .i64 rv, .int .i64 d.length, .slice a9 (rv * d.length : Nat) c9] _ (by simp))
        replace S := Lib.hid (S.out.step hb)
        replace B1 := Lib.hid (B1.out.below hb)
        replace B2 := Lib.hid (B2.out.below hb)
        replace G1 := Lib.hid (G1.out.below hb)
        replace G2 := Lib.hid (G2.out.below hb)
        replace G3 := Lib.hid (G3.out.below hb)
        replace K1 := Lib.hid (K1.out.below hb)
        replace K2 := Lib.hid (K2.out.below hb)
        replace K3 := Lib.hid (K3.out.below hb)
        clear hb hw_
        generalize hq1 : (sortG d.length ru rv y.1.d y.1.u y.1.v d.length).1 = q1 at *
        generalize hq2 : (sortG d.length ru rv y.1.d y.1.u y.1.v d.length).2.1 = q2 at *
        generalize hq3 : (sortG d.length ru rv y.1.d y.1.u y.1.v d.length).2.2 = q3 at *
        generalize y.2.1 = mm at *
        clear hq1 hq2 hq3
        have t1 : ((mm : Int) == (mm : Int)) = true := beq_self_eq_true _
        have HSA := Lib.hid (HL.out.1 ▸ SameAllF _ a4 a7 q1 c4 c7 G1.out K1.out (by rw [HL.out.1]; omega))
        go_wp2_with fail
        refine (HSA.out).mono ?_
        rintro e_ w10_ ⟨rfl, hb⟩
        replace S := Lib.hid (S.out.step hb)
        replace B1 := Lib.hid (B1.out.below hb)
        replace B2 := Lib.hid (B2.out.below hb)
        replace G1 := Lib.hid (G1.out.below hb)
        replace G2 := Lib.hid (G2.out.below hb)
        replace G3 := Lib.hid (G3.out.below hb)
        replace K1 := Lib.hid (K1.out.below hb)
        replace K2 := Lib.hid (K2.out.below hb)
        replace K3 := Lib.hid (K3.out.below hb)
        replace B3 := Lib.hid (B3.out.below hb)
        replace B4 := Lib.hid (B4.out.below hb)
        clear hb HSA
        dsimp only
        have HSA := Lib.hid (HL.out.2.1 ▸ Same9F _ (ru : Int) (d.length : Int) a5 a8 q2 c5 c8 G2.out K2.out (by rw [HL.out.2.1]; have := HL.out.2.2.2.1; omega))
        obtain ⟨f01, f02, f03⟩ := B1.out.facts
        obtain ⟨f11, f12, f13⟩ := B3.out.facts
        go_wp2_with fail
        refine (HSA.out).mono ?_
        rintro e_ w11_ ⟨rfl, hb⟩
        clear f01 f02 f03 f11 f12 f13
        replace S := Lib.hid (S.out.step hb)
        replace B1 := Lib.hid (B1.out.below hb)
        replace B2 := Lib.hid (B2.out.below hb)
        replace G1 := Lib.hid (G1.out.below hb)
        replace G2 := Lib.hid (G2.out.below hb)
        replace G3 := Lib.hid (G3.out.below hb)
        replace K1 := Lib.hid (K1.out.below hb)
        replace K2 := Lib.hid (K2.out.below hb)
        replace K3 := Lib.hid (K3.out.below hb)
        replace B3 := Lib.hid (B3.out.below hb)
        replace B4 := Lib.hid (B4.out.below hb)
        clear hb HSA
        dsimp only
        have HSA := Lib.hid (HL.out.2.2.1 ▸ Same9F _ (rv : Int) (d.length : Int) a6 a9 q3 c6 c9 G3.out K3.out (by rw [HL.out.2.2.1]; have := HL.out.2.2.2.2; omega))
        obtain ⟨f01, f02, f03⟩ := B2.out.facts
        obtain ⟨f11, f12, f13⟩ := B4.out.facts
        go_wp2_with fail
        refine (HSA.out).mono ?_
        rintro e_ w12_ ⟨rfl, hb⟩
        clear f01 f02 f03 f11 f12 f13
        replace S := Lib.hid (S.out.step hb)
        replace B1 := Lib.hid (B1.out.below hb)
        replace B2 := Lib.hid (B2.out.below hb)
        replace G1 := Lib.hid (G1.out.below hb)
        replace G2 := Lib.hid (G2.out.below hb)
        replace G3 := Lib.hid (G3.out.below hb)
        replace K1 := Lib.hid (K1.out.below hb)
        replace K2 := Lib.hid (K2.out.below hb)
        replace K3 := Lib.hid (K3.out.below hb)
        replace B3 := Lib.hid (B3.out.below hb)
        replace B4 := Lib.hid (B4.out.below hb)
        clear hb HSA
        dsimp only
        go_wp2_with fail
        refine (known17_any _).mono ?_
        rintro e_ wz_ ⟨rfl, hb⟩
        have HB := Lib.hid (below_step S.out.below S.out.below.size hb)
        clear hb
        dsimp only
        go_wp2_with fail
        go_ret
        exact ⟨rfl, HB.out⟩
      · dsimp only at h1 h2 h3 h4 h5 h6 h7 h8
        subst h1 h2 h3 h4 h5 h6 h7 h8
        simp only [if_neg hq] at HRS
        clear hq
        obtain ⟨f01, f02, f03⟩ := (S.out.get 0 rfl).facts
        obtain ⟨f11, f12, f13⟩ := (S.out.get 1 rfl).facts
        obtain ⟨f21, f22, f23⟩ := (S.out.get 2 rfl).facts
        go_wp2_with fail
        refine (HRS.out).mono ?_
        rintro e_ w9_ ⟨rfl, hb⟩
        clear f01 f02 f03 f11 f12 f13 f21 f22 f23
        replace S := Lib.hid (S.out.step hb)
        replace B1 := Lib.hid (B1.out.below hb)
        replace B2 := Lib.hid (B2.out.below hb)
        clear hb HRS
        unfold nilM
        dsimp only
        go_upto_region 11 with (fail)
        obtain ⟨wA_, hw_⟩ : ∃ x, x = (w9_.alloc (.cells #[.int .i64 0, .int .i64 0, .slice none 0 0] 26)).alloc (.cells #[.int .i64 0, .int .i64 0, .slice none 0 0] 26) := ⟨_, rfl⟩
        rw [← hw_]
        have hb : Below w9_.heap.size w9_ wA_ := hw_ ▸ ((Below.refl _ _).alloc (Nat.le_refl _) _).alloc (by simp) _
        have B3 := Lib.hid (show Box wA_ w9_.heap.size [.int .i64 0, .int .i64 0, .slice none 0 0] from hw_ ▸ (Box.newA w9_ [.int .i64 0, .int .i64 0, .slice none 0 0] _ rfl).alloc _)
        have B4 := Lib.hid (show Box wA_ (w9_.heap.size + 1) [.int .i64 0, .int .i64 0, .slice none 0 0] from hw_ ▸ Box.newA _ [.int .i64 0, .int .i64 0, .slice none 0 0] _ (by simp))
        replace S := Lib.hid (S.out.step hb)
        replace B1 := Lib.hid (B1.out.below hb)
        replace B2 := Lib.hid (B2.out.below hb)
        clear hb hw_
        generalize y.2.1 = mm at *
        have t1 : ((mm : Int) == (mm : Int)) = true := beq_self_eq_true _
        obtain ⟨f01, f02, f03⟩ := B1.out.facts
        go_wp2_with fail
        refine (same_nilU _ a5 c5).mono ?_
        rintro e_ w10_ ⟨rfl, hb⟩
        clear f01 f02 f03
        replace S := Lib.hid (S.out.step hb)
        replace B1 := Lib.hid (B1.out.below hb)
        replace B2 := Lib.hid (B2.out.below hb)
        replace B3 := Lib.hid (B3.out.below hb)
        replace B4 := Lib.hid (B4.out.below hb)
        clear hb
        dsimp only
        obtain ⟨f01, f02, f03⟩ := B2.out.facts
        go_wp2_with fail
        refine (same_nilU _ a6 c6).mono ?_
        rintro e_ w11_ ⟨rfl, hb⟩
        clear f01 f02 f03
        replace S := Lib.hid (S.out.step hb)
        replace B1 := Lib.hid (B1.out.below hb)
        replace B2 := Lib.hid (B2.out.below hb)
        replace B3 := Lib.hid (B3.out.below hb)
        replace B4 := Lib.hid (B4.out.below hb)
        clear hb
        dsimp only
        go_wp2_with fail
        refine (known17_any _).mono ?_
        rintro e_ wz_ ⟨rfl, hb⟩
        have HB := Lib.hid (below_step S.out.below S.out.below.size hb)
        clear hb
        dsimp only
        go_wp2_with fail
        go_ret
        exact ⟨rfl, HB.out⟩
end Go.Proofs.Ytdljnhdhigbefaa

/- Arguments opened: slices of floats; a way up for results. No condition. -/
namespace Go.Proofs.Ytdljnhdhigbefaa
open Go Go.RowKit Go.ChangeShapes Go.WideShapes Go.Deep

section
variable {H : Type} {enc : TypeId × Value → H} {P : Program} {w : World} {base : Nat} {spare : Nat → Bool} {held : Bool}

theorem trod_f64 {fuel : Nat} {t : TypeId} {cs : List Value} {x : DataW H × List MemPlace} (ht : P.underlying t = some (.float .f64)) (h : DataW.trod enc P w base spare held fuel t cs = some x) : ∃ n, cs = [.float .f64 n] ∧ x = (.lit (.float .f64 n), []) ∧ n < 18446744073709551616 := by
  cases fuel with
  | zero => simp [DataW.trod] at h
  | succ n =>
    unfold DataW.trod at h
    rw [ht] at h
    split at h <;> simp_all
    rename_i k k' b hk
    subst hk
    obtain ⟨⟨rfl, hw⟩, rfl⟩ := h
    simp [Lit.wf] at hw
    exact hw

/-- A slice of floats: where it lies, its floats. -/
theorem open_fls {t e : TypeId} {fuel : Nat} {v : Value} {x : DataW H × List MemPlace} (ht : P.underlying t = some (.slice e)) (he : P.underlying e = some (.float .f64)) (hc : P.cellsOf e = 1) (h : DataW.trod enc P w base spare held fuel t [v] = some x) :
    ∃ (a : Option Addr) (zs : List Nat) (cap : Nat), v = .slice a zs.length cap ∧ Fls w a zs ∧ Words zs ∧ zs.length ≤ maxLen := by
  rcases open_slice1 ht hc h with ⟨h1, h2⟩ | ⟨a, len, cap, m, n, V, D, Pl, h1, hb, hl, hm, hmm, h2, hx⟩
  · simp only [List.cons.injEq, and_true] at h1
    subst h1
    exact ⟨none, [], 0, rfl, fun hz => absurd rfl hz, fun v hv => (by cases hv), Nat.zero_le _⟩
  · simp only [List.cons.injEq, and_true] at h1
    subst h1
    have hlm : len ≤ m := by rw [hmm]; split <;> omega
    obtain ⟨F, hF⟩ := choose_lt (α := Nat) (p := fun i x => w.cell? (a.add i) = some (.float .f64 x) ∧ x < 18446744073709551616) (n := len) (fun i hi => by
      obtain ⟨c, ht2⟩ := hx i (by omega)
      obtain ⟨x, hx1, _, hx2⟩ := trod_f64 he ht2
      simp only [List.cons.injEq, and_true] at hx1
      exact ⟨x, by rw [c, hx1], hx2⟩)
    refine ⟨some a, (List.range len).map F, cap, by simp, ?_, ?_, by simp; omega⟩
    · intro hz
      have hlen : 0 < len := by
        cases len with
        | zero => exact absurd rfl hz
        | succ n => omega
      have h0 := (hF 0 hlen).1
      obtain ⟨b, off, spot⟩ := a
      have hsp : spot = none ∧ b < w.heap.size := by
        unfold Addr.add World.cell? at h0
        simp only [if_true] at h0
        cases hh : w.heap[b]? with
        | none => rw [hh] at h0; cases h0
        | some o =>
          rw [hh] at h0
          refine ⟨?_, (Array.getElem?_eq_some_iff.1 hh).1⟩
          cases o with
          | cells c T r => simp only [] at h0; cases spot with
            | none => rfl
            | some s => simp at h0
          | _ => simp at h0
      obtain ⟨rfl, hbl⟩ := hsp
      refine ⟨b, off, rfl, hbl, fun i v hv => ?_⟩
      simp only [List.getElem?_map, Option.map_eq_some_iff] at hv
      obtain ⟨j, hj, rfl⟩ := hv
      have hi : i < len := by
        by_cases hi : i < len
        · exact hi
        · rw [List.getElem?_eq_none (by simp; omega)] at hj; cases hj
      rw [List.getElem?_range hi] at hj
      cases hj
      have := (hF i hi).1
      have ha : (Addr.add ⟨b, off, none⟩ i) = ⟨b, off + i, none⟩ := by
        unfold Addr.add
        split
        · subst_vars; rfl
        · rfl
      rw [ha] at this
      obtain ⟨s, hs⟩ := raw_self (hF i hi).2
      exact ⟨s, by rw [this, ← hs]⟩
    · intro v hv
      simp only [List.mem_map, List.mem_range] at hv
      obtain ⟨i, hi, rfl⟩ := hv
      exact (hF i hi).2
end
end Go.Proofs.Ytdljnhdhigbefaa

/- A law's row closed: the result is true, nothing that was there has turned, each argument reads as it did. No condition. -/
namespace Go.Proofs.Ytdljnhdhigbefaa
open Go Go.RowKit Go.ChangeShapes Go.WideShapes

section
variable {H : Type} {enc : TypeId × Value → H} {P : Program}

theorem trodAll_stays (hl : laidOutB P = true) {W W' : World} {sp : Nat → Bool} : ∀ {ts : List TypeId} {vs : List Value} {ds : List (DataW H)} {ps : List MemPlace},
    ts.all (fun t => P.readableRec t && decide (t < P.types.size)) = true → DataW.TrodAll enc P W 0 (fun _ => true) true ts vs ds ps → (∀ p ∈ ps, W.sameAt W' p) → (∀ p ∈ ps, sp p.block = true) → DataW.TrodAll enc P W' 0 sp true ts vs ds ps
  | [], _, _, _, _, h, _, _ => by
    obtain ⟨rfl, rfl, rfl⟩ := trodAll_nil h
    rfl
  | t :: ts, _, _, _, ht, h, h1, h2 => by
    obtain ⟨v, vs, d, ds, p, q, rfl, rfl, rfl, hd, hr⟩ := trodAll_cons h
    simp only [List.all_cons, Bool.and_eq_true, decide_eq_true_eq] at ht
    refine ⟨p, q, WideElems.Trod_stays hl ht.1.1 ht.1.2 hd (fun x hx => h1 x (by simp [hx])) (fun x hx => h2 x (by simp [hx])), trodAll_stays hl ht.2 hr (fun x hx => h1 x (by simp [hx])) (fun x hx => h2 x (by simp [hx])), rfl⟩

/-- What a law's row asks in the end. -/
theorem post_of_below {f : Func} {s : ChangeSpec} {apart fresh handsOn again : Bool} {W W' : World} {args : Array Value} {ds : List (DataW H)} {before : List MemPlace} {tb : TypeId}
    (hl : laidOutB P = true) (hread : f.params.toList.all (fun t => P.readableRec t && decide (t < P.types.size)) = true) (hv : s.vars = [])
    (hW : DataW.Whole enc P f.params.toList s.vars apart W args.toList ds [] before)
    (hs : s.fn H ds = { results := [.lit (.bool true)], args := ds }) (hb : Below W.heap.size W W') (hr : f.resultTypes = #[tb]) (htb : P.underlying tb = some .bool) :
    s.post enc P f apart fresh handsOn again W args (.bool true) W' := by
  have hlt : ∀ p ∈ before, p.block < W.heap.size := fun p hp => hW.lt p hp
  have hsame : ∀ p ∈ before, W.sameAt W' p := fun p hp => hb.same (hlt p hp)
  have hW0 := hW
  obtain ⟨p, q, hA, hV, rfl, hz, hn⟩ := hW0
  have hq : q = [] := by rw [hv] at hV; exact hV
  subst hq
  rw [List.append_nil] at hlt hsame hz hn
  have hres : ∀ (b : Nat) (sp : Nat → Bool) (hd : Bool), DataW.TrodAll enc P W' b sp hd f.resultTypes.toList ((Value.bool true).resultList f.resultTypes.size) (s.fn H (ds ++ [])).results [] := by
    intro b sp hd
    rw [List.append_nil, hs, hr]
    exact trodAll_mk1 (shut_bool htb _)
  have hargs : ∀ sp : Nat → Bool, (∀ x ∈ p, sp x.block = true) → DataW.TrodAll enc P W' 0 sp true f.params.toList args.toList (s.fn H (ds ++ [])).args p := by
    intro sp hsp
    rw [List.append_nil, hs]
    exact trodAll_stays hl hread hA hsame hsp
  have hvars : ∀ sp : Nat → Bool, DataW.TrodVars enc P W' sp s.vars (s.fn H (ds ++ [])).vars [] := by
    intro sp
    rw [List.append_nil, hs, hv]
    rfl
  have hold : ∀ x ∈ p, (fun b => decide (b < W.heap.size)) x.block = true := fun x hx => by simpa using hlt x hx
  refine ⟨ds, [], p ++ [], [], p, [], hW, hres _ _ _, hargs _ hold, hvars _, hb.frame _, fun _ => ?_⟩
  refine ⟨?_, _, _, ([] ++ p) ++ [], ⟨[] ++ p, [], trodAll_append (hargs _ (fun _ _ => rfl)) (hres _ _ _), hvars _, rfl, ?_, ?_⟩, ?_⟩
  · exact ok_one hr rfl (okWide_bool_mk htb _)
  · intro b off hp
    have h1 := hlt (MemPlace.cell b off) (by simpa using hp)
    rw [hb.frozen (p := ⟨b, off, none⟩) h1]
    exact hz b off (by simpa using hp)
  · intro ha
    have := hn ha
    simpa using this
  · intro x hx _
    simpa using hx
end
end Go.Proofs.Ytdljnhdhigbefaa

/- Arguments opened: slices of floats, nil told. No condition. -/
namespace Go.Proofs.Ytdljnhdhigbefaa
open Go Go.RowKit Go.ChangeShapes Go.WideShapes Go.Deep
section
variable {H : Type} {enc : TypeId × Value → H} {P : Program} {w : World} {base : Nat} {spare : Nat → Bool} {held : Bool}
/-- A slice of floats: where it lies, its floats; a nil one has none. -/
theorem open_inf {t e : TypeId} {fuel : Nat} {v : Value} {x : DataW H × List MemPlace} (ht : P.underlying t = some (.slice e)) (he : P.underlying e = some (.float .f64)) (hc : P.cellsOf e = 1) (h : DataW.trod enc P w base spare held fuel t [v] = some x) :
    ∃ (a : Option Addr) (zs : List Nat) (cap : Nat), v = .slice a zs.length cap ∧ Fls w a zs ∧ Words zs ∧ zs.length ≤ maxLen ∧ (a = none → zs = [] ∧ cap = 0) := by
  obtain ⟨a, zs, cap, hv, h1, h2, h3⟩ := open_fls ht he hc h
  refine ⟨a, zs, cap, hv, h1, h2, h3, fun ha => ?_⟩
  subst ha
  rcases open_slice1 ht hc h with ⟨k1, _⟩ | ⟨a', len, cap', m, n, V, D, Pl, k1, _⟩
  · simp only [List.cons.injEq, and_true] at k1
    rw [k1] at hv
    simp only [Value.slice.injEq] at hv
    exact ⟨List.eq_nil_of_length_eq_zero hv.2.1.symm, hv.2.2.symm⟩
  · simp only [List.cons.injEq, and_true] at k1
    rw [k1] at hv
    simp at hv
end
end Go.Proofs.Ytdljnhdhigbefaa

/- An argument opened: a float. No condition. -/
namespace Go.Proofs.Ytdljnhdhigbefaa
open Go Go.RowKit Go.ChangeShapes Go.WideShapes Go.Deep

section
variable {H : Type} {enc : TypeId × Value → H} {P : Program} {w : World} {base : Nat} {spare : Nat → Bool} {held : Bool}
theorem open_f64w {r : Reach} {b0 : Nat} {t : TypeId} {v : Value} {d : DataW H} {ps : List MemPlace} (ht : P.underlying t = some (.float .f64)) (hval : Value.okWide P w r b0 t v) (hd : DataW.Trod enc P w base spare held t v d ps) :
    ∃ n, v = .float .f64 n ∧ d = .lit (.float .f64 n) ∧ ps = [] ∧ n < 18446744073709551616 := by
  obtain ⟨n, rfl⟩ : ∃ n, v = .float .f64 n := by
    simp only [Value.okWide, ht, Cell.okWide] at hval
    cases v <;> simp_all [Cell.ok]
  obtain ⟨fuel, hf⟩ := hd
  obtain ⟨n', h, hx, hw⟩ := trod_f64 ht hf
  simp [Value.cells] at h
  subst h
  simp only [Prod.mk.injEq] at hx
  exact ⟨n, rfl, hx.1, hx.2, hw⟩
end
end Go.Proofs.Ytdljnhdhigbefaa
