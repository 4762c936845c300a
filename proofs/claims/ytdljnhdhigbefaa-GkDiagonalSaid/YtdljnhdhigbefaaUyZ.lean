/- Layer 17: what may be solved (printed by gen_uy.py). No condition but on lengths. -/
import Derived.Test.YtdljnhdhigbefaaUnZ
namespace Go.Proofs.Ytdljnhdhigbefaa
open Go Go.RowKit
set_option maxRecDepth 1000000

theorem BoxU.bel {w W W' : World} {bs : List (Nat × List Value)} {s : Nat} (h : BoxU w W bs) (hs : w.heap.size ≤ s) (hne : ∀ p ∈ bs, p.1 ≠ s) (hb : Bel W.heap.size s W W') : BoxU w W' bs := ⟨fun p hp => (h.bx p hp).bel (hne p hp) hb, h.below.trans ((hb.mono h.below.size).below hs)⟩
/-- What gk.Solve comes to. -/
def SolveGQ (w : World) (n ru rv : Nat) (y : GkS × Nat × Bool) (r : Ending) (w' : World) : Prop :=
  if y.2.2 = true ∧ y.1.d.all ffin = true then
    ∃ a c a1 c1 a2 c2, r = .returned (.tuple #[.slice a n c, .agg #[.int .i64 ru, .int .i64 n, .slice a1 (ru * n : Nat) c1], .agg #[.int .i64 rv, .int .i64 n, .slice a2 (rv * n : Nat) c2], .int .i64 (y.2.1 : Nat), .int .i64 0]) ∧ Fls w' a (sortG n ru rv y.1.d y.1.u y.1.v n).1 ∧ Fls w' a1 (sortG n ru rv y.1.d y.1.u y.1.v n).2.1 ∧ Fls w' a2 (sortG n ru rv y.1.d y.1.u y.1.v n).2.2 ∧ Below w.heap.size w w'
  else r = .returned (.tuple #[.slice none 0 0, nilM, nilM, .int .i64 (y.2.1 : Nat), .int .i64 7]) ∧ Below w.heap.size w w'
def SolveGP (w : World) (ru rv : Nat) (d e u v : List Nat) (r : Ending) (w' : World) : Prop := SolveGQ w d.length ru rv (solG d.length ru rv (bigG d (0 :: e) d.length) d.length ⟨d, 0 :: e, u, v⟩ 0) r w'

set_option maxHeartbeats 16000000 in
theorem gsolve_ok (w : World) (da ea ua va : Option Addr) (d e u v : List Nat) (dc ec uc vc ru rv : Nat) (hd : Fls w da d) (he : Fls w ea e) (hu : Fls w ua u) (hv : Fls w va v) (hda : da = none → d = []) (hea : ea = none → e = [] ∧ ec = 0) (hua : ua = none → u = []) (hva : va = none → v = []) (hW : Words d) (hWe : Words e) (hWu : Words u) (hWv : Words v) (hn : d.length ≤ 512) (hel : mayT d.length e.length = true) (hru : ru ≤ 512) (hrv : rv ≤ 512) (hul : u.length = ru * d.length) (hvl : v.length = rv * d.length) (hfd : d.all ffin = true) (hfe : e.all ffin = true) (hfu : u.all ffin = true) (hfv : v.all ffin = true) :
    Calls Try.prog 16 #[.agg #[.slice da d.length dc, .slice ea e.length ec], .agg #[.int .i64 ru, .int .i64 d.length, .slice ua u.length uc], .agg #[.int .i64 rv, .int .i64 d.length, .slice va v.length vc]] w (SolveGP w ru rv d e u v) := by
  have hlu : u.length ≤ 262144 := by rw [hul]; exact Nat.le_trans (Nat.mul_le_mul hru hn) (by decide)
  have hlv : v.length ≤ 262144 := by rw [hvl]; exact Nat.le_trans (Nat.mul_le_mul hrv hn) (by decide)
  have hle : e.length ≤ 512 := by unfold mayT at hel; simp at hel; omega
  have HM1 := Lib.hid (fun W => hel ▸ GMay_any W da ea d.length e.length dc ec (by unfold maxLen; omega) (by unfold maxLen; omega))
  have HM2 := Lib.hid (fun W => mayB_of hru hn hul ▸ GmayM_any W (ru : Int) (d.length : Int) ua u.length uc (by unfold maxLen; omega))
  have HM3 := Lib.hid (fun W => mayB_of hrv hn hvl ▸ GmayM_any W (rv : Int) (d.length : Int) va v.length vc (by unfold maxLen; omega))
  have HF1 := Lib.hid (fun W (h : Below w.heap.size w W) => hfd ▸ GFin_any W da d dc (hd.below h) hW (by unfold maxLen; omega))
  have HF2 := Lib.hid (fun W (h : Below w.heap.size w W) => hfe ▸ GFin_any W ea e ec (he.below h) hWe (by unfold maxLen; omega))
  have HF3 := Lib.hid (fun W (h : Below w.heap.size w W) => hfu ▸ GFin_any W ua u uc (hu.below h) hWu (by unfold maxLen; omega))
  have HF4 := Lib.hid (fun W (h : Below w.heap.size w W) => hfv ▸ GFin_any W va v vc (hv.below h) hWv (by unfold maxLen; omega))
  have HC := Lib.hid (fun W (h : Below w.heap.size w W) => Clone_any W da d dc (hd.below h) (by omega) hda)
  have HCu := Lib.hid (fun W (h : Below w.heap.size w W) => Clone_any W ua u uc (hu.below h) hlu hua)
  have HCv := Lib.hid (fun W (h : Below w.heap.size w W) => Clone_any W va v vc (hv.below h) hlv hva)
  have HE := Lib.hid (And.intro he hea)
  have HL := Lib.hid (show _ ∧ _ ∧ _ ∧ _ ∧ _ ∧ _ ∧ _ from ⟨hul, hvl, hn, hru, hrv, hle, hel⟩)
  have HWd := Lib.hid (show _ ∧ _ ∧ _ ∧ _ from ⟨hW, hWe, hWu, hWv⟩)
  have t1 : ((d.length : Int) != (d.length : Int)) = false := bne_self_eq_false _
  obtain ⟨W0, hW0⟩ : ∃ W0, W0 = (((((w.alloc (.cells #[.slice da d.length dc, .slice ea e.length ec] 24)).alloc (.cells #[.int .i64 ru, .int .i64 d.length, .slice ua u.length uc] 26)).alloc (.cells #[.int .i64 rv, .int .i64 d.length, .slice va v.length vc] 26)).alloc (.cells #[.int .i64 0, .int .i64 0, .slice none 0 0] 26)).alloc (.cells #[.int .i64 0, .int .i64 0, .slice none 0 0] 26)) := ⟨_, rfl⟩
  have hB0 : Below w.heap.size w W0 := hW0 ▸ (((((Below.refl _ _).alloc (Nat.le_refl _) _).alloc (by simp) _).alloc (by simp; omega) _).alloc (by simp; omega) _).alloc (by simp; omega) _
  have x0 : Box W0 (w.heap.size) [.slice da d.length dc, .slice ea e.length ec] := hW0 ▸ (((((Box.newA w [.slice da d.length dc, .slice ea e.length ec] _ rfl).alloc _).alloc _).alloc _).alloc _)
  have x1 : Box W0 (w.heap.size + 1) [.int .i64 ru, .int .i64 d.length, .slice ua u.length uc] := hW0 ▸ ((((Box.newA _ [.int .i64 ru, .int .i64 d.length, .slice ua u.length uc] _ (by simp)).alloc _).alloc _).alloc _)
  have x2 : Box W0 (w.heap.size + 1 + 1) [.int .i64 rv, .int .i64 d.length, .slice va v.length vc] := hW0 ▸ (((Box.newA _ [.int .i64 rv, .int .i64 d.length, .slice va v.length vc] _ (by simp)).alloc _).alloc _)
  have x3 : Box W0 (w.heap.size + 1 + 1 + 1) [.int .i64 0, .int .i64 0, .slice none 0 0] := hW0 ▸ ((Box.newA _ [.int .i64 0, .int .i64 0, .slice none 0 0] _ (by simp)).alloc _)
  have x4 : Box W0 (w.heap.size + 1 + 1 + 1 + 1) [.int .i64 0, .int .i64 0, .slice none 0 0] := hW0 ▸ (Box.newA _ [.int .i64 0, .int .i64 0, .slice none 0 0] _ (by simp))
  have S0 := Lib.hid (show BoxU w W0 [(w.heap.size, [.slice da d.length dc, .slice ea e.length ec]), (w.heap.size + 1, [.int .i64 ru, .int .i64 d.length, .slice ua u.length uc]), (w.heap.size + 1 + 1, [.int .i64 rv, .int .i64 d.length, .slice va v.length vc]), (w.heap.size + 1 + 1 + 1, [.int .i64 0, .int .i64 0, .slice none 0 0]), (w.heap.size + 1 + 1 + 1 + 1, [.int .i64 0, .int .i64 0, .slice none 0 0])] from ⟨fun p hp => by
    simp only [List.mem_cons, List.not_mem_nil, or_false] at hp
    rcases hp with rfl | rfl | rfl | rfl | rfl
    · exact x0
    · exact x1
    · exact x2
    · exact x3
    · exact x4
    , hB0⟩)
  clear hB0 x0 x1 x2 x3 x4 hd he hu hv hda hea hua hva hW hWe hWu hWv hn hel hru hrv hul hvl hfd hfe hfu hfv hlu hlv hle
  go_enter Try.func16, Try.ntmps16
  go_upto_region 1 with (fail)
  rw [← hW0]
  clear hW0
  obtain ⟨f01, f02, f03⟩ := (S0.out.get 0 rfl).facts
  obtain ⟨f11, f12, f13⟩ := (S0.out.get 1 rfl).facts
  obtain ⟨f21, f22, f23⟩ := (S0.out.get 2 rfl).facts
  go_wp2_with fail
  refine (HM1.out _).mono ?_
  rintro e_ w1_ ⟨rfl, hb⟩
  clear f01 f02 f03 f11 f12 f13 f21 f22 f23
  have S1 := Lib.hid (S0.out.step hb)
  clear hb S0
  dsimp only
  obtain ⟨f01, f02, f03⟩ := (S1.out.get 0 rfl).facts
  obtain ⟨f11, f12, f13⟩ := (S1.out.get 1 rfl).facts
  obtain ⟨f21, f22, f23⟩ := (S1.out.get 2 rfl).facts
  go_wp2_with fail
  refine (HM2.out _).mono ?_
  rintro e_ w2_ ⟨rfl, hb⟩
  clear f01 f02 f03 f11 f12 f13 f21 f22 f23
  have S2 := Lib.hid (S1.out.step hb)
  clear hb S1
  dsimp only
  obtain ⟨f01, f02, f03⟩ := (S2.out.get 0 rfl).facts
  obtain ⟨f11, f12, f13⟩ := (S2.out.get 1 rfl).facts
  obtain ⟨f21, f22, f23⟩ := (S2.out.get 2 rfl).facts
  go_wp2_with fail
  refine (HM3.out _).mono ?_
  rintro e_ w3_ ⟨rfl, hb⟩
  clear f01 f02 f03 f11 f12 f13 f21 f22 f23
  have S3 := Lib.hid (S2.out.step hb)
  clear hb S2
  dsimp only
  obtain ⟨f01, f02, f03⟩ := (S3.out.get 0 rfl).facts
  obtain ⟨f11, f12, f13⟩ := (S3.out.get 1 rfl).facts
  obtain ⟨f21, f22, f23⟩ := (S3.out.get 2 rfl).facts
  go_wp2_with fail
  refine (HF1.out _ S3.out.below).mono ?_
  rintro e_ w4_ ⟨rfl, rfl⟩
  clear f01 f02 f03 f11 f12 f13 f21 f22 f23
  dsimp only
  obtain ⟨f01, f02, f03⟩ := (S3.out.get 0 rfl).facts
  obtain ⟨f11, f12, f13⟩ := (S3.out.get 1 rfl).facts
  obtain ⟨f21, f22, f23⟩ := (S3.out.get 2 rfl).facts
  go_wp2_with fail
  refine (HF2.out _ S3.out.below).mono ?_
  rintro e_ w4_ ⟨rfl, rfl⟩
  clear f01 f02 f03 f11 f12 f13 f21 f22 f23
  dsimp only
  obtain ⟨f01, f02, f03⟩ := (S3.out.get 0 rfl).facts
  obtain ⟨f11, f12, f13⟩ := (S3.out.get 1 rfl).facts
  obtain ⟨f21, f22, f23⟩ := (S3.out.get 2 rfl).facts
  go_wp2_with fail
  refine (HF3.out _ S3.out.below).mono ?_
  rintro e_ w4_ ⟨rfl, rfl⟩
  clear f01 f02 f03 f11 f12 f13 f21 f22 f23
  dsimp only
  obtain ⟨f01, f02, f03⟩ := (S3.out.get 0 rfl).facts
  obtain ⟨f11, f12, f13⟩ := (S3.out.get 1 rfl).facts
  obtain ⟨f21, f22, f23⟩ := (S3.out.get 2 rfl).facts
  go_wp2_with fail
  refine (HF4.out _ S3.out.below).mono ?_
  rintro e_ w4_ ⟨rfl, rfl⟩
  clear f01 f02 f03 f11 f12 f13 f21 f22 f23
  dsimp only
  go_upto_region 9 with (fail)
  have hdr : Below w3_.heap.size w3_ w3_.drew := below_drewN 1 (Below.refl _ _)
  have T0 := Lib.hid (S3.out.step hdr)
  clear hdr S3 HM1 HM2 HM3 HF1 HF2 HF3 HF4
  refine wp_region_items 7 [(true, 0), (true, 1), (true, 3), (true, 4), (false, 2), (true, 6), (false, 5)] (fun W => (∀ i, W.cell? ⟨w.heap.size + 1, i, none⟩ = ([.int .i64 ru, .int .i64 d.length, .slice ua u.length uc] : List Value)[i]?) ∧ (∀ i, W.cell? ⟨w.heap.size + 1 + 1, i, none⟩ = ([.int .i64 rv, .int .i64 d.length, .slice va v.length vc] : List Value)[i]?)) (by kernel_rfl) (by kernel_rfl) ⟨(T0.out.get 1 rfl).cell, (T0.out.get 2 rfl).cell⟩ ?_
  generalize w3_.drew = y0 at *
  iterate 4 (refine iW_take (v := ?_) rfl rfl ?_ ?_; rotate_left; (next => (intro w' hSw; (try dsimp only at hSw); go_simp; (try (rw [if_pos (by omega)]; go_simp)); (try with_reducible rfl))); (simp only [Act.put, List.setIfInBounds_toArray, List.set_cons_zero, List.set_cons_succ]))
  refine iW_mid rfl rfl ?_
  go_simp
  refine (HCu.out _ T0.out.below).mono ?_
  rintro e_ y1 ⟨⟨sv, rfl, hO⟩, hb⟩
  have T1 := Lib.hid (T0.out.step hb)
  obtain ⟨b2, wb2, cp2, rfl, k1, k2, k3, hF, k4⟩ := hO.fs
  have O2_1 := Lib.hid hF
  have hsz := hb.size
  have Q2 := Lib.hid (show _ ∧ _ ∧ _ ∧ _ ∧ _ ∧ _ from ⟨k1, k2, k3, k4, hsz, (T0.out.get 4 rfl).lt⟩)
  refine ⟨⟨(T1.out.get 1 rfl).cell, (T1.out.get 2 rfl).cell⟩, ?_⟩
  clear hb hO hF k1 k2 k3 k4 hsz T0
  iterate 1 (refine iW_take (v := ?_) rfl rfl ?_ ?_; rotate_left; (next => (intro w' hSw; (try dsimp only at hSw); go_simp; (try (rw [if_pos (by omega)]; go_simp)); (try with_reducible rfl))); (simp only [Act.put, List.setIfInBounds_toArray, List.set_cons_zero, List.set_cons_succ]))
  refine iW_mid rfl rfl ?_
  go_simp
  refine (HCv.out _ T1.out.below).mono ?_
  rintro e_ y2 ⟨⟨sv, rfl, hO⟩, hb⟩
  have T2 := Lib.hid (T1.out.step hb)
  have O2_2 := Lib.hid (O2_1.out.below hb)
  obtain ⟨b3, wb3, cp3, rfl, k1, k2, k3, hF, k4⟩ := hO.fs
  have O3_2 := Lib.hid hF
  have hsz := hb.size
  have Q3 := Lib.hid (show _ ∧ _ ∧ _ ∧ _ ∧ _ ∧ _ from ⟨k1, k2, k3, k4, hsz, (T1.out.get 4 rfl).lt⟩)
  refine ⟨⟨(T2.out.get 1 rfl).cell, (T2.out.get 2 rfl).cell⟩, ?_⟩
  clear hb hO hF k1 k2 k3 k4 hsz T1 O2_1
  obtain ⟨f11, f12, f13⟩ := (T2.out.get 1 rfl).facts
  obtain ⟨f21, f22, f23⟩ := (T2.out.get 2 rfl).facts
  refine iW_nil ?_
  go_simp
  go_wp2_with fail
  refine NoPanic.normal ?_
  clear f11 f12 f13 f21 f22 f23
  go_upto_region 10 with (fail)
  obtain ⟨W4, hW4⟩ : ∃ x, x = (y2.setCell ⟨w.heap.size + 1, 2, none⟩ (.slice b2 u.length cp2)).setCell ⟨w.heap.size + 1 + 1, 2, none⟩ (.slice b3 v.length cp3) := ⟨_, rfl⟩
  rw [← hW4]
  have G0 := Lib.hid (show BoxU w W4 [(w.heap.size, [.slice da d.length dc, .slice ea e.length ec]), (w.heap.size + 1, [.int .i64 ru, .int .i64 d.length, .slice b2 u.length cp2]), (w.heap.size + 1 + 1, [.int .i64 rv, .int .i64 d.length, .slice b3 v.length cp3]), (w.heap.size + 1 + 1 + 1, [.int .i64 0, .int .i64 0, .slice none 0 0]), (w.heap.size + 1 + 1 + 1 + 1, [.int .i64 0, .int .i64 0, .slice none 0 0])] ∧ FS W4 b2 wb2 u ∧ FS W4 b3 wb3 v from by
    subst hW4
    have a2 := Q2.out; have a3 := Q3.out; have z4 := (T2.out.get 4 rfl).lt
    have c4 : w.heap.size + 1 < wb2 := by have := a2.2.2.1; have := a2.2.2.2.2.2; omega
    have c5 : w.heap.size + 1 + 1 < wb3 := by have := a3.2.2.1; have := a3.2.2.2.2.2; omega
    have c6 : w.heap.size + 1 + 1 < wb2 := by have := a2.2.2.1; have := a2.2.2.2.2.2; omega
    have c7 : w.heap.size + 1 < wb3 := by have := a3.2.2.1; have := a3.2.2.2.2.2; omega
    have x0 := ((T2.out.get 0 rfl).set_other (m := w.heap.size + 1) (by omega) 2 (.slice b2 u.length cp2)).set_other (m := w.heap.size + 1 + 1) (by omega) 2 (.slice b3 v.length cp3)
    have x1 := ((T2.out.get 1 rfl).set 2 (.slice b2 u.length cp2)).set_other (m := w.heap.size + 1 + 1) (by omega) 2 (.slice b3 v.length cp3)
    have x2 := ((T2.out.get 2 rfl).set_other (m := w.heap.size + 1) (by omega) 2 (.slice b2 u.length cp2)).set 2 (.slice b3 v.length cp3)
    have x3 := ((T2.out.get 3 rfl).set_other (m := w.heap.size + 1) (by omega) 2 (.slice b2 u.length cp2)).set_other (m := w.heap.size + 1 + 1) (by omega) 2 (.slice b3 v.length cp3)
    have x4 := ((T2.out.get 4 rfl).set_other (m := w.heap.size + 1) (by omega) 2 (.slice b2 u.length cp2)).set_other (m := w.heap.size + 1 + 1) (by omega) 2 (.slice b3 v.length cp3)
    refine ⟨⟨fun p hp => ?_, below_set (below_set T2.out.below (by omega) _ _) (by omega) _ _⟩, (O2_2.out.otherU (by omega) _ _).otherU (by omega) _ _, (O3_2.out.otherU (by omega) _ _).otherU (by omega) _ _⟩
    simp only [List.mem_cons, List.not_mem_nil, or_false] at hp
    rcases hp with rfl | rfl | rfl | rfl | rfl
    · exact x0
    · exact x1
    · exact x2
    · exact x3
    · exact x4
    )
  have Q4 := Lib.hid (show y2.heap.size = W4.heap.size from by subst hW4; simp)
  clear hW4 T2 O2_2 O3_2 HCu HCv t1
  have hdr : Below W4.heap.size W4 W4.drew := below_drewN 1 (Below.refl _ _)
  have A0 := Lib.hid (show _ ∧ _ ∧ _ from ⟨G0.out.1.step hdr, G0.out.2.1.below hdr, G0.out.2.2.below hdr⟩)
  have Q5 := Lib.hid (show y2.heap.size = W4.drew.heap.size from Q4.out)
  clear hdr G0 Q4
  go_cut [13] from 105 to 115 (fun s13 wx => ∃ p : GsP, s13 = .pointer (some ⟨p.X, 0, none⟩) ∧ (p.n = d.length ∧ p.ne = e.length + 1 ∧ p.ru = ru ∧ p.rv = rv) ∧ GSt w wx p ⟨d, 0 :: e, u, v⟩ 0)
  case first =>
    refine wp_region_many 9 60 [(0, 0), (0, 1), (0, 4), (0, 5), (0, 7), (0, 8), (3, 3), (1, 2), (2, 3), (1, 6)] (fun W => (∀ i, W.cell? ⟨w.heap.size, i, none⟩ = ([.slice da d.length dc, .slice ea e.length ec] : List Value)[i]?) ∧ (∀ i, W.cell? ⟨w.heap.size + 1, i, none⟩ = ([.int .i64 ru, .int .i64 d.length, .slice b2 u.length cp2] : List Value)[i]?) ∧ (∀ i, W.cell? ⟨w.heap.size + 1 + 1, i, none⟩ = ([.int .i64 rv, .int .i64 d.length, .slice b3 v.length cp3] : List Value)[i]?)) (by kernel_rfl) (by kernel_rfl) ⟨(A0.out.1.get 0 rfl).cell, (A0.out.1.get 1 rfl).cell, (A0.out.1.get 2 rfl).cell⟩ ?_
    generalize W4.drew = y3 at *
    iterate 6 (refine fm_take (v := ?_) rfl rfl ?_ ?_; rotate_left; (next => (intro w' hSw; (try dsimp only at hSw); go_simp; (try (rw [if_pos (by omega)]; go_simp)); (try with_reducible rfl))); (simp only [Act.put, List.setIfInBounds_toArray, List.set_cons_zero, List.set_cons_succ]))
    refine fm_from ?_
    refine fm_one1 ?_ ?_
    · skip
      refine opW_take rfl rfl ?_
      go_simp
      refine (HC.out _ A0.out.1.below).mono ?_
      rintro e_ y4 ⟨⟨sv, rfl, hO⟩, hb⟩
      have hsz := hb.size
      have O1 := Lib.hid (show _ ∧ _ from ⟨hO, hsz⟩)
      clear hO
      have A1 := Lib.hid (show _ ∧ _ ∧ _ from ⟨A0.out.1.step hb, A0.out.2.1.below hb, A0.out.2.2.below hb⟩)
      obtain ⟨b1, wb1, cp1, rfl, k1, k2, k3, hF, k4⟩ := O1.out.1.fs
      have Q1 := Lib.hid (show _ ∧ _ ∧ _ ∧ _ ∧ _ from ⟨k1, k2, k3, k4, O1.out.2⟩)
      have F1 := Lib.hid hF
      clear k1 k2 k3 k4 hF O1
      refine ⟨⟨(A1.out.1.get 0 rfl).cell, (A1.out.1.get 1 rfl).cell, (A1.out.1.get 2 rfl).cell⟩, ?_⟩
      clear hb hsz A0
      refine fm_now ?_
      refine opW_take rfl rfl ?_
      go_simp
      obtain ⟨y5, hy⟩ : ∃ x, x = y4.alloc (.cells #[.float .f64 0] 40) := ⟨_, rfl⟩
      rw [← hy]
      have hb : Below y4.heap.size y4 y5 := hy ▸ (Below.refl _ _).alloc (Nat.le_refl _) _
      have hsz := hb.size
      have OZ := Lib.hid (show OwnF y5 y4.heap.size _ [0] from hy ▸ OwnF.zero y4)
      have Q6 := Lib.hid (show y4.heap.size < y5.heap.size from by rw [hy]; simp)
      have Q66 := Lib.hid (show y4.heap.size ≤ y5.heap.size from hsz)
      clear hy
      have A2 := Lib.hid (show _ ∧ _ ∧ _ from ⟨A1.out.1.step hb, A1.out.2.1.below hb, A1.out.2.2.below hb⟩)
      have F2 := Lib.hid (F1.out.below hb)
      clear F1
      have F1 := F2
      clear F2
      refine ⟨⟨(A2.out.1.get 0 rfl).cell, (A2.out.1.get 1 rfl).cell, (A2.out.1.get 2 rfl).cell⟩, ?_⟩
      clear hb hsz A1
      refine fm_one ?_
      refine opW_take rfl rfl ?_
      have hL5 : w.heap.size + 1 + 1 + 1 + 1 < y4.heap.size ∧ y4.heap.size < y5.heap.size ∧ y2.heap.size ≤ y4.heap.size := by have q1 := Q1.out; have q2 := Q2.out; have q3 := Q3.out; have q5 := Q5.out; have q6 := Q6.out; omega
      have n1 : d ≠ [] → wb1 ≠ y4.heap.size := fun h => by have q1 := Q1.out; have q2 := Q2.out; have q3 := Q3.out; have q5 := Q5.out; have q6 := Q6.out; have := q1.2.2.2.1 h; omega
      have n2 : u ≠ [] → wb2 ≠ y4.heap.size := fun h => by have q1 := Q1.out; have q2 := Q2.out; have q3 := Q3.out; have q5 := Q5.out; have q6 := Q6.out; have := q2.2.2.2.1 h; omega
      have n3 : v ≠ [] → wb3 ≠ y4.heap.size := fun h => by have q1 := Q1.out; have q2 := Q2.out; have q3 := Q3.out; have q5 := Q5.out; have q6 := Q6.out; have := q3.2.2.2.1 h; omega
      have NN := Lib.hid (show _ ∧ _ ∧ _ ∧ _ from ⟨hL5, n1, n2, n3⟩)
      clear hL5 n1 n2 n3
      refine wp_append_oneF (.tmp 108) (.tmp 110) rfl y4.heap.size rfl OZ.out ea e ec rfl (HE.out.1.below A2.out.1.below) HE.out.2 (by have := HL.out.2.2.2.2.2.1; omega) NN.out.1.2.1 ?_
      rintro b6 cp6 y6 hF6 hlt6 hb6 hB6
      have hsz := hB6.size
      have A3 := Lib.hid (show _ ∧ _ ∧ _ ∧ _ ∧ _ from ⟨A2.out.1.bel (by have := NN.out.1.1; omega) (fun p hp => by have := NN.out.1.1; simp only [List.mem_cons, List.not_mem_nil, or_false] at hp; rcases hp with rfl | rfl | rfl | rfl | rfl <;> (show _ ≠ _) <;> simp <;> omega) hB6, A2.out.2.1.belC NN.out.2.2.1 hB6, A2.out.2.2.belC NN.out.2.2.2 hB6, F1.out.belC NN.out.2.1 hB6, hF6⟩)
      have Q8 := Lib.hid (show _ ∧ _ ∧ _ from ⟨hlt6, hb6, hsz⟩)
      clear hF6 hlt6 hb6 hB6 hsz A2 F1 OZ
      refine ⟨⟨(A3.out.1.get 0 rfl).cell, (A3.out.1.get 1 rfl).cell, (A3.out.1.get 2 rfl).cell⟩, ?_⟩
      have HG : ∃ p : GsP, p.X = y6.heap.size ∧ p.n = d.length ∧ p.ne = e.length + 1 ∧ p.ru = ru ∧ p.rv = rv ∧ GSt w (y6.alloc (.cells #[.slice b1 d.length cp1, .slice (some ⟨b6, 0, none⟩) (e.length + 1) cp6, .int .i64 ru, .int .i64 d.length, .slice b2 u.length cp2, .int .i64 rv, .int .i64 d.length, .slice b3 v.length cp3, .float .f64 0] 83)) p ⟨d, 0 :: e, u, v⟩ 0 := by
        have hb7 := (Below.refl y6.heap.size y6).alloc (Nat.le_refl _) (.cells #[.slice b1 d.length cp1, .slice (some ⟨b6, 0, none⟩) (e.length + 1) cp6, .int .i64 ru, .int .i64 d.length, .slice b2 u.length cp2, .int .i64 rv, .int .i64 d.length, .slice b3 v.length cp3, .float .f64 0] 83)
        have hx := Box.newA y6 [.slice b1 d.length cp1, .slice (some ⟨b6, 0, none⟩) (e.length + 1) cp6, .int .i64 ru, .int .i64 d.length, .slice b2 u.length cp2, .int .i64 rv, .int .i64 d.length, .slice b3 v.length cp3, .float .f64 0] 83 rfl
        rw [HL.out.1, HL.out.2.1] at hx hb7 ⊢
        obtain ⟨h1, h2, h3, h4, h5⟩ := A3.out
        have hL := HL.out
        have hmt : mayT d.length e.length = true := hL.2.2.2.2.2.2
        have hne : d.length ≤ e.length + 1 := by unfold mayT at hmt; simp at hmt; omega
        have q1 := Q1.out; have q2 := Q2.out; have q3 := Q3.out; have q5 := Q5.out; have q6 := Q6.out
        have q8 := Q8.out
        have nn := NN.out
        exact GSt.mk0 hx ((h1.step hb7).get 3 rfl) ((h1.step hb7).get 4 rfl) (h4.below hb7) (h5.below hb7) (h2.below hb7) (h3.below hb7) ⟨hL.1, q2.1, q2.2.1, HWd.out.2.2.1⟩ ⟨hL.2.1, q3.1, q3.2.1, HWd.out.2.2.2⟩ ⟨rfl, rfl⟩ ⟨hne, by omega, hL.2.2.1, hL.2.2.2.1, hL.2.2.2.2.1⟩ ⟨HWd.out.1, fun x hx => by rcases List.mem_cons.1 hx with rfl | h; decide; exact HWd.out.2.1 x h⟩ (by omega)
          (fun h => by have := q1.2.2.2.1 h; omega) (fun _ => by omega) (fun h => by have := q2.2.2.2.1 h; omega) (fun h => by have := q3.2.2.2.1 h; omega)
          (fun h _ => by have := q1.2.2.2.1 h; have := nn.2.1 h; omega) (fun h k => by have := q1.2.2.2.1 h; have := q2.2.2.2.1 k; omega) (fun h k => by have := q1.2.2.2.1 h; have := q3.2.2.2.1 k; omega) (fun _ k => by have := q2.2.2.2.1 k; omega) (fun _ k => by have := q3.2.2.2.1 k; omega) (fun h k => by have := q2.2.2.2.1 h; have := q3.2.2.2.1 k; omega) (h1.step hb7).below
      have HG2 := Lib.hid HG
      clear HG NN Q8 A3
      refine fm_nil ?_
      go_simp
      go_wp2_with fail
      refine NoPanic.normal ?_
      go_wp2_with fail
      go_meet
      case rel => obtain ⟨p, h1, h2, h3, h4, h5, h6⟩ := HG2.out; exact ⟨p, by rw [h1], ⟨h2, h3, h4, h5⟩, h6⟩
    · skip
      refine opW_take rfl rfl ?_
      go_simp
      obtain ⟨y4, hy⟩ : ∃ x, x = y3.alloc (.cells #[.float .f64 0] 40) := ⟨_, rfl⟩
      rw [← hy]
      have hb : Below y3.heap.size y3 y4 := hy ▸ (Below.refl _ _).alloc (Nat.le_refl _) _
      have hsz := hb.size
      have OZ := Lib.hid (show OwnF y4 y3.heap.size _ [0] from hy ▸ OwnF.zero y3)
      have Q6 := Lib.hid (show y3.heap.size < y4.heap.size from by rw [hy]; simp)
      have Q66 := Lib.hid (show y3.heap.size ≤ y4.heap.size from hsz)
      clear hy
      have A1 := Lib.hid (show _ ∧ _ ∧ _ from ⟨A0.out.1.step hb, A0.out.2.1.below hb, A0.out.2.2.below hb⟩)
      refine ⟨⟨(A1.out.1.get 0 rfl).cell, (A1.out.1.get 1 rfl).cell, (A1.out.1.get 2 rfl).cell⟩, ?_⟩
      clear hb hsz A0
      refine fm_one ?_
      refine opW_take rfl rfl ?_
      go_simp
      refine (HC.out _ A1.out.1.below).mono ?_
      rintro e_ y5 ⟨⟨sv, rfl, hO⟩, hb⟩
      have hsz := hb.size
      have O1 := Lib.hid (show _ ∧ _ from ⟨hO, hsz⟩)
      clear hO
      have A2 := Lib.hid (show _ ∧ _ ∧ _ from ⟨A1.out.1.step hb, A1.out.2.1.below hb, A1.out.2.2.below hb⟩)
      have OZ2 := Lib.hid (OZ.out.below hb)
      clear OZ
      have OZ := OZ2
      clear OZ2
      have Q7 := Lib.hid hsz
      obtain ⟨b1, wb1, cp1, rfl, k1, k2, k3, hF, k4⟩ := O1.out.1.fs
      have Q1 := Lib.hid (show _ ∧ _ ∧ _ ∧ _ ∧ _ from ⟨k1, k2, k3, k4, O1.out.2⟩)
      have F1 := Lib.hid hF
      clear k1 k2 k3 k4 hF O1
      refine ⟨⟨(A2.out.1.get 0 rfl).cell, (A2.out.1.get 1 rfl).cell, (A2.out.1.get 2 rfl).cell⟩, ?_⟩
      clear hb hsz A1
      refine fm_one ?_
      refine opW_take rfl rfl ?_
      have hL5 : w.heap.size + 1 + 1 + 1 + 1 < y3.heap.size ∧ y3.heap.size < y5.heap.size ∧ y2.heap.size ≤ y3.heap.size := by have q1 := Q1.out; have q2 := Q2.out; have q3 := Q3.out; have q5 := Q5.out; have q6 := Q6.out; have q7 := Q7.out; omega
      have n1 : d ≠ [] → wb1 ≠ y3.heap.size := fun h => by have q1 := Q1.out; have q2 := Q2.out; have q3 := Q3.out; have q5 := Q5.out; have q6 := Q6.out; have q7 := Q7.out; have := q1.2.2.2.1 h; omega
      have n2 : u ≠ [] → wb2 ≠ y3.heap.size := fun h => by have q1 := Q1.out; have q2 := Q2.out; have q3 := Q3.out; have q5 := Q5.out; have q6 := Q6.out; have q7 := Q7.out; have := q2.2.2.2.1 h; omega
      have n3 : v ≠ [] → wb3 ≠ y3.heap.size := fun h => by have q1 := Q1.out; have q2 := Q2.out; have q3 := Q3.out; have q5 := Q5.out; have q6 := Q6.out; have q7 := Q7.out; have := q3.2.2.2.1 h; omega
      have NN := Lib.hid (show _ ∧ _ ∧ _ ∧ _ from ⟨hL5, n1, n2, n3⟩)
      clear hL5 n1 n2 n3
      refine wp_append_oneF (.tmp 108) (.tmp 110) rfl y3.heap.size rfl OZ.out ea e ec rfl (HE.out.1.below A2.out.1.below) HE.out.2 (by have := HL.out.2.2.2.2.2.1; omega) NN.out.1.2.1 ?_
      rintro b6 cp6 y6 hF6 hlt6 hb6 hB6
      have hsz := hB6.size
      have A3 := Lib.hid (show _ ∧ _ ∧ _ ∧ _ ∧ _ from ⟨A2.out.1.bel (by have := NN.out.1.1; omega) (fun p hp => by have := NN.out.1.1; simp only [List.mem_cons, List.not_mem_nil, or_false] at hp; rcases hp with rfl | rfl | rfl | rfl | rfl <;> (show _ ≠ _) <;> simp <;> omega) hB6, A2.out.2.1.belC NN.out.2.2.1 hB6, A2.out.2.2.belC NN.out.2.2.2 hB6, F1.out.belC NN.out.2.1 hB6, hF6⟩)
      have Q8 := Lib.hid (show _ ∧ _ ∧ _ from ⟨hlt6, hb6, hsz⟩)
      clear hF6 hlt6 hb6 hB6 hsz A2 F1 OZ
      refine ⟨⟨(A3.out.1.get 0 rfl).cell, (A3.out.1.get 1 rfl).cell, (A3.out.1.get 2 rfl).cell⟩, ?_⟩
      have HG : ∃ p : GsP, p.X = y6.heap.size ∧ p.n = d.length ∧ p.ne = e.length + 1 ∧ p.ru = ru ∧ p.rv = rv ∧ GSt w (y6.alloc (.cells #[.slice b1 d.length cp1, .slice (some ⟨b6, 0, none⟩) (e.length + 1) cp6, .int .i64 ru, .int .i64 d.length, .slice b2 u.length cp2, .int .i64 rv, .int .i64 d.length, .slice b3 v.length cp3, .float .f64 0] 83)) p ⟨d, 0 :: e, u, v⟩ 0 := by
        have hb7 := (Below.refl y6.heap.size y6).alloc (Nat.le_refl _) (.cells #[.slice b1 d.length cp1, .slice (some ⟨b6, 0, none⟩) (e.length + 1) cp6, .int .i64 ru, .int .i64 d.length, .slice b2 u.length cp2, .int .i64 rv, .int .i64 d.length, .slice b3 v.length cp3, .float .f64 0] 83)
        have hx := Box.newA y6 [.slice b1 d.length cp1, .slice (some ⟨b6, 0, none⟩) (e.length + 1) cp6, .int .i64 ru, .int .i64 d.length, .slice b2 u.length cp2, .int .i64 rv, .int .i64 d.length, .slice b3 v.length cp3, .float .f64 0] 83 rfl
        rw [HL.out.1, HL.out.2.1] at hx hb7 ⊢
        obtain ⟨h1, h2, h3, h4, h5⟩ := A3.out
        have hL := HL.out
        have hmt : mayT d.length e.length = true := hL.2.2.2.2.2.2
        have hne : d.length ≤ e.length + 1 := by unfold mayT at hmt; simp at hmt; omega
        have q1 := Q1.out; have q2 := Q2.out; have q3 := Q3.out; have q5 := Q5.out; have q6 := Q6.out; have q7 := Q7.out
        have q8 := Q8.out
        have nn := NN.out
        exact GSt.mk0 hx ((h1.step hb7).get 3 rfl) ((h1.step hb7).get 4 rfl) (h4.below hb7) (h5.below hb7) (h2.below hb7) (h3.below hb7) ⟨hL.1, q2.1, q2.2.1, HWd.out.2.2.1⟩ ⟨hL.2.1, q3.1, q3.2.1, HWd.out.2.2.2⟩ ⟨rfl, rfl⟩ ⟨hne, by omega, hL.2.2.1, hL.2.2.2.1, hL.2.2.2.2.1⟩ ⟨HWd.out.1, fun x hx => by rcases List.mem_cons.1 hx with rfl | h; decide; exact HWd.out.2.1 x h⟩ (by omega)
          (fun h => by have := q1.2.2.2.1 h; omega) (fun _ => by omega) (fun h => by have := q2.2.2.2.1 h; omega) (fun h => by have := q3.2.2.2.1 h; omega)
          (fun h _ => by have := q1.2.2.2.1 h; have := nn.2.1 h; omega) (fun h k => by have := q1.2.2.2.1 h; have := q2.2.2.2.1 k; omega) (fun h k => by have := q1.2.2.2.1 h; have := q3.2.2.2.1 k; omega) (fun _ k => by have := q2.2.2.2.1 k; omega) (fun _ k => by have := q3.2.2.2.1 k; omega) (fun h k => by have := q2.2.2.2.1 h; have := q3.2.2.2.1 k; omega) (h1.step hb7).below
      have HG2 := Lib.hid HG
      clear HG NN Q8 A3
      refine fm_nil ?_
      go_simp
      go_wp2_with fail
      refine NoPanic.normal ?_
      go_wp2_with fail
      go_meet
      case rel => obtain ⟨p, h1, h2, h3, h4, h5, h6⟩ := HG2.out; exact ⟨p, by rw [h1], ⟨h2, h3, h4, h5⟩, h6⟩
  case rest =>
    obtain ⟨p, rfl, hp, hG⟩ := hcut
    have HP := Lib.hid hp
    have G1 := Lib.hid hG
    clear hp hG A0 HC HE Q2 Q3 Q5
    obtain ⟨y, hy⟩ : ∃ y, y = solG d.length ru rv (bigG d (0 :: e) d.length) d.length ⟨d, 0 :: e, u, v⟩ 0 := ⟨_, rfl⟩
    have HY := Lib.hid hy
    have HPq := Lib.hid (show SolveGP w ru rv d e u v = SolveGQ w d.length ru rv y by rw [hy]; rfl)
    clear hy
    have hd5 : d.length ≤ 512 := HL.out.2.2.1
    go_wp2_with fail
    go_loopw [117] (fun s117 wr => ∃ i : Nat, s117 = .int .i64 i ∧ i ≤ d.length ∧ GSt w wr p ⟨d, 0 :: e, u, v⟩ (bigG d (0 :: e) i)) (fun s117 _ => d.length - (intOf s117).toNat)
    case atStart => exact ⟨0, rfl, Nat.zero_le _, G1.out⟩
    case round =>
      obtain ⟨i, rfl, hi, hG⟩ := hrel
      have G2 := Lib.hid hG
      have HI := Lib.hid hi
      clear hG hi G1
      by_cases hlt : i < d.length
      case pos =>
        obtain ⟨big, hbig⟩ : ∃ b, b = bigG d (0 :: e) i := ⟨_, rfl⟩
        rw [← hbig] at G2
        have HB := Lib.hid hbig
        clear hbig
        have HN := Lib.hid (show 0 < p.n ∧ i < p.n ∧ i < p.ne ∧ i < 1000 from by have h := HP.out; have := G2.out.hn; omega)
        have hin := HN.out.2.1
        have hie := HN.out.2.2.1
        have hi9 := HN.out.2.2.2
        obtain ⟨di, hdi⟩ : ∃ x, x = d.getD i 0 := ⟨_, rfl⟩
        obtain ⟨ei, hei⟩ : ∃ x, x = (0 :: e).getD i 0 := ⟨_, rfl⟩
        have HED := Lib.hid (show di = d.getD i 0 ∧ ei = (0 :: e).getD i 0 ∧ di < 18446744073709551616 ∧ ei < 18446744073709551616 from ⟨hdi, hei, hdi ▸ G2.out.wd.at _, hei ▸ G2.out.we.at _⟩)
        clear hdi hei
        go_upto_region 14 with (fail)
        have G3 := Lib.hid (show GSt w wr.drew p _ _ from G2.out.step (below_drewN 1 (Below.refl _ wr)))
        clear G2
        obtain ⟨sb, hX⟩ := G3.out.cells0 HN.out.1
        obtain ⟨sd, cd⟩ := G3.out.atD HN.out.2.1
        obtain ⟨se, ce⟩ := G3.out.atE HN.out.1 HN.out.2.2.1
        dsimp only at cd ce
        rw [← HED.out.1] at cd
        rw [← HED.out.2.1] at ce
        have HS := Lib.hid (show _ ∧ _ ∧ _ from ⟨hX.cell, cd, ce⟩)
        clear hX cd ce
        refine wp_region_items 15 [(true, 0), (true, 1), (true, 2), (true, 3), (true, 4), (true, 5), (true, 6), (true, 8), (true, 9), (true, 10), (true, 11), (true, 12), (true, 13), (true, 14), (false, 7)] (fun W => (∀ j, W.cell? ⟨p.X, j, none⟩ = ([.slice (some ⟨p.bd, 0, none⟩) p.n p.dc, .slice (some ⟨p.be, 0, none⟩) p.ne p.ec, .int .i64 p.ru, .int .i64 p.n, .slice p.au (p.ru * p.n) p.uc, .int .i64 p.rv, .int .i64 p.n, .slice p.av (p.rv * p.n) p.vc, .float .f64 (raw big sb)] : List Value)[j]?) ∧ W.cell? ⟨p.bd, i, none⟩ = some (.float .f64 (raw di sd)) ∧ W.cell? ⟨p.be, i, none⟩ = some (.float .f64 (raw ei se))) (by kernel_rfl) (by kernel_rfl) HS.out ?_
        generalize wr.drew = w1 at *
        iterate 14 (refine iW_take (v := ?_) rfl rfl ?_ ?_; rotate_left; (next => (intro w' hSw; (try dsimp only at hSw); go_simp; (try (rw [if_pos (by omega)]; go_simp)); (try with_reducible rfl))); (simp only [Act.put, List.setIfInBounds_toArray, List.set_cons_zero, List.set_cons_succ]))
        refine iW_mid rfl rfl ?_
        go_simp
        refine (AbsF di sd HED.out.2.2.1 w1).mono ?_
        rintro e_ w2 ⟨⟨s1, rfl⟩, rfl⟩
        refine ⟨HS.out, ?_⟩
        refine iW_nil ?_
        go_simp
        go_wp2_with fail
        refine (AbsF ei se HED.out.2.2.2 w1).mono ?_
        rintro e_ w3 ⟨⟨s2, rfl⟩, rfl⟩
        go_wp2_with (first | (refine wpList_flt rfl rfl rfl rfl rfl ?_; intro K hK s3 n3; go_frame; refine hK _ _ ?_; clear hK K))
        refine NoPanic.normal ?_
        simp only [fadd_rawl, fadd_rawr]
        have hb := below_drewN n3 (Below.refl w1.heap.size w1)
        have G4 := Lib.hid (G3.out.step hb)
        generalize w1.drewN n3 = w2 at *
        clear hb G3 HS
        obtain ⟨T, hT⟩ : ∃ x, x = fadd (fabs di) (fabs ei) := ⟨_, rfl⟩
        rw [← hT]
        have HT := Lib.hid (show T = fadd (fabs di) (fabs ei) ∧ T < 18446744073709551616 from ⟨hT, hT ▸ fadd_lt _ _⟩)
        clear hT
        have HBN := Lib.hid (show bigG d (0 :: e) (i + 1) = if flt big T then T else big by rw [bigG, ← HB.out, ← HED.out.1, ← HED.out.2.1, ← HT.out.1])
        obtain ⟨sc, hX⟩ := G4.out.cells0 HN.out.1
        obtain ⟨f1, f2, f3⟩ := hX.facts
        clear hX
        go_upto_region 15 with (fail)
        cases hq : flt big T
        case false =>
          have HBN2 := Lib.hid (show bigG d (0 :: e) (i + 1) = big by rw [HBN.out, hq]; rfl)
          go_wp2_with fail
          go_roundw
          case rel => exact ⟨i + 1, by go_num, hlt, by rw [HBN2.out]; exact G4.out⟩
          case measure => simp [intOf]; omega
        case true =>
          have HBN2 := Lib.hid (show bigG d (0 :: e) (i + 1) = T by rw [HBN.out, hq]; rfl)
          go_wp2_with fail
          go_roundw
          case rel => exact ⟨i + 1, by go_num, hlt, by rw [HBN2.out]; exact G4.out.setBig HN.out.1 T s3 HT.out.2⟩
          case measure => simp [intOf]; omega
      case neg =>
        have hid : i = d.length := by have := HI.out; omega
        obtain ⟨big, hbig⟩ : ∃ b, b = bigG d (0 :: e) d.length := ⟨_, rfl⟩
        have G3 := Lib.hid (show GSt w wr p _ big from by rw [hbig, ← hid]; exact G2.out)
        have HY2 := Lib.hid (show solG d.length ru rv big d.length ⟨d, 0 :: e, u, v⟩ 0 = y by rw [hbig]; exact HY.out.symm)
        clear hid hbig HI G2 HY
        go_wp2_with fail
        go_loopw [16, 17] (fun s16 s17 wk => ∃ (m s : Nat) (K : Int) (S : GkS), s16 = .int .i64 s ∧ s17 = .int .i64 K ∧ K = (m : Int) - 1 ∧ m ≤ d.length ∧ s + 30 * m ≤ 30 * d.length ∧ solG d.length ru rv big m S s = y ∧ GSt w wk p S big) (fun _ s17 _ => (intOf s17 + 1).toNat)
        case atStart => exact ⟨d.length, 0, _, _, rfl, rfl, by first | rfl | (unfold wrap64; omega) | (rw [IntKind.wrap_i64]; omega), Nat.le_refl _, by omega, HY2.out, G3.out⟩
        case round =>
          obtain ⟨m, s, K, S, rfl, rfl, hK, hm, hs, hy, hG⟩ := hrel
          have G4 := Lib.hid hG
          have HY3 := Lib.hid hy
          have HM := Lib.hid (And.intro hm hs)
          clear hG hy hm hs G3 HY2
          by_cases hm0 : 0 < m
          case pos =>
            obtain ⟨k, hk⟩ : ∃ k, m = k + 1 := ⟨m - 1, by omega⟩
            subst hk
            obtain rfl : K = (k : Int) := by omega
            clear hm0 hK
            have HK := Lib.hid (show k < d.length ∧ k < p.n ∧ 0 < p.n ∧ k < 1000 ∧ s + 30 * k + 30 ≤ 30 * d.length from by have h := HP.out; have h2 := HM.out; omega)
            have hkd := HK.out.1
            have hk5 := HK.out.2.2.2.1
            have hsb : s ≤ 20000 := by have := HK.out; omega
            have HSt := Lib.hid (show (let z := valG d.length ru rv big k 30 S; if z.2.2 then solG d.length ru rv big k z.1 (s + z.2.1) else (z.1, s + z.2.1, false)) = y from HY3.out)
            clear HY3 HM
            go_wp2_with fail
            go_loopw [16, 18] (fun s16 s18 wm => ∃ (j : Nat) (T : GkS), s16 = .int .i64 ((s + j : Nat) : Int) ∧ s18 = .int .i64 j ∧ j ≤ 30 ∧ valG d.length ru rv big k 30 S = ((valG d.length ru rv big k (30 - j) T).1, (valG d.length ru rv big k (30 - j) T).2.1 + j, (valG d.length ru rv big k (30 - j) T).2.2) ∧ GSt w wm p T big) (fun _ s18 _ => 31 - (intOf s18).toNat)
            case atStart => exact ⟨0, S, rfl, rfl, by omega, rfl, G4.out⟩
            case round =>
              obtain ⟨j, T, rfl, rfl, hj, hv, hT⟩ := hrel
              have HV := Lib.hid hv
              have H1 := Lib.hid hT
              clear hv hT G4
              go_wp2_with fail
              refine (gst_start H1.out HK.out.2.1).mono ?_
              rintro r w1 ⟨rfl, hT⟩
              have H2 := Lib.hid hT
              clear hT H1
              have HL1 := Lib.hid (And.intro (startG_low T.d T.e big k) (startG_posU T.d T.e big k))
              have HPre := Lib.hid (show preG d.length ru big k T = if (startG T.d T.e big k).2 then clearG d.length ru big (startG T.d T.e big k).1 k T else T from rfl)
              obtain ⟨l, hl⟩ : ∃ l, l = (startG T.d T.e big k).1 := ⟨_, rfl⟩
              obtain ⟨c, hc⟩ : ∃ c, c = (startG T.d T.e big k).2 := ⟨_, rfl⟩
              rw [← hl, ← hc] at HL1 HPre ⊢
              have HLq := Lib.hid hl
              clear hl hc
              dsimp only
              obtain ⟨U, hU⟩ : ∃ U, U = preG d.length ru big k T := ⟨_, rfl⟩
              rw [← hU] at HPre
              have HU := Lib.hid hU
              clear hU
              have hlk : l ≤ k := HL1.out.1
              cases c
              case true =>
                have HPU := Lib.hid (show U = clearG d.length ru big l k T from HPre.out)
                clear HPre
                have hl0 : 0 < l := HL1.out.2 rfl
                go_wp2_with fail
                refine (gst_clear H2.out hl0 hlk HK.out.2.1).mono ?_
                rintro r w2 ⟨rfl, hT⟩
                have H3 := Lib.hid (show GSt w w2 p U big by have h := hT; rw [HP.out.1, HP.out.2.2.1, ← HPU.out] at h; exact h)
                clear hT H2 HPU
                by_cases hlk2 : k = l
                case pos =>
                  subst hlk2
                  have HV2 := Lib.hid (show valG d.length ru rv big k 30 S = (finG d.length rv U k, 0 + j, true) by rw [HV.out, valG_doneU HLq.out.symm, ← HU.out])
                  have HS3 := Lib.hid (show solG d.length ru rv big k (finG d.length rv U k) (s + j) = y by have h := HSt.out; rw [HV2.out, Nat.zero_add] at h; exact h)
                  clear HV2 HV HSt
                  obtain ⟨x, hx⟩ : ∃ x, x = U.d.getD k 0 := ⟨_, rfl⟩
                  have HX := Lib.hid (show x = U.d.getD k 0 ∧ x < 18446744073709551616 from ⟨hx, hx ▸ H3.out.wd.at _⟩)
                  clear hx
                  have HFin := Lib.hid (show finG d.length rv U k = if flt x 0 then { U with d := U.d.set k (fneg x), v := negL U.v d.length k rv } else U by rw [HX.out.1]; rfl)
                  have hkn := HK.out.2.1
                  obtain ⟨sb, hX⟩ := H3.out.cells0 HK.out.2.2.1
                  obtain ⟨sx, cx⟩ := H3.out.atD HK.out.2.1
                  rw [← HX.out.1] at cx
                  obtain ⟨f1, f2, f3⟩ := hX.facts
                  clear hX
                  go_upto_region 27 with (fail)
                  go_upto_region 28 with (fail)
                  cases hq : flt x 0
                  case false =>
                    have HS4 := Lib.hid (show solG d.length ru rv big k U (s + j) = y by have h := HS3.out; rw [HFin.out, hq] at h; exact h)
                    clear HS3 HFin
                    go_wp2_with fail
                    go_roundw
                    case rel => exact ⟨k, s + j, _, _, rfl, rfl, by first | rfl | (unfold wrap64; omega) | (rw [IntKind.wrap_i64]; omega), by omega, by have := HK.out; omega, HS4.out, H3.out⟩
                    case measure => simp [intOf]
                  case true =>
                    have HS4 := Lib.hid (show solG d.length ru rv big k { U with d := U.d.set k (fneg x), v := negL U.v d.length k rv } (s + j) = y by have h := HS3.out; rw [HFin.out, hq] at h; exact h)
                    clear HS3 HFin
                    go_upto_region 29 with (fail)
                    clear f1 f2 f3 cx
                    have K1 := Lib.hid (show GSt w w2.drew p U big from H3.out.step (below_drewN 1 (Below.refl _ _)))
                    obtain ⟨sb, hX⟩ := K1.out.cells0 HK.out.2.2.1
                    obtain ⟨sx, cx⟩ := K1.out.atD HK.out.2.1
                    rw [← HX.out.1] at cx
                    have hdl := ((K1.out.addr HK.out.2.2.1).1.2).lt
                    have hdf := ((K1.out.addr HK.out.2.2.1).1.2).frozen
                    have HDF := Lib.hid (show _ ∧ _ ∧ _ from ⟨hdl, hdf, cx⟩)
                    clear hdl hdf
                    refine wp_region_items 13 [(true, 0), (true, 1), (true, 2), (true, 3), (true, 4), (true, 5), (true, 6), (true, 7), (true, 8), (true, 9), (true, 10), (true, 11), (true, 12)] (fun W => (∀ j, W.cell? ⟨p.X, j, none⟩ = ([.slice (some ⟨p.bd, 0, none⟩) p.n p.dc, .slice (some ⟨p.be, 0, none⟩) p.ne p.ec, .int .i64 p.ru, .int .i64 p.n, .slice p.au (p.ru * p.n) p.uc, .int .i64 p.rv, .int .i64 p.n, .slice p.av (p.rv * p.n) p.vc, .float .f64 (raw big sb)] : List Value)[j]?) ∧ W.cell? ⟨p.bd, k, none⟩ = some (.float .f64 (raw x sx))) (by kernel_rfl) (by kernel_rfl) ⟨hX.cell, cx⟩ ?_
                    clear hX cx
                    generalize w2.drew = v1 at *
                    iterate 13 (refine iW_take (v := ?_) rfl rfl ?_ ?_; rotate_left; (next => (intro w' hSw; (try dsimp only at hSw); go_simp; (try (rw [if_pos (by omega)]; go_simp)); (try with_reducible rfl))); (simp only [Act.put, List.setIfInBounds_toArray, List.set_cons_zero, List.set_cons_succ]))
                    refine iW_nil ?_
                    obtain ⟨hdl, hdf, cx⟩ := HDF.out
                    clear HDF
                    go_simp
                    go_wp2_with fail
                    refine NoPanic.normal ?_
                    obtain ⟨sn, hsn⟩ := neg_raw x sx HX.out.2
                    rw [hsn]
                    clear hsn
                    obtain ⟨v2, hv2⟩ : ∃ x, x = _ := ⟨v1.setCell ⟨p.bd, k, none⟩ (.float .f64 (raw (fneg x) sn)), rfl⟩
                    rw [← hv2]
                    have K2 := Lib.hid (show GSt w v2 p { U with d := U.d.set k (fneg x) } big from hv2 ▸ K1.out.setD HK.out.2.2.1 k (fneg x) sn (fneg_lt HX.out.2))
                    clear hv2 hdl hdf cx K1
                    go_upto_region 30 with (fail)
                    obtain ⟨sb2, hX⟩ := K2.out.cells
                    obtain ⟨f1, f2, f3⟩ := hX.facts
                    clear hX
                    go_wp2_with fail
                    refine (gst_cols K2.out HK.out.2.1).mono ?_
                    rintro r v4 ⟨rfl, hT⟩
                    have K4 := Lib.hid hT
                    clear hT f1 f2 f3
                    dsimp only at K4
                    have K5 := Lib.hid (show GSt w v4 p { U with d := U.d.set k (fneg x), v := negL U.v d.length k rv } big by have h := K4.out; rw [HP.out.1, HP.out.2.2.2] at h; exact h)
                    clear K4 K2
                    go_wp2_with fail
                    go_roundw
                    case rel => exact ⟨k, s + j, _, _, rfl, rfl, by first | rfl | (unfold wrap64; omega) | (rw [IntKind.wrap_i64]; omega), by omega, by have := HK.out; omega, HS4.out, K5.out⟩
                    case measure => simp [intOf]
                case neg =>
                  have HN := Lib.hid (show ¬ (startG T.d T.e big k).1 = k from fun h => hlk2 (HLq.out.trans h).symm)
                  have hlk3 : ¬ (l : Int) = (k : Int) := by omega
                  have HLK := Lib.hid hlk2
                  clear hlk2
                  by_cases hj30 : j = 30
                  case pos =>
                    subst hj30
                    have HV2 := Lib.hid (show valG d.length ru rv big k 30 S = (U, 0 + 30, false) by rw [HV.out, Nat.sub_self, valG_zeroU HN.out, ← HU.out])
                    have HS3 := Lib.hid (show (U, s + 30, false) = y by have h := HSt.out; rw [HV2.out] at h; exact h)
                    clear HV2 HV HSt
                    go_wp2_with fail
                    refine (none5_any _ _ 7).mono ?_
                    rintro r w9 ⟨rfl, hb⟩
                    have H9 := Lib.hid (H3.out.step hb)
                    clear hb
                    unfold nilM
                    obtain ⟨f1, f2, f3⟩ := H9.out.x3.facts
                    obtain ⟨g1, g2, g3⟩ := H9.out.x4.facts
                    go_wp2_with fail
                    have z3 := (Box.put3 H9.out.x3 (.int .i64 0) (.int .i64 0) (.slice none 0 0)).set_other3U (m := w.heap.size + 1 + 1 + 1 + 1) (by omega) (v0 := .int .i64 0) (v1 := .int .i64 0) (v2 := .slice none 0 0)
                    have z4 := Box.put3 (H9.out.x4.set_other3U (m := w.heap.size + 1 + 1 + 1) (by omega) (v0 := .int .i64 0) (v1 := .int .i64 0) (v2 := .slice none 0 0)) (.int .i64 0) (.int .i64 0) (.slice none 0 0)
                    have hB := H9.out.below
                    refine bodyPost_ret (results_five rfl (rv_tmp rfl) (rv_cell (g := w.heap.size + 1 + 1 + 1) rfl z3 rfl Try.underlying26 (by kernel_rfl)) (rv_cell (g := w.heap.size + 1 + 1 + 1 + 1) rfl z4 rfl Try.underlying26 (by kernel_rfl)) (rv_tmp rfl) (rv_tmp rfl)) rfl ?_
                    rw [HPq.out, ← HS3.out]
                    unfold SolveGQ
                    rw [if_neg (by simp)]
                    exact ⟨rfl, below_put3 (below_put3 hB (by omega) _ _ _) (by omega) _ _ _⟩
                  case neg =>
                    have hj3 : ¬ (j : Int) = 30 := by omega
                    have HJ := Lib.hid (show j < 30 by omega)
                    clear hj30
                    have HV2 := Lib.hid (show valG d.length ru rv big k 30 S = ((valG d.length ru rv big k (30 - (j + 1)) (sweepG d.length ru rv U l k)).1, (valG d.length ru rv big k (30 - (j + 1)) (sweepG d.length ru rv U l k)).2.1 + (j + 1), (valG d.length ru rv big k (30 - (j + 1)) (sweepG d.length ru rv U l k)).2.2) by
                      have h := HV.out
                      rw [show 30 - j = (30 - (j + 1)) + 1 by have := HJ.out; omega, valG_succU HN.out, ← HU.out, ← HLq.out] at h
                      rw [h]; simp only [Nat.add_assoc, Nat.add_comm 1 j])
                    clear HV
                    have hlt2 : l < k := by have := HLK.out; omega
                    go_wp2_with fail
                    refine (gst_sweep H3.out hlt2 HK.out.2.1).mono ?_
                    rintro r w8 ⟨rfl, hT⟩
                    have H8 := Lib.hid (show GSt w w8 p (sweepG d.length ru rv U l k) big by have h := hT; rw [HP.out.1, HP.out.2.2.1, HP.out.2.2.2] at h; exact h)
                    clear hT
                    go_wp2_with fail
                    go_roundw
                    case rel => exact ⟨j + 1, _, by go_num, by go_num, HJ.out, HV2.out, H8.out⟩
                    case measure => have := HJ.out; simp [intOf]; omega
              case false =>
                have HPU := Lib.hid (show U = T from HPre.out)
                clear HPre
                have H3 := Lib.hid (show GSt w w1 p U big by rw [HPU.out]; exact H2.out)
                clear H2 HPU
                by_cases hlk2 : k = l
                case pos =>
                  subst hlk2
                  have HV2 := Lib.hid (show valG d.length ru rv big k 30 S = (finG d.length rv U k, 0 + j, true) by rw [HV.out, valG_doneU HLq.out.symm, ← HU.out])
                  have HS3 := Lib.hid (show solG d.length ru rv big k (finG d.length rv U k) (s + j) = y by have h := HSt.out; rw [HV2.out, Nat.zero_add] at h; exact h)
                  clear HV2 HV HSt
                  obtain ⟨x, hx⟩ : ∃ x, x = U.d.getD k 0 := ⟨_, rfl⟩
                  have HX := Lib.hid (show x = U.d.getD k 0 ∧ x < 18446744073709551616 from ⟨hx, hx ▸ H3.out.wd.at _⟩)
                  clear hx
                  have HFin := Lib.hid (show finG d.length rv U k = if flt x 0 then { U with d := U.d.set k (fneg x), v := negL U.v d.length k rv } else U by rw [HX.out.1]; rfl)
                  have hkn := HK.out.2.1
                  obtain ⟨sb, hX⟩ := H3.out.cells0 HK.out.2.2.1
                  obtain ⟨sx, cx⟩ := H3.out.atD HK.out.2.1
                  rw [← HX.out.1] at cx
                  obtain ⟨f1, f2, f3⟩ := hX.facts
                  clear hX
                  go_upto_region 27 with (fail)
                  go_upto_region 28 with (fail)
                  cases hq : flt x 0
                  case false =>
                    have HS4 := Lib.hid (show solG d.length ru rv big k U (s + j) = y by have h := HS3.out; rw [HFin.out, hq] at h; exact h)
                    clear HS3 HFin
                    go_wp2_with fail
                    go_roundw
                    case rel => exact ⟨k, s + j, _, _, rfl, rfl, by first | rfl | (unfold wrap64; omega) | (rw [IntKind.wrap_i64]; omega), by omega, by have := HK.out; omega, HS4.out, H3.out⟩
                    case measure => simp [intOf]
                  case true =>
                    have HS4 := Lib.hid (show solG d.length ru rv big k { U with d := U.d.set k (fneg x), v := negL U.v d.length k rv } (s + j) = y by have h := HS3.out; rw [HFin.out, hq] at h; exact h)
                    clear HS3 HFin
                    go_upto_region 29 with (fail)
                    clear f1 f2 f3 cx
                    have K1 := Lib.hid (show GSt w w1.drew p U big from H3.out.step (below_drewN 1 (Below.refl _ _)))
                    obtain ⟨sb, hX⟩ := K1.out.cells0 HK.out.2.2.1
                    obtain ⟨sx, cx⟩ := K1.out.atD HK.out.2.1
                    rw [← HX.out.1] at cx
                    have hdl := ((K1.out.addr HK.out.2.2.1).1.2).lt
                    have hdf := ((K1.out.addr HK.out.2.2.1).1.2).frozen
                    have HDF := Lib.hid (show _ ∧ _ ∧ _ from ⟨hdl, hdf, cx⟩)
                    clear hdl hdf
                    refine wp_region_items 13 [(true, 0), (true, 1), (true, 2), (true, 3), (true, 4), (true, 5), (true, 6), (true, 7), (true, 8), (true, 9), (true, 10), (true, 11), (true, 12)] (fun W => (∀ j, W.cell? ⟨p.X, j, none⟩ = ([.slice (some ⟨p.bd, 0, none⟩) p.n p.dc, .slice (some ⟨p.be, 0, none⟩) p.ne p.ec, .int .i64 p.ru, .int .i64 p.n, .slice p.au (p.ru * p.n) p.uc, .int .i64 p.rv, .int .i64 p.n, .slice p.av (p.rv * p.n) p.vc, .float .f64 (raw big sb)] : List Value)[j]?) ∧ W.cell? ⟨p.bd, k, none⟩ = some (.float .f64 (raw x sx))) (by kernel_rfl) (by kernel_rfl) ⟨hX.cell, cx⟩ ?_
                    clear hX cx
                    generalize w1.drew = v1 at *
                    iterate 13 (refine iW_take (v := ?_) rfl rfl ?_ ?_; rotate_left; (next => (intro w' hSw; (try dsimp only at hSw); go_simp; (try (rw [if_pos (by omega)]; go_simp)); (try with_reducible rfl))); (simp only [Act.put, List.setIfInBounds_toArray, List.set_cons_zero, List.set_cons_succ]))
                    refine iW_nil ?_
                    obtain ⟨hdl, hdf, cx⟩ := HDF.out
                    clear HDF
                    go_simp
                    go_wp2_with fail
                    refine NoPanic.normal ?_
                    obtain ⟨sn, hsn⟩ := neg_raw x sx HX.out.2
                    rw [hsn]
                    clear hsn
                    obtain ⟨v2, hv2⟩ : ∃ x, x = _ := ⟨v1.setCell ⟨p.bd, k, none⟩ (.float .f64 (raw (fneg x) sn)), rfl⟩
                    rw [← hv2]
                    have K2 := Lib.hid (show GSt w v2 p { U with d := U.d.set k (fneg x) } big from hv2 ▸ K1.out.setD HK.out.2.2.1 k (fneg x) sn (fneg_lt HX.out.2))
                    clear hv2 hdl hdf cx K1
                    go_upto_region 30 with (fail)
                    obtain ⟨sb2, hX⟩ := K2.out.cells
                    obtain ⟨f1, f2, f3⟩ := hX.facts
                    clear hX
                    go_wp2_with fail
                    refine (gst_cols K2.out HK.out.2.1).mono ?_
                    rintro r v4 ⟨rfl, hT⟩
                    have K4 := Lib.hid hT
                    clear hT f1 f2 f3
                    dsimp only at K4
                    have K5 := Lib.hid (show GSt w v4 p { U with d := U.d.set k (fneg x), v := negL U.v d.length k rv } big by have h := K4.out; rw [HP.out.1, HP.out.2.2.2] at h; exact h)
                    clear K4 K2
                    go_wp2_with fail
                    go_roundw
                    case rel => exact ⟨k, s + j, _, _, rfl, rfl, by first | rfl | (unfold wrap64; omega) | (rw [IntKind.wrap_i64]; omega), by omega, by have := HK.out; omega, HS4.out, K5.out⟩
                    case measure => simp [intOf]
                case neg =>
                  have HN := Lib.hid (show ¬ (startG T.d T.e big k).1 = k from fun h => hlk2 (HLq.out.trans h).symm)
                  have hlk3 : ¬ (l : Int) = (k : Int) := by omega
                  have HLK := Lib.hid hlk2
                  clear hlk2
                  by_cases hj30 : j = 30
                  case pos =>
                    subst hj30
                    have HV2 := Lib.hid (show valG d.length ru rv big k 30 S = (U, 0 + 30, false) by rw [HV.out, Nat.sub_self, valG_zeroU HN.out, ← HU.out])
                    have HS3 := Lib.hid (show (U, s + 30, false) = y by have h := HSt.out; rw [HV2.out] at h; exact h)
                    clear HV2 HV HSt
                    go_wp2_with fail
                    refine (none5_any _ _ 7).mono ?_
                    rintro r w9 ⟨rfl, hb⟩
                    have H9 := Lib.hid (H3.out.step hb)
                    clear hb
                    unfold nilM
                    obtain ⟨f1, f2, f3⟩ := H9.out.x3.facts
                    obtain ⟨g1, g2, g3⟩ := H9.out.x4.facts
                    go_wp2_with fail
                    have z3 := (Box.put3 H9.out.x3 (.int .i64 0) (.int .i64 0) (.slice none 0 0)).set_other3U (m := w.heap.size + 1 + 1 + 1 + 1) (by omega) (v0 := .int .i64 0) (v1 := .int .i64 0) (v2 := .slice none 0 0)
                    have z4 := Box.put3 (H9.out.x4.set_other3U (m := w.heap.size + 1 + 1 + 1) (by omega) (v0 := .int .i64 0) (v1 := .int .i64 0) (v2 := .slice none 0 0)) (.int .i64 0) (.int .i64 0) (.slice none 0 0)
                    have hB := H9.out.below
                    refine bodyPost_ret (results_five rfl (rv_tmp rfl) (rv_cell (g := w.heap.size + 1 + 1 + 1) rfl z3 rfl Try.underlying26 (by kernel_rfl)) (rv_cell (g := w.heap.size + 1 + 1 + 1 + 1) rfl z4 rfl Try.underlying26 (by kernel_rfl)) (rv_tmp rfl) (rv_tmp rfl)) rfl ?_
                    rw [HPq.out, ← HS3.out]
                    unfold SolveGQ
                    rw [if_neg (by simp)]
                    exact ⟨rfl, below_put3 (below_put3 hB (by omega) _ _ _) (by omega) _ _ _⟩
                  case neg =>
                    have hj3 : ¬ (j : Int) = 30 := by omega
                    have HJ := Lib.hid (show j < 30 by omega)
                    clear hj30
                    have HV2 := Lib.hid (show valG d.length ru rv big k 30 S = ((valG d.length ru rv big k (30 - (j + 1)) (sweepG d.length ru rv U l k)).1, (valG d.length ru rv big k (30 - (j + 1)) (sweepG d.length ru rv U l k)).2.1 + (j + 1), (valG d.length ru rv big k (30 - (j + 1)) (sweepG d.length ru rv U l k)).2.2) by
                      have h := HV.out
                      rw [show 30 - j = (30 - (j + 1)) + 1 by have := HJ.out; omega, valG_succU HN.out, ← HU.out, ← HLq.out] at h
                      rw [h]; simp only [Nat.add_assoc, Nat.add_comm 1 j])
                    clear HV
                    have hlt2 : l < k := by have := HLK.out; omega
                    go_wp2_with fail
                    refine (gst_sweep H3.out hlt2 HK.out.2.1).mono ?_
                    rintro r w8 ⟨rfl, hT⟩
                    have H8 := Lib.hid (show GSt w w8 p (sweepG d.length ru rv U l k) big by have h := hT; rw [HP.out.1, HP.out.2.2.1, HP.out.2.2.2] at h; exact h)
                    clear hT
                    go_wp2_with fail
                    go_roundw
                    case rel => exact ⟨j + 1, _, by go_num, by go_num, HJ.out, HV2.out, H8.out⟩
                    case measure => have := HJ.out; simp [intOf]; omega
          case neg =>
            obtain rfl : m = 0 := by omega
            have hK1 : ¬ (0 : Int) ≤ K := by omega
            clear hK
            have HS3 := Lib.hid (show (S, s, true) = y from HY3.out)
            clear HY3
            go_upto_region 35 with (fail)
            go_cut [21, 22, 23, 24] from 215 to 232 (fun s21 s22 s23 s24 wx => ∃ (t : SR) (b22 b23 : Nat), s21 = .slice t.a t.n t.c ∧ s22 = .pointer (some ⟨b22, 0, none⟩) ∧ s23 = .pointer (some ⟨b23, 0, none⟩) ∧ s24 = .int .i64 t.e ∧ t.Tells p.n p.ru p.rv S.d S.u S.v ∧ FinW w wx t b22 b23)
            case first =>
              have C0 := Lib.hid (show GSt w wr.drew p S big from G4.out.step (below_drewN 1 (Below.refl _ _)))
              clear G4
              obtain ⟨sb, hX⟩ := C0.out.cells
              have HSs := Lib.hid (show ∀ W, Below wr.drew.heap.size wr.drew W → ∀ j, W.cell? ⟨p.X, j, none⟩ = ([.slice p.ad p.n p.dc, .slice p.ae p.ne p.ec, .int .i64 p.ru, .int .i64 p.n, .slice p.au (p.ru * p.n) p.uc, .int .i64 p.rv, .int .i64 p.n, .slice p.av (p.rv * p.n) p.vc, .float .f64 (raw big sb)] : List Value)[j]? from fun W h => (hX.below h).cell)
              have HXb := Lib.hid hX
              clear hX
              refine wp_region_many 23 90 [(0, 0), (0, 1), (0, 2), (0, 3), (0, 4), (0, 5), (0, 6), (0, 7), (0, 8), (0, 9), (0, 10), (0, 11), (3, 18), (3, 19), (1, 12), (0, 13), (0, 14), (0, 15), (0, 16), (0, 17), (2, 18), (2, 19), (0, 20), (1, 21), (1, 22)] (fun W => ∀ j, W.cell? ⟨p.X, j, none⟩ = ([.slice p.ad p.n p.dc, .slice p.ae p.ne p.ec, .int .i64 p.ru, .int .i64 p.n, .slice p.au (p.ru * p.n) p.uc, .int .i64 p.rv, .int .i64 p.n, .slice p.av (p.rv * p.n) p.vc, .float .f64 (raw big sb)] : List Value)[j]?) (by kernel_rfl) (by kernel_rfl) (HSs.out _ (Below.refl _ _)) ?_
              generalize wr.drew = y0 at *
              have D0 := Lib.hid (Below.refl y0.heap.size y0)
              iterate 12 (refine fm_take (v := ?_) rfl rfl ?_ ?_; rotate_left; (next => (intro w' hSw; (try dsimp only at hSw); go_simp; (try (rw [if_pos (by omega)]; go_simp)); (try with_reducible rfl))); (simp only [Act.put, List.setIfInBounds_toArray, List.set_cons_zero, List.set_cons_succ]))
              refine fm_from ?_
              refine fm_from ?_
              refine fm_one2 rfl ?_ ?_ ?_
              · skip
                refine opW_take rfl rfl ?_
                go_simp
                refine (gst_sorted C0.out).mono ?_
                rintro e_ x1 ⟨t, rfl, hin, htell, hbb, hb⟩
                have hlt := hin.lt
                have hsz := hb.size
                have IN := Lib.hid hin
                have TL := Lib.hid htell
                have TB := Lib.hid (And.intro hbb hlt)
                have SZ12 := Lib.hid hsz
                have C1 := Lib.hid (C0.out.step hb)
                have D1 := Lib.hid (below_step D0.out D0.out.size hb)
                clear hb hsz C0 D0 hin htell hbb hlt
                refine ⟨HSs.out _ D1.out, ?_⟩
                iterate 5 (refine fm_take (v := ?_) rfl rfl ?_ ?_; rotate_left; (next => (intro w' hSw; (try dsimp only at hSw); go_simp; (try (rw [if_pos (by omega)]; go_simp)); (try with_reducible rfl))); (simp only [Act.put, List.setIfInBounds_toArray, List.set_cons_zero, List.set_cons_succ]))
                refine fm_now2 rfl rfl ?_ ?_
                · skip
                  refine opW_take rfl rfl ?_
                  go_simp
                  obtain ⟨x2, hy⟩ : ∃ x, x = x1.alloc (.cells #[.int .i64 0, .int .i64 0, .slice none 0 0] 26) := ⟨_, rfl⟩
                  rw [← hy]
                  have hb : Below x1.heap.size x1 x2 := hy ▸ (Below.refl _ _).alloc (Nat.le_refl _) _
                  have hsz := hb.size
                  have Z19 := Lib.hid (show Box x2 x1.heap.size [.int .i64 0, .int .i64 0, .slice none 0 0] from hy ▸ Box.newA x1 [.int .i64 0, .int .i64 0, .slice none 0 0] _ rfl)
                  have SZ19 := Lib.hid (show x1.heap.size < x2.heap.size from by rw [hy]; simp)
                  clear hy
                  have IN_ := Lib.hid (IN.out.step hb)
                  clear IN
                  have IN := IN_
                  clear IN_
                  have C2 := Lib.hid (C1.out.step hb)
                  have D2 := Lib.hid (below_step D1.out D1.out.size hb)
                  clear hb hsz C1 D1
                  refine ⟨HSs.out _ D2.out, ?_⟩
                  refine fm_now ?_
                  refine opW_take rfl rfl ?_
                  go_simp
                  obtain ⟨x3, hy⟩ : ∃ x, x = x2.alloc (.cells #[.int .i64 0, .int .i64 0, .slice none 0 0] 26) := ⟨_, rfl⟩
                  rw [← hy]
                  have hb : Below x2.heap.size x2 x3 := hy ▸ (Below.refl _ _).alloc (Nat.le_refl _) _
                  have hsz := hb.size
                  have Z18 := Lib.hid (show Box x3 x2.heap.size [.int .i64 0, .int .i64 0, .slice none 0 0] from hy ▸ Box.newA x2 [.int .i64 0, .int .i64 0, .slice none 0 0] _ rfl)
                  have SZ18 := Lib.hid (show x2.heap.size < x3.heap.size from by rw [hy]; simp)
                  clear hy
                  have IN_ := Lib.hid (IN.out.step hb)
                  clear IN
                  have IN := IN_
                  clear IN_
                  have Z19_ := Lib.hid (Z19.out.below hb)
                  clear Z19
                  have Z19 := Z19_
                  clear Z19_
                  have C3 := Lib.hid (C2.out.step hb)
                  have D3 := Lib.hid (below_step D2.out D2.out.size hb)
                  clear hb hsz C2 D2
                  refine ⟨HSs.out _ D3.out, ?_⟩
                  refine fm_skip rfl ?_
                  refine fm_skip rfl ?_
                  iterate 1 (refine fm_take (v := ?_) rfl rfl ?_ ?_; rotate_left; (next => (intro w' hSw; (try dsimp only at hSw); go_simp; (try (rw [if_pos (by omega)]; go_simp)); (try with_reducible rfl))); (simp only [Act.put, List.setIfInBounds_toArray, List.set_cons_zero, List.set_cons_succ]))
                  have e1 := TB.out; have e2 := SZ12.out; have e3 := SZ18.out; have e4 := SZ19.out; have e5 := C3.out.lo; have e6 := HXb.out.lt
                  have NE := Lib.hid (show p.X ≠ x2.heap.size ∧ p.X ≠ x1.heap.size ∧ x2.heap.size ≠ x1.heap.size ∧ _ ∧ _ ∧ _ from ⟨by omega, by omega, by omega, (show w.heap.size + 1 + 1 + 1 + 1 < x2.heap.size ∧ w.heap.size + 1 + 1 + 1 + 1 < x1.heap.size ∧ w.heap.size + 1 + 1 + 1 + 1 < t.b0 ∧ w.heap.size + 1 + 1 + 1 + 1 < t.b1 ∧ w.heap.size + 1 + 1 + 1 + 1 < t.b2 by omega), (show (t.z0 ≠ [] → t.b0 ≠ x2.heap.size) ∧ (t.z1 ≠ [] → t.b1 ≠ x2.heap.size) ∧ (t.z2 ≠ [] → t.b2 ≠ x2.heap.size) from ⟨fun h => by have := e1.2.1 h; omega, fun h => by have := e1.2.2.1 h; omega, fun h => by have := e1.2.2.2 h; omega⟩), (show (t.z0 ≠ [] → t.b0 ≠ x1.heap.size) ∧ (t.z1 ≠ [] → t.b1 ≠ x1.heap.size) ∧ (t.z2 ≠ [] → t.b2 ≠ x1.heap.size) from ⟨fun h => by have := e1.2.1 h; omega, fun h => by have := e1.2.2.1 h; omega, fun h => by have := e1.2.2.2 h; omega⟩)⟩)
                  clear e1 e2 e3 e4 e5 e6 SZ12 SZ18 SZ19 TB
                  have HG := Lib.hid (show _ ∧ _ from ⟨TL.out, FinW.made C3.out Z18.out Z19.out IN.out NE.out.2.2.1 NE.out.2.2.2.1 NE.out.2.2.2.2.1 NE.out.2.2.2.2.2⟩)
                  have HX9 := Lib.hid (HXb.out.below D3.out)
                  obtain ⟨o1, o2, o3⟩ := Z18.out.facts
                  refine fm_one ?_
                  refine opW_take rfl rfl ?_
                  go_simp
                  have HX10 := Lib.hid (HX9.out.set_other3U (v0 := .int .i64 t.r1) (v1 := .int .i64 t.k1) (v2 := .slice t.a1 t.l1 t.c1) NE.out.1)
                  refine ⟨HX10.out.cell, ?_⟩
                  clear o1 o2 o3
                  obtain ⟨o1, o2, o3⟩ := (Z19.out.set_other3U (v0 := .int .i64 t.r1) (v1 := .int .i64 t.k1) (v2 := .slice t.a1 t.l1 t.c1) NE.out.2.2.1.symm).facts
                  refine fm_one ?_
                  refine opW_take rfl rfl ?_
                  go_simp
                  refine ⟨(HX10.out.set_other3U NE.out.2.1).cell, ?_⟩
                  clear o1 o2 o3
                  refine fm_nil ?_
                  go_simp
                  go_wp2_with fail
                  refine NoPanic.normal ?_
                  go_wp2_with fail
                  go_meet
                  case rel => exact ⟨t, _, _, rfl, rfl, rfl, rfl, HG.out.1, HG.out.2⟩
                · skip
                  refine opW_take rfl rfl ?_
                  go_simp
                  obtain ⟨x4, hy⟩ : ∃ x, x = x1.alloc (.cells #[.int .i64 0, .int .i64 0, .slice none 0 0] 26) := ⟨_, rfl⟩
                  rw [← hy]
                  have hb : Below x1.heap.size x1 x4 := hy ▸ (Below.refl _ _).alloc (Nat.le_refl _) _
                  have hsz := hb.size
                  have Z18 := Lib.hid (show Box x4 x1.heap.size [.int .i64 0, .int .i64 0, .slice none 0 0] from hy ▸ Box.newA x1 [.int .i64 0, .int .i64 0, .slice none 0 0] _ rfl)
                  have SZ18 := Lib.hid (show x1.heap.size < x4.heap.size from by rw [hy]; simp)
                  clear hy
                  have IN_ := Lib.hid (IN.out.step hb)
                  clear IN
                  have IN := IN_
                  clear IN_
                  have C4 := Lib.hid (C1.out.step hb)
                  have D4 := Lib.hid (below_step D1.out D1.out.size hb)
                  clear hb hsz C1 D1
                  refine ⟨HSs.out _ D4.out, ?_⟩
                  refine fm_skip rfl ?_
                  refine fm_now ?_
                  refine opW_take rfl rfl ?_
                  go_simp
                  obtain ⟨x5, hy⟩ : ∃ x, x = x4.alloc (.cells #[.int .i64 0, .int .i64 0, .slice none 0 0] 26) := ⟨_, rfl⟩
                  rw [← hy]
                  have hb : Below x4.heap.size x4 x5 := hy ▸ (Below.refl _ _).alloc (Nat.le_refl _) _
                  have hsz := hb.size
                  have Z19 := Lib.hid (show Box x5 x4.heap.size [.int .i64 0, .int .i64 0, .slice none 0 0] from hy ▸ Box.newA x4 [.int .i64 0, .int .i64 0, .slice none 0 0] _ rfl)
                  have SZ19 := Lib.hid (show x4.heap.size < x5.heap.size from by rw [hy]; simp)
                  clear hy
                  have IN_ := Lib.hid (IN.out.step hb)
                  clear IN
                  have IN := IN_
                  clear IN_
                  have Z18_ := Lib.hid (Z18.out.below hb)
                  clear Z18
                  have Z18 := Z18_
                  clear Z18_
                  have C5 := Lib.hid (C4.out.step hb)
                  have D5 := Lib.hid (below_step D4.out D4.out.size hb)
                  clear hb hsz C4 D4
                  refine ⟨HSs.out _ D5.out, ?_⟩
                  refine fm_skip rfl ?_
                  iterate 1 (refine fm_take (v := ?_) rfl rfl ?_ ?_; rotate_left; (next => (intro w' hSw; (try dsimp only at hSw); go_simp; (try (rw [if_pos (by omega)]; go_simp)); (try with_reducible rfl))); (simp only [Act.put, List.setIfInBounds_toArray, List.set_cons_zero, List.set_cons_succ]))
                  have e1 := TB.out; have e2 := SZ12.out; have e3 := SZ18.out; have e4 := SZ19.out; have e5 := C5.out.lo; have e6 := HXb.out.lt
                  have NE := Lib.hid (show p.X ≠ x1.heap.size ∧ p.X ≠ x4.heap.size ∧ x1.heap.size ≠ x4.heap.size ∧ _ ∧ _ ∧ _ from ⟨by omega, by omega, by omega, (show w.heap.size + 1 + 1 + 1 + 1 < x1.heap.size ∧ w.heap.size + 1 + 1 + 1 + 1 < x4.heap.size ∧ w.heap.size + 1 + 1 + 1 + 1 < t.b0 ∧ w.heap.size + 1 + 1 + 1 + 1 < t.b1 ∧ w.heap.size + 1 + 1 + 1 + 1 < t.b2 by omega), (show (t.z0 ≠ [] → t.b0 ≠ x1.heap.size) ∧ (t.z1 ≠ [] → t.b1 ≠ x1.heap.size) ∧ (t.z2 ≠ [] → t.b2 ≠ x1.heap.size) from ⟨fun h => by have := e1.2.1 h; omega, fun h => by have := e1.2.2.1 h; omega, fun h => by have := e1.2.2.2 h; omega⟩), (show (t.z0 ≠ [] → t.b0 ≠ x4.heap.size) ∧ (t.z1 ≠ [] → t.b1 ≠ x4.heap.size) ∧ (t.z2 ≠ [] → t.b2 ≠ x4.heap.size) from ⟨fun h => by have := e1.2.1 h; omega, fun h => by have := e1.2.2.1 h; omega, fun h => by have := e1.2.2.2 h; omega⟩)⟩)
                  clear e1 e2 e3 e4 e5 e6 SZ12 SZ18 SZ19 TB
                  have HG := Lib.hid (show _ ∧ _ from ⟨TL.out, FinW.made C5.out Z18.out Z19.out IN.out NE.out.2.2.1 NE.out.2.2.2.1 NE.out.2.2.2.2.1 NE.out.2.2.2.2.2⟩)
                  have HX9 := Lib.hid (HXb.out.below D5.out)
                  obtain ⟨o1, o2, o3⟩ := Z18.out.facts
                  refine fm_one ?_
                  refine opW_take rfl rfl ?_
                  go_simp
                  have HX10 := Lib.hid (HX9.out.set_other3U (v0 := .int .i64 t.r1) (v1 := .int .i64 t.k1) (v2 := .slice t.a1 t.l1 t.c1) NE.out.1)
                  refine ⟨HX10.out.cell, ?_⟩
                  clear o1 o2 o3
                  obtain ⟨o1, o2, o3⟩ := (Z19.out.set_other3U (v0 := .int .i64 t.r1) (v1 := .int .i64 t.k1) (v2 := .slice t.a1 t.l1 t.c1) NE.out.2.2.1.symm).facts
                  refine fm_one ?_
                  refine opW_take rfl rfl ?_
                  go_simp
                  refine ⟨(HX10.out.set_other3U NE.out.2.1).cell, ?_⟩
                  clear o1 o2 o3
                  refine fm_nil ?_
                  go_simp
                  go_wp2_with fail
                  refine NoPanic.normal ?_
                  go_wp2_with fail
                  go_meet
                  case rel => exact ⟨t, _, _, rfl, rfl, rfl, rfl, HG.out.1, HG.out.2⟩
              · skip
                refine opW_take rfl rfl ?_
                go_simp
                obtain ⟨x6, hy⟩ : ∃ x, x = y0.alloc (.cells #[.int .i64 0, .int .i64 0, .slice none 0 0] 26) := ⟨_, rfl⟩
                rw [← hy]
                have hb : Below y0.heap.size y0 x6 := hy ▸ (Below.refl _ _).alloc (Nat.le_refl _) _
                have hsz := hb.size
                have Z19 := Lib.hid (show Box x6 y0.heap.size [.int .i64 0, .int .i64 0, .slice none 0 0] from hy ▸ Box.newA y0 [.int .i64 0, .int .i64 0, .slice none 0 0] _ rfl)
                have SZ19 := Lib.hid (show y0.heap.size < x6.heap.size from by rw [hy]; simp)
                clear hy
                have C6 := Lib.hid (C0.out.step hb)
                have D6 := Lib.hid (below_step D0.out D0.out.size hb)
                clear hb hsz C0 D0
                refine ⟨HSs.out _ D6.out, ?_⟩
                refine fm_one1 ?_ ?_
                · skip
                  refine opW_take rfl rfl ?_
                  go_simp
                  refine (gst_sorted C6.out).mono ?_
                  rintro e_ x7 ⟨t, rfl, hin, htell, hbb, hb⟩
                  have hlt := hin.lt
                  have hsz := hb.size
                  have IN := Lib.hid hin
                  have TL := Lib.hid htell
                  have TB := Lib.hid (And.intro hbb hlt)
                  have SZ12 := Lib.hid hsz
                  have Z19_ := Lib.hid (Z19.out.below hb)
                  clear Z19
                  have Z19 := Z19_
                  clear Z19_
                  have C7 := Lib.hid (C6.out.step hb)
                  have D7 := Lib.hid (below_step D6.out D6.out.size hb)
                  clear hb hsz C6 D6 hin htell hbb hlt
                  refine ⟨HSs.out _ D7.out, ?_⟩
                  iterate 5 (refine fm_take (v := ?_) rfl rfl ?_ ?_; rotate_left; (next => (intro w' hSw; (try dsimp only at hSw); go_simp; (try (rw [if_pos (by omega)]; go_simp)); (try with_reducible rfl))); (simp only [Act.put, List.setIfInBounds_toArray, List.set_cons_zero, List.set_cons_succ]))
                  refine fm_now ?_
                  refine opW_take rfl rfl ?_
                  go_simp
                  obtain ⟨x8, hy⟩ : ∃ x, x = x7.alloc (.cells #[.int .i64 0, .int .i64 0, .slice none 0 0] 26) := ⟨_, rfl⟩
                  rw [← hy]
                  have hb : Below x7.heap.size x7 x8 := hy ▸ (Below.refl _ _).alloc (Nat.le_refl _) _
                  have hsz := hb.size
                  have Z18 := Lib.hid (show Box x8 x7.heap.size [.int .i64 0, .int .i64 0, .slice none 0 0] from hy ▸ Box.newA x7 [.int .i64 0, .int .i64 0, .slice none 0 0] _ rfl)
                  have SZ18 := Lib.hid (show x7.heap.size < x8.heap.size from by rw [hy]; simp)
                  clear hy
                  have IN_ := Lib.hid (IN.out.step hb)
                  clear IN
                  have IN := IN_
                  clear IN_
                  have Z19_ := Lib.hid (Z19.out.below hb)
                  clear Z19
                  have Z19 := Z19_
                  clear Z19_
                  have C8 := Lib.hid (C7.out.step hb)
                  have D8 := Lib.hid (below_step D7.out D7.out.size hb)
                  clear hb hsz C7 D7
                  refine ⟨HSs.out _ D8.out, ?_⟩
                  refine fm_skip rfl ?_
                  refine fm_skip rfl ?_
                  iterate 1 (refine fm_take (v := ?_) rfl rfl ?_ ?_; rotate_left; (next => (intro w' hSw; (try dsimp only at hSw); go_simp; (try (rw [if_pos (by omega)]; go_simp)); (try with_reducible rfl))); (simp only [Act.put, List.setIfInBounds_toArray, List.set_cons_zero, List.set_cons_succ]))
                  have e1 := TB.out; have e2 := SZ12.out; have e3 := SZ18.out; have e4 := SZ19.out; have e5 := C8.out.lo; have e6 := HXb.out.lt
                  have NE := Lib.hid (show p.X ≠ x7.heap.size ∧ p.X ≠ y0.heap.size ∧ x7.heap.size ≠ y0.heap.size ∧ _ ∧ _ ∧ _ from ⟨by omega, by omega, by omega, (show w.heap.size + 1 + 1 + 1 + 1 < x7.heap.size ∧ w.heap.size + 1 + 1 + 1 + 1 < y0.heap.size ∧ w.heap.size + 1 + 1 + 1 + 1 < t.b0 ∧ w.heap.size + 1 + 1 + 1 + 1 < t.b1 ∧ w.heap.size + 1 + 1 + 1 + 1 < t.b2 by omega), (show (t.z0 ≠ [] → t.b0 ≠ x7.heap.size) ∧ (t.z1 ≠ [] → t.b1 ≠ x7.heap.size) ∧ (t.z2 ≠ [] → t.b2 ≠ x7.heap.size) from ⟨fun h => by have := e1.2.1 h; omega, fun h => by have := e1.2.2.1 h; omega, fun h => by have := e1.2.2.2 h; omega⟩), (show (t.z0 ≠ [] → t.b0 ≠ y0.heap.size) ∧ (t.z1 ≠ [] → t.b1 ≠ y0.heap.size) ∧ (t.z2 ≠ [] → t.b2 ≠ y0.heap.size) from ⟨fun h => by have := e1.2.1 h; omega, fun h => by have := e1.2.2.1 h; omega, fun h => by have := e1.2.2.2 h; omega⟩)⟩)
                  clear e1 e2 e3 e4 e5 e6 SZ12 SZ18 SZ19 TB
                  have HG := Lib.hid (show _ ∧ _ from ⟨TL.out, FinW.made C8.out Z18.out Z19.out IN.out NE.out.2.2.1 NE.out.2.2.2.1 NE.out.2.2.2.2.1 NE.out.2.2.2.2.2⟩)
                  have HX9 := Lib.hid (HXb.out.below D8.out)
                  obtain ⟨o1, o2, o3⟩ := Z18.out.facts
                  refine fm_one ?_
                  refine opW_take rfl rfl ?_
                  go_simp
                  have HX10 := Lib.hid (HX9.out.set_other3U (v0 := .int .i64 t.r1) (v1 := .int .i64 t.k1) (v2 := .slice t.a1 t.l1 t.c1) NE.out.1)
                  refine ⟨HX10.out.cell, ?_⟩
                  clear o1 o2 o3
                  obtain ⟨o1, o2, o3⟩ := (Z19.out.set_other3U (v0 := .int .i64 t.r1) (v1 := .int .i64 t.k1) (v2 := .slice t.a1 t.l1 t.c1) NE.out.2.2.1.symm).facts
                  refine fm_one ?_
                  refine opW_take rfl rfl ?_
                  go_simp
                  refine ⟨(HX10.out.set_other3U NE.out.2.1).cell, ?_⟩
                  clear o1 o2 o3
                  refine fm_nil ?_
                  go_simp
                  go_wp2_with fail
                  refine NoPanic.normal ?_
                  go_wp2_with fail
                  go_meet
                  case rel => exact ⟨t, _, _, rfl, rfl, rfl, rfl, HG.out.1, HG.out.2⟩
                · skip
                  refine opW_take rfl rfl ?_
                  go_simp
                  obtain ⟨x9, hy⟩ : ∃ x, x = x6.alloc (.cells #[.int .i64 0, .int .i64 0, .slice none 0 0] 26) := ⟨_, rfl⟩
                  rw [← hy]
                  have hb : Below x6.heap.size x6 x9 := hy ▸ (Below.refl _ _).alloc (Nat.le_refl _) _
                  have hsz := hb.size
                  have Z18 := Lib.hid (show Box x9 x6.heap.size [.int .i64 0, .int .i64 0, .slice none 0 0] from hy ▸ Box.newA x6 [.int .i64 0, .int .i64 0, .slice none 0 0] _ rfl)
                  have SZ18 := Lib.hid (show x6.heap.size < x9.heap.size from by rw [hy]; simp)
                  clear hy
                  have Z19_ := Lib.hid (Z19.out.below hb)
                  clear Z19
                  have Z19 := Z19_
                  clear Z19_
                  have C9 := Lib.hid (C6.out.step hb)
                  have D9 := Lib.hid (below_step D6.out D6.out.size hb)
                  clear hb hsz C6 D6
                  refine ⟨HSs.out _ D9.out, ?_⟩
                  refine fm_one ?_
                  refine opW_take rfl rfl ?_
                  go_simp
                  refine (gst_sorted C9.out).mono ?_
                  rintro e_ x10 ⟨t, rfl, hin, htell, hbb, hb⟩
                  have hlt := hin.lt
                  have hsz := hb.size
                  have IN := Lib.hid hin
                  have TL := Lib.hid htell
                  have TB := Lib.hid (And.intro hbb hlt)
                  have SZ12 := Lib.hid hsz
                  have Z18_ := Lib.hid (Z18.out.below hb)
                  clear Z18
                  have Z18 := Z18_
                  clear Z18_
                  have Z19_ := Lib.hid (Z19.out.below hb)
                  clear Z19
                  have Z19 := Z19_
                  clear Z19_
                  have C10 := Lib.hid (C9.out.step hb)
                  have D10 := Lib.hid (below_step D9.out D9.out.size hb)
                  clear hb hsz C9 D9 hin htell hbb hlt
                  refine ⟨HSs.out _ D10.out, ?_⟩
                  iterate 5 (refine fm_take (v := ?_) rfl rfl ?_ ?_; rotate_left; (next => (intro w' hSw; (try dsimp only at hSw); go_simp; (try (rw [if_pos (by omega)]; go_simp)); (try with_reducible rfl))); (simp only [Act.put, List.setIfInBounds_toArray, List.set_cons_zero, List.set_cons_succ]))
                  refine fm_skip rfl ?_
                  refine fm_skip rfl ?_
                  iterate 1 (refine fm_take (v := ?_) rfl rfl ?_ ?_; rotate_left; (next => (intro w' hSw; (try dsimp only at hSw); go_simp; (try (rw [if_pos (by omega)]; go_simp)); (try with_reducible rfl))); (simp only [Act.put, List.setIfInBounds_toArray, List.set_cons_zero, List.set_cons_succ]))
                  have e1 := TB.out; have e2 := SZ12.out; have e3 := SZ18.out; have e4 := SZ19.out; have e5 := C10.out.lo; have e6 := HXb.out.lt
                  have NE := Lib.hid (show p.X ≠ x6.heap.size ∧ p.X ≠ y0.heap.size ∧ x6.heap.size ≠ y0.heap.size ∧ _ ∧ _ ∧ _ from ⟨by omega, by omega, by omega, (show w.heap.size + 1 + 1 + 1 + 1 < x6.heap.size ∧ w.heap.size + 1 + 1 + 1 + 1 < y0.heap.size ∧ w.heap.size + 1 + 1 + 1 + 1 < t.b0 ∧ w.heap.size + 1 + 1 + 1 + 1 < t.b1 ∧ w.heap.size + 1 + 1 + 1 + 1 < t.b2 by omega), (show (t.z0 ≠ [] → t.b0 ≠ x6.heap.size) ∧ (t.z1 ≠ [] → t.b1 ≠ x6.heap.size) ∧ (t.z2 ≠ [] → t.b2 ≠ x6.heap.size) from ⟨fun h => by have := e1.2.1 h; omega, fun h => by have := e1.2.2.1 h; omega, fun h => by have := e1.2.2.2 h; omega⟩), (show (t.z0 ≠ [] → t.b0 ≠ y0.heap.size) ∧ (t.z1 ≠ [] → t.b1 ≠ y0.heap.size) ∧ (t.z2 ≠ [] → t.b2 ≠ y0.heap.size) from ⟨fun h => by have := e1.2.1 h; omega, fun h => by have := e1.2.2.1 h; omega, fun h => by have := e1.2.2.2 h; omega⟩)⟩)
                  clear e1 e2 e3 e4 e5 e6 SZ12 SZ18 SZ19 TB
                  have HG := Lib.hid (show _ ∧ _ from ⟨TL.out, FinW.made C10.out Z18.out Z19.out IN.out NE.out.2.2.1 NE.out.2.2.2.1 NE.out.2.2.2.2.1 NE.out.2.2.2.2.2⟩)
                  have HX9 := Lib.hid (HXb.out.below D10.out)
                  obtain ⟨o1, o2, o3⟩ := Z18.out.facts
                  refine fm_one ?_
                  refine opW_take rfl rfl ?_
                  go_simp
                  have HX10 := Lib.hid (HX9.out.set_other3U (v0 := .int .i64 t.r1) (v1 := .int .i64 t.k1) (v2 := .slice t.a1 t.l1 t.c1) NE.out.1)
                  refine ⟨HX10.out.cell, ?_⟩
                  clear o1 o2 o3
                  obtain ⟨o1, o2, o3⟩ := (Z19.out.set_other3U (v0 := .int .i64 t.r1) (v1 := .int .i64 t.k1) (v2 := .slice t.a1 t.l1 t.c1) NE.out.2.2.1.symm).facts
                  refine fm_one ?_
                  refine opW_take rfl rfl ?_
                  go_simp
                  refine ⟨(HX10.out.set_other3U NE.out.2.1).cell, ?_⟩
                  clear o1 o2 o3
                  refine fm_nil ?_
                  go_simp
                  go_wp2_with fail
                  refine NoPanic.normal ?_
                  go_wp2_with fail
                  go_meet
                  case rel => exact ⟨t, _, _, rfl, rfl, rfl, rfl, HG.out.1, HG.out.2⟩
              · skip
                refine opW_take rfl rfl ?_
                go_simp
                obtain ⟨x11, hy⟩ : ∃ x, x = y0.alloc (.cells #[.int .i64 0, .int .i64 0, .slice none 0 0] 26) := ⟨_, rfl⟩
                rw [← hy]
                have hb : Below y0.heap.size y0 x11 := hy ▸ (Below.refl _ _).alloc (Nat.le_refl _) _
                have hsz := hb.size
                have Z18 := Lib.hid (show Box x11 y0.heap.size [.int .i64 0, .int .i64 0, .slice none 0 0] from hy ▸ Box.newA y0 [.int .i64 0, .int .i64 0, .slice none 0 0] _ rfl)
                have SZ18 := Lib.hid (show y0.heap.size < x11.heap.size from by rw [hy]; simp)
                clear hy
                have C11 := Lib.hid (C0.out.step hb)
                have D11 := Lib.hid (below_step D0.out D0.out.size hb)
                clear hb hsz C0 D0
                refine ⟨HSs.out _ D11.out, ?_⟩
                refine fm_one1 ?_ ?_
                · skip
                  refine opW_take rfl rfl ?_
                  go_simp
                  refine (gst_sorted C11.out).mono ?_
                  rintro e_ x12 ⟨t, rfl, hin, htell, hbb, hb⟩
                  have hlt := hin.lt
                  have hsz := hb.size
                  have IN := Lib.hid hin
                  have TL := Lib.hid htell
                  have TB := Lib.hid (And.intro hbb hlt)
                  have SZ12 := Lib.hid hsz
                  have Z18_ := Lib.hid (Z18.out.below hb)
                  clear Z18
                  have Z18 := Z18_
                  clear Z18_
                  have C12 := Lib.hid (C11.out.step hb)
                  have D12 := Lib.hid (below_step D11.out D11.out.size hb)
                  clear hb hsz C11 D11 hin htell hbb hlt
                  refine ⟨HSs.out _ D12.out, ?_⟩
                  iterate 5 (refine fm_take (v := ?_) rfl rfl ?_ ?_; rotate_left; (next => (intro w' hSw; (try dsimp only at hSw); go_simp; (try (rw [if_pos (by omega)]; go_simp)); (try with_reducible rfl))); (simp only [Act.put, List.setIfInBounds_toArray, List.set_cons_zero, List.set_cons_succ]))
                  refine fm_skip rfl ?_
                  refine fm_now ?_
                  refine opW_take rfl rfl ?_
                  go_simp
                  obtain ⟨x13, hy⟩ : ∃ x, x = x12.alloc (.cells #[.int .i64 0, .int .i64 0, .slice none 0 0] 26) := ⟨_, rfl⟩
                  rw [← hy]
                  have hb : Below x12.heap.size x12 x13 := hy ▸ (Below.refl _ _).alloc (Nat.le_refl _) _
                  have hsz := hb.size
                  have Z19 := Lib.hid (show Box x13 x12.heap.size [.int .i64 0, .int .i64 0, .slice none 0 0] from hy ▸ Box.newA x12 [.int .i64 0, .int .i64 0, .slice none 0 0] _ rfl)
                  have SZ19 := Lib.hid (show x12.heap.size < x13.heap.size from by rw [hy]; simp)
                  clear hy
                  have IN_ := Lib.hid (IN.out.step hb)
                  clear IN
                  have IN := IN_
                  clear IN_
                  have Z18_ := Lib.hid (Z18.out.below hb)
                  clear Z18
                  have Z18 := Z18_
                  clear Z18_
                  have C13 := Lib.hid (C12.out.step hb)
                  have D13 := Lib.hid (below_step D12.out D12.out.size hb)
                  clear hb hsz C12 D12
                  refine ⟨HSs.out _ D13.out, ?_⟩
                  refine fm_skip rfl ?_
                  iterate 1 (refine fm_take (v := ?_) rfl rfl ?_ ?_; rotate_left; (next => (intro w' hSw; (try dsimp only at hSw); go_simp; (try (rw [if_pos (by omega)]; go_simp)); (try with_reducible rfl))); (simp only [Act.put, List.setIfInBounds_toArray, List.set_cons_zero, List.set_cons_succ]))
                  have e1 := TB.out; have e2 := SZ12.out; have e3 := SZ18.out; have e4 := SZ19.out; have e5 := C13.out.lo; have e6 := HXb.out.lt
                  have NE := Lib.hid (show p.X ≠ y0.heap.size ∧ p.X ≠ x12.heap.size ∧ y0.heap.size ≠ x12.heap.size ∧ _ ∧ _ ∧ _ from ⟨by omega, by omega, by omega, (show w.heap.size + 1 + 1 + 1 + 1 < y0.heap.size ∧ w.heap.size + 1 + 1 + 1 + 1 < x12.heap.size ∧ w.heap.size + 1 + 1 + 1 + 1 < t.b0 ∧ w.heap.size + 1 + 1 + 1 + 1 < t.b1 ∧ w.heap.size + 1 + 1 + 1 + 1 < t.b2 by omega), (show (t.z0 ≠ [] → t.b0 ≠ y0.heap.size) ∧ (t.z1 ≠ [] → t.b1 ≠ y0.heap.size) ∧ (t.z2 ≠ [] → t.b2 ≠ y0.heap.size) from ⟨fun h => by have := e1.2.1 h; omega, fun h => by have := e1.2.2.1 h; omega, fun h => by have := e1.2.2.2 h; omega⟩), (show (t.z0 ≠ [] → t.b0 ≠ x12.heap.size) ∧ (t.z1 ≠ [] → t.b1 ≠ x12.heap.size) ∧ (t.z2 ≠ [] → t.b2 ≠ x12.heap.size) from ⟨fun h => by have := e1.2.1 h; omega, fun h => by have := e1.2.2.1 h; omega, fun h => by have := e1.2.2.2 h; omega⟩)⟩)
                  clear e1 e2 e3 e4 e5 e6 SZ12 SZ18 SZ19 TB
                  have HG := Lib.hid (show _ ∧ _ from ⟨TL.out, FinW.made C13.out Z18.out Z19.out IN.out NE.out.2.2.1 NE.out.2.2.2.1 NE.out.2.2.2.2.1 NE.out.2.2.2.2.2⟩)
                  have HX9 := Lib.hid (HXb.out.below D13.out)
                  obtain ⟨o1, o2, o3⟩ := Z18.out.facts
                  refine fm_one ?_
                  refine opW_take rfl rfl ?_
                  go_simp
                  have HX10 := Lib.hid (HX9.out.set_other3U (v0 := .int .i64 t.r1) (v1 := .int .i64 t.k1) (v2 := .slice t.a1 t.l1 t.c1) NE.out.1)
                  refine ⟨HX10.out.cell, ?_⟩
                  clear o1 o2 o3
                  obtain ⟨o1, o2, o3⟩ := (Z19.out.set_other3U (v0 := .int .i64 t.r1) (v1 := .int .i64 t.k1) (v2 := .slice t.a1 t.l1 t.c1) NE.out.2.2.1.symm).facts
                  refine fm_one ?_
                  refine opW_take rfl rfl ?_
                  go_simp
                  refine ⟨(HX10.out.set_other3U NE.out.2.1).cell, ?_⟩
                  clear o1 o2 o3
                  refine fm_nil ?_
                  go_simp
                  go_wp2_with fail
                  refine NoPanic.normal ?_
                  go_wp2_with fail
                  go_meet
                  case rel => exact ⟨t, _, _, rfl, rfl, rfl, rfl, HG.out.1, HG.out.2⟩
                · skip
                  refine opW_take rfl rfl ?_
                  go_simp
                  obtain ⟨x14, hy⟩ : ∃ x, x = x11.alloc (.cells #[.int .i64 0, .int .i64 0, .slice none 0 0] 26) := ⟨_, rfl⟩
                  rw [← hy]
                  have hb : Below x11.heap.size x11 x14 := hy ▸ (Below.refl _ _).alloc (Nat.le_refl _) _
                  have hsz := hb.size
                  have Z19 := Lib.hid (show Box x14 x11.heap.size [.int .i64 0, .int .i64 0, .slice none 0 0] from hy ▸ Box.newA x11 [.int .i64 0, .int .i64 0, .slice none 0 0] _ rfl)
                  have SZ19 := Lib.hid (show x11.heap.size < x14.heap.size from by rw [hy]; simp)
                  clear hy
                  have Z18_ := Lib.hid (Z18.out.below hb)
                  clear Z18
                  have Z18 := Z18_
                  clear Z18_
                  have C14 := Lib.hid (C11.out.step hb)
                  have D14 := Lib.hid (below_step D11.out D11.out.size hb)
                  clear hb hsz C11 D11
                  refine ⟨HSs.out _ D14.out, ?_⟩
                  refine fm_one ?_
                  refine opW_take rfl rfl ?_
                  go_simp
                  refine (gst_sorted C14.out).mono ?_
                  rintro e_ x15 ⟨t, rfl, hin, htell, hbb, hb⟩
                  have hlt := hin.lt
                  have hsz := hb.size
                  have IN := Lib.hid hin
                  have TL := Lib.hid htell
                  have TB := Lib.hid (And.intro hbb hlt)
                  have SZ12 := Lib.hid hsz
                  have Z18_ := Lib.hid (Z18.out.below hb)
                  clear Z18
                  have Z18 := Z18_
                  clear Z18_
                  have Z19_ := Lib.hid (Z19.out.below hb)
                  clear Z19
                  have Z19 := Z19_
                  clear Z19_
                  have C15 := Lib.hid (C14.out.step hb)
                  have D15 := Lib.hid (below_step D14.out D14.out.size hb)
                  clear hb hsz C14 D14 hin htell hbb hlt
                  refine ⟨HSs.out _ D15.out, ?_⟩
                  iterate 5 (refine fm_take (v := ?_) rfl rfl ?_ ?_; rotate_left; (next => (intro w' hSw; (try dsimp only at hSw); go_simp; (try (rw [if_pos (by omega)]; go_simp)); (try with_reducible rfl))); (simp only [Act.put, List.setIfInBounds_toArray, List.set_cons_zero, List.set_cons_succ]))
                  refine fm_skip rfl ?_
                  refine fm_skip rfl ?_
                  iterate 1 (refine fm_take (v := ?_) rfl rfl ?_ ?_; rotate_left; (next => (intro w' hSw; (try dsimp only at hSw); go_simp; (try (rw [if_pos (by omega)]; go_simp)); (try with_reducible rfl))); (simp only [Act.put, List.setIfInBounds_toArray, List.set_cons_zero, List.set_cons_succ]))
                  have e1 := TB.out; have e2 := SZ12.out; have e3 := SZ18.out; have e4 := SZ19.out; have e5 := C15.out.lo; have e6 := HXb.out.lt
                  have NE := Lib.hid (show p.X ≠ y0.heap.size ∧ p.X ≠ x11.heap.size ∧ y0.heap.size ≠ x11.heap.size ∧ _ ∧ _ ∧ _ from ⟨by omega, by omega, by omega, (show w.heap.size + 1 + 1 + 1 + 1 < y0.heap.size ∧ w.heap.size + 1 + 1 + 1 + 1 < x11.heap.size ∧ w.heap.size + 1 + 1 + 1 + 1 < t.b0 ∧ w.heap.size + 1 + 1 + 1 + 1 < t.b1 ∧ w.heap.size + 1 + 1 + 1 + 1 < t.b2 by omega), (show (t.z0 ≠ [] → t.b0 ≠ y0.heap.size) ∧ (t.z1 ≠ [] → t.b1 ≠ y0.heap.size) ∧ (t.z2 ≠ [] → t.b2 ≠ y0.heap.size) from ⟨fun h => by have := e1.2.1 h; omega, fun h => by have := e1.2.2.1 h; omega, fun h => by have := e1.2.2.2 h; omega⟩), (show (t.z0 ≠ [] → t.b0 ≠ x11.heap.size) ∧ (t.z1 ≠ [] → t.b1 ≠ x11.heap.size) ∧ (t.z2 ≠ [] → t.b2 ≠ x11.heap.size) from ⟨fun h => by have := e1.2.1 h; omega, fun h => by have := e1.2.2.1 h; omega, fun h => by have := e1.2.2.2 h; omega⟩)⟩)
                  clear e1 e2 e3 e4 e5 e6 SZ12 SZ18 SZ19 TB
                  have HG := Lib.hid (show _ ∧ _ from ⟨TL.out, FinW.made C15.out Z18.out Z19.out IN.out NE.out.2.2.1 NE.out.2.2.2.1 NE.out.2.2.2.2.1 NE.out.2.2.2.2.2⟩)
                  have HX9 := Lib.hid (HXb.out.below D15.out)
                  obtain ⟨o1, o2, o3⟩ := Z18.out.facts
                  refine fm_one ?_
                  refine opW_take rfl rfl ?_
                  go_simp
                  have HX10 := Lib.hid (HX9.out.set_other3U (v0 := .int .i64 t.r1) (v1 := .int .i64 t.k1) (v2 := .slice t.a1 t.l1 t.c1) NE.out.1)
                  refine ⟨HX10.out.cell, ?_⟩
                  clear o1 o2 o3
                  obtain ⟨o1, o2, o3⟩ := (Z19.out.set_other3U (v0 := .int .i64 t.r1) (v1 := .int .i64 t.k1) (v2 := .slice t.a1 t.l1 t.c1) NE.out.2.2.1.symm).facts
                  refine fm_one ?_
                  refine opW_take rfl rfl ?_
                  go_simp
                  refine ⟨(HX10.out.set_other3U NE.out.2.1).cell, ?_⟩
                  clear o1 o2 o3
                  refine fm_nil ?_
                  go_simp
                  go_wp2_with fail
                  refine NoPanic.normal ?_
                  go_wp2_with fail
                  go_meet
                  case rel => exact ⟨t, _, _, rfl, rfl, rfl, rfl, HG.out.1, HG.out.2⟩
            case rest =>
              obtain ⟨t, b22, b23, rfl, rfl, rfl, rfl, htl, hfw⟩ := hcut
              have TL := Lib.hid htl
              have FW := Lib.hid hfw
              clear htl hfw G4
              cases hfin : S.d.all ffin
              case false =>
                have he : (t.e : Int) = 10 := by rw [TL.out.no hfin]; rfl
                have HFi := Lib.hid hfin
                clear hfin
                have hte : t.e = 10 := by omega
                rw [hte]
                clear hte he
                go_wp2_with fail
                refine (none5_any _ _ 7).mono ?_
                rintro r w9 ⟨rfl, hb⟩
                have X3 := Lib.hid (FW.out.x3.below hb)
                have X4 := Lib.hid (FW.out.x4.below hb)
                have X5 := Lib.hid (below_step FW.out.below FW.out.below.size hb)
                clear hb
                unfold nilM
                obtain ⟨f1, f2, f3⟩ := X3.out.facts
                obtain ⟨g1, g2, g3⟩ := X4.out.facts
                go_wp2_with fail
                have z3 := (Box.put3 X3.out (.int .i64 0) (.int .i64 0) (.slice none 0 0)).set_other3U (m := w.heap.size + 1 + 1 + 1 + 1) (by omega) (v0 := .int .i64 0) (v1 := .int .i64 0) (v2 := .slice none 0 0)
                have z4 := Box.put3 (X4.out.set_other3U (m := w.heap.size + 1 + 1 + 1) (by omega) (v0 := .int .i64 0) (v1 := .int .i64 0) (v2 := .slice none 0 0)) (.int .i64 0) (.int .i64 0) (.slice none 0 0)
                have hB := X5.out
                refine bodyPost_ret (results_five rfl (rv_tmp rfl) (rv_cell (g := w.heap.size + 1 + 1 + 1) rfl z3 rfl Try.underlying26 (by kernel_rfl)) (rv_cell (g := w.heap.size + 1 + 1 + 1 + 1) rfl z4 rfl Try.underlying26 (by kernel_rfl)) (rv_tmp rfl) (rv_tmp rfl)) rfl ?_
                rw [HPq.out, ← HS3.out]
                unfold SolveGQ
                rw [if_neg (by simp [HFi.out])]
                exact ⟨rfl, below_put3 (below_put3 hB (by omega) _ _ _) (by omega) _ _ _⟩
              case true =>
                have HYs := Lib.hid (TL.out.yes hfin)
                have HFi := Lib.hid hfin
                clear hfin TL
                have hte : t.e = 0 := HYs.out.1.2.2.2.2.2.2.2
                rw [hte]
                clear hte
                go_upto_region 38 with (fail)
                have hdr := below_drewN 1 (Below.refl wc.heap.size wc)
                have V1 := Lib.hid (show Box wc.drew b22 _ ∧ Box wc.drew b23 _ ∧ Box wc.drew _ _ ∧ Box wc.drew _ _ ∧ t.In wc.drew ∧ Below w.heap.size w wc.drew from ⟨FW.out.k1.below hdr, FW.out.k2.below hdr, FW.out.x3.below hdr, FW.out.x4.below hdr, FW.out.inn.step hdr, below_step FW.out.below FW.out.below.size hdr⟩)
                have LO := Lib.hid FW.out.lo
                clear hdr FW
                refine wp_region_items 7 [(true, 0), (true, 1), (true, 2), (true, 3), (true, 4), (false, 5), (false, 6)] (fun W => (∀ j, W.cell? ⟨b22, j, none⟩ = ([.int .i64 t.r1, .int .i64 t.k1, .slice t.a1 t.l1 t.c1] : List Value)[j]?) ∧ (∀ j, W.cell? ⟨b23, j, none⟩ = ([.int .i64 t.r2, .int .i64 t.k2, .slice t.a2 t.l2 t.c2] : List Value)[j]?)) (by kernel_rfl) (by kernel_rfl) ⟨V1.out.1.cell, V1.out.2.1.cell⟩ ?_
                generalize wc.drew = v1 at *
                iterate 5 (refine iW_take (v := ?_) rfl rfl ?_ ?_; rotate_left; (next => (intro w' hSw; (try dsimp only at hSw); go_simp; (try (rw [if_pos (by omega)]; go_simp)); (try with_reducible rfl))); (simp only [Act.put, List.setIfInBounds_toArray, List.set_cons_zero, List.set_cons_succ]))
                obtain ⟨f1, f2, f3⟩ := V1.out.2.2.1.facts
                refine iW_mid rfl rfl ?_
                go_simp
                have hb := bel_put3U (W := v1) (w.heap.size + 1 + 1 + 1) (.int .i64 t.r1) (.int .i64 t.k1) (.slice t.a1 t.l1 t.c1)
                have lo := LO.out
                have V2 := Lib.hid (show Box (((v1.setCell ⟨w.heap.size + 1 + 1 + 1, 0, none⟩ (.int .i64 t.r1)).setCell ⟨w.heap.size + 1 + 1 + 1, 1, none⟩ (.int .i64 t.k1)).setCell ⟨w.heap.size + 1 + 1 + 1, 2, none⟩ (.slice t.a1 t.l1 t.c1)) b22 _ ∧ Box (((v1.setCell ⟨w.heap.size + 1 + 1 + 1, 0, none⟩ (.int .i64 t.r1)).setCell ⟨w.heap.size + 1 + 1 + 1, 1, none⟩ (.int .i64 t.k1)).setCell ⟨w.heap.size + 1 + 1 + 1, 2, none⟩ (.slice t.a1 t.l1 t.c1)) b23 _ ∧ Box (((v1.setCell ⟨w.heap.size + 1 + 1 + 1, 0, none⟩ (.int .i64 t.r1)).setCell ⟨w.heap.size + 1 + 1 + 1, 1, none⟩ (.int .i64 t.k1)).setCell ⟨w.heap.size + 1 + 1 + 1, 2, none⟩ (.slice t.a1 t.l1 t.c1)) (w.heap.size + 1 + 1 + 1) [.int .i64 t.r1, .int .i64 t.k1, .slice t.a1 t.l1 t.c1] ∧ Box (((v1.setCell ⟨w.heap.size + 1 + 1 + 1, 0, none⟩ (.int .i64 t.r1)).setCell ⟨w.heap.size + 1 + 1 + 1, 1, none⟩ (.int .i64 t.k1)).setCell ⟨w.heap.size + 1 + 1 + 1, 2, none⟩ (.slice t.a1 t.l1 t.c1)) (w.heap.size + 1 + 1 + 1 + 1) [.int .i64 0, .int .i64 0, .slice none 0 0] ∧ t.In (((v1.setCell ⟨w.heap.size + 1 + 1 + 1, 0, none⟩ (.int .i64 t.r1)).setCell ⟨w.heap.size + 1 + 1 + 1, 1, none⟩ (.int .i64 t.k1)).setCell ⟨w.heap.size + 1 + 1 + 1, 2, none⟩ (.slice t.a1 t.l1 t.c1)) ∧ Below w.heap.size w (((v1.setCell ⟨w.heap.size + 1 + 1 + 1, 0, none⟩ (.int .i64 t.r1)).setCell ⟨w.heap.size + 1 + 1 + 1, 1, none⟩ (.int .i64 t.k1)).setCell ⟨w.heap.size + 1 + 1 + 1, 2, none⟩ (.slice t.a1 t.l1 t.c1)) from ⟨V1.out.1.bel (by omega) hb, V1.out.2.1.bel (by omega) hb, Box.put3 V1.out.2.2.1 (.int .i64 t.r1) (.int .i64 t.k1) (.slice t.a1 t.l1 t.c1), V1.out.2.2.2.1.bel (by omega) hb, V1.out.2.2.2.2.1.bel ⟨fun _ => by omega, fun _ => by omega, fun _ => by omega⟩ hb, V1.out.2.2.2.2.2.trans ((hb.mono V1.out.2.2.2.2.2.size).below (by omega))⟩)
                refine ⟨⟨V2.out.1.cell, V2.out.2.1.cell⟩, ?_⟩
                clear hb lo f1 f2 f3 V1
                generalize ((v1.setCell ⟨w.heap.size + 1 + 1 + 1, 0, none⟩ (.int .i64 t.r1)).setCell ⟨w.heap.size + 1 + 1 + 1, 1, none⟩ (.int .i64 t.k1)).setCell ⟨w.heap.size + 1 + 1 + 1, 2, none⟩ (.slice t.a1 t.l1 t.c1) = v2 at *
                obtain ⟨f1, f2, f3⟩ := V2.out.2.2.2.1.facts
                refine iW_mid rfl rfl ?_
                go_simp
                have hb := bel_put3U (W := v2) (w.heap.size + 1 + 1 + 1 + 1) (.int .i64 t.r2) (.int .i64 t.k2) (.slice t.a2 t.l2 t.c2)
                have lo := LO.out
                have V3 := Lib.hid (show Box (((v2.setCell ⟨w.heap.size + 1 + 1 + 1 + 1, 0, none⟩ (.int .i64 t.r2)).setCell ⟨w.heap.size + 1 + 1 + 1 + 1, 1, none⟩ (.int .i64 t.k2)).setCell ⟨w.heap.size + 1 + 1 + 1 + 1, 2, none⟩ (.slice t.a2 t.l2 t.c2)) b22 _ ∧ Box (((v2.setCell ⟨w.heap.size + 1 + 1 + 1 + 1, 0, none⟩ (.int .i64 t.r2)).setCell ⟨w.heap.size + 1 + 1 + 1 + 1, 1, none⟩ (.int .i64 t.k2)).setCell ⟨w.heap.size + 1 + 1 + 1 + 1, 2, none⟩ (.slice t.a2 t.l2 t.c2)) b23 _ ∧ Box (((v2.setCell ⟨w.heap.size + 1 + 1 + 1 + 1, 0, none⟩ (.int .i64 t.r2)).setCell ⟨w.heap.size + 1 + 1 + 1 + 1, 1, none⟩ (.int .i64 t.k2)).setCell ⟨w.heap.size + 1 + 1 + 1 + 1, 2, none⟩ (.slice t.a2 t.l2 t.c2)) (w.heap.size + 1 + 1 + 1) [.int .i64 t.r1, .int .i64 t.k1, .slice t.a1 t.l1 t.c1] ∧ Box (((v2.setCell ⟨w.heap.size + 1 + 1 + 1 + 1, 0, none⟩ (.int .i64 t.r2)).setCell ⟨w.heap.size + 1 + 1 + 1 + 1, 1, none⟩ (.int .i64 t.k2)).setCell ⟨w.heap.size + 1 + 1 + 1 + 1, 2, none⟩ (.slice t.a2 t.l2 t.c2)) (w.heap.size + 1 + 1 + 1 + 1) [.int .i64 t.r2, .int .i64 t.k2, .slice t.a2 t.l2 t.c2] ∧ t.In (((v2.setCell ⟨w.heap.size + 1 + 1 + 1 + 1, 0, none⟩ (.int .i64 t.r2)).setCell ⟨w.heap.size + 1 + 1 + 1 + 1, 1, none⟩ (.int .i64 t.k2)).setCell ⟨w.heap.size + 1 + 1 + 1 + 1, 2, none⟩ (.slice t.a2 t.l2 t.c2)) ∧ Below w.heap.size w (((v2.setCell ⟨w.heap.size + 1 + 1 + 1 + 1, 0, none⟩ (.int .i64 t.r2)).setCell ⟨w.heap.size + 1 + 1 + 1 + 1, 1, none⟩ (.int .i64 t.k2)).setCell ⟨w.heap.size + 1 + 1 + 1 + 1, 2, none⟩ (.slice t.a2 t.l2 t.c2)) from ⟨V2.out.1.bel (by omega) hb, V2.out.2.1.bel (by omega) hb, V2.out.2.2.1.bel (by omega) hb, Box.put3 V2.out.2.2.2.1 (.int .i64 t.r2) (.int .i64 t.k2) (.slice t.a2 t.l2 t.c2), V2.out.2.2.2.2.1.bel ⟨fun _ => by omega, fun _ => by omega, fun _ => by omega⟩ hb, V2.out.2.2.2.2.2.trans ((hb.mono V2.out.2.2.2.2.2.size).below (by omega))⟩)
                refine ⟨⟨V3.out.1.cell, V3.out.2.1.cell⟩, ?_⟩
                clear hb lo f1 f2 f3 V2
                generalize ((v2.setCell ⟨w.heap.size + 1 + 1 + 1 + 1, 0, none⟩ (.int .i64 t.r2)).setCell ⟨w.heap.size + 1 + 1 + 1 + 1, 1, none⟩ (.int .i64 t.k2)).setCell ⟨w.heap.size + 1 + 1 + 1 + 1, 2, none⟩ (.slice t.a2 t.l2 t.c2) = v3 at *
                refine iW_nil ?_
                go_simp
                go_wp2_with fail
                refine NoPanic.normal ?_
                go_wp2_with fail
                refine bodyPost_ret (results_five rfl (rv_tmp rfl) (rv_cell (g := w.heap.size + 1 + 1 + 1) rfl V3.out.2.2.1 rfl Try.underlying26 (by kernel_rfl)) (rv_cell (g := w.heap.size + 1 + 1 + 1 + 1) rfl V3.out.2.2.2.1 rfl Try.underlying26 (by kernel_rfl)) (rv_tmp rfl) (rv_tmp rfl)) rfl ?_
                rw [HPq.out, ← HS3.out]
                unfold SolveGQ
                rw [if_pos ⟨rfl, HFi.out⟩]
                obtain ⟨⟨h1, h2, h3, h4, h5, h6, h7, h8⟩, h9, h10, h11⟩ := HYs.out
                obtain ⟨p1, p2, p3, p4⟩ := HP.out
                rw [p1, p3, p4] at h9 h10 h11
                rw [h1, h2, h3, h4, h5, h6, h7, p1, p3, p4]
                rw [← h9, ← h10, ← h11]
                exact ⟨_, _, _, _, _, _, rfl, V3.out.2.2.2.2.1.f0.fls, V3.out.2.2.2.2.1.f1.fls, V3.out.2.2.2.2.1.f2.fls, V3.out.2.2.2.2.2⟩
end Go.Proofs.Ytdljnhdhigbefaa
