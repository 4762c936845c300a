/- Layer 12: a sweep. No condition but on lengths and places. -/
import Derived.Test.YtbmnlohaidbmdaaQe
namespace Go.Proofs.Ytbmnlohaidbmdaa
open Go Go.RowKit
set_option maxRecDepth 1000000

theorem SignX (x s y t u : Nat) (hx : x < 18446744073709551616) (hy : y < 18446744073709551616) (hu : fabs (raw x s) + raw y t / 9223372036854775808 * 9223372036854775808 = raw (sgnW x y) u) (w : World) : Calls Try.prog 39 #[.float .f64 (raw x s), .float .f64 (raw y t)] w fun e w' => e = .returned (.float .f64 (raw (sgnW x y) u)) ∧ w = w' := by
  have HC := Lib.hid (CopysignW _ _ (raw_lt hx s) (raw_lt hy t) w)
  rw [hu] at HC
  generalize raw x s = a at *
  generalize raw y t = b at *
  generalize raw (sgnW x y) u = c at *
  clear hu
  go_enter Try.func39, Try.ntmps39
  go_wp2_with fail
  refine HC.out.mono ?_
  rintro e w' ⟨rfl, rfl⟩
  go_wp2
  go_ret
  exact ⟨rfl, rfl⟩
theorem Hyp1 (x s : Nat) (hx : x < 18446744073709551616) (w : World) : Calls Try.prog 38 #[.float .f64 (raw x s), .float .f64 4607182418800017408] w fun e w' => FR e (hypW x 4607182418800017408) ∧ Below w.heap.size w w' := by
  have := HypotF x s 4607182418800017408 0 hx (by decide) w
  rw [raw_of_not (show isnan 4607182418800017408 = false by kernel_rfl)] at this
  exact this
theorem hyp_nan {g : Nat} (h : isnan g = true) : isnan (hypW g 4607182418800017408) = true := by
  have h1 : isnan (fabs g) = true := by rw [isnan_fabs]; exact h
  unfold hypW
  rw [flt_nan (.inl h1), if_neg (by decide)]
  unfold hypP
  rw [feq_nan (.inl h1), if_neg (by decide)]
  have e : fmul (fabs g) (fsqrt (fadd 4607182418800017408 (fmul (fdiv (fabs 4607182418800017408) (fabs g)) (fdiv (fabs 4607182418800017408) (fabs g))))) = qnan := by
    generalize fsqrt _ = y
    with_unfolding_all (show (Ieee.double.mul (fabs g) y).getD qnan = qnan)
    unfold Ieee.Format.mul
    rw [product_nan_left _ (by rw [read_nan]; exact h1)]
    rfl
  rw [e, isnan_qnan]

set_option maxHeartbeats 32000000 in
theorem sweep_any (w : World) (X bd be zb rows n cd ce zc l m : Nat) (za : Option Addr) (d e z : List Nat) (hX : Box w X [.slice (some ⟨bd, 0, none⟩) d.length cd, .slice (some ⟨be, 0, none⟩) e.length ce, .int .i64 rows, .int .i64 n, .slice za z.length zc]) (hd : Flb w bd d) (he : Flb w be e) (hz : Zf w rows n za zc zb z) (hdl : d.length = n) (hel : e.length = n) (hl : l < m) (hm : m < n) (hn : n ≤ 512) (hr : rows ≤ 512) (h1 : X ≠ bd) (h2 : X ≠ be) (h3 : X ≠ zb) (h4 : bd ≠ be) (h5 : bd ≠ zb) (h6 : be ≠ zb) :
    Calls Try.prog 28 #[.pointer (some ⟨X, 0, none⟩), .int .i64 l, .int .i64 m] w fun r w' => r = .returned (.tuple #[]) ∧ Flb w' bd (sweepL n rows ⟨d, e, z⟩ l m).d ∧ Flb w' be (sweepL n rows ⟨d, e, z⟩ l m).e ∧ Zf w' rows n za zc zb (sweepL n rows ⟨d, e, z⟩ l m).z ∧ Bls [bd, be, zb] w.heap.size w w' := by
  obtain ⟨a1, a2, a3⟩ := hX.facts
  have HLen := Lib.hid (show _ ∧ _ from ⟨hdl, hel⟩)
  have i1 : l < d.length := by omega
  have i2 : l + 1 < d.length := by omega
  have i3 : m < d.length := by omega
  have i4 : l < e.length := by omega
  have i5 : IntKind.i64.wrap ((l : Int) + 1) = (l : Int) + 1 := by rw [IntKind.wrap_i64]; omega
  obtain ⟨s1, c1⟩ := hd.at i1
  obtain ⟨s2, c2⟩ := hd.at i2
  obtain ⟨s3, c3⟩ := hd.at i3
  obtain ⟨s4, c4⟩ := he.at i4
  have hbd := hd.lt
  have hbe := he.lt
  have HG := Lib.hid (show sw0 d e z l m = ⟨d, e, z, fadd (fsub (d.getD m 0) (d.getD l 0)) (fdiv (e.getD l 0) (fadd (fdiv (fsub (d.getD (l + 1) 0) (d.getD l 0)) (fmul 4611686018427387904 (e.getD l 0))) (sgnW (hypW (fdiv (fsub (d.getD (l + 1) 0) (d.getD l 0)) (fmul 4611686018427387904 (e.getD l 0))) 4607182418800017408) (fdiv (fsub (d.getD (l + 1) 0) (d.getD l 0)) (fmul 4611686018427387904 (e.getD l 0)))))), 4607182418800017408, 4607182418800017408, 0⟩ from rfl)
  clear hdl hel
  generalize d.getD m 0 = xm at *
  generalize d.getD (l + 1) 0 = xk at *
  generalize d.getD l 0 = xl at *
  generalize e.getD l 0 = el at *
  go_enter Try.func28, Try.ntmps28
  go_wp2_with fail
  refine wp_region_nqb 10 (fun _ _ _ => False) (by kernel_rfl) (by kernel_rfl) ?_
  intro C R hc hb' hb2 hd hR
  simp only [List.take_succ_cons, List.take_zero]
  repeat (
    first
      | (refine nqW_plain (fun K hK => ?_))
      | (refine nqW_step (fun K hK => ?_); go_simp)
    first
      | (refine nq_move rfl ?_; go_simp; refine hK _ ?_; clear hK K)
      | (refine nq_assign rfl ?_; go_simp; refine hK _ ?_; clear hK K)
      | (refine nq_flt rfl rfl rfl rfl hd ?_; intro _; go_frame; refine hK _ ?_; clear hK K)
      | (refine nq_same ?_; intro w' hw'; go_simp; (try go_bits); refine hK _ ?_; clear hK K hw' w')
      | (refine nq_same ?_; intro w' hw'; go_simp; rw [if_pos (by omega)]; go_simp; (try go_bits); refine hK _ ?_; clear hK K hw' w')
      | (go_simp; refine hK _ ?_; clear hK K))
  refine nqW_nil (hR _ ?_)
  clear hc hb' hb2 hd hR
  intro w' hw'
  simp only [List.drop]
  have hB1 := hw'
  have k1 := ((below_cells hw').1 _ l hbd).trans c1
  have k2 := ((below_cells hw').1 _ (l + 1) hbd).trans c2
  have k3 := ((below_cells hw').1 _ m hbd).trans c3
  have k4 := ((below_cells hw').1 _ l hbe).trans c4
  have b1 := hw'.size
  have hbd1 : bd < w'.heap.size := by omega
  have hbe1 : be < w'.heap.size := by omega
  have hw1s : w.heap.size ≤ w'.heap.size := b1
  generalize w' = w1 at *
  go_wp2_with fail
  refine wp_region_nqb 17 (fun _ _ _ => False) (by kernel_rfl) (by kernel_rfl) ?_
  intro C R hc hb' hb2 hd hR
  simp only [List.take_succ_cons, List.take_zero]
  repeat (
    first
      | (refine nqW_plain (fun K hK => ?_))
      | (refine nqW_step (fun K hK => ?_); go_simp)
    first
      | (refine nq_move rfl ?_; go_simp; refine hK _ ?_; clear hK K)
      | (refine nq_assign rfl ?_; go_simp; refine hK _ ?_; clear hK K)
      | (refine nq_flt rfl rfl rfl rfl hd ?_; intro _; go_frame; refine hK _ ?_; clear hK K)
      | (refine nq_same ?_; intro w' hw'; go_simp; (try go_bits); refine hK _ ?_; clear hK K hw' w')
      | (refine nq_same ?_; intro w' hw'; go_simp; rw [if_pos (by omega)]; go_simp; (try go_bits); refine hK _ ?_; clear hK K hw' w')
      | (go_simp; refine hK _ ?_; clear hK K))
  refine nqW_nil (hR _ ?_)
  clear hc hb' hb2 hd hR
  intro w' hw'
  simp only [List.drop]
  rename_i sq
  have hB2 := below_step hB1 hw1s hw'
  have m1 := ((below_cells hw').1 _ l hbd1).trans k1
  have m2 := ((below_cells hw').1 _ (l + 1) hbd1).trans k2
  have m3 := ((below_cells hw').1 _ m hbd1).trans k3
  have m4 := ((below_cells hw').1 _ l hbe1).trans k4
  have b2 := hw'.size
  generalize hgv : fdiv (fsub xk xl) (fmul 4611686018427387904 el) = g at *
  have hgl : g < 18446744073709551616 := by rw [← hgv]; exact fdiv_lt _ _
  generalize w' = w2 at *
  go_wp2_with fail
  refine (Hyp1 g sq hgl _).mono ?_
  rintro r w' ⟨⟨sr, rfl⟩, hb3⟩
  have hB3 := below_step hB2 (by omega) hb3
  have hbd2 : bd < w2.heap.size := by omega
  have hbe2 : be < w2.heap.size := by omega
  have b3 := hb3.size
  have hbd3 : bd < w'.heap.size := by omega
  have hbe3 : be < w'.heap.size := by omega
  have q1 := ((below_cells hb3).1 _ l hbd2).trans m1
  have q2 := ((below_cells hb3).1 _ m hbd2).trans m3
  have q3 := ((below_cells hb3).1 _ l hbe2).trans m4
  have hnn : isnan g = true → isnan (hypW g 4607182418800017408) = true := fun h => hyp_nan h
  have hrl := hypW_lt g 4607182418800017408
  generalize hypW g 4607182418800017408 = rr at *
  obtain ⟨su, hsu⟩ := sgn_raw rr sr g sq hrl hgl hnn
  have HSg := Lib.hid (fun W => SignX rr sr g sq su hrl hgl hsu W)
  clear hsu hnn c1 c2 c3 c4 k1 k2 k3 k4 m1 m2 m3 m4 hb3 hw' hbd2 hbe2 hbd1 hbe1
  generalize w' = w3 at *
  go_wp2_with fail
  refine wp_region_nqd 21  (by kernel_rfl) (by kernel_rfl) ?_
  intro Cw Rw hc hb' hb2 hd hRw
  simp only [List.take_succ_cons, List.take_zero]
  repeat (
    first
      | (refine nqW_skip rfl (fun K hK => ?_); go_frame; refine hK _ ?_; clear hK K)
      | ((first | (refine nqW_plain (fun K hK => ?_)) | (refine nqW_want rfl (fun K hK => ?_)) | (refine nqW_step (fun K hK => ?_); go_simp))
         first
           | (refine nq_move rfl ?_; go_simp; refine hK _ ?_; clear hK K)
           | (refine nq_assign rfl ?_; go_simp; refine hK _ ?_; clear hK K)
           | (refine nq_flt rfl rfl rfl rfl hd ?_; intro _; go_frame; refine hK _ ?_; clear hK K)
           | (refine nq_inC rfl ?_; intro w' hw'; go_simp; refine fd_both (V := (.float .f64 (raw (sgnW rr g) su))) (by kernel_rfl) (fun w2 hw2 => ?_) ?_; (next => (go_at_call 39; exact (((HSg.out w2).mono fun r w' (⟨h1, h2⟩ : r = Ending.returned (.float .f64 (raw (sgnW rr g) su)) ∧ w2 = w') => (⟨h1, h2 ▸ Below.refl _ _⟩ : r = Ending.returned (.float .f64 (raw (sgnW rr g) su)) ∧ Below w2.heap.size w2 w'))).mono (fun e w3 ⟨he, hb⟩ => ⟨he, hb2 _ _ hw2 hb⟩))); (try go_simp); refine hK _ ?_; clear hK K hw' w')
           | (refine nq_same ?_; intro w' hw'; go_simp; (try go_bits); refine hK _ ?_; clear hK K hw' w')
           | (refine nq_same ?_; intro w' hw'; go_simp; rw [if_pos (by omega)]; go_simp; (try go_bits); refine hK _ ?_; clear hK K hw' w')
           | (go_simp; refine hK _ ?_; clear hK K)))
  refine nqW_nil (hRw _ ?_)
  clear hc hb' hb2 hd hRw
  intro w' hw'
  simp only [List.drop]
  rename_i sg
  have hB4 := below_step hB3 hB3.size hw'
  have hd4 := hd.below hB4
  have he4 := he.below hB4
  have hz4 := hz.below hB4
  obtain ⟨S0, hS0⟩ : ∃ S0, S0 = sw0 d e z l m := ⟨_, rfl⟩
  have HS0 := Lib.hid hS0
  have hg0 : S0.g = fadd (fsub xm xl) (fdiv el (fadd g (sgnW rr g))) := by rw [hS0, HG.out]
  have HB4 := Lib.hid (show _ ∧ _ ∧ _ ∧ _ from ⟨hB4, hd4, he4, hz4⟩)
  have HX := Lib.hid hX
  clear hB1 hB2 hB3 hB4 hw' q1 q2 q3 hbd3 hbe3 hbd hbe b1 b2 b3 hw1s hd4 he4 hz4 hd he hz hX a1 a2 a3 hS0 hgv HSg hgl hrl
  rw [← hg0]
  have HG0 := Lib.hid hg0
  clear hg0
  generalize w' = w4 at *
  have hw5 : wrap64 ((m : Int) - 1) = (m : Int) - 1 := by unfold wrap64; omega
  go_wp2_with fail
  (try simp only [hw5])
  clear i1 i2 i3 i4 i5
  go_loopw [8, 10, 11, 12, 13] (fun s8 s10 s11 s12 s13 wr => ∃ (k : Nat) (S : SwS) (t8 t10 t11 t12 : Nat), s8 = .float .f64 (raw S.g t8) ∧ s10 = .float .f64 (raw S.s t10) ∧ s11 = .float .f64 (raw S.c t11) ∧ s12 = .float .f64 (raw S.p t12) ∧ s13 = .int .i64 ((l : Int) + k - 1) ∧ k ≤ m - l ∧ S.d.length = n ∧ S.e.length = n ∧ S.g < 18446744073709551616 ∧ swL n rows l m (m - l) S0 = swL n rows l m k S ∧ Flb wr bd S.d ∧ Flb wr be S.e ∧ Zf wr rows n za zc zb S.z ∧ Bls [bd, be, zb] w.heap.size w wr) (fun _ _ _ _ s13 _ => (intOf s13 - l + 1).toNat)
  case atStart =>
    have hS := HS0.out
    obtain ⟨hB, f1, f2, f3⟩ := HB4.out
    refine ⟨m - l, S0, sg, 0, 0, 0, rfl, ?_, ?_, ?_, ?_, Nat.le_refl _, ?_, ?_, ?_, rfl, ?_, ?_, ?_, Bls.of hB⟩
    · rw [hS]; show Value.float .f64 4607182418800017408 = Value.float .f64 (raw 4607182418800017408 0); rw [raw_of_not (show isnan 4607182418800017408 = false by kernel_rfl)]
    · rw [hS]; show Value.float .f64 4607182418800017408 = Value.float .f64 (raw 4607182418800017408 0); rw [raw_of_not (show isnan 4607182418800017408 = false by kernel_rfl)]
    · rw [hS]; show Value.float .f64 0 = Value.float .f64 (raw 0 0); rw [raw_of_not (show isnan 0 = false by kernel_rfl)]
    · congr 1; omega
    · rw [hS]; exact HLen.out.1
    · rw [hS]; exact HLen.out.2
    · rw [HG0.out]; exact fadd_lt _ _
    · rw [hS]; exact f1
    · rw [hS]; exact f2
    · rw [hS]; exact f3
  case round =>
    obtain ⟨k, S, t8, t10, t11, t12, rfl, rfl, rfl, rfl, rfl, hk, hSd, hSe, hgS, hSw, fd, fe, fz, hB⟩ := hrel
    obtain ⟨hdl, hel⟩ := HLen.out
    have hXr := HX.out.bls hB HX.out.lt (by simp; omega)
    have bls := hB.size
    have hbd := fd.lt
    have hbe := fe.lt
    have fzd := fd.frozen
    have fze := fe.frozen
    cases k with
    | zero =>
      have j1 : l < d.length := by omega
      have j2 : l < e.length := by omega
      have j3 : m < e.length := by omega
      have j4 : decide ((l : Int) ≤ (l : Int) + ((0 : Nat) : Int) - 1) = false := decide_eq_false (by omega)
      obtain ⟨u1, c1⟩ := fd.at (i := l) (by omega)
      obtain ⟨u2, c2⟩ := fe.at (i := l) (by omega)
      obtain ⟨u3, c3⟩ := fe.at (i := m) (by omega)
      have HR := Lib.hid (show sweepL n rows ⟨d, e, z⟩ l m = swE l m (S, false) by unfold sweepL; rw [← HS0.out, hSw]; rfl)
      have hE : swE l m (S, false) = ⟨S.d.set l (fsub (S.d.getD l 0) S.p), (S.e.set l S.g).set m 0, S.z⟩ := rfl
      rw [hE] at HR
      have HSt := Lib.hid (show _ ∧ _ ∧ _ ∧ _ from ⟨fd, fe, fz, hB⟩)
      clear hE hSw hdl hel hSd hSe fd fe fz hB hXr hk
      generalize S.d.getD l 0 = dl at *
      go_wp2_with (first | (refine wpList_flt rfl rfl rfl rfl rfl ?_; intro K hK _ _; go_frame; refine hK _ _ ?_; clear hK K))
      rename_i su nu
      obtain ⟨f1, f2, f3, hB⟩ := HSt.out
      have hdr : Below wr.heap.size wr (wr.drewN nu) := below_drewN nu (Below.refl _ wr)
      have g1 := (((f1.below hdr).set l (fsub dl S.p) su).other h4 l (.float .f64 (raw S.g t8))).other h4 m (.float .f64 0)
      have g2 := (((f2.below hdr).other (Ne.symm h4) l (.float .f64 (raw (fsub dl S.p) su))).set l S.g t8).set m 0 0
      rw [raw_of_not (show isnan 0 = false by kernel_rfl)] at g2
      have g3 := (((f3.below hdr).other (Ne.symm h5) l (.float .f64 (raw (fsub dl S.p) su))).other (Ne.symm h6) l (.float .f64 (raw S.g t8))).other (Ne.symm h6) m (.float .f64 0)
      have m1 : bd ∈ [bd, be, zb] := by simp
      have m2 : be ∈ [bd, be, zb] := by simp
      have g4 := (((hB.step hB.size (Bls.of hdr)).set m1 l (.float .f64 (raw (fsub dl S.p) su))).set m2 l (.float .f64 (raw S.g t8))).set m2 m (.float .f64 0)
      have HG4 := Lib.hid (show _ ∧ _ ∧ _ ∧ _ from ⟨g1, g2, g3, g4⟩)
      clear g1 g2 g3 g4 f1 f2 f3 hB
      refine bodyPost_end (results_none rfl _ _ _) rfl ⟨rfl, ?_⟩
      rw [HR.out]
      exact HG4.out
    | succ k =>
      obtain ⟨i, hi⟩ : ∃ i, i = l + k := ⟨_, rfl⟩
      have ei : (l : Int) + ((k + 1 : Nat) : Int) - 1 = (i : Int) := by omega
      rw [ei]
      have j1 : i < e.length := by omega
      have j2 : i + 1 < e.length := by omega
      have j3 : i + 1 < d.length := by omega
      have j4 : decide ((l : Int) ≤ (i : Int)) = true := decide_eq_true (by omega)
      have j4' : decide (l ≤ i) = true := decide_eq_true (by omega)
      have j5 : IntKind.i64.wrap ((i : Int) + 1) = (i : Int) + 1 := by rw [IntKind.wrap_i64]; omega
      have j6 : i < d.length := by omega
      obtain ⟨u1, c1⟩ := fe.at (i := i) (by omega)
      have HSw := Lib.hid hSw
      have HFF := Lib.hid (show _ ∧ _ ∧ _ ∧ _ from ⟨fd, fe, fz, hB⟩)
      have HSl := Lib.hid (show _ ∧ _ ∧ _ from ⟨hSd, hSe, hk⟩)
      have hef : swF S i = fmul S.s (S.e.getD i 0) := rfl
      have heb : swB S i = fmul S.c (S.e.getD i 0) := rfl
      have HEF := Lib.hid (And.intro hef heb)
      have HI := Lib.hid (And.intro hi ei)
      clear hSw fd fe fz hB hSd hSe hk hdl hel hef heb hi ei
      generalize S.e.getD i 0 = ev at *
      go_wp2_with fail
      refine wp_region_nqb 14 (fun _ _ _ => False) (by kernel_rfl) (by kernel_rfl) ?_
      intro C R hc hb' hb2 hd hR
      simp only [List.take_succ_cons, List.take_zero]
      repeat (
        first
          | (refine nqW_plain (fun K hK => ?_))
          | (refine nqW_step (fun K hK => ?_); go_simp)
        first
          | (refine nq_move rfl ?_; go_simp; refine hK _ ?_; clear hK K)
          | (refine nq_assign rfl ?_; go_simp; refine hK _ ?_; clear hK K)
          | (refine nq_flt rfl rfl rfl rfl hd ?_; intro _; go_frame; refine hK _ ?_; clear hK K)
          | (refine nq_same ?_; intro w' hw'; go_simp; (try go_bits); refine hK _ ?_; clear hK K hw' w')
          | (refine nq_same ?_; intro w' hw'; go_simp; rw [if_pos (by omega)]; go_simp; (try go_bits); refine hK _ ?_; clear hK K hw' w')
          | (go_simp; refine hK _ ?_; clear hK K))
      refine nqW_nil (hR _ ?_)
      clear hc hb' hb2 hd hR
      intro w' hw'
      simp only [List.drop]
      rename_i sf sb
      have b4 := hw'.size
      generalize w' = w5 at *
      have HW5 := Lib.hid hw'
      clear hw' c1
      go_wp2_with fail
      refine (HypotF (fmul S.s ev) sf S.g t8 (fmul_lt _ _) hgS _).mono ?_
      rintro r w' ⟨⟨sr2, rfl⟩, hb6⟩
      have hb7 : Below wr.heap.size wr w' := below_step HW5.out b4 hb6
      have b5 := hb7.size
      have hfd6 := HFF.out.1.below hb7
      have hfe6 := HFF.out.2.1.below hb7
      have HF6 := Lib.hid (show _ ∧ _ ∧ _ ∧ _ ∧ _ from ⟨hfd6, hfe6, HFF.out.2.2.1.below hb7, HFF.out.2.2.2.step (by omega) (Bls.of hb7), hXr.below hb7⟩)
      obtain ⟨hSd, hSe, _⟩ := HSl.out
      obtain ⟨hdl, hel⟩ := HLen.out
      obtain ⟨u2, c2⟩ := hfe6.at (i := i + 1) (by omega)
      obtain ⟨u3, c3⟩ := hfd6.at (i := i + 1) (by omega)
      obtain ⟨u4, c4⟩ := hfd6.at (i := i) (by omega)
      obtain ⟨u5, c5⟩ := hfe6.at (i := m) (by omega)
      have hbd6 := hfd6.lt
      have hbe6 := hfe6.lt
      have fzd6 := hfd6.frozen
      have fze6 := hfe6.frozen
      have j7 : m < e.length := by omega
      have hrr : swR S i = hypW (fmul S.s ev) S.g := by unfold swR; rw [HEF.out.1]
      have HRR := Lib.hid hrr
      have HRf := Lib.hid (show feq (hypW (fmul S.s ev) S.g) 0 = false → swL n rows l m (m - l) S0 = swL n rows l m k (swN n rows S i) from fun hq => by
        rw [HSw.out, swL, ← HI.out.1, hrr, hq, if_neg (by decide)])
      have HRt := Lib.hid (show feq (hypW (fmul S.s ev) S.g) 0 = true → sweepL n rows ⟨d, e, z⟩ l m = ⟨S.d.set (i + 1) (fsub (S.d.getD (i + 1) 0) S.p), (S.e.set (i + 1) (hypW (fmul S.s ev) S.g)).set m 0, S.z⟩ from fun hq => by
        have e1 : swL n rows l m (k + 1) S = (swX m S i, true) := by rw [swL, ← HI.out.1, hrr, hq, if_pos rfl]
        unfold sweepL
        rw [← HS0.out, HSw.out, e1]
        unfold swE swX
        rw [hrr]
        rfl)
      have HN := Lib.hid (show swN n rows S i = ⟨S.d.set (i + 1) (fadd (fsub (S.d.getD (i + 1) 0) S.p) (fmul (fdiv (fmul S.s ev) (hypW (fmul S.s ev) S.g)) (fadd (fmul (fsub (S.d.getD i 0) (fsub (S.d.getD (i + 1) 0) S.p)) (fdiv (fmul S.s ev) (hypW (fmul S.s ev) S.g))) (fmul (fmul 4611686018427387904 (fdiv S.g (hypW (fmul S.s ev) S.g))) (fmul S.c ev))))), S.e.set (i + 1) (hypW (fmul S.s ev) S.g), turnL S.z n i (fdiv S.g (hypW (fmul S.s ev) S.g)) (fdiv (fmul S.s ev) (hypW (fmul S.s ev) S.g)) rows, fsub (fmul (fdiv S.g (hypW (fmul S.s ev) S.g)) (fadd (fmul (fsub (S.d.getD i 0) (fsub (S.d.getD (i + 1) 0) S.p)) (fdiv (fmul S.s ev) (hypW (fmul S.s ev) S.g))) (fmul (fmul 4611686018427387904 (fdiv S.g (hypW (fmul S.s ev) S.g))) (fmul S.c ev)))) (fmul S.c ev), (fdiv (fmul S.s ev) (hypW (fmul S.s ev) S.g)), (fdiv S.g (hypW (fmul S.s ev) S.g)), (fmul (fdiv (fmul S.s ev) (hypW (fmul S.s ev) S.g)) (fadd (fmul (fsub (S.d.getD i 0) (fsub (S.d.getD (i + 1) 0) S.p)) (fdiv (fmul S.s ev) (hypW (fmul S.s ev) S.g))) (fmul (fmul 4611686018427387904 (fdiv S.g (hypW (fmul S.s ev) S.g))) (fmul S.c ev))))⟩ from by unfold swN; rw [hrr, HEF.out.1, HEF.out.2])
      clear hfd6 hfe6 hSd hSe hdl hel hb6 hb7 hrr hbd hbe fzd fze bls hXr b4 b5
      generalize hypW (fmul S.s ev) S.g = rv at *
      generalize S.d.getD (i + 1) 0 = dk at *
      generalize S.d.getD i 0 = di at *
      generalize w' = w6 at *
      cases hr0 : feq rv 0
      · have HR := Lib.hid (HRf.out hr0)
        have HR0 := Lib.hid hr0
        have j8 : wrap64 ((i : Int) - 1) = (i : Int) - 1 := by have := HLen.out.1; unfold wrap64; omega
        go_wp2_with (first | (refine wpList_flt rfl rfl rfl rfl rfl ?_; intro K hK _ _; go_frame; refine hK _ _ ?_; clear hK K))
        rename_i r1 n1 r2 n2 r3 n3 r4 n4 r5 n5 r6 n6 r7 n7 r8 n8 r9 n9 r10 n10 r11 n11 r12 n12 Kq aq
        obtain ⟨f1, f2, f3, hB, hXw⟩ := HF6.out
        have m1 : bd ∈ [bd, be, zb] := by simp
        have m2 : be ∈ [bd, be, zb] := by simp
        have m3 : zb ∈ [bd, be, zb] := by simp
        generalize hdv : fadd (fsub dk S.p) (fmul (fdiv (fmul S.s ev) rv) (fadd (fmul (fsub di (fsub dk S.p)) (fdiv (fmul S.s ev) rv)) (fmul (fmul 4611686018427387904 (fdiv S.g rv)) (fmul S.c ev)))) = dv at *
        generalize hnn : n1 + n2 + n3 + n4 + n5 + n6 + n7 + n8 + n9 + n10 = nn at *
        have x1 := hXw.bel h2 ((Bel.refl _ _ w6).set (i + 1) (.float .f64 (raw rv sr2)))
        have e1 := f1.other h4 (i + 1) (.float .f64 (raw rv sr2))
        have e2 := f2.set (i + 1) rv sr2
        have e3 := f3.other (Ne.symm h6) (i + 1) (.float .f64 (raw rv sr2))
        have e4 := hB.set m2 (i + 1) (.float .f64 (raw rv sr2))
        generalize w6.setCell ⟨be, i + 1, none⟩ (.float .f64 (raw rv sr2)) = wa at *
        have hda : Below wa.heap.size wa (wa.drewN nn) := below_drewN nn (Below.refl _ _)
        replace x1 := (x1.below hda).bel h1 ((Bel.refl _ _ (wa.drewN nn)).set (i + 1) (.float .f64 (raw dv r10)))
        replace e1 := (e1.below hda).set (i + 1) dv r10
        replace e2 := (e2.below hda).other (Ne.symm h4) (i + 1) (.float .f64 (raw dv r10))
        replace e3 := (e3.below hda).other (Ne.symm h5) (i + 1) (.float .f64 (raw dv r10))
        replace e4 := (e4.step e4.size (Bls.of hda)).set m1 (i + 1) (.float .f64 (raw dv r10))
        generalize (wa.drewN nn).setCell ⟨bd, i + 1, none⟩ (.float .f64 (raw dv r10)) = wb at *
        have hdb : Below wb.heap.size wb (wb.drewN (n11 + n12)) := below_drewN _ (Below.refl _ _)
        replace x1 := x1.below hdb
        replace e1 := e1.below hdb
        replace e2 := e2.below hdb
        replace e3 := e3.below hdb
        replace e4 := e4.step e4.size (Bls.of hdb)
        generalize wb.drewN (n11 + n12) = wc at *
        have hzl : z.length = S.z.length := HB4.out.2.2.2.1.trans e3.1.symm
        rw [hzl] at x1
        refine (turnZ wc X i (fdiv S.g rv) r2 (fdiv (fmul S.s ev) rv) r1 _ _ x1 e3 (by have := HLen.out.1; omega) h3 hr hn).mono ?_
        rintro r w' ⟨rfl, hz', hb'⟩
        have e5 := e4.step e4.size (Bls.ofBel hb' m3)
        have e6 := e1.bel h5 hb'
        have e7 := e2.bel h6 hb'
        go_wp2
        go_roundw
        case rel =>
          refine ⟨k, swN n rows S i, r12, r1, r2, r9, ?_, ?_, ?_, ?_, ?_, ?_, ?_, ?_, ?_, HR.out, ?_, ?_, ?_, e5⟩
          · rw [HN.out]
          · rw [HN.out]
          · rw [HN.out]
          · rw [HN.out]
          · have := HI.out; congr 1; omega
          · have := HSl.out; omega
          · rw [(swN_len n rows S i).1]; exact HSl.out.1
          · rw [(swN_len n rows S i).2.1]; exact HSl.out.2.1
          · rw [HN.out]; exact fsub_lt _ _
          · rw [HN.out]; exact e6
          · rw [HN.out]; exact e7
          · rw [HN.out]; exact hz'
        case measure =>
          obtain ⟨hI1, hI2⟩ := HI.out
          simp [intOf]
          omega
      · have HR := Lib.hid (HRt.out hr0)
        have HR0 := Lib.hid hr0
        by_cases hq : i + 1 = m
        · subst hq
          go_wp2_with (first | (refine wpList_flt rfl rfl rfl rfl rfl ?_; intro K hK _ _; go_frame; refine hK _ _ ?_; clear hK K))
          rename_i su nu
          obtain ⟨f1, f2, f3, hB, _⟩ := HF6.out
          have hdr : Below (w6.setCell ⟨be, i + 1, none⟩ (.float .f64 (raw rv sr2))).heap.size (w6.setCell ⟨be, i + 1, none⟩ (.float .f64 (raw rv sr2))) ((w6.setCell ⟨be, i + 1, none⟩ (.float .f64 (raw rv sr2))).drewN nu) := below_drewN nu (Below.refl _ _)
          have m1 : bd ∈ [bd, be, zb] := by simp
          have m2 : be ∈ [bd, be, zb] := by simp
          have g1 := (((f1.other h4 (i + 1) (.float .f64 (raw rv sr2))).below hdr).set (i + 1) (fsub dk S.p) su).other h4 (i + 1) (.float .f64 0)
          have g2 := (((f2.set (i + 1) rv sr2).below hdr).other (Ne.symm h4) (i + 1) (.float .f64 (raw (fsub dk S.p) su))).set (i + 1) 0 0
          rw [raw_of_not (show isnan 0 = false by kernel_rfl)] at g2
          have g3 := (((f3.other (Ne.symm h6) (i + 1) (.float .f64 (raw rv sr2))).below hdr).other (Ne.symm h5) (i + 1) (.float .f64 (raw (fsub dk S.p) su))).other (Ne.symm h6) (i + 1) (.float .f64 0)
          have hBs := hB.set m2 (i + 1) (.float .f64 (raw rv sr2))
          have g4 := ((hBs.step hBs.size (Bls.of hdr)).set m1 (i + 1) (.float .f64 (raw (fsub dk S.p) su))).set m2 (i + 1) (.float .f64 0)
          have HG4 := Lib.hid (show _ ∧ _ ∧ _ ∧ _ from ⟨g1, g2, g3, g4⟩)
          clear g1 g2 g3 g4 f1 f2 f3 hB hBs
          refine bodyPost_ret (results_none rfl _ _ _) rfl ⟨rfl, ?_⟩
          rw [HR.out]
          exact HG4.out
        · have hq' : ¬ m = i + 1 := fun h => hq h.symm
          go_wp2_with (first | (refine wpList_flt rfl rfl rfl rfl rfl ?_; intro K hK _ _; go_frame; refine hK _ _ ?_; clear hK K))
          rename_i su nu
          obtain ⟨f1, f2, f3, hB, _⟩ := HF6.out
          have hdr : Below (w6.setCell ⟨be, i + 1, none⟩ (.float .f64 (raw rv sr2))).heap.size (w6.setCell ⟨be, i + 1, none⟩ (.float .f64 (raw rv sr2))) ((w6.setCell ⟨be, i + 1, none⟩ (.float .f64 (raw rv sr2))).drewN nu) := below_drewN nu (Below.refl _ _)
          have m1 : bd ∈ [bd, be, zb] := by simp
          have m2 : be ∈ [bd, be, zb] := by simp
          have g1 := (((f1.other h4 (i + 1) (.float .f64 (raw rv sr2))).below hdr).set (i + 1) (fsub dk S.p) su).other h4 m (.float .f64 0)
          have g2 := (((f2.set (i + 1) rv sr2).below hdr).other (Ne.symm h4) (i + 1) (.float .f64 (raw (fsub dk S.p) su))).set m 0 0
          rw [raw_of_not (show isnan 0 = false by kernel_rfl)] at g2
          have g3 := (((f3.other (Ne.symm h6) (i + 1) (.float .f64 (raw rv sr2))).below hdr).other (Ne.symm h5) (i + 1) (.float .f64 (raw (fsub dk S.p) su))).other (Ne.symm h6) m (.float .f64 0)
          have hBs := hB.set m2 (i + 1) (.float .f64 (raw rv sr2))
          have g4 := ((hBs.step hBs.size (Bls.of hdr)).set m1 (i + 1) (.float .f64 (raw (fsub dk S.p) su))).set m2 m (.float .f64 0)
          have HG4 := Lib.hid (show _ ∧ _ ∧ _ ∧ _ from ⟨g1, g2, g3, g4⟩)
          clear g1 g2 g3 g4 f1 f2 f3 hB hBs
          refine bodyPost_ret (results_none rfl _ _ _) rfl ⟨rfl, ?_⟩
          rw [HR.out]
          exact HG4.out
end Go.Proofs.Ytbmnlohaidbmdaa
