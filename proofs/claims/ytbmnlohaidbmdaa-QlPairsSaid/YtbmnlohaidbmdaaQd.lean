/- Layer 12: where a block ends. No condition but on lengths. -/
import Derived.Test.YtbmnlohaidbmdaaQc
import Derived.Test.YtbmnlohaidbmdaaNq3
import Derived.WalkMore
namespace Go.Proofs.Ytbmnlohaidbmdaa
open Go Go.RowKit
set_option maxRecDepth 100000

set_option maxHeartbeats 8000000 in
theorem end_any (w : World) (X bd be cd ce l : Nat) (v2 v3 v4 : Value) (d e : List Nat) (hX : Box w X [.slice (some ⟨bd, 0, none⟩) d.length cd, .slice (some ⟨be, 0, none⟩) e.length ce, v2, v3, v4]) (hd : Flb w bd d) (he : Flb w be e) (hwd : Words d) (hwe : Words e) (hle : e.length = d.length) (hl : l < d.length) (hn : d.length ≤ 1000) :
    Calls Try.prog 27 #[.pointer (some ⟨X, 0, none⟩), .int .i64 l] w fun r w' => r = .returned (.int .i64 (endL d e d.length l)) ∧ Below w.heap.size w w' := by
  obtain ⟨R, hR⟩ : ∃ R, R = endL d e d.length l := ⟨_, rfl⟩
  rw [← hR]
  go_enter Try.func27, Try.ntmps27
  go_wp2_with fail
  go_step3
  go_wp2_with fail
  go_step3
  go_wp2_with fail
  have HLE := Lib.hid hle
  have HR0 := Lib.hid hR
  clear hle hR
  go_loopw [5] (fun s5 wr => ∃ m : Nat, m < d.length ∧ s5 = .int .i64 m ∧ R = endL d e d.length m ∧ Below w.heap.size w wr) (fun s5 _ => d.length - (intOf s5).toNat)
  case atStart => exact ⟨l, hl, rfl, HR0.out, Below.refl _ _⟩
  case round =>
    obtain ⟨m, hm, rfl, hR, hB⟩ := hrel
    have hXr := hX.below hB
    obtain ⟨a1, a2, a3⟩ := hXr.facts
    rw [endL_step] at hR
    by_cases hlt : m + 1 < d.length
    · rw [if_pos hlt] at hR
      have hdr := hd.below hB
      have her := he.below hB
      obtain ⟨s1, c1⟩ := hdr.at (i := m) (by omega)
      obtain ⟨s2, c2⟩ := hdr.at (i := m + 1) hlt
      obtain ⟨s3, c3⟩ := her.at (i := m) (by rw [HLE.out]; omega)
      obtain ⟨t1, ht1⟩ := fabs_raw (d.getD m 0) s1
      obtain ⟨t2, ht2⟩ := fabs_raw (d.getD (m + 1) 0) s2
      obtain ⟨t3, ht3⟩ := fabs_raw (e.getD m 0) s3
      have HA1 := Lib.hid (fun W => ht1 ▸ Abs_any (raw (d.getD m 0) s1) (raw_lt (hwd.at m) s1) W)
      have HA2 := Lib.hid (fun W => ht2 ▸ Abs_any (raw (d.getD (m + 1) 0) s2) (raw_lt (hwd.at (m + 1)) s2) W)
      have HA3 := Lib.hid (fun W => ht3 ▸ Abs_any (raw (e.getD m 0) s3) (raw_lt (hwe.at m) s3) W)
      clear ht1 ht2 ht3
      have hem : m < e.length := by rw [HLE.out]; omega
      have hbd := hdr.lt
      have hbe := her.lt
      have HR1 := Lib.hid hR
      have hE : endB d e m = feq (fadd (fabs (e.getD m 0)) (fadd (fabs (d.getD m 0)) (fabs (d.getD (m + 1) 0)))) (fadd (fabs (d.getD m 0)) (fabs (d.getD (m + 1) 0))) := rfl
      have HE := Lib.hid hE
      clear hR hE hdr
      generalize raw (d.getD m 0) s1 = x1 at *
      generalize raw (d.getD (m + 1) 0) s2 = x2 at *
      generalize raw (e.getD m 0) s3 = x3 at *
      generalize fabs (d.getD m 0) = y1 at *
      generalize fabs (d.getD (m + 1) 0) = y2 at *
      generalize fabs (e.getD m 0) = y3 at *
      go_wp2_with fail
      refine wp_region_nqd 19  (by kernel_rfl) (by kernel_rfl) ?_
      intro Cw Rw hc hb' hb2 hd hRw
      simp only [List.take_succ_cons, List.take_zero]
      iterate 8 (
        first
          | (refine nqW_skip rfl (fun K hK => ?_); go_frame; refine hK _ ?_; clear hK K)
          | ((first | (refine nqW_plain (fun K hK => ?_)) | (refine nqW_want rfl (fun K hK => ?_)) | (refine nqW_step (fun K hK => ?_); go_simp))
             first
               | (refine nq_move rfl ?_; go_simp; refine hK _ ?_; clear hK K)
               | (refine nq_assign rfl ?_; go_simp; refine hK _ ?_; clear hK K)
               | (refine nq_flt rfl rfl rfl rfl hd ?_; intro _; go_frame; refine hK _ ?_; clear hK K)
               | (refine nq_inC rfl ?_; intro w' hw'; go_simp; refine fd_both (V := (.float .f64 (raw y1 t1))) (by kernel_rfl) (fun w2 hw2 => ?_) ?_; (next => (go_at_call 37; exact (((HA1.out w2).mono fun r w' (⟨h1, h2⟩ : r = Ending.returned (.float .f64 (raw y1 t1)) ∧ w2 = w') => (⟨h1, h2 ▸ Below.refl _ _⟩ : r = Ending.returned (.float .f64 (raw y1 t1)) ∧ Below w2.heap.size w2 w'))).mono (fun e w3 ⟨he, hb⟩ => ⟨he, hb2 _ _ hw2 hb⟩))); (try go_simp); refine hK _ ?_; clear hK K hw' w')
               | (refine nq_same ?_; intro w' hw'; go_simp; (try go_bits); refine hK _ ?_; clear hK K hw' w')
               | (refine nq_same ?_; intro w' hw'; go_simp; rw [if_pos (by omega)]; go_simp; (try go_bits); refine hK _ ?_; clear hK K hw' w')
               | (go_simp; refine hK _ ?_; clear hK K)))
      iterate 11 (
        first
          | (refine nqW_skip rfl (fun K hK => ?_); go_frame; refine hK _ ?_; clear hK K)
          | ((first | (refine nqW_plain (fun K hK => ?_)) | (refine nqW_want rfl (fun K hK => ?_)) | (refine nqW_step (fun K hK => ?_); go_simp))
             first
               | (refine nq_move rfl ?_; go_simp; refine hK _ ?_; clear hK K)
               | (refine nq_assign rfl ?_; go_simp; refine hK _ ?_; clear hK K)
               | (refine nq_flt rfl rfl rfl rfl hd ?_; intro _; go_frame; refine hK _ ?_; clear hK K)
               | (refine nq_inC rfl ?_; intro w' hw'; go_simp; refine fd_both (V := (.float .f64 (raw y2 t2))) (by kernel_rfl) (fun w2 hw2 => ?_) ?_; (next => (go_at_call 37; exact (((HA2.out w2).mono fun r w' (⟨h1, h2⟩ : r = Ending.returned (.float .f64 (raw y2 t2)) ∧ w2 = w') => (⟨h1, h2 ▸ Below.refl _ _⟩ : r = Ending.returned (.float .f64 (raw y2 t2)) ∧ Below w2.heap.size w2 w'))).mono (fun e w3 ⟨he, hb⟩ => ⟨he, hb2 _ _ hw2 hb⟩))); (try go_simp); refine hK _ ?_; clear hK K hw' w')
               | (refine nq_same ?_; intro w' hw'; go_simp; (try go_bits); refine hK _ ?_; clear hK K hw' w')
               | (refine nq_same ?_; intro w' hw'; go_simp; rw [if_pos (by omega)]; go_simp; (try go_bits); refine hK _ ?_; clear hK K hw' w')
               | (go_simp; refine hK _ ?_; clear hK K)))
      refine nqW_nil (hRw _ ?_)
      clear hc hb' hb2 hd hRw
      intro w' hw'
      simp only [List.drop]
      have hBw := below_step hB hB.size hw'
      have hXw := hXr.below hw'
      have c3w : w'.cell? ⟨be, m, none⟩ = some (.float .f64 x3) := ((below_cells hw').1 _ m hbe).trans c3
      clear hB hXr c1 c2 c3 a1 a2 a3 hw' hbd hbe her
      obtain ⟨a1, a2, a3⟩ := hXw.facts
      generalize w' = w1 at *
      cases hb : endB d e m
      · have hE2 := HE.out
        rw [hb] at hE2
        have hE3 := hE2.symm
        have hR2 := HR1.out
        rw [hb, if_neg (by decide)] at hR2
        have HR2 := Lib.hid hR2
        clear hE2 hR2 hb
        go_wp2_with fail
        refine (HA3.out _).mono ?_
        rintro r w' ⟨rfl, rfl⟩
        go_wp2_with (first | (refine wpList_flt rfl rfl rfl rfl rfl ?_; intro K hK _ _; go_frame; refine hK _ _ ?_; clear hK K))
        go_roundw
        case rel => exact ⟨m + 1, hlt, by go_num, HR2.out, below_drewN _ hBw⟩
        case measure => simp [intOf]; omega
      · have hE2 := HE.out
        rw [hb] at hE2
        have hE3 := hE2.symm
        have hR2 := HR1.out
        rw [hb, if_pos rfl] at hR2
        have HR2 := Lib.hid hR2
        clear hE2 hR2 hb
        go_wp2_with fail
        refine (HA3.out _).mono ?_
        rintro r w' ⟨rfl, rfl⟩
        go_wp2_with (first | (refine wpList_flt rfl rfl rfl rfl rfl ?_; intro K hK _ _; go_frame; refine hK _ _ ?_; clear hK K))
        refine noGoto_ret ?_
        go_ret
        exact ⟨by rw [HR2.out]; rfl, below_drewN _ hBw⟩
    · rw [if_neg hlt] at hR
      have HR2 := Lib.hid hR
      clear hR
      have i1 : decide ((m : Int) < (d.length : Int) - 1) = false := decide_eq_false (by omega)
      go_wp2
      refine noGoto_ret ?_
      go_ret
      exact ⟨by rw [HR2.out]; rfl, hB⟩
end Go.Proofs.Ytbmnlohaidbmdaa
