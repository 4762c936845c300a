/- Package sturm: bounds. -/
import Derived.Test.YtogkmddhgfenkaaSt6
namespace Go.Proofs.Ytogkmddhgfenkaa
open Go Go.RowKit
set_option maxRecDepth 100000

def besR (es : List Nat) (k : Nat) : Nat := fadd (besA es ((k : Int) - 1)) (besA es k)
/-- The bounds after k rows. -/
def bndL (ds es : List Nat) : Nat → Nat × Nat
  | 0 => (0, 0)
  | k + 1 => (if k = 0 ∨ flt (fsub (ds.getD k 0) (besR es k)) (bndL ds es k).1 = true then fsub (ds.getD k 0) (besR es k) else (bndL ds es k).1,
      if k = 0 ∨ flt (bndL ds es k).2 (fadd (ds.getD k 0) (besR es k)) = true then fadd (ds.getD k 0) (besR es k) else (bndL ds es k).2)
/-- The error. -/
def bndE (ds es : List Nat) : Int := if askS ds es [] = 0 then (if ds.length = 0 then 2 else if fnS (bndL ds es ds.length).1 && fnS (bndL ds es ds.length).2 then 0 else 10) else askS ds es []

theorem fls_two (W : World) (T : TypeId) (x sx y sy : Nat) : Fls (W.alloc (.cells #[.float .f64 (raw x sx), .float .f64 (raw y sy)] T)) (some ⟨W.heap.size, 0, none⟩) [x, y] := fun _ => ⟨W.heap.size, 0, rfl, by simp, fun i v hi => by
  have hb : Box (W.alloc (.cells #[.float .f64 (raw x sx), .float .f64 (raw y sy)] T)) W.heap.size [.float .f64 (raw x sx), .float .f64 (raw y sy)] := Box.newA W [_, _] T rfl
  cases i with
  | zero => simp at hi; subst hi; exact ⟨sx, by rw [hb.cell]; rfl⟩
  | succ i =>
    cases i with
    | zero => simp at hi; subst hi; exact ⟨sy, by rw [hb.cell]; rfl⟩
    | succ i => simp at hi⟩

set_option maxHeartbeats 8000000 in
theorem Bounds_any (w : World) (da ea : Option Addr) (ds es : List Nat) (dc ec : Nat) (hD : Fls w da ds) (hE : Fls w ea es) (hW : Words es) (hl : ds.length ≤ 1000) (hl' : es.length ≤ 1000) :
    Calls Try.prog 35 #[.agg #[.slice da ds.length dc, .slice ea es.length ec]] w fun e w' => ∃ lo hi s1 s2, e = .returned (.tuple #[.float .f64 (raw lo s1), .float .f64 (raw hi s2), .int .i64 (bndE ds es)]) ∧ (bndE ds es = 0 → lo = (bndL ds es ds.length).1 ∧ hi = (bndL ds es ds.length).2) ∧ (bndE ds es ≠ 0 → lo = 0 ∧ hi = 0) ∧ Below w.heap.size w w' := by
  have hm : ds.length ≤ maxLen := by unfold maxLen; omega
  have hm' : es.length ≤ maxLen := by unfold maxLen; omega
  have x0 : Box (w.alloc (.cells #[.slice da ds.length dc, .slice ea es.length ec] 51)) w.heap.size [.slice da ds.length dc, .slice ea es.length ec] := Box.newA w [_, _] _ rfl
  have hB0 : Below w.heap.size w (w.alloc (.cells #[.slice da ds.length dc, .slice ea es.length ec] 51)) := (Below.refl _ _).alloc (Nat.le_refl _) _
  have HA := Lib.hid (fun (W : World) (hW : Below w.heap.size w W) => ask13_any W da ea none ds es [] dc ec 0 (hD.below hW) (hE.below hW) (fun h => absurd rfl h) hm hm' (by decide))
  have z1 : raw 0 0 = 0 := raw_of_not (by kernel_rfl) 0
  go_enter Try.func35, Try.ntmps35
  go_wp2_with fail
  refine (HA.out _ hB0).mono ?_
  rintro e w1 ⟨rfl, hb1⟩
  have x1 := x0.below hb1
  have hB1 := below_step hB0 hB0.size hb1
  clear x0 hB0 hb1 HA hm hm'
  by_cases hz : askS ds es [] = 0
  case neg =>
    have e0 : (askS ds es [] != 0) = true := by simp [hz]
    have hE0 : bndE ds es = askS ds es [] := by unfold bndE; rw [if_neg hz]
    have HE := Lib.hid hE0
    have HZ := Lib.hid hz
    clear hz hE0
    go_wp2
    refine bodyPost_ret (results_tmp3 rfl _ _ _) rfl ⟨0, 0, 0, 0, ?_, fun h => absurd (HE.out ▸ h) HZ.out, fun _ => ⟨rfl, rfl⟩, hB1⟩
    rw [HE.out, z1]; rfl
  case pos =>
    have HZ := Lib.hid hz
    rw [hz]
    clear hz
    obtain ⟨a1, a2, a3⟩ := x1.facts
    by_cases hn : ds.length = 0
    · have hE0 : bndE ds es = 2 := by unfold bndE; rw [if_pos HZ.out, if_pos hn]
      have HE := Lib.hid hE0
      have hn' : ((ds.length : Int) == 0) = true := by rw [beq_iff_eq]; omega
      clear hE0 hn
      go_wp2
      refine bodyPost_ret (results_tmp3 rfl _ _ _) rfl ⟨0, 0, 0, 0, ?_, fun h => absurd (HE.out ▸ h) (by decide), fun _ => ⟨rfl, rfl⟩, hB1⟩
      rw [HE.out, z1]; rfl
    · have hn' : ((ds.length : Int) == 0) = false := by rw [beq_eq_false_iff_ne]; omega
      have HN := Lib.hid hn
      clear hn
      go_wp2
      clear hn' a1 a2 a3
      have HB := Lib.hid (fun (i : Int) (W : World) (hW' : Below w1.heap.size w1 W) => beside_any W ea es ec w.heap.size ds.length dc da i ((hE.below hB1).below hW') hW (x1.below hW'))
      go_loopw [7, 8, 27] (fun s7 s8 s27 wr => ∃ k : Nat, k ≤ ds.length ∧ s27 = .int .i64 k ∧ IsF s7 (bndL ds es k).1 ∧ IsF s8 (bndL ds es k).2 ∧ Below w1.heap.size w1 wr) (fun _ _ s27 _ => ds.length - (intOf s27).toNat)
      case atStart => exact ⟨0, Nat.zero_le _, rfl, IsF.const (by kernel_rfl), IsF.const (by kernel_rfl), Below.refl _ _⟩
      case round =>
        obtain ⟨k, hk, rfl, ⟨sl, rfl⟩, ⟨sh, rfl⟩, hB⟩ := hrel
        by_cases hlt : k < ds.length
        · obtain ⟨db, do', sd, rfl, hdb, c1⟩ := ((hD.below hB1).below hB).at hlt
          have hw1 : wrap64 ((k : Int) - 1) = (k : Int) - 1 := by unfold wrap64; omega
          have e1 : (bndL ds es (k + 1)).1 = (if k = 0 ∨ flt (fsub (ds.getD k 0) (fadd (besA es ((k : Int) - 1)) (besA es k))) (bndL ds es k).1 = true then fsub (ds.getD k 0) (fadd (besA es ((k : Int) - 1)) (besA es k)) else (bndL ds es k).1) := rfl
          have e2 : (bndL ds es (k + 1)).2 = (if k = 0 ∨ flt (bndL ds es k).2 (fadd (ds.getD k 0) (fadd (besA es ((k : Int) - 1)) (besA es k))) = true then fadd (ds.getD k 0) (fadd (besA es ((k : Int) - 1)) (besA es k)) else (bndL ds es k).2) := rfl
          generalize ds.getD k 0 = d at *
          generalize (bndL ds es k).1 = lo at *
          generalize (bndL ds es k).2 = hi at *
          have hkb : k + 1 ≤ 1000 := by omega
          by_cases hk0 : k = 0
          · have t0 : ((k : Int) == 0) = true := by rw [beq_iff_eq]; omega
            rw [if_pos (.inl hk0)] at e1 e2
            clear hk0
            go_wp2_with (first | (go_at_call 74; refine (HB.out _ _ hB).mono ?_; rintro e w' ⟨⟨_, rfl⟩, rfl⟩) | (refine wpList_flt rfl rfl rfl rfl rfl ?_; intro K hK _ _; go_frame; refine hK _ _ ?_; clear hK K))
            go_roundw
            case rel => exact ⟨k + 1, by omega, by go_num, IsF.of (by first | (rw [e1]; done) | (rw [e1]; simp [go_sem])), IsF.of (by first | (rw [e2]; done) | (rw [e2]; simp [go_sem])), below_drewN _ hB⟩
            case measure => simp [intOf]; omega
          · have t0 : ((k : Int) == 0) = false := by rw [beq_eq_false_iff_ne]; omega
            cases hlo : flt (fsub d (fadd (besA es ((k : Int) - 1)) (besA es k))) lo
            · cases hhi : flt hi (fadd d (fadd (besA es ((k : Int) - 1)) (besA es k)))
              · rw [if_neg (by rintro (h | h); exact hk0 h; rw [hlo] at h; cases h)] at e1
                rw [if_neg (by rintro (h | h); exact hk0 h; rw [hhi] at h; cases h)] at e2
                go_wp2_with (first | (go_at_call 74; refine (HB.out _ _ hB).mono ?_; rintro e w' ⟨⟨_, rfl⟩, rfl⟩) | (refine wpList_flt rfl rfl rfl rfl rfl ?_; intro K hK _ _; go_frame; refine hK _ _ ?_; clear hK K))
                go_roundw
                case rel => exact ⟨k + 1, by omega, by go_num, IsF.of (by first | (rw [e1]; done) | (rw [e1]; simp [go_sem])), IsF.of (by first | (rw [e2]; done) | (rw [e2]; simp [go_sem])), below_drewN _ hB⟩
                case measure => simp [intOf]; omega
              · rw [if_neg (by rintro (h | h); exact hk0 h; rw [hlo] at h; cases h)] at e1
                rw [if_pos (by right; exact hhi)] at e2
                go_wp2_with (first | (go_at_call 74; refine (HB.out _ _ hB).mono ?_; rintro e w' ⟨⟨_, rfl⟩, rfl⟩) | (refine wpList_flt rfl rfl rfl rfl rfl ?_; intro K hK _ _; go_frame; refine hK _ _ ?_; clear hK K))
                go_roundw
                case rel => exact ⟨k + 1, by omega, by go_num, IsF.of (by first | (rw [e1]; done) | (rw [e1]; simp [go_sem])), IsF.of (by first | (rw [e2]; done) | (rw [e2]; simp [go_sem])), below_drewN _ hB⟩
                case measure => simp [intOf]; omega
            · cases hhi : flt hi (fadd d (fadd (besA es ((k : Int) - 1)) (besA es k)))
              · rw [if_pos (by right; exact hlo)] at e1
                rw [if_neg (by rintro (h | h); exact hk0 h; rw [hhi] at h; cases h)] at e2
                go_wp2_with (first | (go_at_call 74; refine (HB.out _ _ hB).mono ?_; rintro e w' ⟨⟨_, rfl⟩, rfl⟩) | (refine wpList_flt rfl rfl rfl rfl rfl ?_; intro K hK _ _; go_frame; refine hK _ _ ?_; clear hK K))
                go_roundw
                case rel => exact ⟨k + 1, by omega, by go_num, IsF.of (by first | (rw [e1]; done) | (rw [e1]; simp [go_sem])), IsF.of (by first | (rw [e2]; done) | (rw [e2]; simp [go_sem])), below_drewN _ hB⟩
                case measure => simp [intOf]; omega
              · rw [if_pos (by right; exact hlo)] at e1
                rw [if_pos (by right; exact hhi)] at e2
                go_wp2_with (first | (go_at_call 74; refine (HB.out _ _ hB).mono ?_; rintro e w' ⟨⟨_, rfl⟩, rfl⟩) | (refine wpList_flt rfl rfl rfl rfl rfl ?_; intro K hK _ _; go_frame; refine hK _ _ ?_; clear hK K))
                go_roundw
                case rel => exact ⟨k + 1, by omega, by go_num, IsF.of (by first | (rw [e1]; done) | (rw [e1]; simp [go_sem])), IsF.of (by first | (rw [e2]; done) | (rw [e2]; simp [go_sem])), below_drewN _ hB⟩
                case measure => simp [intOf]; omega
        · obtain rfl : k = ds.length := by omega
          have hA2 : Below wr.heap.size wr (wr.alloc (.cells #[.float .f64 (raw (bndL ds es ds.length).1 sl), .float .f64 (raw (bndL ds es ds.length).2 sh)] 35)) := (Below.refl _ _).alloc (Nat.le_refl _) _
          have HF := Lib.hid (fin_any (wr.alloc (.cells #[.float .f64 (raw (bndL ds es ds.length).1 sl), .float .f64 (raw (bndL ds es ds.length).2 sh)] 35)) (some ⟨wr.heap.size, 0, none⟩) [(bndL ds es ds.length).1, (bndL ds es ds.length).2] 2 (fls_two _ _ _ _ _ _) (by unfold maxLen; simp))
          have hB2 := below_step (below_step hB1 hB1.size hB) (below_step hB1 hB1.size hB).size hA2
          have HE : Hid (bndE ds es = if (fnS (bndL ds es ds.length).1 && fnS (bndL ds es ds.length).2) = true then 0 else 10) := by unfold Hid bndE; rw [if_pos HZ.out, if_neg HN.out]
          have ef : [(bndL ds es ds.length).1, (bndL ds es ds.length).2].all fnS = (fnS (bndL ds es ds.length).1 && fnS (bndL ds es ds.length).2) := by simp
          rw [ef] at HF
          clear ef hA2
          have HLo : Hid (∀ a b : Nat, True) := fun _ _ => trivial
          go_wp2_with fail
          refine HF.out.mono ?_
          rintro e w2 ⟨rfl, hb2⟩
          have hB3 := below_step hB2 hB2.size hb2
          cases hf : (fnS (bndL ds es ds.length).1 && fnS (bndL ds es ds.length).2)
          · rw [hf] at HE
            go_wp2
            refine bodyPost_ret (results_tmp3 rfl _ _ _) rfl ⟨0, 0, 0, 0, ?_, fun h => absurd (HE.out ▸ h) (by decide), fun _ => ⟨rfl, rfl⟩, hB3⟩
            rw [HE.out, z1]; rfl
          · rw [hf] at HE
            go_wp2
            refine bodyPost_ret (results_tmp3 rfl _ _ _) rfl ⟨(bndL ds es ds.length).1, (bndL ds es ds.length).2, sl, sh, ?_, fun _ => ⟨rfl, rfl⟩, fun h => absurd HE.out h, hB3⟩
            rw [HE.out]; rfl
end Go.Proofs.Ytogkmddhgfenkaa
