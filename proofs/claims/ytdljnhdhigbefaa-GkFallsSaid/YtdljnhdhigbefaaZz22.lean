/- 'GkFalls': the law's call (printed by gen_dr.py). No condition but on lengths. -/
import Derived.Test.YtdljnhdhigbefaaDqZ
import Derived.Test.YtdljnhdhigbefaaZz2
import Derived.Deep.Slices
import Derived.Laws.Cover2
import Derived.Lib.SmallJoins
import Derived.ProofKit
namespace Go.Proofs.Ytdljnhdhigbefaa
open Go Go.RowKit
set_option maxRecDepth 1000000

set_option maxHeartbeats 32000000 in
theorem gkFalls_any (w : World) (da ea : Option Addr) (d e : List Nat) (dc ec : Nat) (hd : Fls w da d) (he : Fls w ea e) (hda : da = none → d = [] ∧ dc = 0) (hea : ea = none → e = [] ∧ ec = 0) (hWd : Words d) (hWe : Words e) (hld : d.length ≤ maxLen) (hle : e.length ≤ maxLen) :
    Calls Try.prog 4 #[.agg #[.slice da d.length dc, .slice ea e.length ec]] w fun x w' => x = .returned (.bool true) ∧ Below w.heap.size w w' := by
  have HF := Lib.hid (fun W => few17_any W da ea none none d.length e.length 0 0 dc ec 0 0 0 0 0 0 hld hle (Nat.zero_le _) (Nat.zero_le _))
  have HS := Lib.hid (fun W (h : Below w.heap.size w W) => gs_any W da ea none none d e [] [] dc ec 0 0 0 d.length 0 d.length (hd.below h) (he.below h) (FlsU.none0 _ _) (FlsU.none0 _ _) (fun k => (hda k).1) hea (fun _ => rfl) (fun _ => rfl) hWd hWe (fun _ h => by cases h) (fun _ h => by cases h) hld hle (Nat.zero_le _) (Nat.zero_le _))
  have HS2 := Lib.hid (fun W (h : Below w.heap.size w W) a1 a2 c1 c2 (hn : d.length ≤ 512) (g1 : Fls W a1 (oneL d.length d.length)) (g2 : Fls W a2 (oneL d.length d.length)) (n1 : a1 ≠ none) (n2 : a2 ≠ none) => gs_any W da ea a1 a2 d e (oneL d.length d.length) (oneL d.length d.length) dc ec c1 c2 d.length d.length d.length d.length (hd.below h) (he.below h) g1 g2 (fun k => (hda k).1) hea (fun k => absurd k n1) (fun k => absurd k n2) hWd hWe (oneL_words _) (oneL_words _) hld hle (by rw [oneL_len]; exact Nat.le_trans (Nat.mul_le_mul hn hn) (by decide)) (by rw [oneL_len]; exact Nat.le_trans (Nat.mul_le_mul hn hn) (by decide)))
  have HM := Lib.hid (fun W => GMay_any W da ea d.length e.length dc ec hld hle)
  have HM2 := Lib.hid (fun W => RMay17 W da ea d.length e.length dc ec hld hle)
  have x0 : Box (w.alloc (.cells #[.slice da d.length dc, .slice ea e.length ec] 24)) w.heap.size [.slice da d.length dc, .slice ea e.length ec] := Box.newA w [.slice da d.length dc, .slice ea e.length ec] _ rfl
  have hB0 : Below w.heap.size w (w.alloc (.cells #[.slice da d.length dc, .slice ea e.length ec] 24)) := (Below.refl _ _).alloc (Nat.le_refl _) _
  obtain ⟨W0, hW0⟩ : ∃ W0, W0 = w.alloc (.cells #[.slice da d.length dc, .slice ea e.length ec] 24) := ⟨_, rfl⟩
  rw [← hW0] at x0 hB0
  have X0 := Lib.hid x0
  have HB := Lib.hid hB0
  clear x0 hB0 hd he hda hea hWd hWe
  cases hfew : (decide (d.length ≤ 20) && decide (e.length ≤ 20) && decide (0 ≤ 200) && decide (0 ≤ 200))
  case false =>
    rw [hfew] at HF
    clear HS HS2 HM HM2 hfew
    go_enter Try.func4, Try.ntmps4
    go_upto_region 1 with (fail)
    rw [← hW0]
    clear hW0
    obtain ⟨f01, f02, f03⟩ := X0.out.facts
    go_wp2_with fail
    refine (HF.out _).mono ?_
    rintro e_ w1_ ⟨rfl, hb⟩
    clear f01 f02 f03
    replace X0 := Lib.hid (X0.out.below hb)
    replace HB := Lib.hid (below_step HB.out HB.out.size hb)
    clear hb
    go_wp2_with fail
    refine (known17_any _).mono ?_
    rintro e_ wz_ ⟨rfl, hb⟩
    replace HB := Lib.hid (below_step HB.out HB.out.size hb)
    clear hb
    dsimp only
    go_wp2_with fail
    go_ret
    exact ⟨rfl, HB.out⟩
  case true =>
    rw [hfew] at HF
    have hnn : d.length ≤ 20 ∧ e.length ≤ 20 := by simpa using hfew
    obtain ⟨hn1, hn2⟩ := hnn
    clear hfew hld hle
    go_enter Try.func4, Try.ntmps4
    go_upto_region 1 with (fail)
    rw [← hW0]
    clear hW0
    obtain ⟨f01, f02, f03⟩ := X0.out.facts
    go_wp2_with fail
    refine (HF.out _).mono ?_
    rintro e_ w1_ ⟨rfl, hb⟩
    clear f01 f02 f03
    replace X0 := Lib.hid (X0.out.below hb)
    replace HB := Lib.hid (below_step HB.out HB.out.size hb)
    clear hb HF
    dsimp only
    obtain ⟨f01, f02, f03⟩ := X0.out.facts
    go_upto_region 5 with (fail)
    clear f01 f02 f03
    obtain ⟨w2_, hw_⟩ : ∃ x, x = w1_.alloc (.cells #[.int .i64 0, .int .i64 d.length, .slice none 0 0] 26) := ⟨_, rfl⟩
    rw [← hw_]
    have hb : Below w1_.heap.size w1_ w2_ := hw_ ▸ (Below.refl _ _).alloc (Nat.le_refl _) _
    have X4 := Lib.hid (show Box w2_ w1_.heap.size [.int .i64 0, .int .i64 d.length, .slice none 0 0] from hw_ ▸ Box.newA w1_ [.int .i64 0, .int .i64 d.length, .slice none 0 0] _ rfl)
    replace X0 := Lib.hid (X0.out.below hb)
    replace HB := Lib.hid (below_step HB.out HB.out.size hb)
    clear hb hw_
    obtain ⟨f01, f02, f03⟩ := X0.out.facts
    obtain ⟨f11, f12, f13⟩ := X4.out.facts
    go_wp2_with fail
    refine (HS.out _ HB.out).mono ?_
    rintro e_ w3_ ⟨⟨a4, a5, a6, n4, c4, l5, c5, l6, c6, r5, k5, r6, k6, m4, code⟩, rfl, hSG, hb⟩
    clear f01 f02 f03 f11 f12 f13
    replace X0 := Lib.hid (X0.out.below hb)
    replace HB := Lib.hid (below_step HB.out HB.out.size hb)
    have SG := Lib.hid hSG
    clear hb hSG HS X4
    dsimp only [GR.val]
    go_upto_region 6 with (fail)
    obtain ⟨w4_, hw_⟩ : ∃ x, x = (w3_.alloc (.cells #[.int .i64 r5, .int .i64 k5, .slice a5 l5 c5] 26)).alloc (.cells #[.int .i64 r6, .int .i64 k6, .slice a6 l6 c6] 26) := ⟨_, rfl⟩
    rw [← hw_]
    have hb : Below w3_.heap.size w3_ w4_ := hw_ ▸ ((Below.refl _ _).alloc (Nat.le_refl _) _).alloc (by simp) _
    replace X0 := Lib.hid (X0.out.below hb)
    replace SG := Lib.hid (SG.out.below hb)
    replace HB := Lib.hid (below_step HB.out HB.out.size hb)
    clear hb hw_
    have hb := below_drewN 1 (Below.refl w4_.heap.size w4_)
    have X9 := Lib.hid (X0.out.below hb)
    have HB9 := Lib.hid (show Below w.heap.size w w4_.drew from below_step HB.out HB.out.size hb)
    have SG9 := Lib.hid (show SG17 d e [] [] 0 d.length 0 d.length w4_.drew _ from SG.out.below hb)
    clear hb X0 HB SG
    refine wp_region_items 3 [(true, 0), (true, 2), (false, 1)] (fun W => ∀ i, W.cell? ⟨w.heap.size, i, none⟩ = ([.slice da d.length dc, .slice ea e.length ec] : List Value)[i]?) (by kernel_rfl) (by kernel_rfl) X9.out.cell ?_
    have X0 := Lib.hid (show Box w4_.drew w.heap.size [.slice da d.length dc, .slice ea e.length ec] from X9.out)
    have HB := HB9
    have SG := SG9
    clear X9 HB9 SG9
    generalize w4_.drew = y0 at *
    iterate 2 (refine iW_take (v := ?_) rfl rfl ?_ ?_; rotate_left; (next => (intro w' hSw; (try dsimp only at hSw); go_simp; (try (rw [if_pos (by omega)]; go_simp)); (try with_reducible rfl))); (simp only [Act.put, List.setIfInBounds_toArray, List.set_cons_zero, List.set_cons_succ]))
    refine iW_mid rfl rfl ?_
    go_simp
    refine (HM.out _).mono ?_
    rintro e_ w5_ ⟨rfl, hb⟩
    replace X0 := Lib.hid (X0.out.below hb)
    replace SG := Lib.hid (SG.out.below hb)
    replace HB := Lib.hid (below_step HB.out HB.out.size hb)
    clear hb
    refine ⟨X0.out.cell, ?_⟩
    refine iW_nil ?_
    go_simp
    go_wp2_with fail
    refine (HM2.out _).mono ?_
    rintro e_ w6_ ⟨rfl, hb⟩
    replace X0 := Lib.hid (X0.out.below hb)
    replace SG := Lib.hid (SG.out.below hb)
    replace HB := Lib.hid (below_step HB.out HB.out.size hb)
    clear hb
    dsimp only
    have tb : (mayT d.length e.length != mayT d.length e.length) = false := bne_self_eq_false _
    cases ht : mayT d.length e.length
    case false =>
      have hcode : code = 2 := by
        rcases SG.out with ⟨h0, h1⟩ | ⟨h0, _⟩
        · exact h1.2.2.2.2.2.2.2.2.trans (may_code ht)
        · exact absurd h0 (by rw [may_code ht]; decide)
      subst hcode
      rw [ht] at HM2
      clear SG tb ht
      go_wp2_with fail
      refine NoPanic.normal ?_
      obtain ⟨f01, f02, f03⟩ := X0.out.facts
      go_wp2_with fail
      refine (HM2.out _).mono ?_
      rintro e_ w7_ ⟨rfl, hb⟩
      clear f01 f02 f03
      replace X0 := Lib.hid (X0.out.below hb)
      replace HB := Lib.hid (below_step HB.out HB.out.size hb)
      clear hb
      dsimp only
      go_wp2_with fail
      refine (known17_any _).mono ?_
      rintro e_ wz_ ⟨rfl, hb⟩
      replace HB := Lib.hid (below_step HB.out HB.out.size hb)
      clear hb
      dsimp only
      go_wp2_with fail
      go_ret
      exact ⟨rfl, HB.out⟩
    case true =>
      rw [ht] at HM2
      clear tb ht
      go_wp2_with fail
      refine NoPanic.normal ?_
      obtain ⟨f01, f02, f03⟩ := X0.out.facts
      go_wp2_with fail
      refine (HM2.out _).mono ?_
      rintro e_ w7_ ⟨rfl, hb⟩
      clear f01 f02 f03
      replace X0 := Lib.hid (X0.out.below hb)
      replace SG := Lib.hid (SG.out.below hb)
      replace HB := Lib.hid (below_step HB.out HB.out.size hb)
      clear hb HM HM2
      dsimp only
      go_upto_region 10 with (fail)
      refine region10_q _ _ _ _ _ _ _ _ _ _ _ _ _ _ _ _ _ _ _ _ _ _ _ _ _ _ _ _ _ _ _ _ _ _ _ _ _ _ _ _ _ _ _ _ _ _ _ _ _ _ _ _ _ _ _ _ _ _ _ _ _ _ _ _ _ _ _ _ _ _ _ _ _ _ _ _ _ _ _ _ _ _ _ _ _ _ _ _ _ _ _ _ _ _ _ _ _ _ _ _ _ _ _ _ _ _ _ _ da ea d e dc ec w.heap.size _ X0.out (by omega) (fun W a1 a2 c1 c2 h g1 g2 k1 k2 => by have := HS2.out W (below_step HB.out HB.out.size h) a1 a2 c1 c2 (by omega) g1 g2 k1 k2; rw [oneL_len] at this; exact this) _ ?_
      intro u10 u11 u12 u13 u14 u50 u51 u52 u53 u54 u55 u56 u57 u58 u59 u60 u61 w8_ hcut
      obtain ⟨⟨a7, a8, a9, n7, c7, l8, c8, l9, c9, r8, k8, r9, k9, m7, code7⟩, rfl, rfl, rfl, hs2, hb⟩ := hcut
      obtain ⟨g1, g2, ⟨k, g3, g4⟩, g5, l, g6, g7, g8, g9, g10⟩ := falls_pair (by omega) (SG.out.below hb) hs2
      dsimp only at g1 g2 g3 g5 g6 g8 g9 ⊢
      replace X0 := Lib.hid (X0.out.below hb)
      replace HB := Lib.hid (below_step HB.out HB.out.size hb)
      subst g1 g2 g3 g5 g6
      have FA := Lib.hid g8
      have FB := Lib.hid g9
      have HV := Lib.hid g10
      have HL := Lib.hid (show l.length ≤ 20 ∧ k ≤ 30 * d.length from ⟨by omega, g4⟩)
      clear g8 g9 g10 hs2 hb SG HS2 g7 g4
      have t1 : (code != code) = false := bne_self_eq_false _
      have t2 : ((k : Int) != (k : Int)) = false := bne_self_eq_false _
      have t3 : decide ((30 : Int) * (d.length : Int) < (k : Int)) = false := decide_eq_false (by have := HL.out.2; omega)
      have t4 : wrap64 ((30 : Int) * (d.length : Int)) = 30 * (d.length : Int) := by unfold wrap64; omega
      have t5 : IntKind.i64.wrap ((30 : Int) * (d.length : Int)) = 30 * (d.length : Int) := by rw [IntKind.wrap_i64]; omega
      have t6 : ¬ ((30 : Int) * (d.length : Int) < (k : Int)) := of_decide_eq_false t3
      go_wp2_with fail
      refine (SameAllF _ a4 a7 l c4 c7 FA.out FB.out (by have := HL.out.1; omega)).mono ?_
      rintro e_ w8_ ⟨rfl, hb⟩
      replace X0 := Lib.hid (X0.out.below hb)
      replace FA := Lib.hid (FA.out.below hb)
      replace HB := Lib.hid (below_step HB.out HB.out.size hb)
      clear hb FB t1 t2 t3 t4 t5 t6
      dsimp only
      have hl9 := HL.out.1
      go_wp2_with fail
      go_loopw [15] (fun s15 wr => ∃ i : Nat, s15 = .int .i64 i ∧ i ≤ l.length ∧ Fls wr a4 l ∧ Below w.heap.size w wr) (fun s15 _ => l.length - (intOf s15).toNat)
      case atStart => exact ⟨0, rfl, Nat.zero_le _, FA.out, HB.out⟩
      case round =>
        obtain ⟨i, rfl, hi, hF, hBw⟩ := hrel
        replace FA := Lib.hid hF
        replace HB := Lib.hid hBw
        have HI := Lib.hid hi
        clear hF hBw hi X0
        by_cases hlt : i < l.length
        case pos =>
          obtain ⟨bb, off, e2, hlb, hc⟩ := FA.out (by intro h; rw [h] at hlt; simp at hlt)
          subst e2
          obtain ⟨x, hx⟩ : ∃ x, x = l.getD i 0 := ⟨_, rfl⟩
          obtain ⟨sx, cx⟩ := hc i x (by rw [hx, List.getD_eq_getElem?_getD, List.getElem?_eq_getElem hlt]; rfl)
          have hx0 : flt x 0 = false := hx ▸ (HV.out i hlt).1
          by_cases hi0 : i = 0
          case pos =>
            subst hi0
            rw [Nat.add_zero] at cx
            clear hc hx
            go_wp2_with fail
            refine wp_region_nqb 20 (fun _ _ _ => False) (by kernel_rfl) (by kernel_rfl) ?_
            intro C R hc hb' hb2 hd hR
            simp only [List.take_succ_cons, List.take_zero]
            repeat (
              first
                | (refine nqW_plain (fun K hK => ?_))
                | (refine nqW_step (fun K hK => ?_); go_simp)
              first
                | (refine nq_move rfl ?_; go_simp; refine hK _ ?_; clear hK K)
                | (refine nq_assign rfl ?_; go_simp; refine hK _ ?_; clear hK K)
                | (refine nq_flt rfl rfl rfl rfl hd ?_; intro _; go_frame; refine hK _ ?_; clear hK K)
                | (refine nq_same ?_; intro w' hw'; go_simp; (try go_bits); refine hK _ ?_; clear hK K hw' w')
                | (refine nq_same ?_; intro w' hw'; go_simp; rw [if_pos (by omega)]; go_simp; (try go_bits); refine hK _ ?_; clear hK K hw' w')
                | (go_simp; refine hK _ ?_; clear hK K))
            refine nqW_nil (hR _ ?_)
            clear hc hb' hb2 hd hR
            intro w' hw'
            simp only [List.drop]
            replace FA := Lib.hid (FA.out.below hw')
            replace HB := Lib.hid (below_step HB.out HB.out.size hw')
            clear hw' cx hlb
            go_wp2_with fail
            go_roundw
            case rel => exact ⟨1, rfl, hlt, FA.out, HB.out⟩
            case measure => simp [intOf]; omega
          case neg =>
            obtain ⟨j, hj⟩ : ∃ j, i = j + 1 := ⟨i - 1, by omega⟩
            have hj1 := (w64s hj (by omega)).1
            have hj2 := (w64s hj (by omega)).2
            have hjl : j < l.length := by omega
            have hi1 : 0 < i := by omega
            obtain ⟨y, hy⟩ : ∃ y, y = l.getD j 0 := ⟨_, rfl⟩
            obtain ⟨sy, cy⟩ := hc j y (by rw [hy, List.getD_eq_getElem?_getD, List.getElem?_eq_getElem hjl]; rfl)
            have hyx : flt y x = false := by have := (HV.out i hlt).2 hi1; rw [show i - 1 = j by omega, ← hy, ← hx] at this; exact this
            clear hc hx hy hi0 hj
            go_wp2_with fail
            refine wp_region_nqb 20 (fun _ _ _ => False) (by kernel_rfl) (by kernel_rfl) ?_
            intro C R hc hb' hb2 hd hR
            simp only [List.take_succ_cons, List.take_zero]
            repeat (
              first
                | (refine nqW_plain (fun K hK => ?_))
                | (refine nqW_step (fun K hK => ?_); go_simp)
              first
                | (refine nq_move rfl ?_; go_simp; refine hK _ ?_; clear hK K)
                | (refine nq_assign rfl ?_; go_simp; refine hK _ ?_; clear hK K)
                | (refine nq_flt rfl rfl rfl rfl hd ?_; intro _; go_frame; refine hK _ ?_; clear hK K)
                | (refine nq_same ?_; intro w' hw'; go_simp; (try go_bits); refine hK _ ?_; clear hK K hw' w')
                | (refine nq_same ?_; intro w' hw'; go_simp; rw [if_pos (by omega)]; go_simp; (try go_bits); refine hK _ ?_; clear hK K hw' w')
                | (go_simp; refine hK _ ?_; clear hK K))
            refine nqW_nil (hR _ ?_)
            clear hc hb' hb2 hd hR
            intro w' hw'
            simp only [List.drop]
            replace FA := Lib.hid (FA.out.below hw')
            replace HB := Lib.hid (below_step HB.out HB.out.size hw')
            clear hw' cx cy hlb hj1 hj2
            go_wp2_with fail
            go_roundw
            case rel => exact ⟨i + 1, by go_num, hlt, FA.out, HB.out⟩
            case measure => simp [intOf]; omega
        case neg =>
          go_wp2_with fail
          refine (known17_any _).mono ?_
          rintro e_ wz_ ⟨rfl, hb⟩
          replace HB := Lib.hid (below_step HB.out HB.out.size hb)
          clear hb
          dsimp only
          go_wp2_with fail
          go_ret
          exact ⟨rfl, HB.out⟩
end Go.Proofs.Ytdljnhdhigbefaa

/- Arguments opened: slices of floats; a way up for results. No condition. -/
namespace Go.Proofs.Ytdljnhdhigbefaa
open Go Go.RowKit Go.ChangeShapes Go.WideShapes Go.Deep

section
variable {H : Type} {enc : TypeId × Value → H} {P : Program} {w : World} {base : Nat} {spare : Nat → Bool} {held : Bool}

theorem trod_f64 {fuel : Nat} {t : TypeId} {cs : List Value} {x : DataW H × List MemPlace} (ht : P.underlying t = some (.float .f64)) (h : DataW.trod enc P w base spare held fuel t cs = some x) : ∃ n, cs = [.float .f64 n] ∧ x = (.lit (.float .f64 n), []) ∧ n < 18446744073709551616 := by
  cases fuel with
  | zero => simp [DataW.trod] at h
  | succ n =>
    unfold DataW.trod at h
    rw [ht] at h
    split at h <;> simp_all
    rename_i k k' b hk
    subst hk
    obtain ⟨⟨rfl, hw⟩, rfl⟩ := h
    simp [Lit.wf] at hw
    exact hw

/-- A slice of floats: where it lies, its floats. -/
theorem open_fls {t e : TypeId} {fuel : Nat} {v : Value} {x : DataW H × List MemPlace} (ht : P.underlying t = some (.slice e)) (he : P.underlying e = some (.float .f64)) (hc : P.cellsOf e = 1) (h : DataW.trod enc P w base spare held fuel t [v] = some x) :
    ∃ (a : Option Addr) (zs : List Nat) (cap : Nat), v = .slice a zs.length cap ∧ Fls w a zs ∧ Words zs ∧ zs.length ≤ maxLen := by
  rcases open_slice1 ht hc h with ⟨h1, h2⟩ | ⟨a, len, cap, m, n, V, D, Pl, h1, hb, hl, hm, hmm, h2, hx⟩
  · simp only [List.cons.injEq, and_true] at h1
    subst h1
    exact ⟨none, [], 0, rfl, fun hz => absurd rfl hz, fun v hv => (by cases hv), Nat.zero_le _⟩
  · simp only [List.cons.injEq, and_true] at h1
    subst h1
    have hlm : len ≤ m := by rw [hmm]; split <;> omega
    obtain ⟨F, hF⟩ := choose_lt (α := Nat) (p := fun i x => w.cell? (a.add i) = some (.float .f64 x) ∧ x < 18446744073709551616) (n := len) (fun i hi => by
      obtain ⟨c, ht2⟩ := hx i (by omega)
      obtain ⟨x, hx1, _, hx2⟩ := trod_f64 he ht2
      simp only [List.cons.injEq, and_true] at hx1
      exact ⟨x, by rw [c, hx1], hx2⟩)
    refine ⟨some a, (List.range len).map F, cap, by simp, ?_, ?_, by simp; omega⟩
    · intro hz
      have hlen : 0 < len := by
        cases len with
        | zero => exact absurd rfl hz
        | succ n => omega
      have h0 := (hF 0 hlen).1
      obtain ⟨b, off, spot⟩ := a
      have hsp : spot = none ∧ b < w.heap.size := by
        unfold Addr.add World.cell? at h0
        simp only [if_true] at h0
        cases hh : w.heap[b]? with
        | none => rw [hh] at h0; cases h0
        | some o =>
          rw [hh] at h0
          refine ⟨?_, (Array.getElem?_eq_some_iff.1 hh).1⟩
          cases o with
          | cells c T r => simp only [] at h0; cases spot with
            | none => rfl
            | some s => simp at h0
          | _ => simp at h0
      obtain ⟨rfl, hbl⟩ := hsp
      refine ⟨b, off, rfl, hbl, fun i v hv => ?_⟩
      simp only [List.getElem?_map, Option.map_eq_some_iff] at hv
      obtain ⟨j, hj, rfl⟩ := hv
      have hi : i < len := by
        by_cases hi : i < len
        · exact hi
        · rw [List.getElem?_eq_none (by simp; omega)] at hj; cases hj
      rw [List.getElem?_range hi] at hj
      cases hj
      have := (hF i hi).1
      have ha : (Addr.add ⟨b, off, none⟩ i) = ⟨b, off + i, none⟩ := by
        unfold Addr.add
        split
        · subst_vars; rfl
        · rfl
      rw [ha] at this
      obtain ⟨s, hs⟩ := raw_self (hF i hi).2
      exact ⟨s, by rw [this, ← hs]⟩
    · intro v hv
      simp only [List.mem_map, List.mem_range] at hv
      obtain ⟨i, hi, rfl⟩ := hv
      exact (hF i hi).2
end
end Go.Proofs.Ytdljnhdhigbefaa

/- A law's row closed: the result is true, nothing that was there has turned, each argument reads as it did. No condition. -/
namespace Go.Proofs.Ytdljnhdhigbefaa
open Go Go.RowKit Go.ChangeShapes Go.WideShapes

section
variable {H : Type} {enc : TypeId × Value → H} {P : Program}

theorem trodAll_stays (hl : laidOutB P = true) {W W' : World} {sp : Nat → Bool} : ∀ {ts : List TypeId} {vs : List Value} {ds : List (DataW H)} {ps : List MemPlace},
    ts.all (fun t => P.readableRec t && decide (t < P.types.size)) = true → DataW.TrodAll enc P W 0 (fun _ => true) true ts vs ds ps → (∀ p ∈ ps, W.sameAt W' p) → (∀ p ∈ ps, sp p.block = true) → DataW.TrodAll enc P W' 0 sp true ts vs ds ps
  | [], _, _, _, _, h, _, _ => by
    obtain ⟨rfl, rfl, rfl⟩ := trodAll_nil h
    rfl
  | t :: ts, _, _, _, ht, h, h1, h2 => by
    obtain ⟨v, vs, d, ds, p, q, rfl, rfl, rfl, hd, hr⟩ := trodAll_cons h
    simp only [List.all_cons, Bool.and_eq_true, decide_eq_true_eq] at ht
    refine ⟨p, q, WideElems.Trod_stays hl ht.1.1 ht.1.2 hd (fun x hx => h1 x (by simp [hx])) (fun x hx => h2 x (by simp [hx])), trodAll_stays hl ht.2 hr (fun x hx => h1 x (by simp [hx])) (fun x hx => h2 x (by simp [hx])), rfl⟩

/-- What a law's row asks in the end. -/
theorem post_of_below {f : Func} {s : ChangeSpec} {apart fresh handsOn again : Bool} {W W' : World} {args : Array Value} {ds : List (DataW H)} {before : List MemPlace} {tb : TypeId}
    (hl : laidOutB P = true) (hread : f.params.toList.all (fun t => P.readableRec t && decide (t < P.types.size)) = true) (hv : s.vars = [])
    (hW : DataW.Whole enc P f.params.toList s.vars apart W args.toList ds [] before)
    (hs : s.fn H ds = { results := [.lit (.bool true)], args := ds }) (hb : Below W.heap.size W W') (hr : f.resultTypes = #[tb]) (htb : P.underlying tb = some .bool) :
    s.post enc P f apart fresh handsOn again W args (.bool true) W' := by
  have hlt : ∀ p ∈ before, p.block < W.heap.size := fun p hp => hW.lt p hp
  have hsame : ∀ p ∈ before, W.sameAt W' p := fun p hp => hb.same (hlt p hp)
  have hW0 := hW
  obtain ⟨p, q, hA, hV, rfl, hz, hn⟩ := hW0
  have hq : q = [] := by rw [hv] at hV; exact hV
  subst hq
  rw [List.append_nil] at hlt hsame hz hn
  have hres : ∀ (b : Nat) (sp : Nat → Bool) (hd : Bool), DataW.TrodAll enc P W' b sp hd f.resultTypes.toList ((Value.bool true).resultList f.resultTypes.size) (s.fn H (ds ++ [])).results [] := by
    intro b sp hd
    rw [List.append_nil, hs, hr]
    exact trodAll_mk1 (shut_bool htb _)
  have hargs : ∀ sp : Nat → Bool, (∀ x ∈ p, sp x.block = true) → DataW.TrodAll enc P W' 0 sp true f.params.toList args.toList (s.fn H (ds ++ [])).args p := by
    intro sp hsp
    rw [List.append_nil, hs]
    exact trodAll_stays hl hread hA hsame hsp
  have hvars : ∀ sp : Nat → Bool, DataW.TrodVars enc P W' sp s.vars (s.fn H (ds ++ [])).vars [] := by
    intro sp
    rw [List.append_nil, hs, hv]
    rfl
  have hold : ∀ x ∈ p, (fun b => decide (b < W.heap.size)) x.block = true := fun x hx => by simpa using hlt x hx
  refine ⟨ds, [], p ++ [], [], p, [], hW, hres _ _ _, hargs _ hold, hvars _, hb.frame _, fun _ => ?_⟩
  refine ⟨?_, _, _, ([] ++ p) ++ [], ⟨[] ++ p, [], trodAll_append (hargs _ (fun _ _ => rfl)) (hres _ _ _), hvars _, rfl, ?_, ?_⟩, ?_⟩
  · exact ok_one hr rfl (okWide_bool_mk htb _)
  · intro b off hp
    have h1 := hlt (MemPlace.cell b off) (by simpa using hp)
    rw [hb.frozen (p := ⟨b, off, none⟩) h1]
    exact hz b off (by simpa using hp)
  · intro ha
    have := hn ha
    simpa using this
  · intro x hx _
    simpa using hx
end
end Go.Proofs.Ytdljnhdhigbefaa

/- Arguments opened: slices of floats, nil told. No condition. -/
namespace Go.Proofs.Ytdljnhdhigbefaa
open Go Go.RowKit Go.ChangeShapes Go.WideShapes Go.Deep
section
variable {H : Type} {enc : TypeId × Value → H} {P : Program} {w : World} {base : Nat} {spare : Nat → Bool} {held : Bool}
/-- A slice of floats: where it lies, its floats; a nil one has none. -/
theorem open_inf {t e : TypeId} {fuel : Nat} {v : Value} {x : DataW H × List MemPlace} (ht : P.underlying t = some (.slice e)) (he : P.underlying e = some (.float .f64)) (hc : P.cellsOf e = 1) (h : DataW.trod enc P w base spare held fuel t [v] = some x) :
    ∃ (a : Option Addr) (zs : List Nat) (cap : Nat), v = .slice a zs.length cap ∧ Fls w a zs ∧ Words zs ∧ zs.length ≤ maxLen ∧ (a = none → zs = [] ∧ cap = 0) := by
  obtain ⟨a, zs, cap, hv, h1, h2, h3⟩ := open_fls ht he hc h
  refine ⟨a, zs, cap, hv, h1, h2, h3, fun ha => ?_⟩
  subst ha
  rcases open_slice1 ht hc h with ⟨k1, _⟩ | ⟨a', len, cap', m, n, V, D, Pl, k1, _⟩
  · simp only [List.cons.injEq, and_true] at k1
    rw [k1] at hv
    simp only [Value.slice.injEq] at hv
    exact ⟨List.eq_nil_of_length_eq_zero hv.2.1.symm, hv.2.2.symm⟩
  · simp only [List.cons.injEq, and_true] at k1
    rw [k1] at hv
    simp at hv
end
end Go.Proofs.Ytdljnhdhigbefaa

/- An argument opened: a float. No condition. -/
namespace Go.Proofs.Ytdljnhdhigbefaa
open Go Go.RowKit Go.ChangeShapes Go.WideShapes Go.Deep

section
variable {H : Type} {enc : TypeId × Value → H} {P : Program} {w : World} {base : Nat} {spare : Nat → Bool} {held : Bool}
theorem open_f64w {r : Reach} {b0 : Nat} {t : TypeId} {v : Value} {d : DataW H} {ps : List MemPlace} (ht : P.underlying t = some (.float .f64)) (hval : Value.okWide P w r b0 t v) (hd : DataW.Trod enc P w base spare held t v d ps) :
    ∃ n, v = .float .f64 n ∧ d = .lit (.float .f64 n) ∧ ps = [] ∧ n < 18446744073709551616 := by
  obtain ⟨n, rfl⟩ : ∃ n, v = .float .f64 n := by
    simp only [Value.okWide, ht, Cell.okWide] at hval
    cases v <;> simp_all [Cell.ok]
  obtain ⟨fuel, hf⟩ := hd
  obtain ⟨n', h, hx, hw⟩ := trod_f64 ht hf
  simp [Value.cells] at h
  subst h
  simp only [Prod.mk.injEq] at hx
  exact ⟨n, rfl, hx.1, hx.2, hw⟩
end
end Go.Proofs.Ytdljnhdhigbefaa
