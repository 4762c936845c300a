/- 'plumblinelaw14.InverseFactors': its parts. No condition but on lengths. -/
import Derived.Test.YtdljnhdhigbefaaJiZ
import Derived.Test.YtdljnhdhigbefaaZz24
import Derived.Test.YtdljnhdhigbefaaZz29
import Derived.Test.YtdljnhdhigbefaaZz2
import Derived.Deep.Slices
import Derived.Laws.Cover2
import Derived.Lib.SmallJoins
import Derived.ProofKit
namespace Go.Proofs.Ytdljnhdhigbefaa
open Go Go.RowKit
set_option maxRecDepth 1000000
set_option linter.unusedSimpArgs false
set_option linter.unusedVariables false

theorem FaM.fls {w W : World} {X ca ba bb bc bl bk n m : Nat} {aa : Option Addr} {f : FaS} (h : FaM w W X aa ca ba bb bc bl bk n m f) : Fls W aa f.a ∧ Fls W (some ⟨bb, 0, none⟩) f.b ∧ Fls W (some ⟨bc, 0, none⟩) f.c ∧ Fls W (some ⟨bl, 0, none⟩) f.l ∧ Bos W (some ⟨bk, 0, none⟩) f.s :=
  ⟨h.a.fls, h.b.fls, h.c.fls, h.l.fls, Bos.ofBox h.s⟩
theorem flsI_one (W : World) (x : Nat) (hx : x < 18446744073709551616) : Fls (W.alloc (.cells #[.float .f64 x] 40)) (some ⟨W.heap.size, 0, none⟩) [x] := fun _ => by
  have h := Box.newA W [.float .f64 x] 40 rfl
  refine ⟨W.heap.size, 0, rfl, h.lt, fun i v hi => ?_⟩
  cases i with
  | zero =>
    obtain rfl : x = v := by simpa using hi
    obtain ⟨k, hk⟩ := raw_self hx
    exact ⟨k, by rw [← hk]; exact h.cell 0⟩
  | succ i => simp at hi
theorem askS_one {ds es : List Nat} (x : Nat) (h : askS ds es [] ≠ 0) : askS ds es [x] = askS ds es [] := by
  unfold askS at h ⊢
  split
  · rename_i h1
    rw [if_pos h1] at h
    split at h
    · exact absurd rfl h
    · rename_i h2
      rw [if_neg (fun h3 => h2 (by simp only [Bool.and_eq_true] at h3 ⊢; exact ⟨h3.1, rfl⟩)), if_neg h2]
  · rfl
theorem askS_fin {ds es : List Nat} (x : Nat) (h : askS ds es [] = 0) : askS ds es [x] = if ffin x then 0 else 10 := by
  unfold askS at h ⊢
  split at h
  · rename_i h1
    rw [if_pos h1]
    split at h
    · rename_i h2
      simp only [Bool.and_eq_true] at h2
      rw [h2.1.1, h2.1.2, Bool.true_and, Bool.true_and, List.all_cons, List.all_nil, Bool.and_true, fnS_ffin]
    · exact absurd h (by decide)
  · exact absurd h (by decide)
set_option maxHeartbeats 4000000 in
theorem flags14 (w : World) (aa ba : Option Addr) (l : List Bool) (n ac bc : Nat) (hn : l.length = n) (hA : Bos w aa l) (hB : Bos w ba l) (hl : n ≤ 1000) :
    Calls Try.prog 41 #[.slice aa n ac, .slice ba n bc] w fun e w' => e = .returned (.bool true) ∧ Below w.heap.size w w' := by
  have HA := Lib.hid hA
  have HB := Lib.hid hB
  have HN := Lib.hid hn
  have hn9 : n ≤ 1000 := hl
  clear hA hB hn hl
  go_enter Try.func41, Try.ntmps41
  go_wp2_with fail
  go_loopw [5] (fun s5 wr => ∃ i : Nat, s5 = .int .i64 i ∧ i ≤ n ∧ Below w.heap.size w wr) (fun s5 _ => n - (intOf s5).toNat)
  case atStart => exact ⟨0, rfl, Nat.zero_le _, Below.refl _ _⟩
  case round =>
    obtain ⟨i, rfl, hi, hBl⟩ := hrel
    have HBl := Lib.hid hBl
    clear hBl
    by_cases hlt : i < n
    case pos =>
      obtain ⟨b1, o1, rfl, hb1, c1⟩ := (HA.out.below HBl.out).at (show i < l.length by rw [HN.out]; exact hlt)
      obtain ⟨b2, o2, rfl, hb2, c2⟩ := (HB.out.below HBl.out).at (show i < l.length by rw [HN.out]; exact hlt)
      obtain ⟨x, hx⟩ : ∃ x, x = l.getD i false := ⟨_, rfl⟩
      rw [← hx] at c1 c2
      clear hx
      have hi9 : i < 1000 := by omega
      go_upto_region 6 with (fail)
      refine wp_region_items 8 [(true, 0), (true, 1), (true, 2), (true, 3), (true, 4), (true, 5), (true, 6), (true, 7)] (fun W => W.cell? ⟨b1, o1 + i, none⟩ = some (.bool x) ∧ W.cell? ⟨b2, o2 + i, none⟩ = some (.bool x)) (by kernel_rfl) (by kernel_rfl) ⟨c1, c2⟩ ?_
      have hdr := Lib.hid (below_step HBl.out HBl.out.size (below_drewN 1 (Below.refl wr.heap.size wr)))
      clear c1 c2
      iterate 8 (refine iW_take (v := ?_) rfl rfl ?_ ?_; rotate_left; (next => (intro w' hSw; (try dsimp only at hSw); go_simp; (try (rw [if_pos (by omega)]; go_simp)); (try with_reducible rfl))); (simp only [Act.put, List.setIfInBounds_toArray, List.set_cons_zero, List.set_cons_succ]))
      refine iW_nil ?_
      have t1 : (x != x) = false := bne_self_eq_false _
      go_simp
      go_wp2_with fail
      refine NoPanic.normal ?_
      go_wp2_with fail
      go_roundw
      case rel => exact ⟨i + 1, by go_num, hlt, hdr.out⟩
      case measure => simp [intOf]; omega
    case neg =>
      have h0 : ¬ (i : Int) < (n : Int) := by omega
      go_wp2_with fail
      go_ret
      exact ⟨rfl, HBl.out⟩
end Go.Proofs.Ytdljnhdhigbefaa

/- 'plumblinelaw14.InverseFactors' answers true (printed by gen_jl.py). No condition but on lengths. -/
namespace Go.Proofs.Ytdljnhdhigbefaa
open Go Go.RowKit
set_option maxRecDepth 1000000
set_option linter.unusedSimpArgs false
set_option linter.unusedVariables false

set_option maxHeartbeats 16000000 in
theorem factors14 (w : World) (da ea : Option Addr) (ds es : List Nat) (dc ec x n m : Nat) (hdl : ds.length = n) (hel : es.length = m) (hT : TrI w da ea ds es dc ec) (hx : x < 18446744073709551616) (hn : n ≤ maxLen) (hm : m ≤ maxLen) :
    Calls Try.prog 9 #[.agg #[.slice da n dc, .slice ea m ec], .float .f64 x] w fun e w' => e = .returned (.bool true) ∧ Below w.heap.size w w' := by
  have HK := Lib.hid known14_any
  have HN := Lib.hid num14
  have HBG := Lib.hid (fun W => big14 W da ea n dc m ec 40 hn hm (by decide))
  have HA := Lib.hid (fun (W : World) (h : Below w.heap.size w W) => by
      have r := RAsk_any W da ea ds es dc ec (hT.D.below h) (hT.E.below h) hT.wdD hT.wdE (by rw [hdl]; exact hn) (by rw [hel]; exact hm)
      rw [hdl, hel, askR_askS] at r
      exact r)
  have HFI := Lib.hid (fun (W : World) => RFinite_any (W.alloc (.cells #[.float .f64 x] 40)) (some ⟨W.heap.size, 0, none⟩) [x] 1 (flsI_one W x hx) (fun y hy => by rw [List.mem_singleton.1 hy]; exact hx) (by show 1 ≤ maxLen; unfold maxLen; omega))
  have HT := Lib.hid hT
  have HX := Lib.hid hx
  have HL := Lib.hid (show _ ∧ _ from ⟨hdl, hel⟩)
  unfold maxLen at hn hm
  clear hT hx hdl hel
  have x0 : Box (w.alloc (.cells #[.slice da n dc, .slice ea m ec] 54)) w.heap.size [.slice da n dc, .slice ea m ec] := Box.newA w [.slice da n dc, .slice ea m ec] _ rfl
  have hB0 : Below w.heap.size w (w.alloc (.cells #[.slice da n dc, .slice ea m ec] 54)) := (Below.refl _ _).alloc (Nat.le_refl _) _
  obtain ⟨w1, hw1⟩ : ∃ W, W = w.alloc (.cells #[.slice da n dc, .slice ea m ec] 54) := ⟨_, rfl⟩
  rw [← hw1] at x0 hB0
  have X := Lib.hid x0
  have BW := Lib.hid hB0
  clear x0 hB0
  go_enter Try.func9, Try.ntmps9
  go_upto_region 1 with (fail)
  rw [← hw1]
  clear hw1
  obtain ⟨f1, f2, f3⟩ := X.out.facts
  go_wp2_with fail
  refine (HBG.out _).mono ?_
  obtain ⟨B, hBq⟩ : ∃ B, B = (decide (40 < n) || decide (40 < m)) := ⟨_, rfl⟩
  rw [← hBq]
  have HBQ := Lib.hid hBq
  clear hBq HBG
  rintro e w2 ⟨rfl, hb⟩
  replace BW := Lib.hid (below_step BW.out BW.out.size hb)
  replace X := Lib.hid (X.out.below hb)
  clear hb f1 f2 f3
  obtain ⟨f1, f2, f3⟩ := X.out.facts
  try dsimp only
  cases B
  case true =>
    go_wp2_with fail
    refine (HK.out _).mono ?_
    rintro e w9 ⟨rfl, hb⟩
    have hf := below_step BW.out BW.out.size hb
    try dsimp only
    go_wp2_with fail
    go_ret
    exact ⟨rfl, hf⟩
  case false =>
    have hnm : n ≤ 40 ∧ m ≤ 40 := by
        have h := HBQ.out
        simp only [Bool.false_eq, Bool.or_eq_false_iff, decide_eq_false_iff_not] at h
        omega
    obtain ⟨hn, hm⟩ := hnm
    clear HBQ
    by_cases hv : askS ds es [x] = 0
    case neg =>
      obtain ⟨s, hs⟩ := raw_self HX.out
      have hc := Factor_err w2 da ea ds es dc ec x s n m HL.out.1 HL.out.2 (HT.out.below BW.out).D (HT.out.below BW.out).E (by omega) (by omega) HX.out hv
      rw [← hs] at hc
      clear hs
      have HVN := Lib.hid hv
      clear hv
      obtain ⟨V, hV⟩ : ∃ V, V = askS ds es [x] := ⟨_, rfl⟩
      obtain ⟨A, hA⟩ : ∃ A, A = askS ds es [] := ⟨_, rfl⟩
      rw [← hV] at hc HVN
      rw [← hA] at HA
      have HV := Lib.hid hV
      have HAE := Lib.hid hA
      clear hV hA
      go_wp2_with fail
      refine hc.mono ?_
      rintro e w3 ⟨rfl, hb⟩
      clear hc
      replace BW := Lib.hid (below_step BW.out BW.out.size hb)
      replace X := Lib.hid (X.out.below hb)
      clear hb f1 f2 f3
      obtain ⟨f1, f2, f3⟩ := X.out.facts
      try dsimp only
      go_upto_region 4 with (fail)
      have x9 : Box (w3.alloc (.cells #[.slice none 0 0, .slice none 0 0, .slice none 0 0, .slice none 0 0, .slice none 0 0] 45)) w3.heap.size [.slice none 0 0, .slice none 0 0, .slice none 0 0, .slice none 0 0, .slice none 0 0] := Box.newA w3 [.slice none 0 0, .slice none 0 0, .slice none 0 0, .slice none 0 0, .slice none 0 0] _ rfl
      have hb : Below w3.heap.size w3 (w3.alloc (.cells #[.slice none 0 0, .slice none 0 0, .slice none 0 0, .slice none 0 0, .slice none 0 0] 45)) := (Below.refl _ _).alloc (Nat.le_refl _) _
      obtain ⟨w4, hW⟩ : ∃ W, W = (w3.alloc (.cells #[.slice none 0 0, .slice none 0 0, .slice none 0 0, .slice none 0 0, .slice none 0 0] 45)) := ⟨_, rfl⟩
      rw [← hW] at x9 hb
      have Y := Lib.hid x9
      clear x9
      rw [← hW]
      clear hW
      replace BW := Lib.hid (below_step BW.out BW.out.size hb)
      replace X := Lib.hid (X.out.below hb)
      clear hb f1 f2 f3
      obtain ⟨f1, f2, f3⟩ := X.out.facts
      try dsimp only
      obtain ⟨g1, g2, g3⟩ := Y.out.facts
      go_wp2_with fail
      refine (HA.out _ BW.out).mono ?_
      rintro e w5 ⟨rfl, hb⟩
      clear g1 g2 g3
      replace BW := Lib.hid (below_step BW.out BW.out.size hb)
      replace X := Lib.hid (X.out.below hb)
      replace Y := Lib.hid (Y.out.below hb)
      clear hb f1 f2 f3
      obtain ⟨f1, f2, f3⟩ := X.out.facts
      try dsimp only
      obtain ⟨g1, g2, g3⟩ := Y.out.facts
      by_cases ha : A = 0
      case pos =>
        have hf : ffin x = false ∧ V = 10 := by
            have h := askS_fin x (HAE.out.symm.trans ha)
            rw [← HV.out] at h
            cases hq : ffin x with
            | true => rw [hq] at h; exact absurd h HVN.out
            | false => rw [hq] at h; exact ⟨rfl, h⟩
        obtain ⟨hfx, rfl⟩ := hf
        subst ha
        replace HFI := Lib.hid (fun W => by
            have r := HFI.out W
            rw [show [x].all ffin = false from by rw [List.all_cons, hfx]; rfl] at r
            exact r)
        clear hfx HV HVN HAE HA
        go_upto_region 5 with (fail)
        go_wp2_with fail
        refine (HFI.out _).mono ?_
        rintro e w6 ⟨rfl, hb6⟩
        have hb : Below w5.heap.size w5 w6 := by rw [← hb6]; exact (Below.refl _ _).alloc (Nat.le_refl _) _
        clear hb6
        clear g1 g2 g3
        replace BW := Lib.hid (below_step BW.out BW.out.size hb)
        replace X := Lib.hid (X.out.below hb)
        replace Y := Lib.hid (Y.out.below hb)
        clear hb f1 f2 f3
        obtain ⟨f1, f2, f3⟩ := X.out.facts
        try dsimp only
        obtain ⟨g1, g2, g3⟩ := Y.out.facts
        go_wp2_with fail
        refine (HN.out _ _).mono ?_
        rintro e w' ⟨rfl, rfl⟩
        go_wp2_with fail
        refine (HK.out _).mono ?_
        rintro e w9 ⟨rfl, hb⟩
        have hf := below_step BW.out BW.out.size hb
        try dsimp only
        go_wp2_with fail
        go_ret
        exact ⟨rfl, hf⟩
      case neg =>
        have hva : V = A := by
            have h := askS_one x (fun h => ha (HAE.out.trans h))
            rw [← HV.out, ← HAE.out] at h
            exact h
        subst hva
        clear HFI HV HAE HA HVN
        have t1 : (V == 0) = false := by rw [beq_eq_false_iff_ne]; exact ha
        have t2 : (V != 0) = true := by rw [bne_iff_ne]; exact ha
        go_wp2_with fail
        refine (HN.out _ _).mono ?_
        rintro e w' ⟨rfl, rfl⟩
        go_wp2_with fail
        refine (HK.out _).mono ?_
        rintro e w9 ⟨rfl, hb⟩
        have hf := below_step BW.out BW.out.size hb
        try dsimp only
        go_wp2_with fail
        go_ret
        exact ⟨rfl, hf⟩
    case pos =>
      have hz := askS_zero hv
      have ha : askS ds es [] = 0 := Classical.byContradiction (fun h => h ((askS_one x h).symm.trans hv))
      have hfx : ffin x = true := by simpa using hz.2.2.2
      have hmn : m = n - 1 := by have h := hz.1.2; rw [HL.out.1, HL.out.2] at h; exact h
      have HFF := Lib.hid (show (ds ++ es).all ffin = true from by rw [List.all_append, hz.2.1, hz.2.2.1]; rfl)
      rw [ha] at HA
      replace HFI := Lib.hid (fun W => by
          have r := HFI.out W
          rw [show [x].all ffin = true from by rw [List.all_cons, hfx]; rfl] at r
          exact r)
      clear hz ha hfx
      have hc := Factor_ok w2 da ea ds es dc ec x n m HL.out.1 HL.out.2 (HT.out.below BW.out) hv HX.out
      clear hv
      have HR := Lib.hid (fun (W : World) (h : Below w.heap.size w W) => RFactor14 W da ea ds es dc ec x n m HL.out.1 HL.out.2 (HT.out.below h) (by omega) hmn HFF.out)
      obtain ⟨f, hf⟩ : ∃ f, f = facI ds es x := ⟨_, rfl⟩
      rw [← hf] at hc HR
      clear hf hmn
      go_wp2_with fail
      refine hc.mono ?_
      rintro e w3 ⟨X1, aa, ca, ba, bb, bc, bl, bk, rfl, hF⟩
      clear hc
      have hb := hF.bel
      have G := Lib.hid (show _ ∧ _ ∧ _ from ⟨hF.fls, hF.len, hF.wd⟩)
      clear hF
      replace BW := Lib.hid (below_step BW.out BW.out.size hb)
      replace X := Lib.hid (X.out.below hb)
      clear hb f1 f2 f3
      obtain ⟨f1, f2, f3⟩ := X.out.facts
      try dsimp only
      go_upto_region 4 with (fail)
      have x9 : Box (w3.alloc (.cells #[.slice aa n ca, .slice (some ⟨bb, 0, none⟩) n n, .slice (some ⟨bc, 0, none⟩) n n, .slice (some ⟨bl, 0, none⟩) m m, .slice (some ⟨bk, 0, none⟩) m m] 45)) w3.heap.size [.slice aa n ca, .slice (some ⟨bb, 0, none⟩) n n, .slice (some ⟨bc, 0, none⟩) n n, .slice (some ⟨bl, 0, none⟩) m m, .slice (some ⟨bk, 0, none⟩) m m] := Box.newA w3 [.slice aa n ca, .slice (some ⟨bb, 0, none⟩) n n, .slice (some ⟨bc, 0, none⟩) n n, .slice (some ⟨bl, 0, none⟩) m m, .slice (some ⟨bk, 0, none⟩) m m] _ rfl
      have hb : Below w3.heap.size w3 (w3.alloc (.cells #[.slice aa n ca, .slice (some ⟨bb, 0, none⟩) n n, .slice (some ⟨bc, 0, none⟩) n n, .slice (some ⟨bl, 0, none⟩) m m, .slice (some ⟨bk, 0, none⟩) m m] 45)) := (Below.refl _ _).alloc (Nat.le_refl _) _
      obtain ⟨w4, hW⟩ : ∃ W, W = (w3.alloc (.cells #[.slice aa n ca, .slice (some ⟨bb, 0, none⟩) n n, .slice (some ⟨bc, 0, none⟩) n n, .slice (some ⟨bl, 0, none⟩) m m, .slice (some ⟨bk, 0, none⟩) m m] 45)) := ⟨_, rfl⟩
      rw [← hW] at x9 hb
      have Y := Lib.hid x9
      clear x9
      rw [← hW]
      clear hW
      have FL := Lib.hid (show _ ∧ _ ∧ _ ∧ _ ∧ _ from ⟨G.out.1.1.below hb, G.out.1.2.1.below hb, G.out.1.2.2.1.below hb, G.out.1.2.2.2.1.below hb, G.out.1.2.2.2.2.below hb⟩)
      replace G := Lib.hid G.out.2
      replace BW := Lib.hid (below_step BW.out BW.out.size hb)
      replace X := Lib.hid (X.out.below hb)
      clear hb f1 f2 f3
      obtain ⟨f1, f2, f3⟩ := X.out.facts
      try dsimp only
      obtain ⟨g1, g2, g3⟩ := Y.out.facts
      go_wp2_with fail
      refine (HA.out _ BW.out).mono ?_
      rintro e w5 ⟨rfl, hb⟩
      replace FL := Lib.hid (show _ ∧ _ ∧ _ ∧ _ ∧ _ from ⟨FL.out.1.below hb, FL.out.2.1.below hb, FL.out.2.2.1.below hb, FL.out.2.2.2.1.below hb, FL.out.2.2.2.2.below hb⟩)
      clear g1 g2 g3
      replace BW := Lib.hid (below_step BW.out BW.out.size hb)
      replace X := Lib.hid (X.out.below hb)
      replace Y := Lib.hid (Y.out.below hb)
      clear hb f1 f2 f3
      obtain ⟨f1, f2, f3⟩ := X.out.facts
      try dsimp only
      obtain ⟨g1, g2, g3⟩ := Y.out.facts
      clear HA
      go_wp2_with fail
      refine (HFI.out _).mono ?_
      rintro e w6 ⟨rfl, hb6⟩
      have hb : Below w5.heap.size w5 w6 := by rw [← hb6]; exact (Below.refl _ _).alloc (Nat.le_refl _) _
      clear hb6
      replace FL := Lib.hid (show _ ∧ _ ∧ _ ∧ _ ∧ _ from ⟨FL.out.1.below hb, FL.out.2.1.below hb, FL.out.2.2.1.below hb, FL.out.2.2.2.1.below hb, FL.out.2.2.2.2.below hb⟩)
      clear g1 g2 g3
      replace BW := Lib.hid (below_step BW.out BW.out.size hb)
      replace X := Lib.hid (X.out.below hb)
      replace Y := Lib.hid (Y.out.below hb)
      clear hb f1 f2 f3
      obtain ⟨f1, f2, f3⟩ := X.out.facts
      try dsimp only
      obtain ⟨g1, g2, g3⟩ := Y.out.facts
      clear HFI
      go_upto_region 9 with (fail)
      go_wp2_with fail
      refine (HR.out _ BW.out).mono ?_
      rintro e w7 ⟨X2, ya, yb, yc, yl, yk, rfl, hF⟩
      have hb := hF.bel
      have GL := Lib.hid hF.fls
      clear hF HR
      replace FL := Lib.hid (show _ ∧ _ ∧ _ ∧ _ ∧ _ from ⟨FL.out.1.below hb, FL.out.2.1.below hb, FL.out.2.2.1.below hb, FL.out.2.2.2.1.below hb, FL.out.2.2.2.2.below hb⟩)
      clear g1 g2 g3
      replace BW := Lib.hid (below_step BW.out BW.out.size hb)
      replace X := Lib.hid (X.out.below hb)
      replace Y := Lib.hid (Y.out.below hb)
      clear hb f1 f2 f3
      obtain ⟨f1, f2, f3⟩ := X.out.facts
      try dsimp only
      obtain ⟨g1, g2, g3⟩ := Y.out.facts
      go_upto_region 10 with (fail)
      have x9 : Box (w7.alloc (.cells #[.slice (some ⟨ya, 0, none⟩) n n, .slice (some ⟨yb, 0, none⟩) n n, .slice (some ⟨yc, 0, none⟩) n n, .slice (some ⟨yl, 0, none⟩) m m, .slice (some ⟨yk, 0, none⟩) m m] 45)) w7.heap.size [.slice (some ⟨ya, 0, none⟩) n n, .slice (some ⟨yb, 0, none⟩) n n, .slice (some ⟨yc, 0, none⟩) n n, .slice (some ⟨yl, 0, none⟩) m m, .slice (some ⟨yk, 0, none⟩) m m] := Box.newA w7 [.slice (some ⟨ya, 0, none⟩) n n, .slice (some ⟨yb, 0, none⟩) n n, .slice (some ⟨yc, 0, none⟩) n n, .slice (some ⟨yl, 0, none⟩) m m, .slice (some ⟨yk, 0, none⟩) m m] _ rfl
      have hb : Below w7.heap.size w7 (w7.alloc (.cells #[.slice (some ⟨ya, 0, none⟩) n n, .slice (some ⟨yb, 0, none⟩) n n, .slice (some ⟨yc, 0, none⟩) n n, .slice (some ⟨yl, 0, none⟩) m m, .slice (some ⟨yk, 0, none⟩) m m] 45)) := (Below.refl _ _).alloc (Nat.le_refl _) _
      obtain ⟨w8, hW⟩ : ∃ W, W = (w7.alloc (.cells #[.slice (some ⟨ya, 0, none⟩) n n, .slice (some ⟨yb, 0, none⟩) n n, .slice (some ⟨yc, 0, none⟩) n n, .slice (some ⟨yl, 0, none⟩) m m, .slice (some ⟨yk, 0, none⟩) m m] 45)) := ⟨_, rfl⟩
      rw [← hW] at x9 hb
      have Z := Lib.hid x9
      clear x9
      rw [← hW]
      clear hW
      replace GL := Lib.hid (show _ ∧ _ ∧ _ ∧ _ ∧ _ from ⟨GL.out.1.below hb, GL.out.2.1.below hb, GL.out.2.2.1.below hb, GL.out.2.2.2.1.below hb, GL.out.2.2.2.2.below hb⟩)
      replace FL := Lib.hid (show _ ∧ _ ∧ _ ∧ _ ∧ _ from ⟨FL.out.1.below hb, FL.out.2.1.below hb, FL.out.2.2.1.below hb, FL.out.2.2.2.1.below hb, FL.out.2.2.2.2.below hb⟩)
      clear g1 g2 g3
      replace BW := Lib.hid (below_step BW.out BW.out.size hb)
      replace X := Lib.hid (X.out.below hb)
      replace Y := Lib.hid (Y.out.below hb)
      clear hb f1 f2 f3
      obtain ⟨f1, f2, f3⟩ := X.out.facts
      try dsimp only
      obtain ⟨g1, g2, g3⟩ := Y.out.facts
      obtain ⟨z1, z2, z3⟩ := Z.out.facts
      go_wp2_with fail
      refine (HN.out _ _).mono ?_
      rintro e w' ⟨rfl, rfl⟩
      go_wp2_with fail
      refine (same14 w8 _ _ f.a n ca n G.out.1.1 FL.out.1 GL.out.1 G.out.2.1 (by omega)).mono ?_
      rintro e w10 ⟨rfl, hb⟩
      replace GL := Lib.hid (show _ ∧ _ ∧ _ ∧ _ ∧ _ from ⟨GL.out.1.below hb, GL.out.2.1.below hb, GL.out.2.2.1.below hb, GL.out.2.2.2.1.below hb, GL.out.2.2.2.2.below hb⟩)
      clear z1 z2 z3
      replace FL := Lib.hid (show _ ∧ _ ∧ _ ∧ _ ∧ _ from ⟨FL.out.1.below hb, FL.out.2.1.below hb, FL.out.2.2.1.below hb, FL.out.2.2.2.1.below hb, FL.out.2.2.2.2.below hb⟩)
      clear g1 g2 g3
      replace BW := Lib.hid (below_step BW.out BW.out.size hb)
      replace X := Lib.hid (X.out.below hb)
      replace Y := Lib.hid (Y.out.below hb)
      replace Z := Lib.hid (Z.out.below hb)
      clear hb f1 f2 f3
      obtain ⟨f1, f2, f3⟩ := X.out.facts
      try dsimp only
      obtain ⟨g1, g2, g3⟩ := Y.out.facts
      obtain ⟨z1, z2, z3⟩ := Z.out.facts
      go_wp2_with fail
      refine (same14 w10 _ _ f.b n n n G.out.1.2.1 FL.out.2.1 GL.out.2.1 G.out.2.2.1 (by omega)).mono ?_
      rintro e w11 ⟨rfl, hb⟩
      replace GL := Lib.hid (show _ ∧ _ ∧ _ ∧ _ ∧ _ from ⟨GL.out.1.below hb, GL.out.2.1.below hb, GL.out.2.2.1.below hb, GL.out.2.2.2.1.below hb, GL.out.2.2.2.2.below hb⟩)
      clear z1 z2 z3
      replace FL := Lib.hid (show _ ∧ _ ∧ _ ∧ _ ∧ _ from ⟨FL.out.1.below hb, FL.out.2.1.below hb, FL.out.2.2.1.below hb, FL.out.2.2.2.1.below hb, FL.out.2.2.2.2.below hb⟩)
      clear g1 g2 g3
      replace BW := Lib.hid (below_step BW.out BW.out.size hb)
      replace X := Lib.hid (X.out.below hb)
      replace Y := Lib.hid (Y.out.below hb)
      replace Z := Lib.hid (Z.out.below hb)
      clear hb f1 f2 f3
      obtain ⟨f1, f2, f3⟩ := X.out.facts
      try dsimp only
      obtain ⟨g1, g2, g3⟩ := Y.out.facts
      obtain ⟨z1, z2, z3⟩ := Z.out.facts
      go_wp2_with fail
      refine (same14 w11 _ _ f.c n n n G.out.1.2.2.1 FL.out.2.2.1 GL.out.2.2.1 G.out.2.2.2.1 (by omega)).mono ?_
      rintro e w12 ⟨rfl, hb⟩
      replace GL := Lib.hid (show _ ∧ _ ∧ _ ∧ _ ∧ _ from ⟨GL.out.1.below hb, GL.out.2.1.below hb, GL.out.2.2.1.below hb, GL.out.2.2.2.1.below hb, GL.out.2.2.2.2.below hb⟩)
      clear z1 z2 z3
      replace FL := Lib.hid (show _ ∧ _ ∧ _ ∧ _ ∧ _ from ⟨FL.out.1.below hb, FL.out.2.1.below hb, FL.out.2.2.1.below hb, FL.out.2.2.2.1.below hb, FL.out.2.2.2.2.below hb⟩)
      clear g1 g2 g3
      replace BW := Lib.hid (below_step BW.out BW.out.size hb)
      replace X := Lib.hid (X.out.below hb)
      replace Y := Lib.hid (Y.out.below hb)
      replace Z := Lib.hid (Z.out.below hb)
      clear hb f1 f2 f3
      obtain ⟨f1, f2, f3⟩ := X.out.facts
      try dsimp only
      obtain ⟨g1, g2, g3⟩ := Y.out.facts
      obtain ⟨z1, z2, z3⟩ := Z.out.facts
      go_wp2_with fail
      refine (same14 w12 _ _ f.l m m m G.out.1.2.2.2.1 FL.out.2.2.2.1 GL.out.2.2.2.1 G.out.2.2.2.2 (by omega)).mono ?_
      rintro e w13 ⟨rfl, hb⟩
      replace GL := Lib.hid (show _ ∧ _ ∧ _ ∧ _ ∧ _ from ⟨GL.out.1.below hb, GL.out.2.1.below hb, GL.out.2.2.1.below hb, GL.out.2.2.2.1.below hb, GL.out.2.2.2.2.below hb⟩)
      clear z1 z2 z3
      replace FL := Lib.hid (show _ ∧ _ ∧ _ ∧ _ ∧ _ from ⟨FL.out.1.below hb, FL.out.2.1.below hb, FL.out.2.2.1.below hb, FL.out.2.2.2.1.below hb, FL.out.2.2.2.2.below hb⟩)
      clear g1 g2 g3
      replace BW := Lib.hid (below_step BW.out BW.out.size hb)
      replace X := Lib.hid (X.out.below hb)
      replace Y := Lib.hid (Y.out.below hb)
      replace Z := Lib.hid (Z.out.below hb)
      clear hb f1 f2 f3
      obtain ⟨f1, f2, f3⟩ := X.out.facts
      try dsimp only
      obtain ⟨g1, g2, g3⟩ := Y.out.facts
      obtain ⟨z1, z2, z3⟩ := Z.out.facts
      go_wp2_with fail
      refine (flags14 w13 _ _ f.s m m m G.out.1.2.2.2.2 FL.out.2.2.2.2 GL.out.2.2.2.2 (by omega)).mono ?_
      rintro e w20 ⟨rfl, hb⟩
      replace GL := Lib.hid (show _ ∧ _ ∧ _ ∧ _ ∧ _ from ⟨GL.out.1.below hb, GL.out.2.1.below hb, GL.out.2.2.1.below hb, GL.out.2.2.2.1.below hb, GL.out.2.2.2.2.below hb⟩)
      clear z1 z2 z3
      replace FL := Lib.hid (show _ ∧ _ ∧ _ ∧ _ ∧ _ from ⟨FL.out.1.below hb, FL.out.2.1.below hb, FL.out.2.2.1.below hb, FL.out.2.2.2.1.below hb, FL.out.2.2.2.2.below hb⟩)
      clear g1 g2 g3
      replace BW := Lib.hid (below_step BW.out BW.out.size hb)
      replace X := Lib.hid (X.out.below hb)
      replace Y := Lib.hid (Y.out.below hb)
      replace Z := Lib.hid (Z.out.below hb)
      clear hb f1 f2 f3
      obtain ⟨f1, f2, f3⟩ := X.out.facts
      try dsimp only
      obtain ⟨g1, g2, g3⟩ := Y.out.facts
      obtain ⟨z1, z2, z3⟩ := Z.out.facts
      go_wp2_with fail
      refine (HK.out _).mono ?_
      rintro e w9 ⟨rfl, hb⟩
      have hf := below_step BW.out BW.out.size hb
      try dsimp only
      go_wp2_with fail
      go_ret
      exact ⟨rfl, hf⟩
end Go.Proofs.Ytdljnhdhigbefaa

/- Arguments opened: slices of floats; a way up for results. No condition. -/
namespace Go.Proofs.Ytdljnhdhigbefaa
open Go Go.RowKit Go.ChangeShapes Go.WideShapes Go.Deep

section
variable {H : Type} {enc : TypeId × Value → H} {P : Program} {w : World} {base : Nat} {spare : Nat → Bool} {held : Bool}

theorem trod_f64 {fuel : Nat} {t : TypeId} {cs : List Value} {x : DataW H × List MemPlace} (ht : P.underlying t = some (.float .f64)) (h : DataW.trod enc P w base spare held fuel t cs = some x) : ∃ n, cs = [.float .f64 n] ∧ x = (.lit (.float .f64 n), []) ∧ n < 18446744073709551616 := by
  cases fuel with
  | zero => simp [DataW.trod] at h
  | succ n =>
    unfold DataW.trod at h
    rw [ht] at h
    split at h <;> simp_all
    rename_i k k' b hk
    subst hk
    obtain ⟨⟨rfl, hw⟩, rfl⟩ := h
    simp [Lit.wf] at hw
    exact hw

/-- A slice of floats: where it lies, its floats. -/
theorem open_fls {t e : TypeId} {fuel : Nat} {v : Value} {x : DataW H × List MemPlace} (ht : P.underlying t = some (.slice e)) (he : P.underlying e = some (.float .f64)) (hc : P.cellsOf e = 1) (h : DataW.trod enc P w base spare held fuel t [v] = some x) :
    ∃ (a : Option Addr) (zs : List Nat) (cap : Nat), v = .slice a zs.length cap ∧ Fls w a zs ∧ Words zs ∧ zs.length ≤ maxLen := by
  rcases open_slice1 ht hc h with ⟨h1, h2⟩ | ⟨a, len, cap, m, n, V, D, Pl, h1, hb, hl, hm, hmm, h2, hx⟩
  · simp only [List.cons.injEq, and_true] at h1
    subst h1
    exact ⟨none, [], 0, rfl, fun hz => absurd rfl hz, fun v hv => (by cases hv), Nat.zero_le _⟩
  · simp only [List.cons.injEq, and_true] at h1
    subst h1
    have hlm : len ≤ m := by rw [hmm]; split <;> omega
    obtain ⟨F, hF⟩ := choose_lt (α := Nat) (p := fun i x => w.cell? (a.add i) = some (.float .f64 x) ∧ x < 18446744073709551616) (n := len) (fun i hi => by
      obtain ⟨c, ht2⟩ := hx i (by omega)
      obtain ⟨x, hx1, _, hx2⟩ := trod_f64 he ht2
      simp only [List.cons.injEq, and_true] at hx1
      exact ⟨x, by rw [c, hx1], hx2⟩)
    refine ⟨some a, (List.range len).map F, cap, by simp, ?_, ?_, by simp; omega⟩
    · intro hz
      have hlen : 0 < len := by
        cases len with
        | zero => exact absurd rfl hz
        | succ n => omega
      have h0 := (hF 0 hlen).1
      obtain ⟨b, off, spot⟩ := a
      have hsp : spot = none ∧ b < w.heap.size := by
        unfold Addr.add World.cell? at h0
        simp only [if_true] at h0
        cases hh : w.heap[b]? with
        | none => rw [hh] at h0; cases h0
        | some o =>
          rw [hh] at h0
          refine ⟨?_, (Array.getElem?_eq_some_iff.1 hh).1⟩
          cases o with
          | cells c T r => simp only [] at h0; cases spot with
            | none => rfl
            | some s => simp at h0
          | _ => simp at h0
      obtain ⟨rfl, hbl⟩ := hsp
      refine ⟨b, off, rfl, hbl, fun i v hv => ?_⟩
      simp only [List.getElem?_map, Option.map_eq_some_iff] at hv
      obtain ⟨j, hj, rfl⟩ := hv
      have hi : i < len := by
        by_cases hi : i < len
        · exact hi
        · rw [List.getElem?_eq_none (by simp; omega)] at hj; cases hj
      rw [List.getElem?_range hi] at hj
      cases hj
      have := (hF i hi).1
      have ha : (Addr.add ⟨b, off, none⟩ i) = ⟨b, off + i, none⟩ := by
        unfold Addr.add
        split
        · subst_vars; rfl
        · rfl
      rw [ha] at this
      obtain ⟨s, hs⟩ := raw_self (hF i hi).2
      exact ⟨s, by rw [this, ← hs]⟩
    · intro v hv
      simp only [List.mem_map, List.mem_range] at hv
      obtain ⟨i, hi, rfl⟩ := hv
      exact (hF i hi).2
end
end Go.Proofs.Ytdljnhdhigbefaa

/- A law's row closed: the result is true, nothing that was there has turned, each argument reads as it did. No condition. -/
namespace Go.Proofs.Ytdljnhdhigbefaa
open Go Go.RowKit Go.ChangeShapes Go.WideShapes

section
variable {H : Type} {enc : TypeId × Value → H} {P : Program}

theorem trodAll_stays (hl : laidOutB P = true) {W W' : World} {sp : Nat → Bool} : ∀ {ts : List TypeId} {vs : List Value} {ds : List (DataW H)} {ps : List MemPlace},
    ts.all (fun t => P.readableRec t && decide (t < P.types.size)) = true → DataW.TrodAll enc P W 0 (fun _ => true) true ts vs ds ps → (∀ p ∈ ps, W.sameAt W' p) → (∀ p ∈ ps, sp p.block = true) → DataW.TrodAll enc P W' 0 sp true ts vs ds ps
  | [], _, _, _, _, h, _, _ => by
    obtain ⟨rfl, rfl, rfl⟩ := trodAll_nil h
    rfl
  | t :: ts, _, _, _, ht, h, h1, h2 => by
    obtain ⟨v, vs, d, ds, p, q, rfl, rfl, rfl, hd, hr⟩ := trodAll_cons h
    simp only [List.all_cons, Bool.and_eq_true, decide_eq_true_eq] at ht
    refine ⟨p, q, WideElems.Trod_stays hl ht.1.1 ht.1.2 hd (fun x hx => h1 x (by simp [hx])) (fun x hx => h2 x (by simp [hx])), trodAll_stays hl ht.2 hr (fun x hx => h1 x (by simp [hx])) (fun x hx => h2 x (by simp [hx])), rfl⟩

/-- What a law's row asks in the end. -/
theorem post_of_below {f : Func} {s : ChangeSpec} {apart fresh handsOn again : Bool} {W W' : World} {args : Array Value} {ds : List (DataW H)} {before : List MemPlace} {tb : TypeId}
    (hl : laidOutB P = true) (hread : f.params.toList.all (fun t => P.readableRec t && decide (t < P.types.size)) = true) (hv : s.vars = [])
    (hW : DataW.Whole enc P f.params.toList s.vars apart W args.toList ds [] before)
    (hs : s.fn H ds = { results := [.lit (.bool true)], args := ds }) (hb : Below W.heap.size W W') (hr : f.resultTypes = #[tb]) (htb : P.underlying tb = some .bool) :
    s.post enc P f apart fresh handsOn again W args (.bool true) W' := by
  have hlt : ∀ p ∈ before, p.block < W.heap.size := fun p hp => hW.lt p hp
  have hsame : ∀ p ∈ before, W.sameAt W' p := fun p hp => hb.same (hlt p hp)
  have hW0 := hW
  obtain ⟨p, q, hA, hV, rfl, hz, hn⟩ := hW0
  have hq : q = [] := by rw [hv] at hV; exact hV
  subst hq
  rw [List.append_nil] at hlt hsame hz hn
  have hres : ∀ (b : Nat) (sp : Nat → Bool) (hd : Bool), DataW.TrodAll enc P W' b sp hd f.resultTypes.toList ((Value.bool true).resultList f.resultTypes.size) (s.fn H (ds ++ [])).results [] := by
    intro b sp hd
    rw [List.append_nil, hs, hr]
    exact trodAll_mk1 (shut_bool htb _)
  have hargs : ∀ sp : Nat → Bool, (∀ x ∈ p, sp x.block = true) → DataW.TrodAll enc P W' 0 sp true f.params.toList args.toList (s.fn H (ds ++ [])).args p := by
    intro sp hsp
    rw [List.append_nil, hs]
    exact trodAll_stays hl hread hA hsame hsp
  have hvars : ∀ sp : Nat → Bool, DataW.TrodVars enc P W' sp s.vars (s.fn H (ds ++ [])).vars [] := by
    intro sp
    rw [List.append_nil, hs, hv]
    rfl
  have hold : ∀ x ∈ p, (fun b => decide (b < W.heap.size)) x.block = true := fun x hx => by simpa using hlt x hx
  refine ⟨ds, [], p ++ [], [], p, [], hW, hres _ _ _, hargs _ hold, hvars _, hb.frame _, fun _ => ?_⟩
  refine ⟨?_, _, _, ([] ++ p) ++ [], ⟨[] ++ p, [], trodAll_append (hargs _ (fun _ _ => rfl)) (hres _ _ _), hvars _, rfl, ?_, ?_⟩, ?_⟩
  · exact ok_one hr rfl (okWide_bool_mk htb _)
  · intro b off hp
    have h1 := hlt (MemPlace.cell b off) (by simpa using hp)
    rw [hb.frozen (p := ⟨b, off, none⟩) h1]
    exact hz b off (by simpa using hp)
  · intro ha
    have := hn ha
    simpa using this
  · intro x hx _
    simpa using hx
end
end Go.Proofs.Ytdljnhdhigbefaa

/- Arguments opened: slices of floats, nil told. No condition. -/
namespace Go.Proofs.Ytdljnhdhigbefaa
open Go Go.RowKit Go.ChangeShapes Go.WideShapes Go.Deep
section
variable {H : Type} {enc : TypeId × Value → H} {P : Program} {w : World} {base : Nat} {spare : Nat → Bool} {held : Bool}
/-- A slice of floats: where it lies, its floats; a nil one has none. -/
theorem open_inf {t e : TypeId} {fuel : Nat} {v : Value} {x : DataW H × List MemPlace} (ht : P.underlying t = some (.slice e)) (he : P.underlying e = some (.float .f64)) (hc : P.cellsOf e = 1) (h : DataW.trod enc P w base spare held fuel t [v] = some x) :
    ∃ (a : Option Addr) (zs : List Nat) (cap : Nat), v = .slice a zs.length cap ∧ Fls w a zs ∧ Words zs ∧ zs.length ≤ maxLen ∧ (a = none → zs = [] ∧ cap = 0) := by
  obtain ⟨a, zs, cap, hv, h1, h2, h3⟩ := open_fls ht he hc h
  refine ⟨a, zs, cap, hv, h1, h2, h3, fun ha => ?_⟩
  subst ha
  rcases open_slice1 ht hc h with ⟨k1, _⟩ | ⟨a', len, cap', m, n, V, D, Pl, k1, _⟩
  · simp only [List.cons.injEq, and_true] at k1
    rw [k1] at hv
    simp only [Value.slice.injEq] at hv
    exact ⟨List.eq_nil_of_length_eq_zero hv.2.1.symm, hv.2.2.symm⟩
  · simp only [List.cons.injEq, and_true] at k1
    rw [k1] at hv
    simp at hv
end
end Go.Proofs.Ytdljnhdhigbefaa

/- An argument opened: a float. No condition. -/
namespace Go.Proofs.Ytdljnhdhigbefaa
open Go Go.RowKit Go.ChangeShapes Go.WideShapes Go.Deep

section
variable {H : Type} {enc : TypeId × Value → H} {P : Program} {w : World} {base : Nat} {spare : Nat → Bool} {held : Bool}
theorem open_f64w {r : Reach} {b0 : Nat} {t : TypeId} {v : Value} {d : DataW H} {ps : List MemPlace} (ht : P.underlying t = some (.float .f64)) (hval : Value.okWide P w r b0 t v) (hd : DataW.Trod enc P w base spare held t v d ps) :
    ∃ n, v = .float .f64 n ∧ d = .lit (.float .f64 n) ∧ ps = [] ∧ n < 18446744073709551616 := by
  obtain ⟨n, rfl⟩ : ∃ n, v = .float .f64 n := by
    simp only [Value.okWide, ht, Cell.okWide] at hval
    cases v <;> simp_all [Cell.ok]
  obtain ⟨fuel, hf⟩ := hd
  obtain ⟨n', h, hx, hw⟩ := trod_f64 ht hf
  simp [Value.cells] at h
  subst h
  simp only [Prod.mk.injEq] at hx
  exact ⟨n, rfl, hx.1, hx.2, hw⟩
end
end Go.Proofs.Ytdljnhdhigbefaa
