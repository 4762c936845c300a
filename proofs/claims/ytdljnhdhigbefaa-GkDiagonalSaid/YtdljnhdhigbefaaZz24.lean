/- 'GkDiagonal': the law's call (printed by gen_du.py). No condition but on lengths. -/
import Derived.Test.YtdljnhdhigbefaaDtZ
import Derived.Test.YtdljnhdhigbefaaZz2
import Derived.Deep.Slices
import Derived.Laws.Cover2
import Derived.Lib.SmallJoins
import Derived.ProofKit
namespace Go.Proofs.Ytdljnhdhigbefaa
open Go Go.RowKit
set_option maxRecDepth 1000000

/-- The search goes on behind a float that is none. -/
theorem takeD_next {s y : Nat} {l r : List Nat} {k : Nat} (hk : k < l.length) (hy : l.getD k 0 = y) (h : takeD s (l.drop k) = some r) (hq : feq (fabs y) s = false) : ∃ r', takeD s (l.drop (k + 1)) = some r' ∧ l.take k ++ r = l.take (k + 1) ++ r' := by
  have hd : l.drop k = y :: l.drop (k + 1) := by
    rw [← hy, getD_get l hk, List.drop_eq_getElem_cons hk]
  rw [hd, takeD, hq, if_neg (by decide)] at h
  obtain ⟨r', h1, h2⟩ := Option.map_eq_some_iff.1 h
  refine ⟨r', h1, ?_⟩
  rw [← h2, List.take_succ_eq_append_getElem hk, List.append_assoc, ← hy, getD_get l hk]
  rfl
theorem takeD_here {s y : Nat} {l r : List Nat} {k : Nat} (hk : k < l.length) (hy : l.getD k 0 = y) (h : takeD s (l.drop k) = some r) (hq : feq (fabs y) s = true) : l.take k ++ r = l.eraseIdx k := by
  have hd : l.drop k = y :: l.drop (k + 1) := by
    rw [← hy, getD_get l hk, List.drop_eq_getElem_cons hk]
  rw [hd, takeD, hq, if_pos rfl] at h
  injection h with h
  rw [← h, List.eraseIdx_eq_take_drop_succ]
theorem takeD_in {s : Nat} {l r : List Nat} {k : Nat} (h : takeD s (l.drop k) = some r) : k < l.length := by
  rcases Nat.lt_or_ge k l.length with h1 | h1
  · exact h1
  · rw [List.drop_eq_nil_of_le h1] at h; cases h
theorem takeD_len (s : Nat) : ∀ (l r : List Nat), takeD s l = some r → r.length ≤ l.length
  | [], r, h => by cases h
  | y :: l, r, h => by
    unfold takeD at h
    split at h
    · injection h with h; rw [← h]; simp
    · obtain ⟨r', h1, h2⟩ := Option.map_eq_some_iff.1 h
      rw [← h2]
      have := takeD_len s l r' h1
      simpa using this
theorem takeD_mem (s : Nat) : ∀ (l r : List Nat), takeD s l = some r → ∀ x ∈ r, x ∈ l
  | [], r, h => by cases h
  | y :: l, r, h => fun x hx => by
    unfold takeD at h
    split at h
    · injection h with h; rw [← h] at hx; exact List.mem_cons_of_mem _ hx
    · obtain ⟨r', h1, h2⟩ := Option.map_eq_some_iff.1 h
      rw [← h2] at hx
      rcases List.mem_cons.1 hx with rfl | h3
      · exact List.mem_cons_self ..
      · exact List.mem_cons_of_mem _ (takeD_mem s l r' h1 x h3)
theorem takeAll_cons {ss l l' : List Nat} {i : Nat} (hi : i < ss.length) (h : takeAll (ss.drop i) l = some l') : ∃ l2, takeD (ss.getD i 0) l = some l2 ∧ takeAll (ss.drop (i + 1)) l2 = some l' := by
  rw [List.drop_eq_getElem_cons hi, ← getD_get ss hi, takeAll] at h
  exact Option.bind_eq_some_iff.1 h
set_option maxHeartbeats 32000000 in
theorem gkDiagonal_any (w : World) (da : Option Addr) (d : List Nat) (dc : Nat) (hd : Fls w da d) (hda : da = none → d = [] ∧ dc = 0) (hWd : Words d) (hld : d.length ≤ maxLen) :
    Calls Try.prog 5 #[.slice da d.length dc] w fun x w' => x = .returned (.bool true) ∧ Below w.heap.size w w' := by
  have HFi := Lib.hid (fun W (h : Below w.heap.size w W) => RFin12 W da d dc (hd.below h) hld)
  have HS := Lib.hid (fun W (h : Below w.heap.size w W) (ea : Addr) (k : Nat) (hk : k ≤ 512) (he : Fls W (some ea) (List.replicate k 0)) => gs_any W da (some ea) none none d (List.replicate k 0) [] [] dc k 0 0 0 d.length 0 d.length (hd.below h) he (FlsU.none0 _ _) (FlsU.none0 _ _) (fun k => (hda k).1) (fun h => by cases h) (fun _ => rfl) (fun _ => rfl) hWd (fun v hv => by rw [(List.mem_replicate.1 hv).2]; decide) (fun _ h => by cases h) (fun _ h => by cases h) hld (by rw [List.length_replicate]; unfold maxLen; omega) (Nat.zero_le _) (Nat.zero_le _))
  have HWD := Lib.hid hWd
  have HD := Lib.hid (And.intro hd hda)
  have HB := Lib.hid (Below.refl w.heap.size w)
  unfold maxLen at hld
  have hl9 : d.length ≤ 9223372036854775807 := by omega
  clear hd hda hWd hld
  by_cases hn : 20 < d.length
  case pos =>
    clear HS HFi
    go_enter Try.func5, Try.ntmps5
    go_wp2_with fail
    refine (known17_any _).mono ?_
    rintro e_ wz_ ⟨rfl, hb⟩
    replace HB := Lib.hid (below_step HB.out HB.out.size hb)
    clear hb
    dsimp only
    go_wp2_with fail
    go_ret
    exact ⟨rfl, HB.out⟩
  case neg =>
    by_cases h0 : d.length = 0
    case pos =>
      have h00 : (d.length : Int) = 0 := by omega
      clear HS HFi
      go_enter Try.func5, Try.ntmps5
      go_wp2_with fail
      refine (known17_any _).mono ?_
      rintro e_ wz_ ⟨rfl, hb⟩
      replace HB := Lib.hid (below_step HB.out HB.out.size hb)
      clear hb
      dsimp only
      go_wp2_with fail
      go_ret
      exact ⟨rfl, HB.out⟩
    case neg =>
      have h00 : ¬ (d.length : Int) = 0 := by omega
      have hn2 : ¬ (20 : Int) < (d.length : Int) := by omega
      cases hf : d.all ffin
      case false =>
        rw [hf] at HFi
        clear HS
        go_enter Try.func5, Try.ntmps5
        go_wp2_with fail
        refine (HFi.out _ HB.out).mono ?_
        rintro e_ w1_ ⟨rfl, hb⟩
        replace HB := Lib.hid (below_step HB.out HB.out.size hb)
        clear hb HFi
        dsimp only
        go_wp2_with fail
        refine (known17_any _).mono ?_
        rintro e_ wz_ ⟨rfl, hb⟩
        replace HB := Lib.hid (below_step HB.out HB.out.size hb)
        clear hb
        dsimp only
        go_wp2_with fail
        go_ret
        exact ⟨rfl, HB.out⟩
      case true =>
        rw [hf] at HFi
        have HFF := Lib.hid hf
        obtain ⟨k, hk⟩ : ∃ k, d.length = k + 1 := ⟨d.length - 1, by omega⟩
        have HK := Lib.hid (show d.length = k + 1 ∧ d.length ≤ 20 from ⟨hk, by omega⟩)
        clear hf hk
        go_enter Try.func5, Try.ntmps5
        go_wp2_with fail
        refine (HFi.out _ HB.out).mono ?_
        rintro e_ w1_ ⟨rfl, hb⟩
        replace HB := Lib.hid (below_step HB.out HB.out.size hb)
        clear hb HFi
        dsimp only
        go_upto_region 5 with (fail)
        obtain ⟨w2_, hw_⟩ : ∃ x, x = w1_.alloc (.cells #[.int .i64 0, .int .i64 d.length, .slice none 0 0] 26) := ⟨_, rfl⟩
        rw [← hw_]
        have hb : Below w1_.heap.size w1_ w2_ := hw_ ▸ (Below.refl _ _).alloc (Nat.le_refl _) _
        have X4 := Lib.hid (show Box w2_ w1_.heap.size [.int .i64 0, .int .i64 d.length, .slice none 0 0] from hw_ ▸ Box.newA w1_ [.int .i64 0, .int .i64 d.length, .slice none 0 0] _ rfl)
        replace HB := Lib.hid (below_step HB.out HB.out.size hb)
        clear hb hw_
        refine region5D_q _ _ _ _ _ _ _ _ _ _ _ _ _ _ _ _ _ _ _ _ _ _ _ _ _ _ _ _ _ _ _ _ _ _ _ _ _ _ _ _ _ _ _ _ _ _ _ _ _ _ _ _ _ _ _ _ _ _ _ _ _ _ _ _ _ _ _ _ _ _ _ _ _ _ _ _ _ _ _ _ _ _ _ _ _ _ _ _ _ _ _ _ _ _ _ _ _ _ _ _ _ _ _ _ _ _ _ da d dc _ k _ X4.out HK.out.2 HK.out.1 (fun W a h g => by have := HS.out W (below_step HB.out HB.out.size h) a k (by have := HK.out; omega) g; rw [List.length_replicate] at this; exact this) _ ?_
        intro u5 u6 u7 u8 u9 u30 u31 u32 u33 u34 u35 u36 u37 u38 u39 u40 u41 u42 u43 w3_ hcut
        obtain ⟨⟨a4, a5, a6, n4, c4, l5, c5, l6, c6, r5, k5, r6, k6, m4, code⟩, rfl, rfl, rfl, hs2, hb⟩ := hcut
        obtain ⟨g1, g2, g3, ss, l', g4, g5, g6, g7⟩ := diag_vals HK.out.1 (by have := HK.out; omega) HFF.out hs2
        dsimp only at g1 g2 g3 g5 ⊢
        replace HB := Lib.hid (below_step HB.out HB.out.size hb)
        subst g1 g2 g3
        have FA := Lib.hid g5
        have HV := Lib.hid g7
        have HT := Lib.hid g6
        have HSL := Lib.hid g4
        clear g4 g5 g6 g7 hs2 hb X4 HS HFF
        have t1 : ((d.length : Int) != (d.length : Int)) = false := bne_self_eq_false _
        go_upto_region 9 with (at_builtin; refine wpList_append_anyF rfl (.const (.slice none 0 0)) (.tmp 56) rfl w3_.heap.size _ [] rfl (OwnF.nil _ _) da d dc rfl (HD.out.1.below HB.out) HD.out.2 (by have := HK.out.2; simp; omega) (Nat.le_refl _) ?_; rintro v4 w4_ hO4 hb; rw [List.nil_append] at hO4)
        obtain ⟨g, cap, rfl, hL⟩ := LeftP.of hO4 (by intro h; have := HK.out.1; rw [h] at this; simp at this)
        have LP := Lib.hid hL
        have BB := Lib.hid hb
        clear hL hb hO4 t1 HD
        have hn20 : d.length ≤ 20 := HK.out.2
        go_wp2_with fail
        go_loopw [10, 11] (fun s10 s11 wr => ∃ (i : Nat) (l : List Nat), s10 = .slice (some ⟨g, 0, none⟩) l.length cap ∧ s11 = .int .i64 i ∧ i ≤ d.length ∧ l.length ≤ 20 ∧ Words l ∧ takeAll (ss.drop i) l = some l' ∧ LeftP wr w3_.heap.size g cap l ∧ Below w3_.heap.size w3_ wr) (fun _ s11 _ => d.length - (intOf s11).toNat)
        case atStart => exact ⟨0, d, rfl, rfl, Nat.zero_le _, hn20, HWD.out, HT.out, LP.out, BB.out⟩
        case round =>
          obtain ⟨i, l, rfl, rfl, hi, hll, hwl, hta, hL, hBB⟩ := hrel
          have HWL := Lib.hid hwl
          clear hwl
          replace LP := Lib.hid hL
          replace BB := Lib.hid hBB
          replace HT := Lib.hid hta
          clear hL hBB hta
          by_cases hlt : i < d.length
          case pos =>
            obtain ⟨l2, hd1, hd2⟩ := takeAll_cons (by rw [HSL.out]; exact hlt) HT.out
            obtain ⟨s, hs⟩ : ∃ s, s = ss.getD i 0 := ⟨_, rfl⟩
            rw [← hs] at hd1
            have HS1 := Lib.hid hs
            have HD1 := Lib.hid hd1
            have HD2 := Lib.hid hd2
            have HL2 := Lib.hid (And.intro (takeD_len _ _ _ hd1) (fun x hx => HWL.out x (takeD_mem _ _ _ hd1 x hx) : Words l2))
            clear hs hd1 hd2
            go_wp2_with fail
            go_loopw [10, 12, 13] (fun s10 s12 s13 wr => ∃ (kk : Nat) (fd : Bool) (q : List Nat), s10 = .slice (some ⟨g, 0, none⟩) q.length cap ∧ s12 = .bool fd ∧ s13 = .int .i64 kk ∧ kk ≤ 20 ∧ (fd = false → q = l ∧ ∃ r, takeD s (l.drop kk) = some r ∧ l.take kk ++ r = l2) ∧ (fd = true → q = l2) ∧ LeftP wr w3_.heap.size g cap q ∧ Below w3_.heap.size w3_ wr) (fun _ s12 s13 _ => 2 * (25 - (intOf s13).toNat) + (match s12 with | .bool true => 0 | _ => 1))
            case atStart => exact ⟨0, false, l, rfl, rfl, rfl, by omega, fun _ => ⟨rfl, l2, HD1.out, rfl⟩, fun h => (by cases h), LP.out, BB.out⟩
            case round =>
              obtain ⟨kk, fd, q, rfl, rfl, rfl, hkk, hfd, hfd2, hL, hBB⟩ := hrel
              replace LP := Lib.hid hL
              replace BB := Lib.hid hBB
              have HFD := Lib.hid hfd
              have HFD2 := Lib.hid hfd2
              clear hL hBB hfd hfd2
              cases fd
              case false =>
                obtain ⟨hq, r, hr1, hr2⟩ := HFD.out rfl
                subst hq
                have hkl := takeD_in hr1
                have HR := Lib.hid (And.intro hr1 hr2)
                clear hr1 hr2 HFD HFD2
                obtain ⟨yv, hy⟩ : ∃ yv, yv = q.getD kk 0 := ⟨_, rfl⟩
                have HYV := Lib.hid hy
                obtain ⟨bs, off, e2, hlb, hc⟩ := FA.out (by intro h; have := HSL.out; rw [h] at this; simp at this; omega)
                subst e2
                obtain ⟨ssx, cs⟩ := hc i s (by have h1 := HS1.out; have h2 := HSL.out; rw [h1, List.getD_eq_getElem?_getD, List.getElem?_eq_getElem (by omega)]; rfl)
                have HC := Lib.hid (show bs < w3_.heap.size ∧ w3_.cell? ⟨bs, off + i, none⟩ = some (.float .f64 (raw s ssx)) from ⟨hlb, cs⟩)
                clear hc cs hlb hy
                go_upto_region 16 with (fail)
                have hdr := below_drewN 1 (Below.refl wr.heap.size wr)
                replace LP := Lib.hid (show LeftP wr.drew w3_.heap.size g cap q from LP.out.below hdr)
                replace BB := Lib.hid (show Below w3_.heap.size w3_ wr.drew from below_step BB.out BB.out.size hdr)
                clear hdr
                obtain ⟨sy, cy⟩ := LP.out.at hkl
                rw [← HYV.out] at cy
                have cs : wr.drew.cell? ⟨bs, off + i, none⟩ = some (.float .f64 (raw s ssx)) := ((below_cells BB.out).1 _ _ HC.out.1).trans HC.out.2
                refine wp_region_items 9 [(true, 0), (true, 1), (true, 2), (true, 3), (true, 5), (true, 6), (true, 7), (true, 8), (false, 4)] (fun W => W.cell? ⟨g, kk, none⟩ = some (.float .f64 (raw yv sy)) ∧ W.cell? ⟨bs, off + i, none⟩ = some (.float .f64 (raw s ssx))) (by kernel_rfl) (by kernel_rfl) ⟨cy, cs⟩ ?_
                have HCY := Lib.hid (And.intro cy cs)
                generalize wr.drew = y0 at *
                clear cy cs
                iterate 8 (refine iW_take (v := ?_) rfl rfl ?_ ?_; rotate_left; (next => (intro w' hSw; (try dsimp only at hSw); go_simp; (try (rw [if_pos (by omega)]; go_simp)); (try with_reducible rfl))); (simp only [Act.put, List.setIfInBounds_toArray, List.set_cons_zero, List.set_cons_succ]))
                refine iW_mid rfl rfl ?_
                go_simp
                refine (RAbsF yv sy (HYV.out ▸ HWL.out.at kk) y0).mono ?_
                rintro e_ w5_ ⟨⟨s1, rfl⟩, rfl⟩
                refine ⟨HCY.out, ?_⟩
                refine iW_nil ?_
                go_simp
                cases hq : feq (fabs yv) s
                case false =>
                  obtain ⟨r', k1, k2⟩ := takeD_next hkl HYV.out.symm HR.out.1 hq
                  have HR2 := Lib.hid (show takeD s (q.drop (kk + 1)) = some r' ∧ q.take (kk + 1) ++ r' = l2 from ⟨k1, k2.symm.trans HR.out.2⟩)
                  clear k1 k2
                  go_wp2_with fail
                  refine NoPanic.normal ?_
                  go_wp2_with fail
                  go_roundw
                  case rel => exact ⟨kk + 1, false, q, rfl, rfl, by go_num, by omega, fun _ => ⟨rfl, r', HR2.out.1, HR2.out.2⟩, fun h => (by cases h), LP.out, BB.out⟩
                  case measure => simp [intOf]; omega
                case true =>
                  have HE := Lib.hid (show q.eraseIdx kk = l2 from (takeD_here hkl HYV.out.symm HR.out.1 hq).symm.trans HR.out.2)
                  go_wp2_with fail
                  refine NoPanic.normal ?_
                  go_upto_region 18 with (fail)
                  replace LP := Lib.hid (show LeftP y0.drew w3_.heap.size g cap q from LP.out.below (below_drewN 1 (Below.refl _ _)))
                  replace BB := Lib.hid (show Below w3_.heap.size w3_ y0.drew from below_step BB.out BB.out.size (below_drewN 1 (Below.refl _ _)))
                  refine wp_region_items 7 [(true, 0), (true, 1), (true, 2), (true, 3), (true, 4), (true, 5), (true, 6)] (fun _ => True) (by kernel_rfl) (by kernel_rfl) trivial ?_
                  generalize y0.drew = y1 at *
                  have hqc : q.length ≤ cap := by obtain ⟨_, _, _, _, _, h, _⟩ := LP.out; exact h
                  have hcm : cap ≤ 9223372036854775807 := by obtain ⟨_, _, _, _, _, _, _, _, _, h⟩ := LP.out; unfold maxLen at h; omega
                  have hkc : kk ≤ cap := by omega
                  obtain ⟨k1, hk1⟩ : ∃ k1, k1 = kk + 1 := ⟨_, rfl⟩
                  have hz1 : wrap64 ((kk : Int) + 1) = (k1 : Int) := by unfold wrap64; omega
                  have hz2 : IntKind.i64.wrap ((kk : Int) + 1) = (k1 : Int) := by rw [IntKind.wrap_i64]; omega
                  have hk2 : k1 ≤ q.length := by omega
                  have HK1 := Lib.hid hk1
                  clear hk1
                  have hkc1 : kk ≤ k1 := by have := HK1.out; omega
                  by_cases hce : cap = k1
                  case pos =>
                    subst hce
                    iterate 7 (refine iW_take (v := ?_) rfl rfl ?_ ?_; rotate_left; (next => (intro w' hSw; (try dsimp only at hSw); go_simp; (try (rw [if_pos (by omega)]; go_simp)); (try with_reducible rfl))); (simp only [Act.put, List.setIfInBounds_toArray, List.set_cons_zero, List.set_cons_succ]))
                    refine iW_nil ?_
                    go_simp
                    (refine wpList_append_cut rfl (.tmp 85) (.tmp 89) rfl w3_.heap.size g cap kk _ q hkl LP.out ⟨g, 0, none⟩ (.inr (by have := HK1.out; omega)) rfl (by first | (rw [← HK1.out]; rfl) | (rw [← HK1.out, Nat.sub_eq_zero_of_le hqc]; rfl)) ?_)
                    intro w6_ hL6 hb6
                    go_wp2_with fail
                    refine NoPanic.normal ?_
                    replace LP := Lib.hid hL6
                    replace BB := Lib.hid (BB.out.trans hb6)
                    clear hL6 hb6 hz1 hz2
                    rw [HE.out] at LP ⊢
                    go_wp2_with fail
                    go_roundw
                    case rel => exact ⟨kk + 1, true, l2, rfl, rfl, by go_num, by omega, fun h => (by cases h), fun _ => rfl, LP.out, BB.out⟩
                    case measure => simp [intOf]; omega
                  case neg =>
                    iterate 7 (refine iW_take (v := ?_) rfl rfl ?_ ?_; rotate_left; (next => (intro w' hSw; (try dsimp only at hSw); go_simp; (try (rw [if_pos (by omega)]; go_simp)); (try with_reducible rfl))); (simp only [Act.put, List.setIfInBounds_toArray, List.set_cons_zero, List.set_cons_succ]))
                    refine iW_nil ?_
                    go_simp
                    (refine wpList_append_cut rfl (.tmp 85) (.tmp 89) rfl w3_.heap.size g cap kk _ q hkl LP.out ⟨g, k1, none⟩ (.inl (by rw [HK1.out])) rfl (by first | (rw [← HK1.out]; rfl) | (rw [← HK1.out, Nat.sub_eq_zero_of_le hqc]; rfl)) ?_)
                    intro w6_ hL6 hb6
                    go_wp2_with fail
                    refine NoPanic.normal ?_
                    replace LP := Lib.hid hL6
                    replace BB := Lib.hid (BB.out.trans hb6)
                    clear hL6 hb6 hz1 hz2
                    rw [HE.out] at LP ⊢
                    go_wp2_with fail
                    go_roundw
                    case rel => exact ⟨kk + 1, true, l2, rfl, rfl, by go_num, by omega, fun h => (by cases h), fun _ => rfl, LP.out, BB.out⟩
                    case measure => simp [intOf]; omega
              case true =>
                have hq := HFD2.out rfl
                subst hq
                clear HFD HFD2
                obtain ⟨bs, off, e2, hlb, hc⟩ := FA.out (by intro h; have := HSL.out; rw [h] at this; simp at this; omega)
                subst e2
                have HB2 := Lib.hid BB.out
                obtain ⟨ssx, cs⟩ := hc i s (by have h1 := HS1.out; have h2 := HSL.out; rw [h1, List.getD_eq_getElem?_getD, List.getElem?_eq_getElem (by omega)]; rfl)
                replace cs := ((below_cells BB.out).1 _ _ hlb).trans cs
                by_cases hi0 : i = 0
                case pos =>
                  subst hi0
                  clear hc cs
                  by_cases hkq : kk < q.length
                  case pos =>
                    go_wp2_with fail
                    refine wp_region_nqb 17 (fun _ _ _ => False) (by kernel_rfl) (by kernel_rfl) ?_
                    intro C R hc hb' hb2 hd hR
                    simp only [List.take_succ_cons, List.take_zero]
                    repeat (
                      first
                        | (refine nqW_plain (fun K hK => ?_))
                        | (refine nqW_step (fun K hK => ?_); go_simp)
                      first
                        | (refine nq_move rfl ?_; go_simp; refine hK _ ?_; clear hK K)
                        | (refine nq_assign rfl ?_; go_simp; refine hK _ ?_; clear hK K)
                        | (refine nq_flt rfl rfl rfl rfl hd ?_; intro _; go_frame; refine hK _ ?_; clear hK K)
                        | (refine nq_same ?_; intro w' hw'; go_simp; (try go_bits); refine hK _ ?_; clear hK K hw' w')
                        | (refine nq_same ?_; intro w' hw'; go_simp; rw [if_pos (by omega)]; go_simp; (try go_bits); refine hK _ ?_; clear hK K hw' w')
                        | (go_simp; refine hK _ ?_; clear hK K))
                    refine nqW_nil (hR _ ?_)
                    clear hc hb' hb2 hd hR
                    intro w' hw'
                    simp only [List.drop]
                    replace LP := Lib.hid (LP.out.below hw')
                    replace BB := Lib.hid (below_step BB.out BB.out.size hw')
                    clear hw'
                    go_wp2_with fail
                    go_roundw
                    case rel => exact ⟨1, q, rfl, rfl, hlt, by have := HL2.out.1; omega, HL2.out.2, HD2.out, LP.out, BB.out⟩
                    case measure => simp [intOf]; omega
                  case neg =>
                    go_wp2_with fail
                    refine wp_region_nqb 17 (fun _ _ _ => False) (by kernel_rfl) (by kernel_rfl) ?_
                    intro C R hc hb' hb2 hd hR
                    simp only [List.take_succ_cons, List.take_zero]
                    repeat (
                      first
                        | (refine nqW_plain (fun K hK => ?_))
                        | (refine nqW_step (fun K hK => ?_); go_simp)
                      first
                        | (refine nq_move rfl ?_; go_simp; refine hK _ ?_; clear hK K)
                        | (refine nq_assign rfl ?_; go_simp; refine hK _ ?_; clear hK K)
                        | (refine nq_flt rfl rfl rfl rfl hd ?_; intro _; go_frame; refine hK _ ?_; clear hK K)
                        | (refine nq_same ?_; intro w' hw'; go_simp; (try go_bits); refine hK _ ?_; clear hK K hw' w')
                        | (refine nq_same ?_; intro w' hw'; go_simp; rw [if_pos (by omega)]; go_simp; (try go_bits); refine hK _ ?_; clear hK K hw' w')
                        | (go_simp; refine hK _ ?_; clear hK K))
                    refine nqW_nil (hR _ ?_)
                    clear hc hb' hb2 hd hR
                    intro w' hw'
                    simp only [List.drop]
                    replace LP := Lib.hid (LP.out.below hw')
                    replace BB := Lib.hid (below_step BB.out BB.out.size hw')
                    clear hw'
                    go_wp2_with fail
                    go_roundw
                    case rel => exact ⟨1, q, rfl, rfl, hlt, by have := HL2.out.1; omega, HL2.out.2, HD2.out, LP.out, BB.out⟩
                    case measure => simp [intOf]; omega
                case neg =>
                  obtain ⟨j, hj⟩ : ∃ j, i = j + 1 := ⟨i - 1, by omega⟩
                  have hj1 := (w64s hj (by omega)).1
                  have hj2 := (w64s hj (by omega)).2
                  have hjl : j < d.length := by omega
                  have hi1 : 0 < i := by omega
                  obtain ⟨tv, htv⟩ : ∃ tv, tv = ss.getD j 0 := ⟨_, rfl⟩
                  obtain ⟨st, ct⟩ := hc j tv (by rw [htv, List.getD_eq_getElem?_getD, List.getElem?_eq_getElem (by rw [HSL.out]; exact hjl)]; rfl)
                  replace ct := ((below_cells BB.out).1 _ _ hlb).trans ct
                  have hyx : flt tv s = false := by have := HV.out i hi1 hlt; rw [show i - 1 = j by omega, ← htv, ← HS1.out] at this; exact this
                  have hlb2 : bs < wr.heap.size := Nat.lt_of_lt_of_le hlb BB.out.size
                  clear hc htv hi0 hj hlb
                  by_cases hkq : kk < q.length
                  case pos =>
                    go_wp2_with fail
                    refine wp_region_nqb 17 (fun _ _ _ => False) (by kernel_rfl) (by kernel_rfl) ?_
                    intro C R hc hb' hb2 hd hR
                    simp only [List.take_succ_cons, List.take_zero]
                    repeat (
                      first
                        | (refine nqW_plain (fun K hK => ?_))
                        | (refine nqW_step (fun K hK => ?_); go_simp)
                      first
                        | (refine nq_move rfl ?_; go_simp; refine hK _ ?_; clear hK K)
                        | (refine nq_assign rfl ?_; go_simp; refine hK _ ?_; clear hK K)
                        | (refine nq_flt rfl rfl rfl rfl hd ?_; intro _; go_frame; refine hK _ ?_; clear hK K)
                        | (refine nq_same ?_; intro w' hw'; go_simp; (try go_bits); refine hK _ ?_; clear hK K hw' w')
                        | (refine nq_same ?_; intro w' hw'; go_simp; rw [if_pos (by omega)]; go_simp; (try go_bits); refine hK _ ?_; clear hK K hw' w')
                        | (go_simp; refine hK _ ?_; clear hK K))
                    refine nqW_nil (hR _ ?_)
                    clear hc hb' hb2 hd hR
                    intro w' hw'
                    simp only [List.drop]
                    replace LP := Lib.hid (LP.out.below hw')
                    replace BB := Lib.hid (below_step BB.out BB.out.size hw')
                    clear hw' ct cs hj1 hj2
                    go_wp2_with fail
                    go_roundw
                    case rel => exact ⟨i + 1, q, rfl, by go_num, hlt, by have := HL2.out.1; omega, HL2.out.2, HD2.out, LP.out, BB.out⟩
                    case measure => simp [intOf]; omega
                  case neg =>
                    go_wp2_with fail
                    refine wp_region_nqb 17 (fun _ _ _ => False) (by kernel_rfl) (by kernel_rfl) ?_
                    intro C R hc hb' hb2 hd hR
                    simp only [List.take_succ_cons, List.take_zero]
                    repeat (
                      first
                        | (refine nqW_plain (fun K hK => ?_))
                        | (refine nqW_step (fun K hK => ?_); go_simp)
                      first
                        | (refine nq_move rfl ?_; go_simp; refine hK _ ?_; clear hK K)
                        | (refine nq_assign rfl ?_; go_simp; refine hK _ ?_; clear hK K)
                        | (refine nq_flt rfl rfl rfl rfl hd ?_; intro _; go_frame; refine hK _ ?_; clear hK K)
                        | (refine nq_same ?_; intro w' hw'; go_simp; (try go_bits); refine hK _ ?_; clear hK K hw' w')
                        | (refine nq_same ?_; intro w' hw'; go_simp; rw [if_pos (by omega)]; go_simp; (try go_bits); refine hK _ ?_; clear hK K hw' w')
                        | (go_simp; refine hK _ ?_; clear hK K))
                    refine nqW_nil (hR _ ?_)
                    clear hc hb' hb2 hd hR
                    intro w' hw'
                    simp only [List.drop]
                    replace LP := Lib.hid (LP.out.below hw')
                    replace BB := Lib.hid (below_step BB.out BB.out.size hw')
                    clear hw' ct cs hj1 hj2
                    go_wp2_with fail
                    go_roundw
                    case rel => exact ⟨i + 1, q, rfl, by go_num, hlt, by have := HL2.out.1; omega, HL2.out.2, HD2.out, LP.out, BB.out⟩
                    case measure => simp [intOf]; omega
          case neg =>
            replace HB := Lib.hid (below_step HB.out HB.out.size BB.out)
            clear LP BB HT
            go_wp2_with fail
            refine (known17_any _).mono ?_
            rintro e_ wz_ ⟨rfl, hb⟩
            replace HB := Lib.hid (below_step HB.out HB.out.size hb)
            clear hb
            dsimp only
            go_wp2_with fail
            go_ret
            exact ⟨rfl, HB.out⟩
end Go.Proofs.Ytdljnhdhigbefaa

/- Arguments opened: slices of floats; a way up for results. No condition. -/
namespace Go.Proofs.Ytdljnhdhigbefaa
open Go Go.RowKit Go.ChangeShapes Go.WideShapes Go.Deep

section
variable {H : Type} {enc : TypeId × Value → H} {P : Program} {w : World} {base : Nat} {spare : Nat → Bool} {held : Bool}

theorem trod_f64 {fuel : Nat} {t : TypeId} {cs : List Value} {x : DataW H × List MemPlace} (ht : P.underlying t = some (.float .f64)) (h : DataW.trod enc P w base spare held fuel t cs = some x) : ∃ n, cs = [.float .f64 n] ∧ x = (.lit (.float .f64 n), []) ∧ n < 18446744073709551616 := by
  cases fuel with
  | zero => simp [DataW.trod] at h
  | succ n =>
    unfold DataW.trod at h
    rw [ht] at h
    split at h <;> simp_all
    rename_i k k' b hk
    subst hk
    obtain ⟨⟨rfl, hw⟩, rfl⟩ := h
    simp [Lit.wf] at hw
    exact hw

/-- A slice of floats: where it lies, its floats. -/
theorem open_fls {t e : TypeId} {fuel : Nat} {v : Value} {x : DataW H × List MemPlace} (ht : P.underlying t = some (.slice e)) (he : P.underlying e = some (.float .f64)) (hc : P.cellsOf e = 1) (h : DataW.trod enc P w base spare held fuel t [v] = some x) :
    ∃ (a : Option Addr) (zs : List Nat) (cap : Nat), v = .slice a zs.length cap ∧ Fls w a zs ∧ Words zs ∧ zs.length ≤ maxLen := by
  rcases open_slice1 ht hc h with ⟨h1, h2⟩ | ⟨a, len, cap, m, n, V, D, Pl, h1, hb, hl, hm, hmm, h2, hx⟩
  · simp only [List.cons.injEq, and_true] at h1
    subst h1
    exact ⟨none, [], 0, rfl, fun hz => absurd rfl hz, fun v hv => (by cases hv), Nat.zero_le _⟩
  · simp only [List.cons.injEq, and_true] at h1
    subst h1
    have hlm : len ≤ m := by rw [hmm]; split <;> omega
    obtain ⟨F, hF⟩ := choose_lt (α := Nat) (p := fun i x => w.cell? (a.add i) = some (.float .f64 x) ∧ x < 18446744073709551616) (n := len) (fun i hi => by
      obtain ⟨c, ht2⟩ := hx i (by omega)
      obtain ⟨x, hx1, _, hx2⟩ := trod_f64 he ht2
      simp only [List.cons.injEq, and_true] at hx1
      exact ⟨x, by rw [c, hx1], hx2⟩)
    refine ⟨some a, (List.range len).map F, cap, by simp, ?_, ?_, by simp; omega⟩
    · intro hz
      have hlen : 0 < len := by
        cases len with
        | zero => exact absurd rfl hz
        | succ n => omega
      have h0 := (hF 0 hlen).1
      obtain ⟨b, off, spot⟩ := a
      have hsp : spot = none ∧ b < w.heap.size := by
        unfold Addr.add World.cell? at h0
        simp only [if_true] at h0
        cases hh : w.heap[b]? with
        | none => rw [hh] at h0; cases h0
        | some o =>
          rw [hh] at h0
          refine ⟨?_, (Array.getElem?_eq_some_iff.1 hh).1⟩
          cases o with
          | cells c T r => simp only [] at h0; cases spot with
            | none => rfl
            | some s => simp at h0
          | _ => simp at h0
      obtain ⟨rfl, hbl⟩ := hsp
      refine ⟨b, off, rfl, hbl, fun i v hv => ?_⟩
      simp only [List.getElem?_map, Option.map_eq_some_iff] at hv
      obtain ⟨j, hj, rfl⟩ := hv
      have hi : i < len := by
        by_cases hi : i < len
        · exact hi
        · rw [List.getElem?_eq_none (by simp; omega)] at hj; cases hj
      rw [List.getElem?_range hi] at hj
      cases hj
      have := (hF i hi).1
      have ha : (Addr.add ⟨b, off, none⟩ i) = ⟨b, off + i, none⟩ := by
        unfold Addr.add
        split
        · subst_vars; rfl
        · rfl
      rw [ha] at this
      obtain ⟨s, hs⟩ := raw_self (hF i hi).2
      exact ⟨s, by rw [this, ← hs]⟩
    · intro v hv
      simp only [List.mem_map, List.mem_range] at hv
      obtain ⟨i, hi, rfl⟩ := hv
      exact (hF i hi).2
end
end Go.Proofs.Ytdljnhdhigbefaa

/- A law's row closed: the result is true, nothing that was there has turned, each argument reads as it did. No condition. -/
namespace Go.Proofs.Ytdljnhdhigbefaa
open Go Go.RowKit Go.ChangeShapes Go.WideShapes

section
variable {H : Type} {enc : TypeId × Value → H} {P : Program}

theorem trodAll_stays (hl : laidOutB P = true) {W W' : World} {sp : Nat → Bool} : ∀ {ts : List TypeId} {vs : List Value} {ds : List (DataW H)} {ps : List MemPlace},
    ts.all (fun t => P.readableRec t && decide (t < P.types.size)) = true → DataW.TrodAll enc P W 0 (fun _ => true) true ts vs ds ps → (∀ p ∈ ps, W.sameAt W' p) → (∀ p ∈ ps, sp p.block = true) → DataW.TrodAll enc P W' 0 sp true ts vs ds ps
  | [], _, _, _, _, h, _, _ => by
    obtain ⟨rfl, rfl, rfl⟩ := trodAll_nil h
    rfl
  | t :: ts, _, _, _, ht, h, h1, h2 => by
    obtain ⟨v, vs, d, ds, p, q, rfl, rfl, rfl, hd, hr⟩ := trodAll_cons h
    simp only [List.all_cons, Bool.and_eq_true, decide_eq_true_eq] at ht
    refine ⟨p, q, WideElems.Trod_stays hl ht.1.1 ht.1.2 hd (fun x hx => h1 x (by simp [hx])) (fun x hx => h2 x (by simp [hx])), trodAll_stays hl ht.2 hr (fun x hx => h1 x (by simp [hx])) (fun x hx => h2 x (by simp [hx])), rfl⟩

/-- What a law's row asks in the end. -/
theorem post_of_below {f : Func} {s : ChangeSpec} {apart fresh handsOn again : Bool} {W W' : World} {args : Array Value} {ds : List (DataW H)} {before : List MemPlace} {tb : TypeId}
    (hl : laidOutB P = true) (hread : f.params.toList.all (fun t => P.readableRec t && decide (t < P.types.size)) = true) (hv : s.vars = [])
    (hW : DataW.Whole enc P f.params.toList s.vars apart W args.toList ds [] before)
    (hs : s.fn H ds = { results := [.lit (.bool true)], args := ds }) (hb : Below W.heap.size W W') (hr : f.resultTypes = #[tb]) (htb : P.underlying tb = some .bool) :
    s.post enc P f apart fresh handsOn again W args (.bool true) W' := by
  have hlt : ∀ p ∈ before, p.block < W.heap.size := fun p hp => hW.lt p hp
  have hsame : ∀ p ∈ before, W.sameAt W' p := fun p hp => hb.same (hlt p hp)
  have hW0 := hW
  obtain ⟨p, q, hA, hV, rfl, hz, hn⟩ := hW0
  have hq : q = [] := by rw [hv] at hV; exact hV
  subst hq
  rw [List.append_nil] at hlt hsame hz hn
  have hres : ∀ (b : Nat) (sp : Nat → Bool) (hd : Bool), DataW.TrodAll enc P W' b sp hd f.resultTypes.toList ((Value.bool true).resultList f.resultTypes.size) (s.fn H (ds ++ [])).results [] := by
    intro b sp hd
    rw [List.append_nil, hs, hr]
    exact trodAll_mk1 (shut_bool htb _)
  have hargs : ∀ sp : Nat → Bool, (∀ x ∈ p, sp x.block = true) → DataW.TrodAll enc P W' 0 sp true f.params.toList args.toList (s.fn H (ds ++ [])).args p := by
    intro sp hsp
    rw [List.append_nil, hs]
    exact trodAll_stays hl hread hA hsame hsp
  have hvars : ∀ sp : Nat → Bool, DataW.TrodVars enc P W' sp s.vars (s.fn H (ds ++ [])).vars [] := by
    intro sp
    rw [List.append_nil, hs, hv]
    rfl
  have hold : ∀ x ∈ p, (fun b => decide (b < W.heap.size)) x.block = true := fun x hx => by simpa using hlt x hx
  refine ⟨ds, [], p ++ [], [], p, [], hW, hres _ _ _, hargs _ hold, hvars _, hb.frame _, fun _ => ?_⟩
  refine ⟨?_, _, _, ([] ++ p) ++ [], ⟨[] ++ p, [], trodAll_append (hargs _ (fun _ _ => rfl)) (hres _ _ _), hvars _, rfl, ?_, ?_⟩, ?_⟩
  · exact ok_one hr rfl (okWide_bool_mk htb _)
  · intro b off hp
    have h1 := hlt (MemPlace.cell b off) (by simpa using hp)
    rw [hb.frozen (p := ⟨b, off, none⟩) h1]
    exact hz b off (by simpa using hp)
  · intro ha
    have := hn ha
    simpa using this
  · intro x hx _
    simpa using hx
end
end Go.Proofs.Ytdljnhdhigbefaa

/- Arguments opened: slices of floats, nil told. No condition. -/
namespace Go.Proofs.Ytdljnhdhigbefaa
open Go Go.RowKit Go.ChangeShapes Go.WideShapes Go.Deep
section
variable {H : Type} {enc : TypeId × Value → H} {P : Program} {w : World} {base : Nat} {spare : Nat → Bool} {held : Bool}
/-- A slice of floats: where it lies, its floats; a nil one has none. -/
theorem open_inf {t e : TypeId} {fuel : Nat} {v : Value} {x : DataW H × List MemPlace} (ht : P.underlying t = some (.slice e)) (he : P.underlying e = some (.float .f64)) (hc : P.cellsOf e = 1) (h : DataW.trod enc P w base spare held fuel t [v] = some x) :
    ∃ (a : Option Addr) (zs : List Nat) (cap : Nat), v = .slice a zs.length cap ∧ Fls w a zs ∧ Words zs ∧ zs.length ≤ maxLen ∧ (a = none → zs = [] ∧ cap = 0) := by
  obtain ⟨a, zs, cap, hv, h1, h2, h3⟩ := open_fls ht he hc h
  refine ⟨a, zs, cap, hv, h1, h2, h3, fun ha => ?_⟩
  subst ha
  rcases open_slice1 ht hc h with ⟨k1, _⟩ | ⟨a', len, cap', m, n, V, D, Pl, k1, _⟩
  · simp only [List.cons.injEq, and_true] at k1
    rw [k1] at hv
    simp only [Value.slice.injEq] at hv
    exact ⟨List.eq_nil_of_length_eq_zero hv.2.1.symm, hv.2.2.symm⟩
  · simp only [List.cons.injEq, and_true] at k1
    rw [k1] at hv
    simp at hv
end
end Go.Proofs.Ytdljnhdhigbefaa

/- An argument opened: a float. No condition. -/
namespace Go.Proofs.Ytdljnhdhigbefaa
open Go Go.RowKit Go.ChangeShapes Go.WideShapes Go.Deep

section
variable {H : Type} {enc : TypeId × Value → H} {P : Program} {w : World} {base : Nat} {spare : Nat → Bool} {held : Bool}
theorem open_f64w {r : Reach} {b0 : Nat} {t : TypeId} {v : Value} {d : DataW H} {ps : List MemPlace} (ht : P.underlying t = some (.float .f64)) (hval : Value.okWide P w r b0 t v) (hd : DataW.Trod enc P w base spare held t v d ps) :
    ∃ n, v = .float .f64 n ∧ d = .lit (.float .f64 n) ∧ ps = [] ∧ n < 18446744073709551616 := by
  obtain ⟨n, rfl⟩ : ∃ n, v = .float .f64 n := by
    simp only [Value.okWide, ht, Cell.okWide] at hval
    cases v <;> simp_all [Cell.ok]
  obtain ⟨fuel, hf⟩ := hd
  obtain ⟨n', h, hx, hw⟩ := trod_f64 ht hf
  simp [Value.cells] at h
  subst h
  simp only [Prod.mk.injEq] at hx
  exact ⟨n, rfl, hx.1, hx.2, hw⟩
end
end Go.Proofs.Ytdljnhdhigbefaa
