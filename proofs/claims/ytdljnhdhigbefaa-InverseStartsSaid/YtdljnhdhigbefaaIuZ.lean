/- Layer 14, the program: all vectors (printed by gen_iu.py). No condition but on lengths, and what is told of each vector. -/
import Derived.Test.YtdljnhdhigbefaaItZ
namespace Go.Proofs.Ytdljnhdhigbefaa
open Go Go.RowKit
set_option maxRecDepth 1000000
set_option linter.unusedSimpArgs false
set_option linter.unusedVariables false

theorem placeI {i j r c : Nat} (hi : i < r) (hj : j < c) : i * c + j < r * c := Nat.lt_of_lt_of_le (by omega : i * c + j < i * c + c) (by rw [← Nat.succ_mul]; exact Nat.mul_le_mul_right _ hi)
theorem idxI {i k j N PP Q : Nat} (hP : PP = i * k) (hQ : Q = PP + j) (hlt : Q < N) (hN : N ≤ 262144) : IntKind.i64.wrap ((i : Int) * (k : Int)) = (PP : Int) ∧ IntKind.i64.wrap ((PP : Int) + (j : Int)) = (Q : Int) ∧ (0 : Int) ≤ (Q : Int) ∧ (Q : Int) < (N : Int) ∧ (Q : Int).toNat = Q := by
  have h : (i : Int) * (k : Int) = (PP : Int) := by rw [hP]; push_cast; rfl
  rw [h]
  clear h hP
  refine ⟨by rw [IntKind.wrap_i64]; omega, by rw [IntKind.wrap_i64]; omega, by omega, by omega, by omega⟩
theorem w64I {x : Int} (m : Nat) (e : x = (m : Int)) (h : m ≤ 9223372036854775807) : wrap64 x = x := by subst e; unfold wrap64; omega
set_option maxHeartbeats 32000000 in
theorem Vectors_of (w : World) (da ea ma : Option Addr) (ds es ws : List Nat) (dc ec mc n m k : Nat) (hdl : ds.length = n) (hel : es.length = m) (hkl : ws.length = k) (hT : TrI w da ea ds es dc ec) (hM : Fls w ma ws) (hW : Words ws) (hv : valI ds es ws = 0) (OKX : Nat → Prop) (hS : n ≠ 0 → VecSpec w da ea ds es dc ec n m OKX) (hN : ∀ x, OKX x → isnan x = false ∧ x < 18446744073709551616) (hX : ∀ j, j < k → (vcsL ds es ws (cluI ds es ws) j).ok = true → OKX (nxtX ds es ws (cluI ds es ws) j (vcsL ds es ws (cluI ds es ws) j).x)) :
    Calls Try.prog 33 #[.agg #[.slice da n dc, .slice ea m ec], .slice ma k mc] w fun e w' => ((vcsL ds es ws (cluI ds es ws) k).ok = true → ∃ D, e = .returned (.tuple #[.agg #[.int .i64 n, .int .i64 k, .slice (some ⟨D, 0, none⟩) (n * k) (n * k)], .int .i64 ((vcsL ds es ws (cluI ds es ws) k).steps : Nat), .int .i64 0]) ∧ Flb w' D (datI (vcsL ds es ws (cluI ds es ws) k).made n k k)) ∧ ((vcsL ds es ws (cluI ds es ws) k).ok = false → e = .returned (.tuple #[.agg #[.int .i64 0, .int .i64 0, .slice none 0 0], .int .i64 ((vcsL ds es ws (cluI ds es ws) k).steps : Nat), .int .i64 7])) ∧ Below w.heap.size w w' := by
  have ok := valI_zero hv
  have HLN := Lib.hid (show n ≤ 512 ∧ m = n - 1 ∧ k ≤ n ∧ ds.length = n ∧ es.length = m ∧ ws.length = k from ⟨by have := ok.n; omega, by have := ok.m; omega, by have := ok.k; omega, hdl, hel, hkl⟩)
  have hn9 : n ≤ 512 := HLN.out.1
  have hk9 : k ≤ 512 := by have := HLN.out.2.2.1; omega
  have H1 := Lib.hid (fun (W : World) (hW : Below w.heap.size w W) => by
    have h := Clusters_ok W da ea ma ds es ws dc ec mc (hT.below hW) (hM.below hW) hv
    rw [hdl, hel, hkl] at h
    exact h)
  have H2 := Lib.hid (fun (W : World) (hW : Below w.heap.size w W) => by
    have h := isize_any W da ea ds es dc ec (hT.D.below hW) (hT.E.below hW) hT.d0 hT.e0 (by omega) (by have := HLN.out.2.1; omega) hT.W ok.de
    rw [hdl, hel] at h
    exact h)
  have HM := Lib.hid (fun (W : World) (hW : Below w.heap.size w W) => hM.below hW)
  have HNX := Lib.hid (show ∀ j, isnan (ws.getD j 0) = false from fin_numI ok.w)
  obtain ⟨c, hc⟩ : ∃ c, c = cluI ds es ws := ⟨_, rfl⟩
  have HCL := Lib.hid (show c.length = k ∧ ∀ j, j < k → c.getD j 0 ≤ j from by
    rw [hc]
    unfold cluI
    rw [hkl]
    exact ⟨cluL_len _ _ _, fun j hj => cluL_le _ _ _ _ hj⟩)
  rw [← hc] at H1 hX ⊢
  have HX := Lib.hid hX
  have HSP := Lib.hid hS
  have HN := Lib.hid hN
  obtain ⟨VF, hVF⟩ : ∃ v, v = vcsL ds es ws c k := ⟨_, rfl⟩
  rw [← hVF]
  have HVF := Lib.hid hVF
  clear hc hX hS hN hT hM hW hv hdl hel hkl ok hVF
  have x1 : Box ((w.alloc (.cells #[.slice da n dc, .slice ea m ec] 54)).alloc (.cells #[.int .i64 0, .int .i64 0, .slice none 0 0] 26)) w.heap.size [.slice da n dc, .slice ea m ec] := (Box.newA w [.slice da n dc, .slice ea m ec] _ rfl).alloc _
  have x2 : Box ((w.alloc (.cells #[.slice da n dc, .slice ea m ec] 54)).alloc (.cells #[.int .i64 0, .int .i64 0, .slice none 0 0] 26)) (w.heap.size + 1) [.int .i64 0, .int .i64 0, .slice none 0 0] := Box.newA _ [.int .i64 0, .int .i64 0, .slice none 0 0] _ (by simp)
  have hB0 : Below w.heap.size w ((w.alloc (.cells #[.slice da n dc, .slice ea m ec] 54)).alloc (.cells #[.int .i64 0, .int .i64 0, .slice none 0 0] 26)) := ((Below.refl _ _).alloc (Nat.le_refl _) _).alloc (by simp) _
  obtain ⟨w2, hw2⟩ : ∃ W, W = ((w.alloc (.cells #[.slice da n dc, .slice ea m ec] 54)).alloc (.cells #[.int .i64 0, .int .i64 0, .slice none 0 0] 26)) := ⟨_, rfl⟩
  rw [← hw2] at x1 x2 hB0
  have X1 := Lib.hid x1
  have X2 := Lib.hid x2
  have B2 := Lib.hid hB0
  clear x1 x2 hB0
  go_enter Try.func33, Try.ntmps33
  go_upto_region 1 with (fail)
  rw [← hw2]
  clear hw2
  obtain ⟨q1, q2, q3⟩ := X1.out.facts
  go_wp2_with fail
  refine (H1.out _ B2.out).mono ?_
  rintro e w3 ⟨⟨cv, rfl, hO⟩, hb⟩
  obtain ⟨ca, cb, cc, rfl, hcc, _, hcb, _, hcn, _, hcx⟩ := OwnC.form hO
  rw [intsV_len, HCL.out.1]
  have CI := Lib.hid (show (k ≠ 0 → ca = some ⟨cb, 0, none⟩ ∧ cb < w3.heap.size ∧ w2.heap.size ≤ cb) ∧ ∀ j, j < k → w3.cell? ⟨cb, j, none⟩ = some (.int .i64 ((c.getD j 0 : Nat) : Int)) from ⟨fun h => by
    obtain ⟨e1, e2⟩ := hcn (fun e => h (by have h1 := intsV_len c; rw [e, HCL.out.1] at h1; exact h1.symm))
    exact ⟨e1, e2, hcb⟩, fun j hj => hcx j _ (intsV_at (by rw [HCL.out.1]; exact hj))⟩)
  have Y1 := Lib.hid (X1.out.below hb)
  have Y2 := Lib.hid (X2.out.below hb)
  have B3 := Lib.hid (below_step B2.out B2.out.size hb)
  clear q1 q2 q3 hb hO hcc hcb hcn hcx X1 X2 B2 H1
  obtain ⟨q1, q2, q3⟩ := Y1.out.facts
  dsimp only
  go_upto_region 5 with (fail)
  have hPP : n * k ≤ 262144 := by have := Nat.mul_le_mul hn9 hk9; omega
  have hmk := run_New n k hPP
  have hw1 : wrap64 ((n : Int) * (k : Int)) = (n : Int) * (k : Int) := w64I (n * k) (Int.natCast_mul n k).symm (by omega)
  go_upto_region 6 with (fail)
  have hfd : Flb (w3.alloc (.cells (Array.replicate (n * k) (Value.float .f64 0)) 40)) w3.heap.size (List.replicate (n * k) 0) := by have h := flb_mk w3 (n * k); simpa using h
  have hba : Below w3.heap.size w3 (w3.alloc (.cells (Array.replicate (n * k) (Value.float .f64 0)) 40)) := (Below.refl _ _).alloc (Nat.le_refl _) _
  have hfm : Flb ((w3.alloc (.cells (Array.replicate (n * k) (Value.float .f64 0)) 40)).alloc (.cells #[.int .i64 n, .int .i64 k, .slice (some ⟨w3.heap.size, 0, none⟩) (n * k) (n * k)] 26)) w3.heap.size (List.replicate (n * k) 0) := hfd.below ((Below.refl _ _).alloc (Nat.le_refl _) _)
  have hbm : Box ((w3.alloc (.cells (Array.replicate (n * k) (Value.float .f64 0)) 40)).alloc (.cells #[.int .i64 n, .int .i64 k, .slice (some ⟨w3.heap.size, 0, none⟩) (n * k) (n * k)] 26)) (w3.heap.size + 1) [.int .i64 n, .int .i64 k, .slice (some ⟨w3.heap.size, 0, none⟩) (n * k) (n * k)] := Box.newA _ [.int .i64 n, .int .i64 k, .slice (some ⟨w3.heap.size, 0, none⟩) (n * k) (n * k)] _ (by simp)
  have hb5 : Below w3.heap.size w3 ((w3.alloc (.cells (Array.replicate (n * k) (Value.float .f64 0)) 40)).alloc (.cells #[.int .i64 n, .int .i64 k, .slice (some ⟨w3.heap.size, 0, none⟩) (n * k) (n * k)] 26)) := hba.alloc (by simp) _
  obtain ⟨w5, hw5⟩ : ∃ W, W = ((w3.alloc (.cells (Array.replicate (n * k) (Value.float .f64 0)) 40)).alloc (.cells #[.int .i64 n, .int .i64 k, .slice (some ⟨w3.heap.size, 0, none⟩) (n * k) (n * k)] 26)) := ⟨_, rfl⟩
  obtain ⟨D, hD⟩ : ∃ P, P = w3.heap.size := ⟨_, rfl⟩
  rw [← hw5] at hfm hbm hb5 ⊢
  rw [← hD] at hfm hbm CI ⊢
  have HDB := Lib.hid (show D < w5.heap.size ∧ w3.heap.size = D ∧ w.heap.size ≤ D ∧ D + 1 < w5.heap.size ∧ w.heap.size + 1 < D from ⟨hfm.lt, hD.symm, by rw [hD]; exact B3.out.size, hbm.lt, by rw [hD]; exact Y2.out.lt⟩)
  have HBW := Lib.hid (show ∀ W, Bls [D] w5.heap.size w5 W → Below D w3 W from fun W h => by
    have h1 := hb5
    rw [← hD] at h1
    exact h1.trans ((h.mono (Nat.le_of_lt HDB.out.1)).below (fun x hx => by rw [List.mem_singleton.1 hx]; exact Nat.le_refl _)))
  have HBX := Lib.hid (show ∀ W, Bls [D] w5.heap.size w5 W → Below w.heap.size w W from fun W h => B3.out.trans ((HBW.out W h).mono HDB.out.2.2.1))
  have HTB := Lib.hid (show ∀ W, Bls [D] w5.heap.size w5 W → Box W w.heap.size [.slice da n dc, .slice ea m ec] from fun W h => Y1.out.below (by rw [HDB.out.2.1]; exact HBW.out W h))
  have HZB := Lib.hid (show ∀ W, Bls [D] w5.heap.size w5 W → Box W (w.heap.size + 1) [.int .i64 0, .int .i64 0, .slice none 0 0] from fun W h => Y2.out.below (by rw [HDB.out.2.1]; exact HBW.out W h))
  have HMB := Lib.hid (show ∀ W, Bls [D] w5.heap.size w5 W → Box W (D + 1) [.int .i64 n, .int .i64 k, .slice (some ⟨D, 0, none⟩) (n * k) (n * k)] from fun W h => hbm.bls h HDB.out.2.2.2.1 (by simp))
  have HCI := Lib.hid (show ∀ W j, Bls [D] w5.heap.size w5 W → j < k → W.cell? ⟨cb, j, none⟩ = some (.int .i64 ((c.getD j 0 : Nat) : Int)) from fun W j h hj => by
    obtain ⟨_, hc2, _⟩ := CI.out.1 (by omega)
    exact ((below_cells (HBW.out W h)).1 _ _ hc2).trans (CI.out.2 j hj))
  have G0 := Lib.hid (show VcM w5 w5 D n (datI [] n k 0) (.slice none 0 0) [] from ⟨hfm, Bls.refl _ _ _, HDB.out.1, [], OwnC.nil _ _, rfl, fun i l hi => by simp at hi⟩)
  clear hfd hba hfm hbm hb5 hw5 hD hPP hmk hw1 q1 q2 q3 Y1 Y2 B3
  go_wp2_with fail
  go_loopw [11, 12, 13, 44] (fun s11 s12 s13 s44 wr => ∃ (j : Nat) (v : VcS), v = vcsL ds es ws c j ∧ s12 = .int .i64 (v.steps : Nat) ∧ s13 = .float .f64 v.x ∧ s44 = .int .i64 j ∧ j ≤ k ∧ v.ok = true ∧ VcM w5 wr D n (datI v.made n k j) s11 v.made) (fun _ _ _ s44 _ => k - (intOf s44).toNat)
  case atStart => exact ⟨0, _, rfl, rfl, rfl, rfl, Nat.zero_le _, rfl, G0.out⟩
  case round =>
    obtain ⟨j, v, hv, rfl, rfl, rfl, hj, hok, hG⟩ := hrel
    have G := Lib.hid hG
    have HV := Lib.hid hv
    have HOK := Lib.hid hok
    have hst : v.steps ≤ 1536 := by have := vcsL_steps ds es ws c j; rw [← hv] at this; omega
    have HML := Lib.hid (show v.made.length = j from by rw [hv] at hok ⊢; exact vcsL_made _ _ _ _ _ hok)
    clear hG hv hok G0
    by_cases hlt : j < k
    case neg =>
      have hjk : k = j := by omega
      have HE := Lib.hid (show VF = v from by rw [HVF.out, HV.out, hjk])
      have GF := Lib.hid (show VcM w5 wr D n (datI v.made n k k) u11 v.made from hjk ▸ G.out)
      clear hj hjk G
      have h0 : ¬ (j : Int) < (k : Int) := by omega
      obtain ⟨f1, f2, f3⟩ := (HMB.out _ GF.out.bl).facts
      obtain ⟨z1, z2, z3⟩ := (HZB.out _ GF.out.bl).facts
      go_wp2_with fail
      have hbz := (HZB.out _ GF.out.bl).put3I (.int .i64 (n : Int)) (.int .i64 (k : Int)) (.slice (some ⟨D, 0, none⟩) (n * k) (n * k))
      have hdz := GF.out.d.put3I (show D ≠ w.heap.size + 1 by have := HDB.out; omega) (.int .i64 (n : Int)) (.int .i64 (k : Int)) (.slice (some ⟨D, 0, none⟩) (n * k) (n * k))
      have hbb := below3I (HBX.out _ GF.out.bl) (show w.heap.size ≤ w.heap.size + 1 by omega) (.int .i64 (n : Int)) (.int .i64 (k : Int)) (.slice (some ⟨D, 0, none⟩) (n * k) (n * k))
      exact bodyPost_ret (results_three rfl (rv_cell (g := w.heap.size + 1) rfl hbz rfl Try.underlying26 (by kernel_rfl)) (rv_tmp rfl) (rv_tmp rfl)) rfl ⟨fun _ => ⟨D, by rw [HE.out]; rfl, by rw [HE.out]; exact hdz⟩, (fun h => by rw [HE.out, HOK.out] at h; cases h), hbb⟩
    case pos =>
      have hn0 : n ≠ 0 := by have := HLN.out.2.2.1; omega
      obtain ⟨rfl, hcl, hcb⟩ := CI.out.1 (by omega)
      clear hcl hcb
      obtain ⟨bw, ow, sw, rfl, hbw, cw⟩ := FlsI.at (HM.out wr (HBX.out _ G.out.bl)) (show j < ws.length by rw [HLN.out.2.2.2.2.2]; exact hlt)
      rw [raw_of_not (HNX.out j)] at cw
      obtain ⟨cj, hcj⟩ : ∃ x, x = c.getD j 0 := ⟨_, rfl⟩
      have HCJ := Lib.hid (show cj = c.getD j 0 ∧ cj ≤ j from ⟨hcj, by rw [hcj]; exact HCL.out.2 j hlt⟩)
      have hcj9 : cj ≤ j := HCJ.out.2
      clear hcj
      obtain ⟨wj, hwj⟩ : ∃ x, x = ws.getD j 0 := ⟨_, rfl⟩
      rw [← hwj] at cw
      have HWJ := Lib.hid hwj
      clear hwj
      have hj9 : j < 1000 := by omega
      have HCC := Lib.hid (show ∀ W, Bls [D] w5.heap.size w5 W → W.cell? ⟨cb, j, none⟩ = some (.int .i64 (cj : Int)) from fun W h => by rw [HCJ.out.1]; exact HCI.out W j h hlt)
      obtain ⟨cc, hcc⟩ : ∃ x, x = (decide (cj < j) && fle wj v.x) := ⟨_, rfl⟩
      have HCB := Lib.hid hcc
      clear hcc
      obtain ⟨xv, hxv⟩ : ∃ x, x = nxtX ds es ws c j v.x := ⟨_, rfl⟩
      have HXV := Lib.hid (show xv = (if cc then fadd v.x (fmul (sizI ds es) 4382002437431492608) else wj) from by rw [hxv, HCB.out, HCJ.out.1, HWJ.out]; rfl)
      have HOX := Lib.hid (show OKX xv from by rw [hxv, HV.out]; exact HX.out j hlt (by rw [← HV.out]; exact HOK.out))
      have HXE := Lib.hid hxv
      clear hxv hbw
      go_upto_region 11 with (fail)
      clear cw
      have cj0 := HCC.out _ G.out.bl
      go_cut [59] from 49 to 58 (fun s59 wx => s59 = .bool cc ∧ VcM w5 wx D n (datI v.made n k j) u11 v.made)
      case first =>
        by_cases hcd : cj < j
        · skip
          have d1 : decide ((cj : Int) < (j : Int)) = true := decide_eq_true (by omega)
          have d2 : (cj : Int) < (j : Int) := by omega
          have HCB2 := Lib.hid (show cc = fle wj v.x from by rw [HCB.out, decide_eq_true hcd, Bool.true_and])
          go_wp2_with fail
          go_meet
          case rel => exact ⟨by rw [HCB2.out], G.out⟩
        · skip
          have d1 : decide ((cj : Int) < (j : Int)) = false := decide_eq_false (by omega)
          have d2 : ¬ (cj : Int) < (j : Int) := by omega
          have HCB2 := Lib.hid (show cc = false from by rw [HCB.out, decide_eq_false hcd, Bool.false_and])
          go_wp2_with fail
          go_meet
          case rel => exact ⟨by rw [HCB2.out], G.out⟩
      case rest =>
        obtain ⟨rfl, hG⟩ := hcut
        replace G := Lib.hid hG
        clear hG cj0
        go_upto_if 59 with (fail)
        go_cut [15] from 60 to 64 (fun s15 wx => s15 = .float .f64 xv ∧ VcM w5 wx D n (datI v.made n k j) u11 v.made)
        case first =>
          cases cc
          · skip
            have hx2 := Lib.hid (show xv = wj from by rw [HXV.out]; rfl)
            go_wp2_with fail
            go_meet
            case rel => exact ⟨by rw [hx2.out], G.out⟩
          · skip
            have hx2 := Lib.hid (show xv = fadd v.x (fmul (sizI ds es) 4382002437431492608) from by rw [HXV.out]; rfl)
            obtain ⟨f1, f2, f3⟩ := (HTB.out _ G.out.bl).facts
            go_wp2_with fail
            refine (H2.out _ (HBX.out _ G.out.bl)).mono ?_
            rintro e w7 ⟨rfl, hb7⟩
            have G7 := Lib.hid (G.out.step hb7)
            clear hb7 f1 f2 f3 G
            dsimp only
            go_wp2_with (first | (refine wpList_flt rfl rfl rfl rfl rfl ?_; intro K hK s8 n8; go_frame; refine hK _ _ ?_; clear hK K))
            (try simp only [fadd_rawl, fadd_rawr, fmul_rawl, fmul_rawr])
            go_meet
            case rel => exact ⟨by rw [← hx2.out, raw_of_not (HN.out _ HOX.out).1], G7.out.step (by first | exact below_drewN _ (Below.refl _ _) | exact below_drewN _ (below_drewN _ (Below.refl _ _)))⟩
        case rest =>
          obtain ⟨rfl, hG⟩ := hcut
          replace G := Lib.hid hG
          clear hG
          obtain ⟨z, hz⟩ : ∃ z, z = vecI ds es xv j (v.made.drop cj) := ⟨_, rfl⟩
          have HZS := Lib.hid (show vcsL ds es ws c (j + 1) = ⟨if z.2.2 then v.made ++ [z.1] else v.made, v.steps + z.2.1, xv, z.2.2⟩ from by
              rw [hz, HXE.out, HCJ.out.1, HV.out]
              exact vcsL_step (by rw [← HV.out]; exact HOK.out))
          have hz3 : z.2.1 ≤ 3 := by rw [hz]; exact vecL_steps _ _ _ _
          have HSPZ := Lib.hid (fun (W : World) (ka : Option Addr) (kl kc : Nat) (hb : Below w.heap.size w W) (hkl : (v.made.drop cj).length = kl) (hR : RwI W ka (v.made.drop cj) n) => HSP.out hn0 W xv j ka kl kc (v.made.drop cj) hb HOX.out (HN.out _ HOX.out).2 (by omega) hkl (by rw [← hkl, List.length_drop, HML.out]; omega) hR)
          rw [← hz] at HSPZ
          clear hz
          go_upto_region 14 with (fail)
          go_cut [16, 17, 18] from 66 to 79 (fun s16 s17 s18 wx => s17 = .int .i64 (z.2.1 : Nat) ∧ s18 = .bool z.2.2 ∧ VcM w5 wx D n (datI v.made n k j) u11 v.made ∧ (z.2.2 = true → ∃ a b cq, s16 = .slice a n cq ∧ FS wx a b z.1 ∧ z.1.length = n ∧ w5.heap.size ≤ b ∧ b < wx.heap.size ∧ u11.ownBlock ≠ some b))
          case first =>
            obtain ⟨xs, ho, hxl, hxr⟩ := G.out.own
            have hxj : xs.length = j := by rw [hxl]; exact HML.out
            obtain ⟨av, gv, cp, hsv0, hcp, hcp2, _, han, hane, hao, _⟩ := OwnC.form ho
            rw [hxj] at hsv0 hcp
            subst hsv0
            rcases hao with rfl | rfl
            · skip
              obtain ⟨hx0, rfl⟩ := han rfl
              have hj0 : j = 0 := by rw [← hxj, hx0]; rfl
              have hcj0 : cj = 0 := by omega
              have HJ0 := Lib.hid (And.intro hj0 hcj0)
              have hcjr : (cj : Int) = 0 := by omega
              skip
              skip
              have hb1 : (cj : Int) ≤ (j : Int) := by omega
              have hb2 : (j : Int) ≤ 0 := by omega
              have hb3 : (cj : Int) ≤ 0 := by omega
              have hb4 : (0 : Int) ≤ (cj : Int) := by omega
              have hb5 : (j : Int) < (k : Int) := by omega
              have hb6 : (0 : Int) ≤ (j : Int) := by omega
              have hb7 : (0 : Int) = (cj : Int) := by omega
              have HJ0 := Lib.hid hj0
              clear hj0 hcj0 hcjr hx0
              have hdr := below_drewN 1 (Below.refl wc.heap.size wc)
              have G1 := Lib.hid (show VcM w5 wc.drew D n _ _ _ from G.out.step hdr)
              clear hdr G
              refine wp_region_items 16 [(true, 0), (true, 1), (true, 2), (true, 3), (true, 4), (true, 5), (true, 6), (true, 7), (true, 8), (false, 9), (true, 10), (true, 11), (true, 12), (true, 13), (true, 14), (true, 15)] (fun W => (∀ i, W.cell? ⟨w.heap.size, i, none⟩ = ([.slice da n dc, .slice ea m ec] : List Value)[i]?) ∧ W.cell? ⟨cb, j, none⟩ = some (.int .i64 (cj : Int))) (by kernel_rfl) (by kernel_rfl) ⟨(HTB.out _ G1.out.bl).cell, HCC.out _ G1.out.bl⟩ ?_
              have HYD := Lib.hid (show Below wc.heap.size wc wc.drew from below_drewN 1 (Below.refl _ _))
              generalize wc.drew = y0 at *
              iterate 9 (refine iW_take (v := ?_) rfl rfl ?_ ?_; rotate_left; (next => (intro w' hSw; (try dsimp only at hSw); go_simp; (try (rw [if_pos (by omega)]; go_simp)); (try with_reducible rfl))); (simp only [Act.put, List.setIfInBounds_toArray, List.set_cons_zero, List.set_cons_succ]))
              clear hb1 hb2 hb3 hb4 hb6 hb7
              refine iW_mid rfl rfl ?_
              go_simp
              refine (HSPZ.out y0 none (j - cj) 0 (HBX.out _ G1.out.bl) (by rw [List.length_drop, HML.out]) (fun hz => absurd (List.eq_nil_of_length_eq_zero (by rw [List.length_drop, HML.out, HJ0.out]; omega)) hz)).mono ?_
              rintro e y1 ⟨sv, rfl, hsv, hb⟩
              have G2 := Lib.hid (G1.out.step hb)
              refine ⟨⟨(HTB.out _ G2.out.bl).cell, HCC.out _ G2.out.bl⟩, ?_⟩
              have HSV := Lib.hid hsv
              have HGS := Lib.hid (show y0.heap.size ≤ y1.heap.size ∧ w5.heap.size ≤ y0.heap.size ∧ ∀ g, (Value.slice none j 0).ownBlock = some g → g < y0.heap.size from ⟨hb.size, G1.out.bl.size, fun g e => by
                  obtain ⟨xs, ho, _⟩ := G1.out.own
                  exact (ho.lt g e).2⟩)
              clear hsv hb
              iterate 6 (refine iW_take (v := ?_) rfl rfl ?_ ?_; rotate_left; (next => (intro w' hSw; (try dsimp only at hSw); go_simp; (try (rw [if_pos (by omega)]; go_simp)); (try with_reducible rfl))); (simp only [Act.put, List.setIfInBounds_toArray, List.set_cons_zero, List.set_cons_succ]))
              refine iW_nil ?_
              go_simp
              go_wp2_with fail
              refine NoPanic.normal ?_
              go_wp2_with fail
              go_meet
              case rel => exact ⟨rfl, rfl, G2.out, fun h => by
                  obtain ⟨a, b, cq, h1, h2, h3, h4, h5⟩ := HSV.out h
                  exact ⟨a, b, cq, h1, h2, h5, Nat.le_trans HGS.out.2.1 h3, h4, fun e => by have := HGS.out.2.2 b e; omega⟩⟩
            · skip
              have hb1 : (cj : Int) ≤ (j : Int) := by omega
              have hb2 : (j : Int) ≤ (cp : Int) := by omega
              have hb3 : (cj : Int) ≤ (cp : Int) := by omega
              have hb4 : (0 : Int) ≤ (cj : Int) := by omega
              have hb5 : (j : Int) < (k : Int) := by omega
              by_cases hcp0 : cp = cj
              · skip
                have hp1 : (cp : Int) = (cj : Int) := by omega
                have HP := Lib.hid (show cj = j from by omega)
                have hdr := below_drewN 1 (Below.refl wc.heap.size wc)
                have G1 := Lib.hid (show VcM w5 wc.drew D n _ _ _ from G.out.step hdr)
                clear hdr G
                refine wp_region_items 16 [(true, 0), (true, 1), (true, 2), (true, 3), (true, 4), (true, 5), (true, 6), (true, 7), (true, 8), (false, 9), (true, 10), (true, 11), (true, 12), (true, 13), (true, 14), (true, 15)] (fun W => (∀ i, W.cell? ⟨w.heap.size, i, none⟩ = ([.slice da n dc, .slice ea m ec] : List Value)[i]?) ∧ W.cell? ⟨cb, j, none⟩ = some (.int .i64 (cj : Int))) (by kernel_rfl) (by kernel_rfl) ⟨(HTB.out _ G1.out.bl).cell, HCC.out _ G1.out.bl⟩ ?_
                have HYD := Lib.hid (show Below wc.heap.size wc wc.drew from below_drewN 1 (Below.refl _ _))
                generalize wc.drew = y0 at *
                iterate 9 (refine iW_take (v := ?_) rfl rfl ?_ ?_; rotate_left; (next => (intro w' hSw; (try dsimp only at hSw); go_simp; (try (rw [if_pos (by omega)]; go_simp)); (try with_reducible rfl))); (simp only [Act.put, List.setIfInBounds_toArray, List.set_cons_zero, List.set_cons_succ]))
                clear hp1 hcp0 hb1 hb2 hb3 hb4
                refine iW_mid rfl rfl ?_
                go_simp
                refine (HSPZ.out y0 (some ⟨gv, 0, none⟩) (j - cj) 0 (HBX.out _ G1.out.bl) (by rw [List.length_drop, HML.out]) (fun hz => absurd (List.eq_nil_of_length_eq_zero (by rw [List.length_drop, HML.out, HP.out]; omega)) hz)).mono ?_
                rintro e y1 ⟨sv, rfl, hsv, hb⟩
                have G2 := Lib.hid (G1.out.step hb)
                refine ⟨⟨(HTB.out _ G2.out.bl).cell, HCC.out _ G2.out.bl⟩, ?_⟩
                have HSV := Lib.hid hsv
                have HGS := Lib.hid (show y0.heap.size ≤ y1.heap.size ∧ w5.heap.size ≤ y0.heap.size ∧ ∀ g, (Value.slice (some ⟨gv, 0, none⟩) j cp).ownBlock = some g → g < y0.heap.size from ⟨hb.size, G1.out.bl.size, fun g e => by
                    obtain ⟨xs, ho, _⟩ := G1.out.own
                    exact (ho.lt g e).2⟩)
                clear hsv hb
                iterate 6 (refine iW_take (v := ?_) rfl rfl ?_ ?_; rotate_left; (next => (intro w' hSw; (try dsimp only at hSw); go_simp; (try (rw [if_pos (by omega)]; go_simp)); (try with_reducible rfl))); (simp only [Act.put, List.setIfInBounds_toArray, List.set_cons_zero, List.set_cons_succ]))
                refine iW_nil ?_
                go_simp
                go_wp2_with fail
                refine NoPanic.normal ?_
                go_wp2_with fail
                go_meet
                case rel => exact ⟨rfl, rfl, G2.out, fun h => by
                    obtain ⟨a, b, cq, h1, h2, h3, h4, h5⟩ := HSV.out h
                    exact ⟨a, b, cq, h1, h2, h5, Nat.le_trans HGS.out.2.1 h3, h4, fun e => by have := HGS.out.2.2 b e; omega⟩⟩
              · skip
                have hp1 : ¬ (cp : Int) = (cj : Int) := by omega
                have hp2 : ¬ cp = cj := hcp0
                have HRW := Lib.hid (fun W (hb : Below wc.heap.size wc W) => (VcM.rows (k0 := cj) (by rw [hxj]; exact ho) hxl (by rw [hxj]; exact hxr)).below hb)
                have hdr := below_drewN 1 (Below.refl wc.heap.size wc)
                have G1 := Lib.hid (show VcM w5 wc.drew D n _ _ _ from G.out.step hdr)
                clear hdr G
                refine wp_region_items 16 [(true, 0), (true, 1), (true, 2), (true, 3), (true, 4), (true, 5), (true, 6), (true, 7), (true, 8), (false, 9), (true, 10), (true, 11), (true, 12), (true, 13), (true, 14), (true, 15)] (fun W => (∀ i, W.cell? ⟨w.heap.size, i, none⟩ = ([.slice da n dc, .slice ea m ec] : List Value)[i]?) ∧ W.cell? ⟨cb, j, none⟩ = some (.int .i64 (cj : Int))) (by kernel_rfl) (by kernel_rfl) ⟨(HTB.out _ G1.out.bl).cell, HCC.out _ G1.out.bl⟩ ?_
                have HYD := Lib.hid (show Below wc.heap.size wc wc.drew from below_drewN 1 (Below.refl _ _))
                generalize wc.drew = y0 at *
                iterate 9 (refine iW_take (v := ?_) rfl rfl ?_ ?_; rotate_left; (next => (intro w' hSw; (try dsimp only at hSw); go_simp; (try (rw [if_pos (by omega)]; go_simp)); (try with_reducible rfl))); (simp only [Act.put, List.setIfInBounds_toArray, List.set_cons_zero, List.set_cons_succ]))
                clear hp1 hp2 hb1 hb2 hb3 hb4
                refine iW_mid rfl rfl ?_
                go_simp
                refine (HSPZ.out y0 (some ⟨gv, cj, none⟩) (j - cj) (cp - cj) (HBX.out _ G1.out.bl) (by rw [List.length_drop, HML.out]) (HRW.out _ HYD.out)).mono ?_
                rintro e y1 ⟨sv, rfl, hsv, hb⟩
                have G2 := Lib.hid (G1.out.step hb)
                refine ⟨⟨(HTB.out _ G2.out.bl).cell, HCC.out _ G2.out.bl⟩, ?_⟩
                have HSV := Lib.hid hsv
                have HGS := Lib.hid (show y0.heap.size ≤ y1.heap.size ∧ w5.heap.size ≤ y0.heap.size ∧ ∀ g, (Value.slice (some ⟨gv, 0, none⟩) j cp).ownBlock = some g → g < y0.heap.size from ⟨hb.size, G1.out.bl.size, fun g e => by
                    obtain ⟨xs, ho, _⟩ := G1.out.own
                    exact (ho.lt g e).2⟩)
                clear hsv hb
                iterate 6 (refine iW_take (v := ?_) rfl rfl ?_ ?_; rotate_left; (next => (intro w' hSw; (try dsimp only at hSw); go_simp; (try (rw [if_pos (by omega)]; go_simp)); (try with_reducible rfl))); (simp only [Act.put, List.setIfInBounds_toArray, List.set_cons_zero, List.set_cons_succ]))
                refine iW_nil ?_
                go_simp
                go_wp2_with fail
                refine NoPanic.normal ?_
                go_wp2_with fail
                go_meet
                case rel => exact ⟨rfl, rfl, G2.out, fun h => by
                    obtain ⟨a, b, cq, h1, h2, h3, h4, h5⟩ := HSV.out h
                    exact ⟨a, b, cq, h1, h2, h5, Nat.le_trans HGS.out.2.1 h3, h4, fun e => by have := HGS.out.2.2 b e; omega⟩⟩
          case rest =>
            obtain ⟨rfl, rfl, hG, hrow⟩ := hcut
            replace G := Lib.hid hG
            have HRO := Lib.hid hrow
            clear hG hrow HSPZ
            obtain ⟨st1, hst1⟩ : ∃ s, s = v.steps + z.2.1 := ⟨_, rfl⟩
            have hzs : wrap64 (((v.steps : Nat) : Int) + ((z.2.1 : Nat) : Int)) = (st1 : Int) := by unfold wrap64; omega
            have HST := Lib.hid hst1
            have hst9 : st1 ≤ 1539 := by omega
            clear hst1
            go_upto_region 16 with (fail)
            have hsc : ((v.steps : Nat) : Int) + ((z.2.1 : Nat) : Int) = ((st1 : Nat) : Int) := by rw [HST.out]; exact (Int.natCast_add _ _).symm
            rw [hsc]
            clear hsc hzs
            obtain ⟨zok, hzok⟩ : ∃ b, b = z.2.2 := ⟨_, rfl⟩
            rw [← hzok] at HZS HRO ⊢
            clear hzok
            cases zok
            · skip
              have HE := Lib.hid (show VF = ⟨v.made, st1, xv, false⟩ from by
                  obtain ⟨r, hr⟩ : ∃ r, k = j + 1 + r := ⟨k - (j + 1), by omega⟩
                  have h := vcsL_stop (ds := ds) (es := es) (ws := ws) (c := c) (j := j + 1) (by rw [HZS.out]) r
                  rw [HVF.out, hr, h, HZS.out, HST.out]
                  rfl)
              obtain ⟨z1, z2, z3⟩ := (HZB.out _ G.out.bl).facts
              go_wp2_with fail
              have hbz := (HZB.out _ G.out.bl).put3I (.int .i64 0) (.int .i64 0) (.slice none 0 0)
              have hbb := below3I (HBX.out _ G.out.bl) (show w.heap.size ≤ w.heap.size + 1 by omega) (.int .i64 0) (.int .i64 0) (.slice none 0 0)
              exact bodyPost_ret (results_three rfl (rv_cell (g := w.heap.size + 1) rfl hbz rfl Try.underlying26 (by kernel_rfl)) (rv_tmp rfl) (rv_tmp rfl)) rfl ⟨(fun h => by rw [HE.out] at h; cases h), (fun _ => by rw [HE.out]; rfl), hbb⟩
            · skip
              obtain ⟨ya, yb, yc, rfl, hfy, hyl, hy5, hyW, hyo⟩ := HRO.out rfl
              obtain ⟨xs, ho, hxl, hxr⟩ := G.out.own
              have HOX2 := Lib.hid (show _ ∧ _ ∧ _ from ⟨ho, hxl, hxr⟩)
              have HFY := Lib.hid (show _ ∧ _ ∧ _ ∧ _ ∧ _ from ⟨hfy, hyl, hy5, hyW, hyo⟩)
              have hxj : xs.length = j := by rw [hxl]; exact HML.out
              have HXJ := Lib.hid hxj
              clear hfy hyl hy5 hyW hyo ho hxl hxr hxj HRO
              go_upto_region 18 with (fail)
              go_upto_region 19 with (at_builtin; refine wpList_append_rowG rfl _ _ rfl w5.heap.size _ xs rfl HOX2.out.1 _ _ rfl rfl (by have := HXJ.out; omega) G.out.bl.size ?_; intro v' w6 hO6 hb6 hg6 ho6)
              have G6 := Lib.hid (G.out.push HOX2.out.1 HOX2.out.2.1 HOX2.out.2.2 HFY.out.1 HFY.out.2.1 HFY.out.2.2.1 HFY.out.2.2.2.1 HFY.out.2.2.2.2 hO6 hb6 hg6 ho6)
              have HF6 := Lib.hid (show Flb w6 yb z.1 from ((HFY.out.1.flb (by rw [HFY.out.2.1]; omega)).2).grownI hg6 HFY.out.2.2.2.2)
              clear hO6 hb6 hg6 ho6 G
              have hyn : ya = some ⟨yb, 0, none⟩ := (HFY.out.1.flb (by rw [HFY.out.2.1]; omega)).1
              subst hyn
              have HN1 := Lib.hid (show datI (v.made ++ [z.1]) n k j = datI v.made n k j from datI_app _ _ _ _ _ (by rw [HML.out]; exact Nat.le_refl _))
              have HGD := Lib.hid (show (v.made ++ [z.1]).getD j [] = z.1 from by rw [List.getD_eq_getElem?_getD, List.getElem?_append_right (by rw [HML.out]; exact Nat.le_refl _), HML.out, Nat.sub_self]; rfl)
              obtain ⟨made, hmd⟩ : ∃ l, l = v.made ++ [z.1] := ⟨_, rfl⟩
              rw [← hmd] at G6 HN1 HGD HZS
              have HMD := Lib.hid (show made[j]? = some z.1 from by rw [hmd, List.getElem?_append_right (by rw [HML.out]; exact Nat.le_refl _), HML.out, Nat.sub_self]; rfl)
              clear hmd
              have HYL := Lib.hid (show z.1.length = n ∧ w5.heap.size ≤ yb from ⟨HFY.out.2.1, HFY.out.2.2.1⟩)
              have HPJ := Lib.hid (show datI made n k (j + 1) = putI (datI made n k j) z.1 k j n from by rw [datI, HGD.out])
              replace G6 := Lib.hid (show VcM w5 w6 D n (putI (datI made n k j) z.1 k j 0) v' made from by rw [putI, HN1.out]; exact G6.out)
              obtain ⟨dat, hdat⟩ : ∃ l, l = datI made n k j := ⟨_, rfl⟩
              have HDL := Lib.hid (show dat.length = n * k from by rw [hdat]; exact datI_len _ _ _ _)
              rw [← hdat] at G6 HPJ
              clear hdat
              obtain ⟨y, hy⟩ : ∃ l, l = z.1 := ⟨_, rfl⟩
              rw [← hy] at G6 HF6 HPJ HYL HMD HGD
              clear hy HFY HOX2 HXJ HMD HGD HN1
              go_wp2_with fail
              go_loopw [92] (fun s92 wr => ∃ i : Nat, s92 = .int .i64 i ∧ i ≤ n ∧ VcM w5 wr D n (putI dat y k j i) v' made ∧ Flb wr yb y) (fun s92 _ => n - (intOf s92).toNat)
              case atStart => exact ⟨0, rfl, Nat.zero_le _, G6.out, HF6.out⟩
              case round =>
                obtain ⟨i, rfl, hi, hG, hY⟩ := hrel
                have G := Lib.hid hG
                have HY := Lib.hid hY
                clear hG hY
                by_cases hin : i < n
                case pos =>
                  have hdr := below_drewN 1 (Below.refl wr.heap.size wr)
                  replace G := Lib.hid (show VcM w5 wr.drew D n _ _ _ from G.out.step hdr)
                  replace HY := Lib.hid (show Flb wr.drew yb y from HY.out.below hdr)
                  clear hdr
                  obtain ⟨s1, c1⟩ := HY.out.at (show i < y.length by rw [HYL.out.1]; exact hin)
                  obtain ⟨yv, hyv⟩ : ∃ x, x = y.getD i 0 := ⟨_, rfl⟩
                  rw [← hyv] at c1
                  have HYV := Lib.hid hyv
                  clear hyv
                  obtain ⟨PP, hPP⟩ : ∃ x, x = i * k := ⟨_, rfl⟩
                  obtain ⟨Q, hQ⟩ : ∃ x, x = PP + j := ⟨_, rfl⟩
                  have hQN : Q < n * k := by rw [hQ, hPP]; exact placeI hin hlt
                  have hNK : n * k ≤ 262144 := by have := Nat.mul_le_mul hn9 hk9; omega
                  obtain ⟨hwa, hwb, hq1, hq2, hq3⟩ := idxI hPP hQ hQN hNK
                  have HPQ := Lib.hid (show Q = i * k + j from by rw [hQ, hPP])
                  have HQN := Lib.hid hQN
                  have hi9 : i < 1000 := by omega
                  clear hPP hQ hNK hQN
                  skip
                  go_upto_region 22 with (fail)
                  refine wp_region_items 12 [(true, 0), (true, 1), (true, 2), (true, 3), (true, 4), (true, 5), (true, 6), (true, 7), (true, 8), (true, 9), (true, 10), (true, 11)] (fun W => (∀ t, W.cell? ⟨D + 1, t, none⟩ = ([.int .i64 n, .int .i64 k, .slice (some ⟨D, 0, none⟩) (n * k) (n * k)] : List Value)[t]?) ∧ W.cell? ⟨yb, i, none⟩ = some (.float .f64 (raw yv s1))) (by kernel_rfl) (by kernel_rfl) ⟨(HMB.out _ G.out.bl).cell, c1⟩ ?_
                  generalize wr.drew = y0 at *
                  clear c1
                  iterate 12 (refine iW_take (v := ?_) rfl rfl ?_ ?_; rotate_left; (next => (intro w' hSw; (try dsimp only at hSw); go_simp; (try (rw [if_pos (by omega)]; go_simp)); (try with_reducible rfl))); (simp only [Act.put, List.setIfInBounds_toArray, List.set_cons_zero, List.set_cons_succ]))
                  refine iW_nil ?_
                  obtain ⟨k1, k2⟩ : D < y0.heap.size ∧ ∀ t, y0.frozen? ⟨D, t, none⟩ = false := ⟨G.out.d.lt, G.out.d.frozen⟩
                  obtain ⟨s9, c9⟩ := G.out.d.at (show Q < (putI dat y k j i).length by rw [putI_len, HDL.out]; exact HQN.out)
                  go_simp
                  go_wp2_with fail
                  refine NoPanic.normal ?_
                  go_wp2_with fail
                  go_roundw
                  case rel => exact ⟨i + 1, by go_num, hin, by rw [putI, ← HPQ.out, ← HYV.out]; exact G.out.setD Q yv s1, HY.out.other (by have := HYL.out.2; have := HDB.out.1; omega) _ _⟩
                  case measure => simp [intOf]; omega
                case neg =>
                  have hni : i = n := by omega
                  have G7 := Lib.hid (show VcM w5 wr D n (datI made n k (j + 1)) v' made from by have h := G.out; rw [hni] at h; rw [HPJ.out]; exact h)
                  have h0 : ¬ (i : Int) < (n : Int) := by omega
                  clear hni hi hin G
                  go_wp2_with fail
                  go_roundw
                  case rel => exact ⟨j + 1, vcsL ds es ws c (j + 1), rfl, by rw [HZS.out, HST.out], by rw [HZS.out], by go_num, hlt, by rw [HZS.out], by rw [HZS.out]; exact G7.out⟩
                  case measure => simp [intOf]; omega
end Go.Proofs.Ytdljnhdhigbefaa
