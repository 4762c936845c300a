/- 'plumblinelaw14.InverseSolves' answers true (printed by gen_jb.py). No condition but on lengths. -/
import Derived.Test.YtdljnhdhigbefaaZz27
import Derived.Test.YtdljnhdhigbefaaZz2
import Derived.Deep.Slices
import Derived.Laws.Cover2
import Derived.Lib.SmallJoins
import Derived.ProofKit
import Derived.Test.YtdljnhdhigbefaaZz13
namespace Go.Proofs.Ytdljnhdhigbefaa
open Go Go.RowKit
set_option maxRecDepth 1000000
set_option linter.unusedSimpArgs false
set_option linter.unusedVariables false

set_option maxHeartbeats 16000000 in
theorem solves14 (w : World) (aa ab ac al ak ay : Option Addr) (A B C L y : List Nat) (sw : List Bool) (na nb nc nl nk n ca cb cc cl ck cy : Nat) (eA : A.length = na) (eB : B.length = nb) (eC : C.length = nc) (eL : L.length = nl) (eK : sw.length = nk) (eY : y.length = n) (hA : Fls w aa A) (hB : Fls w ab B) (hC : Fls w ac C) (hL : Fls w al L) (hS : Bos w ak sw) (hY : Fls w ay y) (hay : ay = none → y = [] ∧ cy = 0) (hW : Words y) (b1 : na ≤ maxLen ∧ nb ≤ maxLen ∧ nc ≤ maxLen ∧ nl ≤ maxLen ∧ nk ≤ maxLen) :
    Calls Try.prog 6 #[.agg #[.slice aa na ca, .slice ab nb cb, .slice ac nc cc, .slice al nl cl, .slice ak nk ck], .slice ay n cy] w fun e w' => e = .returned (.bool true) ∧ Below w.heap.size w w' := by
  have HK := Lib.hid known14_any
  have HN := Lib.hid num14
  have HP := Lib.hid (show _ ∧ _ ∧ _ ∧ _ ∧ _ ∧ _ ∧ _ from ⟨hA, hB, hC, hL, hS, hY, hay⟩)
  have HW := Lib.hid hW
  have HE := Lib.hid (show _ ∧ _ ∧ _ ∧ _ ∧ _ ∧ _ from ⟨eA, eB, eC, eL, eK, eY⟩)
  have HM := Lib.hid b1
  clear hA hB hC hL hS hY hay hW b1 eA eB eC eL eK eY
  have x0 : Box (w.alloc (.cells #[.slice aa na ca, .slice ab nb cb, .slice ac nc cc, .slice al nl cl, .slice ak nk ck] 45)) w.heap.size [.slice aa na ca, .slice ab nb cb, .slice ac nc cc, .slice al nl cl, .slice ak nk ck] := Box.newA w [.slice aa na ca, .slice ab nb cb, .slice ac nc cc, .slice al nl cl, .slice ak nk ck] _ rfl
  have hB0 : Below w.heap.size w (w.alloc (.cells #[.slice aa na ca, .slice ab nb cb, .slice ac nc cc, .slice al nl cl, .slice ak nk ck] 45)) := (Below.refl _ _).alloc (Nat.le_refl _) _
  obtain ⟨w1, hw1⟩ : ∃ W, W = w.alloc (.cells #[.slice aa na ca, .slice ab nb cb, .slice ac nc cc, .slice al nl cl, .slice ak nk ck] 45) := ⟨_, rfl⟩
  rw [← hw1] at x0 hB0
  have X := Lib.hid x0
  have BW := Lib.hid hB0
  clear x0 hB0
  go_enter Try.func6, Try.ntmps6
  go_upto_region 1 with (fail)
  rw [← hw1]
  clear hw1
  by_cases hn : n ≤ 40
  case neg =>
    have h1 : (40 : Int) < (n : Int) := by omega
    have h2 : 40 < n := by omega
    go_wp2_with fail
    refine (HK.out _).mono ?_
    rintro e w2 ⟨rfl, hb⟩
    have hf := below_step BW.out BW.out.size hb
    dsimp only
    go_wp2_with fail
    go_ret
    exact ⟨rfl, hf⟩
  case pos =>
    have h1 : ¬ (40 : Int) < (n : Int) := by omega
    have h2 : ¬ 40 < n := by omega
    go_upto_region 3 with (fail)
    have hyw := HP.out.2.2.2.2.2.1.below BW.out
    go_upto_region 4 with (refine wpList_append_anyF rfl _ _ rfl w1.heap.size _ [] rfl (OwnF.nil _ _) ay y cy (by rw [HE.out.2.2.2.2.2]; rfl) hyw HP.out.2.2.2.2.2.2 (by have := HE.out.2.2.2.2.2; simp; omega) (Nat.le_refl _) ?_; intro v' w2 hO hb)
    rw [List.nil_append] at hO
    obtain ⟨ao, bo, co, rfl, _, hcm, _, hFo, hlo⟩ := hO.fs
    rw [HE.out.2.2.2.2.2]
    have OF := Lib.hid (show Fls w2 ao y ∧ (ao = none → y = []) from ⟨hFo.fls, fun e => by
        rcases hFo with h | h
        · exact h
        · rw [e] at h; exact absurd h.1 (by simp)⟩)
    replace BW := Lib.hid (below_step BW.out BW.out.size hb)
    replace X := Lib.hid (X.out.below hb)
    clear hO hFo hlo hcm hb hyw h1 h2
    have HF := Lib.hid (fun (W : World) (h : Below w.heap.size w W) => (show _ ∧ _ ∧ _ ∧ _ ∧ _ ∧ _ from ⟨HP.out.1.below h, HP.out.2.1.below h, HP.out.2.2.1.below h, HP.out.2.2.2.1.below h, HP.out.2.2.2.2.1.below h, HP.out.2.2.2.2.2.1.below h⟩))
    obtain ⟨mf, hmf⟩ : ∃ b, b = mayF n na nb nc nl nk := ⟨_, rfl⟩
    have HMF := Lib.hid hmf.symm
    clear hmf
    obtain ⟨f1, f2, f3⟩ := X.out.facts
    go_wp2_with fail
    cases mf
    case false =>
      refine (isolve_err w2 aa ab ac al ak ao n na nb nc nl nk ca cb cc cl ck co (by omega) HM.out HMF.out).mono ?_
      rintro e w3 ⟨rfl, hb⟩
      replace BW := Lib.hid (below_step BW.out BW.out.size hb)
      replace X := Lib.hid (X.out.below hb)
      replace OF := Lib.hid (OF.out.1.below hb)
      clear f1 f2 f3 hb
      dsimp only
      go_wp2_with fail
      refine (same14 w3 ao ay y n co cy HE.out.2.2.2.2.2 OF.out (HF.out _ BW.out).2.2.2.2.2 HW.out (by omega)).mono ?_
      rintro e w4 ⟨rfl, hb⟩
      replace BW := Lib.hid (below_step BW.out BW.out.size hb)
      replace X := Lib.hid (X.out.below hb)
      clear hb
      obtain ⟨f1, f2, f3⟩ := X.out.facts
      dsimp only
      go_wp2_with fail
      refine (RMayF w4 aa ab ac al ak ay n na nb nc nl nk ca cb cc cl ck cy (by omega) HM.out).mono ?_
      rw [HMF.out]
      rintro e w5 ⟨rfl, hb⟩
      replace BW := Lib.hid (below_step BW.out BW.out.size hb)
      clear hb f1 f2 f3 X
      dsimp only
      go_wp2_with fail
      refine (HN.out _ _).mono ?_
      rintro e w' ⟨rfl, rfl⟩
      go_wp2_with fail
      refine (HK.out _).mono ?_
      rintro e w6 ⟨rfl, hb⟩
      have hf := below_step BW.out BW.out.size hb
      dsimp only
      go_wp2_with fail
      go_ret
      exact ⟨rfl, hf⟩
    case true =>
      have hmm := HMF.out
      unfold mayF at hmm
      simp only [Bool.and_eq_true, decide_eq_true_eq] at hmm
      obtain ⟨⟨⟨⟨⟨m0, m1⟩, m2⟩, m3⟩, m4⟩, m5⟩ := hmm
      skip
      have HL := Lib.hid (show _ ∧ _ ∧ _ ∧ _ ∧ _ from ⟨m1, m2, m3, m4, m5⟩)
      clear m1 m2 m3 m4 m5 m0
      have HSO := Lib.hid (fun (W : World) (a : Option Addr) (c : Nat) (h : Below w.heap.size w W) (hy : Fls W a y) (h0 : a = none → y = []) => by
          have g := HF.out W h
          have r := isolve_ok W aa ab ac al ak a A B C L y sw n nl ca cb cc cl ck c g.1 g.2.1 g.2.2.1 g.2.2.2.1 g.2.2.2.2.1 hy h0 HW.out (by omega) HE.out.2.2.2.2.2 (by rw [HE.out.1, HL.out.1]) (by rw [HE.out.2.1, HL.out.2.1]) (by rw [HE.out.2.2.1, HL.out.2.2.1]) HE.out.2.2.2.1 (by rw [HE.out.2.2.2.2.1, HL.out.2.2.2.2]) HL.out.2.2.2.1
          exact r)
      have HSR := Lib.hid (fun (W : World) (h : Below w.heap.size w W) => by
          have g := HF.out W h
          have r := RSolve14 W aa ab ac al ak ay A B C L y sw n nl ca cb cc cl ck cy g.1 g.2.1 g.2.2.1 g.2.2.2.1 g.2.2.2.2.1 g.2.2.2.2.2 HP.out.2.2.2.2.2.2 HW.out (by omega) HE.out.2.2.2.2.2 (by rw [HE.out.1, HL.out.1]) (by rw [HE.out.2.1, HL.out.2.1]) (by rw [HE.out.2.2.1, HL.out.2.2.1]) HE.out.2.2.2.1 (by rw [HE.out.2.2.2.2.1, HL.out.2.2.2.2]) HL.out.2.2.2.1
          exact r)
      have e1 := HL.out.1
      have e2 := HL.out.2.1
      have e3 := HL.out.2.2.1
      have e5 := HL.out.2.2.2.2
      obtain ⟨S, hS⟩ : ∃ S, S = solI A B C L sw y := ⟨_, rfl⟩
      have HSL := Lib.hid (show S.length = n from by rw [hS, solI_len]; exact HE.out.2.2.2.2.2)
      rw [← hS] at HSO HSR
      clear hS
      rw [e1, e2, e3, e5]
      refine (HSO.out w2 ao co BW.out OF.out.1 OF.out.2).mono ?_
      rintro e w3 ⟨az, cs, bs, rfl, hFs, _, hWs, hb⟩
      have SF := Lib.hid hFs.fls
      have HWS := Lib.hid hWs
      replace BW := Lib.hid (below_step BW.out BW.out.size hb)
      replace X := Lib.hid (X.out.below hb)
      replace OF := Lib.hid (OF.out.1.below hb)
      clear f1 f2 f3 hb hFs hWs
      dsimp only
      go_wp2_with fail
      refine (same14 w3 ao ay y n co cy HE.out.2.2.2.2.2 OF.out (HF.out _ BW.out).2.2.2.2.2 HW.out (by omega)).mono ?_
      rintro e w4 ⟨rfl, hb⟩
      replace BW := Lib.hid (below_step BW.out BW.out.size hb)
      replace X := Lib.hid (X.out.below hb)
      replace SF := Lib.hid (SF.out.below hb)
      clear hb
      obtain ⟨f1, f2, f3⟩ := X.out.facts
      dsimp only
      go_wp2_with fail
      have HMM := RMayF w4 aa ab ac al ak ay n na nb nc nl nk ca cb cc cl ck cy (by omega) HM.out
      rw [HMF.out, e1, e2, e3, e5] at HMM
      refine HMM.mono ?_
      rintro e w5 ⟨rfl, hb⟩
      replace BW := Lib.hid (below_step BW.out BW.out.size hb)
      replace X := Lib.hid (X.out.below hb)
      replace SF := Lib.hid (SF.out.below hb)
      clear hb f1 f2 f3 HMM
      obtain ⟨f1, f2, f3⟩ := X.out.facts
      dsimp only
      go_wp2_with fail
      have HRR := HSR.out w5 BW.out
      skip
      refine HRR.mono ?_
      rintro e w6 ⟨ar, cr, rfl, hFr, hb⟩
      replace BW := Lib.hid (below_step BW.out BW.out.size hb)
      replace SF := Lib.hid (SF.out.below hb)
      clear hb f1 f2 f3 X HRR
      dsimp only
      go_wp2_with fail
      refine (same14 w6 az ar S n cs cr HSL.out SF.out hFr HWS.out (by omega)).mono ?_
      rintro e w7 ⟨rfl, hb⟩
      replace BW := Lib.hid (below_step BW.out BW.out.size hb)
      clear hb hFr
      dsimp only
      go_wp2_with fail
      refine (HN.out _ _).mono ?_
      rintro e w' ⟨rfl, rfl⟩
      go_wp2_with fail
      refine (HK.out _).mono ?_
      rintro e w8 ⟨rfl, hb⟩
      have hf := below_step BW.out BW.out.size hb
      dsimp only
      go_wp2_with fail
      go_ret
      exact ⟨rfl, hf⟩
end Go.Proofs.Ytdljnhdhigbefaa

/- Arguments opened: slices of floats; a way up for results. No condition. -/
namespace Go.Proofs.Ytdljnhdhigbefaa
open Go Go.RowKit Go.ChangeShapes Go.WideShapes Go.Deep

section
variable {H : Type} {enc : TypeId × Value → H} {P : Program} {w : World} {base : Nat} {spare : Nat → Bool} {held : Bool}

theorem trod_f64 {fuel : Nat} {t : TypeId} {cs : List Value} {x : DataW H × List MemPlace} (ht : P.underlying t = some (.float .f64)) (h : DataW.trod enc P w base spare held fuel t cs = some x) : ∃ n, cs = [.float .f64 n] ∧ x = (.lit (.float .f64 n), []) ∧ n < 18446744073709551616 := by
  cases fuel with
  | zero => simp [DataW.trod] at h
  | succ n =>
    unfold DataW.trod at h
    rw [ht] at h
    split at h <;> simp_all
    rename_i k k' b hk
    subst hk
    obtain ⟨⟨rfl, hw⟩, rfl⟩ := h
    simp [Lit.wf] at hw
    exact hw

/-- A slice of floats: where it lies, its floats. -/
theorem open_fls {t e : TypeId} {fuel : Nat} {v : Value} {x : DataW H × List MemPlace} (ht : P.underlying t = some (.slice e)) (he : P.underlying e = some (.float .f64)) (hc : P.cellsOf e = 1) (h : DataW.trod enc P w base spare held fuel t [v] = some x) :
    ∃ (a : Option Addr) (zs : List Nat) (cap : Nat), v = .slice a zs.length cap ∧ Fls w a zs ∧ Words zs ∧ zs.length ≤ maxLen := by
  rcases open_slice1 ht hc h with ⟨h1, h2⟩ | ⟨a, len, cap, m, n, V, D, Pl, h1, hb, hl, hm, hmm, h2, hx⟩
  · simp only [List.cons.injEq, and_true] at h1
    subst h1
    exact ⟨none, [], 0, rfl, fun hz => absurd rfl hz, fun v hv => (by cases hv), Nat.zero_le _⟩
  · simp only [List.cons.injEq, and_true] at h1
    subst h1
    have hlm : len ≤ m := by rw [hmm]; split <;> omega
    obtain ⟨F, hF⟩ := choose_lt (α := Nat) (p := fun i x => w.cell? (a.add i) = some (.float .f64 x) ∧ x < 18446744073709551616) (n := len) (fun i hi => by
      obtain ⟨c, ht2⟩ := hx i (by omega)
      obtain ⟨x, hx1, _, hx2⟩ := trod_f64 he ht2
      simp only [List.cons.injEq, and_true] at hx1
      exact ⟨x, by rw [c, hx1], hx2⟩)
    refine ⟨some a, (List.range len).map F, cap, by simp, ?_, ?_, by simp; omega⟩
    · intro hz
      have hlen : 0 < len := by
        cases len with
        | zero => exact absurd rfl hz
        | succ n => omega
      have h0 := (hF 0 hlen).1
      obtain ⟨b, off, spot⟩ := a
      have hsp : spot = none ∧ b < w.heap.size := by
        unfold Addr.add World.cell? at h0
        simp only [if_true] at h0
        cases hh : w.heap[b]? with
        | none => rw [hh] at h0; cases h0
        | some o =>
          rw [hh] at h0
          refine ⟨?_, (Array.getElem?_eq_some_iff.1 hh).1⟩
          cases o with
          | cells c T r => simp only [] at h0; cases spot with
            | none => rfl
            | some s => simp at h0
          | _ => simp at h0
      obtain ⟨rfl, hbl⟩ := hsp
      refine ⟨b, off, rfl, hbl, fun i v hv => ?_⟩
      simp only [List.getElem?_map, Option.map_eq_some_iff] at hv
      obtain ⟨j, hj, rfl⟩ := hv
      have hi : i < len := by
        by_cases hi : i < len
        · exact hi
        · rw [List.getElem?_eq_none (by simp; omega)] at hj; cases hj
      rw [List.getElem?_range hi] at hj
      cases hj
      have := (hF i hi).1
      have ha : (Addr.add ⟨b, off, none⟩ i) = ⟨b, off + i, none⟩ := by
        unfold Addr.add
        split
        · subst_vars; rfl
        · rfl
      rw [ha] at this
      obtain ⟨s, hs⟩ := raw_self (hF i hi).2
      exact ⟨s, by rw [this, ← hs]⟩
    · intro v hv
      simp only [List.mem_map, List.mem_range] at hv
      obtain ⟨i, hi, rfl⟩ := hv
      exact (hF i hi).2
end
end Go.Proofs.Ytdljnhdhigbefaa

/- A law's row closed: the result is true, nothing that was there has turned, each argument reads as it did. No condition. -/
namespace Go.Proofs.Ytdljnhdhigbefaa
open Go Go.RowKit Go.ChangeShapes Go.WideShapes

section
variable {H : Type} {enc : TypeId × Value → H} {P : Program}

theorem trodAll_stays (hl : laidOutB P = true) {W W' : World} {sp : Nat → Bool} : ∀ {ts : List TypeId} {vs : List Value} {ds : List (DataW H)} {ps : List MemPlace},
    ts.all (fun t => P.readableRec t && decide (t < P.types.size)) = true → DataW.TrodAll enc P W 0 (fun _ => true) true ts vs ds ps → (∀ p ∈ ps, W.sameAt W' p) → (∀ p ∈ ps, sp p.block = true) → DataW.TrodAll enc P W' 0 sp true ts vs ds ps
  | [], _, _, _, _, h, _, _ => by
    obtain ⟨rfl, rfl, rfl⟩ := trodAll_nil h
    rfl
  | t :: ts, _, _, _, ht, h, h1, h2 => by
    obtain ⟨v, vs, d, ds, p, q, rfl, rfl, rfl, hd, hr⟩ := trodAll_cons h
    simp only [List.all_cons, Bool.and_eq_true, decide_eq_true_eq] at ht
    refine ⟨p, q, WideElems.Trod_stays hl ht.1.1 ht.1.2 hd (fun x hx => h1 x (by simp [hx])) (fun x hx => h2 x (by simp [hx])), trodAll_stays hl ht.2 hr (fun x hx => h1 x (by simp [hx])) (fun x hx => h2 x (by simp [hx])), rfl⟩

/-- What a law's row asks in the end. -/
theorem post_of_below {f : Func} {s : ChangeSpec} {apart fresh handsOn again : Bool} {W W' : World} {args : Array Value} {ds : List (DataW H)} {before : List MemPlace} {tb : TypeId}
    (hl : laidOutB P = true) (hread : f.params.toList.all (fun t => P.readableRec t && decide (t < P.types.size)) = true) (hv : s.vars = [])
    (hW : DataW.Whole enc P f.params.toList s.vars apart W args.toList ds [] before)
    (hs : s.fn H ds = { results := [.lit (.bool true)], args := ds }) (hb : Below W.heap.size W W') (hr : f.resultTypes = #[tb]) (htb : P.underlying tb = some .bool) :
    s.post enc P f apart fresh handsOn again W args (.bool true) W' := by
  have hlt : ∀ p ∈ before, p.block < W.heap.size := fun p hp => hW.lt p hp
  have hsame : ∀ p ∈ before, W.sameAt W' p := fun p hp => hb.same (hlt p hp)
  have hW0 := hW
  obtain ⟨p, q, hA, hV, rfl, hz, hn⟩ := hW0
  have hq : q = [] := by rw [hv] at hV; exact hV
  subst hq
  rw [List.append_nil] at hlt hsame hz hn
  have hres : ∀ (b : Nat) (sp : Nat → Bool) (hd : Bool), DataW.TrodAll enc P W' b sp hd f.resultTypes.toList ((Value.bool true).resultList f.resultTypes.size) (s.fn H (ds ++ [])).results [] := by
    intro b sp hd
    rw [List.append_nil, hs, hr]
    exact trodAll_mk1 (shut_bool htb _)
  have hargs : ∀ sp : Nat → Bool, (∀ x ∈ p, sp x.block = true) → DataW.TrodAll enc P W' 0 sp true f.params.toList args.toList (s.fn H (ds ++ [])).args p := by
    intro sp hsp
    rw [List.append_nil, hs]
    exact trodAll_stays hl hread hA hsame hsp
  have hvars : ∀ sp : Nat → Bool, DataW.TrodVars enc P W' sp s.vars (s.fn H (ds ++ [])).vars [] := by
    intro sp
    rw [List.append_nil, hs, hv]
    rfl
  have hold : ∀ x ∈ p, (fun b => decide (b < W.heap.size)) x.block = true := fun x hx => by simpa using hlt x hx
  refine ⟨ds, [], p ++ [], [], p, [], hW, hres _ _ _, hargs _ hold, hvars _, hb.frame _, fun _ => ?_⟩
  refine ⟨?_, _, _, ([] ++ p) ++ [], ⟨[] ++ p, [], trodAll_append (hargs _ (fun _ _ => rfl)) (hres _ _ _), hvars _, rfl, ?_, ?_⟩, ?_⟩
  · exact ok_one hr rfl (okWide_bool_mk htb _)
  · intro b off hp
    have h1 := hlt (MemPlace.cell b off) (by simpa using hp)
    rw [hb.frozen (p := ⟨b, off, none⟩) h1]
    exact hz b off (by simpa using hp)
  · intro ha
    have := hn ha
    simpa using this
  · intro x hx _
    simpa using hx
end
end Go.Proofs.Ytdljnhdhigbefaa

/- Arguments opened: slices of floats, nil told. No condition. -/
namespace Go.Proofs.Ytdljnhdhigbefaa
open Go Go.RowKit Go.ChangeShapes Go.WideShapes Go.Deep
section
variable {H : Type} {enc : TypeId × Value → H} {P : Program} {w : World} {base : Nat} {spare : Nat → Bool} {held : Bool}
/-- A slice of floats: where it lies, its floats; a nil one has none. -/
theorem open_inf {t e : TypeId} {fuel : Nat} {v : Value} {x : DataW H × List MemPlace} (ht : P.underlying t = some (.slice e)) (he : P.underlying e = some (.float .f64)) (hc : P.cellsOf e = 1) (h : DataW.trod enc P w base spare held fuel t [v] = some x) :
    ∃ (a : Option Addr) (zs : List Nat) (cap : Nat), v = .slice a zs.length cap ∧ Fls w a zs ∧ Words zs ∧ zs.length ≤ maxLen ∧ (a = none → zs = [] ∧ cap = 0) := by
  obtain ⟨a, zs, cap, hv, h1, h2, h3⟩ := open_fls ht he hc h
  refine ⟨a, zs, cap, hv, h1, h2, h3, fun ha => ?_⟩
  subst ha
  rcases open_slice1 ht hc h with ⟨k1, _⟩ | ⟨a', len, cap', m, n, V, D, Pl, k1, _⟩
  · simp only [List.cons.injEq, and_true] at k1
    rw [k1] at hv
    simp only [Value.slice.injEq] at hv
    exact ⟨List.eq_nil_of_length_eq_zero hv.2.1.symm, hv.2.2.symm⟩
  · simp only [List.cons.injEq, and_true] at k1
    rw [k1] at hv
    simp at hv
end
end Go.Proofs.Ytdljnhdhigbefaa

/- Arguments opened: a struct of five slices, slices of bools. No condition. -/
namespace Go.Proofs.Ytdljnhdhigbefaa
open Go Go.RowKit Go.ChangeShapes Go.WideShapes Go.Deep
section
variable {H : Type} {enc : TypeId × Value → H} {P : Program} {w : World} {base : Nat} {spare : Nat → Bool} {held : Bool}
theorem array5I {α : Type} {cs : Array α} (h : cs.size = 5) : ∃ c0 c1 c2 c3 c4, cs = #[c0, c1, c2, c3, c4] := by
  obtain ⟨l⟩ := cs
  match l, h with
  | [c0, c1, c2, c3, c4], _ => exact ⟨c0, c1, c2, c3, c4, rfl⟩
theorem trod_struct5I {t : TypeId} {f0 f1 f2 f3 f4 : Field} {fuel : Nat} {cs : List Value} {x : DataW H × List MemPlace} (ht : P.underlying t = some (.struct #[f0, f1, f2, f3, f4])) (h : DataW.trod enc P w base spare held fuel t cs = some x) :
    ∃ y0 y1 y2 y3 y4 n, x = (.agg [y0.1, y1.1, y2.1, y3.1, y4.1], y0.2 ++ (y1.2 ++ (y2.2 ++ (y3.2 ++ y4.2)))) ∧ cs.length = P.cellsOf t ∧ DataW.trod enc P w base spare held n f0.type ((cs.drop f0.offset).take (P.cellsOf f0.type)) = some y0 ∧
      DataW.trod enc P w base spare held n f1.type ((cs.drop f1.offset).take (P.cellsOf f1.type)) = some y1 ∧ DataW.trod enc P w base spare held n f2.type ((cs.drop f2.offset).take (P.cellsOf f2.type)) = some y2 ∧
      DataW.trod enc P w base spare held n f3.type ((cs.drop f3.offset).take (P.cellsOf f3.type)) = some y3 ∧ DataW.trod enc P w base spare held n f4.type ((cs.drop f4.offset).take (P.cellsOf f4.type)) = some y4 := by
  obtain ⟨xs, n, _, rfl, hl, hlen, hf⟩ := DataW.trod_struct ht h
  match xs, hlen with
  | [y0, y1, y2, y3, y4], _ => exact ⟨y0, y1, y2, y3, y4, n, by simp, hl, by simpa using hf 0 f0 rfl, by simpa using hf 1 f1 rfl, by simpa using hf 2 f2 rfl, by simpa using hf 3 f3 rfl, by simpa using hf 4 f4 rfl⟩
theorem open_agg5I {r : Reach} {b0 : Nat} {t : TypeId} {f0 f1 f2 f3 f4 : Field} {v : Value} {d : DataW H} {p : List MemPlace} (hs : P.underlying t = some (.struct #[f0, f1, f2, f3, f4])) (hone : oneCellFields P #[f0, f1, f2, f3, f4] = true) (hC : P.cellsOf t = 5)
    (hv : Value.okWide P w r b0 t v) (h : DataW.Trod enc P w base spare held t v d p) :
    ∃ (v0 v1 v2 v3 v4 : Value) (y0 y1 y2 y3 y4 : DataW H × List MemPlace) (n : Nat), v = .agg #[v0, v1, v2, v3, v4] ∧
      DataW.trod enc P w base spare held n f0.type [v0] = some y0 ∧ DataW.trod enc P w base spare held n f1.type [v1] = some y1 ∧ DataW.trod enc P w base spare held n f2.type [v2] = some y2 ∧ DataW.trod enc P w base spare held n f3.type [v3] = some y3 ∧ DataW.trod enc P w base spare held n f4.type [v4] = some y4 := by
  obtain ⟨cs, rfl, hsz⟩ := okWide_struct hs hv
  obtain ⟨c0, c1, c2, c3, c4, rfl⟩ := array5I (hsz.trans hC)
  obtain ⟨fuel, hf⟩ := h
  obtain ⟨y0, y1, y2, y3, y4, n, hx, _, h0, h1, h2, h3, h4⟩ := trod_struct5I hs hf
  obtain ⟨o0, k0⟩ := hone_of hone 0 f0 rfl
  obtain ⟨o1, k1⟩ := hone_of hone 1 f1 rfl
  obtain ⟨o2, k2⟩ := hone_of hone 2 f2 rfl
  obtain ⟨o3, k3⟩ := hone_of hone 3 f3 rfl
  obtain ⟨o4, k4⟩ := hone_of hone 4 f4 rfl
  exact ⟨c0, c1, c2, c3, c4, y0, y1, y2, y3, y4, n, rfl, by simpa [Value.cells, o0, k0] using h0, by simpa [Value.cells, o1, k1] using h1, by simpa [Value.cells, o2, k2] using h2, by simpa [Value.cells, o3, k3] using h3, by simpa [Value.cells, o4, k4] using h4⟩
/-- A slice of bools. -/
theorem open_bosI {t e : TypeId} {fuel : Nat} {v : Value} {x : DataW H × List MemPlace} (ht : P.underlying t = some (.slice e)) (he : P.underlying e = some .bool) (hc : P.cellsOf e = 1) (h : DataW.trod enc P w base spare held fuel t [v] = some x) :
    ∃ (a : Option Addr) (zs : List Bool) (cap : Nat), v = .slice a zs.length cap ∧ Bos w a zs ∧ zs.length ≤ maxLen := by
  rcases open_slice1 ht hc h with ⟨h1, h2⟩ | ⟨a, len, cap, m, n, V, D, Pl, h1, hb, hl, hm, hmm, h2, hx⟩
  · simp only [List.cons.injEq, and_true] at h1
    subst h1
    exact ⟨none, [], 0, rfl, fun hz => absurd rfl hz, Nat.zero_le _⟩
  · simp only [List.cons.injEq, and_true] at h1
    subst h1
    have hlm : len ≤ m := by rw [hmm]; split <;> omega
    obtain ⟨F, hF⟩ := choose_lt (α := Bool) (p := fun i x => w.cell? (a.add i) = some (.bool x) ∧ True) (n := len) (fun i hi => by
      obtain ⟨c, ht2⟩ := hx i (by omega)
      obtain ⟨x, hx1, hx2⟩ := DataW.trod_bool he ht2
      simp only [List.cons.injEq, and_true] at hx1
      exact ⟨x, by rw [c, hx1], trivial⟩)
    refine ⟨some a, (List.range len).map F, cap, by simp, ?_, by simp; omega⟩
    · intro hz
      have hlen : 0 < len := by
        cases len with
        | zero => exact absurd rfl hz
        | succ n => omega
      have h0 := (hF 0 hlen).1
      obtain ⟨b, off, spot⟩ := a
      have hsp : spot = none ∧ b < w.heap.size := by
        unfold Addr.add World.cell? at h0
        simp only [if_true] at h0
        cases hh : w.heap[b]? with
        | none => rw [hh] at h0; cases h0
        | some o =>
          rw [hh] at h0
          refine ⟨?_, (Array.getElem?_eq_some_iff.1 hh).1⟩
          cases o with
          | cells c T r => simp only [] at h0; cases spot with
            | none => rfl
            | some s => simp at h0
          | _ => simp at h0
      obtain ⟨rfl, hbl⟩ := hsp
      refine ⟨b, off, rfl, hbl, fun i v hv => ?_⟩
      simp only [List.getElem?_map, Option.map_eq_some_iff] at hv
      obtain ⟨j, hj, rfl⟩ := hv
      have hi : i < len := by
        by_cases hi : i < len
        · exact hi
        · rw [List.getElem?_eq_none (by simp; omega)] at hj; cases hj
      rw [List.getElem?_range hi] at hj
      cases hj
      have := (hF i hi).1
      have ha : (Addr.add ⟨b, off, none⟩ i) = ⟨b, off + i, none⟩ := by
        unfold Addr.add
        split
        · subst_vars; rfl
        · rfl
      rw [ha] at this
      exact this
end
end Go.Proofs.Ytdljnhdhigbefaa

/- An argument opened: a float. No condition. -/
namespace Go.Proofs.Ytdljnhdhigbefaa
open Go Go.RowKit Go.ChangeShapes Go.WideShapes Go.Deep

section
variable {H : Type} {enc : TypeId × Value → H} {P : Program} {w : World} {base : Nat} {spare : Nat → Bool} {held : Bool}
theorem open_f64w {r : Reach} {b0 : Nat} {t : TypeId} {v : Value} {d : DataW H} {ps : List MemPlace} (ht : P.underlying t = some (.float .f64)) (hval : Value.okWide P w r b0 t v) (hd : DataW.Trod enc P w base spare held t v d ps) :
    ∃ n, v = .float .f64 n ∧ d = .lit (.float .f64 n) ∧ ps = [] ∧ n < 18446744073709551616 := by
  obtain ⟨n, rfl⟩ : ∃ n, v = .float .f64 n := by
    simp only [Value.okWide, ht, Cell.okWide] at hval
    cases v <;> simp_all [Cell.ok]
  obtain ⟨fuel, hf⟩ := hd
  obtain ⟨n', h, hx, hw⟩ := trod_f64 ht hf
  simp [Value.cells] at h
  subst h
  simp only [Prod.mk.injEq] at hx
  exact ⟨n, rfl, hx.1, hx.2, hw⟩
end
end Go.Proofs.Ytdljnhdhigbefaa
