/- Layer 14, the program: what is not factored. No condition but on lengths. -/
import Derived.Test.YtdljnhdhigbefaaIpZ
import Derived.Test.YtdljnhdhigbefaaZz17
import Derived.WalkMore
import Derived.Test.YtdljnhdhigbefaaZz9
namespace Go.Proofs.Ytdljnhdhigbefaa
open Go Go.RowKit
set_option maxRecDepth 1000000
set_option linter.unusedSimpArgs false
set_option linter.unusedVariables false

set_option maxHeartbeats 4000000 in
theorem Factor_err (w : World) (da ea : Option Addr) (ds es : List Nat) (dc ec x s n m : Nat) (hdl : ds.length = n) (hel : es.length = m) (hD : Fls w da ds) (hE : Fls w ea es) (hn : n ≤ 1000) (hm : m ≤ 1000) (hx : x < 18446744073709551616) (hv : askS ds es [x] ≠ 0) :
    Calls Try.prog 37 #[.agg #[.slice da n dc, .slice ea m ec], .float .f64 (raw x s)] w fun e w' => e = .returned (.tuple #[.agg #[.slice none 0 0, .slice none 0 0, .slice none 0 0, .slice none 0 0, .slice none 0 0], .int .i64 (askS ds es [x])]) ∧ Below w.heap.size w w' := by
  have hH1 := fun (W : World) (g : Nat) (hW : Below w.heap.size w W) (hM : Box W g [.float .f64 (raw x s)]) => by
    have h := askI_any W da ea (some ⟨g, 0, none⟩) ds es [x] dc ec 1 (hD.below hW) (hE.below hW) (fun _ => ⟨g, 0, rfl, hM.lt, fun i v hi => by
      cases i with
      | zero => obtain rfl : x = v := by simpa using hi
                exact ⟨s, hM.cell 0⟩
      | succ i => simp at hi⟩) (by unfold maxLen; omega) (by unfold maxLen; omega) (by show 1 ≤ maxLen; unfold maxLen; omega)
    rw [hdl, hel] at h
    exact h
  have H1 := Lib.hid hH1
  clear hH1 hD hE hdl hel hx
  obtain ⟨q, hq⟩ : ∃ q, q = askS ds es [x] := ⟨_, rfl⟩
  rw [← hq] at H1 hv ⊢
  clear hq
  have x1 : Box ((w.alloc (.cells #[.slice da n dc, .slice ea m ec] 54)).alloc (.cells #[.slice none 0 0, .slice none 0 0, .slice none 0 0, .slice none 0 0, .slice none 0 0] 45)) w.heap.size [.slice da n dc, .slice ea m ec] := (Box.newA w [_, _] _ rfl).alloc _
  have x2 : Box ((w.alloc (.cells #[.slice da n dc, .slice ea m ec] 54)).alloc (.cells #[.slice none 0 0, .slice none 0 0, .slice none 0 0, .slice none 0 0, .slice none 0 0] 45)) (w.heap.size + 1) [.slice none 0 0, .slice none 0 0, .slice none 0 0, .slice none 0 0, .slice none 0 0] := Box.newA _ [_, _, _, _, _] _ (by simp)
  have hB0 : Below w.heap.size w ((w.alloc (.cells #[.slice da n dc, .slice ea m ec] 54)).alloc (.cells #[.slice none 0 0, .slice none 0 0, .slice none 0 0, .slice none 0 0, .slice none 0 0] 45)) := ((Below.refl _ _).alloc (Nat.le_refl _) _).alloc (by simp) _
  have hs2 : ((w.alloc (.cells #[.slice da n dc, .slice ea m ec] 54)).alloc (.cells #[.slice none 0 0, .slice none 0 0, .slice none 0 0, .slice none 0 0, .slice none 0 0] 45)).heap.size = w.heap.size + 1 + 1 := by simp
  obtain ⟨w2, hw2⟩ : ∃ W, W = ((w.alloc (.cells #[.slice da n dc, .slice ea m ec] 54)).alloc (.cells #[.slice none 0 0, .slice none 0 0, .slice none 0 0, .slice none 0 0, .slice none 0 0] 45)) := ⟨_, rfl⟩
  rw [← hw2] at x1 x2 hB0 hs2
  have HB := Lib.hid (And.intro hB0 hs2)
  have X2 := Lib.hid x2
  have x3 : Box (w2.alloc (.cells #[.float .f64 (raw x s)] 40)) (w.heap.size + 1 + 1) [.float .f64 (raw x s)] := Box.newA _ [_] _ hs2
  have hB1 : Below w.heap.size w (w2.alloc (.cells #[.float .f64 (raw x s)] 40)) := hB0.alloc (by rw [hs2]; omega) _
  have HC := Lib.hid (H1.out _ _ hB1 x3)
  obtain ⟨q1, q2, q3⟩ := x1.facts
  clear hB0 x1 x2 x3 hB1 H1
  go_enter Try.func37, Try.ntmps37
  go_upto_region 1 with (fail)
  rw [← hw2]
  clear hw2
  go_wp2_with fail
  refine HC.out.mono ?_
  rintro e w3 ⟨rfl, hb⟩
  have hbb : Below w2.heap.size w2 w3 := below_step ((Below.refl _ _).alloc (Nat.le_refl _) _) (by simp) hb
  have B3 := Lib.hid (below_step HB.out.1 HB.out.1.size hbb)
  have Y2 := Lib.hid (X2.out.below hbb)
  clear q1 q2 q3 hb hbb HC X2 HB hs2
  obtain ⟨q1, q2, q3⟩ := Y2.out.facts
  have t1 : decide (q = 0) = false := decide_eq_false hv
  go_wp2_with fail
  have hbz := Y2.out.put5s (.slice none 0 0) (.slice none 0 0) (.slice none 0 0) (.slice none 0 0) (.slice none 0 0)
  exact bodyPost_ret (results_two rfl (rv_cell (g := w.heap.size + 1) rfl hbz rfl Try.underlying45 (by kernel_rfl)) (rv_tmp rfl)) rfl ⟨rfl, below5 B3.out (by omega) _ _ _ _ _⟩
end Go.Proofs.Ytdljnhdhigbefaa

/- Layer 14: a vector while it is made; rows of floats in cells. No condition but on lengths. -/
namespace Go.Proofs.Ytdljnhdhigbefaa
open Go Go.RowKit
set_option maxRecDepth 1000000
set_option linter.unusedSimpArgs false
set_option linter.unusedVariables false

/-- Rows of n floats each, in cells. -/
def RwI (w : World) (a : Option Addr) (cl : List (List Nat)) (n : Nat) : Prop := cl ≠ [] → ∃ b off, a = some ⟨b, off, none⟩ ∧ b < w.heap.size ∧ ∀ i l, cl[i]? = some l → ∃ ra rc, w.cell? ⟨b, off + i, none⟩ = some (.slice ra n rc) ∧ Fls w ra l ∧ l.length = n
theorem RwI.below {w w' : World} {a : Option Addr} {cl : List (List Nat)} {n : Nat} (h : RwI w a cl n) (hb : Below w.heap.size w w') : RwI w' a cl n := fun hz => by
  obtain ⟨b, off, e, hlt, hc⟩ := h hz
  refine ⟨b, off, e, Nat.lt_of_lt_of_le hlt hb.size, fun i l hi => ?_⟩
  obtain ⟨ra, rc, h1, h2, h3⟩ := hc i l hi
  exact ⟨ra, rc, by rw [(below_cells hb).1 _ _ hlt]; exact h1, h2.below hb, h3⟩
theorem RwI.at {w : World} {a : Option Addr} {cl : List (List Nat)} {n : Nat} (h : RwI w a cl n) {i : Nat} (hi : i < cl.length) : ∃ b off ra rc, a = some ⟨b, off, none⟩ ∧ b < w.heap.size ∧ w.cell? ⟨b, off + i, none⟩ = some (.slice ra n rc) ∧ Fls w ra (cl.getD i []) ∧ (cl.getD i []).length = n := by
  obtain ⟨b, off, e, hlt, hc⟩ := h (fun e => by rw [e] at hi; simp at hi)
  obtain ⟨ra, rc, h1, h2, h3⟩ := hc i (cl.getD i []) (by rw [List.getD_eq_getElem?_getD, List.getElem?_eq_getElem hi]; rfl)
  exact ⟨b, off, ra, rc, e, hlt, h1, h2, h3⟩
/-- What stands while a vector is made: its variable at P, its floats in a block of the call's own. -/
structure VxM (w3 W : World) (P y0b n : Nat) (ay : Option Addr) (yb cy : Nat) (y : List Nat) : Prop where
  pb : Box W P [.slice ay n cy]
  f : FS W ay yb y
  wd : Words y
  len : y.length = n
  bl : Bls [P, y0b] w3.heap.size w3 W
  ne : yb ≠ P ∧ (yb = y0b ∨ w3.heap.size ≤ yb)
  lt : P < w3.heap.size
section
variable {w3 W W' W1 : World} {P y0b n yb cy : Nat} {ay : Option Addr} {y z : List Nat}
theorem VxM.size (h : VxM w3 W P y0b n ay yb cy y) : w3.heap.size ≤ W.heap.size := h.bl.size
theorem VxM.step (h : VxM w3 W P y0b n ay yb cy y) (hb : Below W.heap.size W W') : VxM w3 W' P y0b n ay yb cy y :=
  ⟨h.pb.below hb, h.f.below hb, h.wd, h.len, h.bl.trans (Bls.of (Below.mono hb h.bl.size)), h.ne, h.lt⟩
theorem VxM.inp (h : VxM w3 W P y0b n ay yb cy y) (g : InP W W' ay yb z) (hl : z.length = n) : VxM w3 W' P y0b n ay yb cy z := by
  refine ⟨h.pb.bel h.ne.1.symm g.bel, g.f, g.wd, hl, h.bl.trans ?_, h.ne, h.lt⟩
  rcases h.ne.2 with e | e
  · exact Bls.ofBel (g.bel.mono h.bl.size) (by rw [e]; simp)
  · exact Bls.of ((g.bel.mono h.bl.size).below e)
theorem VxM.put {a : Option Addr} {b c : Nat} (h : VxM w3 W P y0b n ay yb cy y) (hb : Below W.heap.size W W1) (hf : FS W1 a b z) (hB : W.heap.size ≤ b) (hl : z.length = n) (hw : Words z) : VxM w3 (W1.setCell ⟨P, 0, none⟩ (.slice a n c)) P y0b n a b c z := by
  have hs := h.bl.size
  have hP := h.lt
  exact ⟨(h.pb.below hb).set 0 _, hf.otherU (by omega) _ _, hw, hl, (h.bl.trans (Bls.of (Below.mono hb hs))).set (by simp) _ _, ⟨by omega, .inr (by omega)⟩, hP⟩
theorem FaM.kept {w0 : World} {X ca ba bb bc bl bk m : Nat} {aa : Option Addr} {f : FaS} (h : FaM w0 w3 X aa ca ba bb bc bl bk n m f) (hP : P < w0.heap.size) (hy : y0b < w0.heap.size) (hn : n ≠ 0) (hb : Bls [P, y0b] w3.heap.size w3 W) :
    Fls W aa f.a ∧ Fls W (some ⟨bb, 0, none⟩) f.b ∧ Fls W (some ⟨bc, 0, none⟩) f.c ∧ Fls W (some ⟨bl, 0, none⟩) f.l ∧ Bos W (some ⟨bk, 0, none⟩) f.s := by
  have k : ∀ {b : Nat}, w0.heap.size ≤ b → b ∉ [P, y0b] := fun {b} h1 h2 => by
    simp only [List.mem_cons, List.not_mem_nil, or_false] at h2
    rcases h2 with e | e <;> omega
  obtain ⟨rfl, hfa⟩ := h.addr hn
  exact ⟨(hfa.bls hb hfa.lt (k (h.lo.2.1 hn))).fls, (h.b.bls hb h.b.lt (k h.lo.2.2.1)).fls, (h.c.bls hb h.c.lt (k h.lo.2.2.2.1)).fls, (h.l.bls hb h.l.lt (k h.lo.2.2.2.2.1)).fls, Bos.ofBox (h.s.bls hb h.s.lt (k h.lo.2.2.2.2.2))⟩
end
/-- A pass over a cluster, and two. -/
def pasI (z : List Nat) (cl : List (List Nat)) : Nat → List Nat
  | 0 => z
  | t + 1 => lesA (pasI z cl t) cl cl.length
theorem lesA_len (y : List Nat) (cl : List (List Nat)) : ∀ k, (lesA y cl k).length = y.length
  | 0 => rfl
  | k + 1 => by rw [lesA, lesI_len, lesA_len y cl k]
theorem pasI_len (z : List Nat) (cl : List (List Nat)) : ∀ k, (pasI z cl k).length = z.length
  | 0 => rfl
  | k + 1 => by rw [pasI, lesA_len, pasI_len z cl k]
theorem rndI_eq (f : FaS) (cl : List (List Nat)) (y : List Nat) : rndI f cl y =
    if okI (nrmI (solI f.a f.b f.c f.l f.s y)) then (if okI (nrmI (pasI (unitI (solI f.a f.b f.c f.l f.s y)) cl 2)) then (unitI (pasI (unitI (solI f.a f.b f.c f.l f.s y)) cl 2), true) else (pasI (unitI (solI f.a f.b f.c f.l f.s y)) cl 2, false)) else (solI f.a f.b f.c f.l f.s y, false) := rfl
theorem vecL_step {f : FaS} {cl : List (List Nat)} {y Y : List Nat} {r st : Nat} (h : vecL f cl y r = (Y, st, true)) : vecL f cl y (r + 1) = ((rndI f cl Y).1, st + 1, (rndI f cl Y).2) := by
  rw [vecL, h]
  rfl
theorem vecL_stop {f : FaS} {cl : List (List Nat)} {y Y : List Nat} {r st : Nat} (h : vecL f cl y r = (Y, st, false)) : ∀ k, vecL f cl y (r + k) = (Y, st, false)
  | 0 => h
  | k + 1 => by
    rw [show r + (k + 1) = (r + k) + 1 from rfl, vecL, vecL_stop h k]
    rfl
theorem vecL_steps (f : FaS) (cl : List (List Nat)) (y : List Nat) : ∀ r, (vecL f cl y r).2.1 ≤ r
  | 0 => by
    rw [vecL]
    split <;> exact Nat.le_refl _
  | r + 1 => by
    have h := vecL_steps f cl y r
    rw [vecL]
    split
    · exact Nat.succ_le_succ h
    · omega
theorem vecL_zero (f : FaS) (cl : List (List Nat)) (y : List Nat) : vecL f cl y 0 = (if okI (nrmI y) then unitI y else y, 0, okI (nrmI y)) := by
  rw [vecL]
  cases okI (nrmI y) <;> rfl
theorem rndI_no {f : FaS} {cl : List (List Nat)} {y s : List Nat} (hs : solI f.a f.b f.c f.l f.s y = s) (h : okI (nrmI s) = false) : rndI f cl y = (s, false) := by
  rw [rndI_eq, hs, h]
  rfl
theorem rndI_yes {f : FaS} {cl : List (List Nat)} {y s : List Nat} (hs : solI f.a f.b f.c f.l f.s y = s) (h : okI (nrmI s) = true) : rndI f cl y = (if okI (nrmI (pasI (unitI s) cl 2)) then unitI (pasI (unitI s) cl 2) else pasI (unitI s) cl 2, okI (nrmI (pasI (unitI s) cl 2))) := by
  rw [rndI_eq, hs, h, if_pos rfl]
  cases okI (nrmI (pasI (unitI s) cl 2)) <;> rfl
theorem srtI_words (j : Nat) : ∀ n, Words (srtI j n)
  | 0 => fun x hx => by cases hx
  | n + 1 => fun x hx => by
    rw [srtI] at hx
    rcases List.mem_append.1 hx with h | h
    · exact srtI_words j n x h
    · rw [List.mem_singleton.1 h]
      exact fmul_lt _ _
end Go.Proofs.Ytdljnhdhigbefaa

/- Layer 14, the program: a vector (printed by gen_is.py). No condition but on lengths. -/
namespace Go.Proofs.Ytdljnhdhigbefaa
open Go Go.RowKit
set_option maxRecDepth 1000000
set_option linter.unusedSimpArgs false
set_option linter.unusedVariables false

set_option maxHeartbeats 32000000 in
theorem vector_ok (w : World) (da ea ka : Option Addr) (ds es : List Nat) (dc ec x j n m kl kc : Nat) (cl : List (List Nat)) (hdl : ds.length = n) (hel : es.length = m) (hkl : cl.length = kl) (hn0 : n ≠ 0) (hT : TrI w da ea ds es dc ec) (hv : askS ds es [x] = 0) (hx : x < 18446744073709551616) (hj : j ≤ 9223372036854775807) (hk : kl ≤ 1000) (hC : RwI w ka cl n) :
    Calls Try.prog 71 #[.agg #[.slice da n dc, .slice ea m ec], .float .f64 x, .int .i64 j, .slice ka kl kc] w fun e w' => ∃ a b c, e = .returned (.tuple #[.slice a n c, .int .i64 ((vecI ds es x j cl).2.1 : Nat), .bool (vecI ds es x j cl).2.2]) ∧ FS w' a b (vecI ds es x j cl).1 ∧ w.heap.size ≤ b ∧ b < w'.heap.size ∧ Words (vecI ds es x j cl).1 ∧ (vecI ds es x j cl).1.length = n ∧ Below w.heap.size w w' := by
  obtain ⟨⟨hn, hm⟩, _⟩ := askS_zero hv
  have HLN := Lib.hid (show n ≤ 512 ∧ m = n - 1 ∧ kl ≤ 1000 ∧ cl.length = kl from ⟨by omega, by omega, hk, hkl⟩)
  have hn9 : n ≤ 512 := by omega
  have hk9 : kl ≤ 1000 := hk
  have hn1 : 0 < n := by omega
  have HS := Lib.hid (fun W => Start_ok W n j (by omega) hj)
  have HF := Lib.hid (fun (W : World) (hW : Below w.heap.size w W) => Factor_ok W da ea ds es dc ec x n m hdl hel (hT.below hW) hv hx)
  have HC := Lib.hid (fun (W : World) (hW : Below w.heap.size w W) => hC.below hW)
  obtain ⟨f, hf⟩ : ∃ f, f = facI ds es x := ⟨_, rfl⟩
  obtain ⟨y0, hy0⟩ : ∃ y, y = srtI j n := ⟨_, rfl⟩
  have HY0 := Lib.hid (show y0.length = n from by rw [hy0, srtI_len])
  have HVC := Lib.hid (show vecI ds es x j cl = vecL f cl y0 3 from by unfold vecI; rw [← hf, hdl, ← hy0])
  rw [← hf] at HF
  rw [← hy0] at HS
  obtain ⟨V, hV⟩ : ∃ V, V = vecI ds es x j cl := ⟨_, rfl⟩
  rw [← hV] at HVC ⊢
  have HWY := Lib.hid (show Words y0 from hy0 ▸ srtI_words j n)
  clear hf hy0 hV hT hv hx hj hk hC hdl hel hkl hn hm
  have x1 : Box (w.alloc (.cells #[.slice da n dc, .slice ea m ec] 54)) w.heap.size [.slice da n dc, .slice ea m ec] := Box.newA w [.slice da n dc, .slice ea m ec] _ rfl
  have hB0 : Below w.heap.size w (w.alloc (.cells #[.slice da n dc, .slice ea m ec] 54)) := (Below.refl _ _).alloc (Nat.le_refl _) _
  obtain ⟨w1, hw1⟩ : ∃ W, W = w.alloc (.cells #[.slice da n dc, .slice ea m ec] 54) := ⟨_, rfl⟩
  rw [← hw1] at x1 hB0
  have X1 := Lib.hid x1
  have HB := Lib.hid hB0
  clear x1 hB0
  go_enter Try.func71, Try.ntmps71
  go_wp2_with fail
  go_step3
  go_upto_region 1 with (fail)
  rw [← hw1]
  clear hw1
  obtain ⟨q1, q2, q3⟩ := X1.out.facts
  go_wp2_with fail
  refine (HS.out _).mono ?_
  rintro e w2 ⟨⟨v, rfl, hO⟩, hb⟩
  obtain ⟨ay, yb, cy, rfl, _, _, hyb, hFy, hlt⟩ := hO.fs
  rw [HY0.out]
  have B2 := Lib.hid (below_step HB.out HB.out.size hb)
  have Y1 := Lib.hid (X1.out.below hb)
  have FY := Lib.hid hFy
  have HYB := Lib.hid (show w.heap.size ≤ yb ∧ yb < w2.heap.size from ⟨Nat.le_trans HB.out.size hyb, hlt (by intro e; have := HY0.out; rw [e] at this; exact hn0 this.symm)⟩)
  clear q1 q2 q3 hO hyb hFy hlt hb X1 HB HS
  go_upto_region 2 with (fail)
  have hba : Below w2.heap.size w2 (w2.alloc (.cells #[.slice ay n cy] 22)) := (Below.refl _ _).alloc (Nat.le_refl _) _
  have hbp : Box (w2.alloc (.cells #[.slice ay n cy] 22)) w2.heap.size [.slice ay n cy] := Box.newA w2 [_] _ rfl
  have h3 : Below w.heap.size w (w2.alloc (.cells #[.slice ay n cy] 22)) := below_step B2.out B2.out.size hba
  have h4 := Y1.out.below hba
  have h5 := FY.out.below hba
  have h6 : w2.heap.size < (w2.alloc (.cells #[.slice ay n cy] 22)).heap.size := hbp.lt
  obtain ⟨w3, hw3⟩ : ∃ W, W = (w2.alloc (.cells #[.slice ay n cy] 22)) := ⟨_, rfl⟩
  obtain ⟨P, hP⟩ : ∃ P, P = w2.heap.size := ⟨_, rfl⟩
  rw [← hw3] at hba hbp h3 h4 h5 h6 ⊢
  rw [← hP] at hbp h6 HYB ⊢
  have HPB := Lib.hid (show w.heap.size ≤ P ∧ P < w3.heap.size from ⟨by rw [hP]; exact B2.out.size, h6⟩)
  have B3 := Lib.hid h3
  have Y3 := Lib.hid h4
  have F3 := Lib.hid h5
  have P3 := Lib.hid hbp
  clear hba hbp h3 h4 h5 h6 hw3 hP B2 Y1 FY
  obtain ⟨q1, q2, q3⟩ := Y3.out.facts
  go_wp2_with fail
  refine (HF.out _ B3.out).mono ?_
  rintro e w4 ⟨X, aa, ca, ba, bb, bc, bl, bk, rfl, hFa⟩
  have FA := Lib.hid hFa
  clear hFa q1 q2 q3 HF Y3
  have B4 := Lib.hid (below_step B3.out B3.out.size FA.out.bel)
  have F4 := Lib.hid (F3.out.below FA.out.bel)
  have P4 := Lib.hid (P3.out.below FA.out.bel)
  clear F3 P3 B3
  dsimp only
  go_upto_region 3 with (fail)
  have hba : Below w4.heap.size w4 (w4.alloc (.cells #[.slice aa n ca, .slice (some ⟨bb, 0, none⟩) n n, .slice (some ⟨bc, 0, none⟩) n n, .slice (some ⟨bl, 0, none⟩) m m, .slice (some ⟨bk, 0, none⟩) m m] 45)) := (Below.refl _ _).alloc (Nat.le_refl _) _
  have hbq : Box (w4.alloc (.cells #[.slice aa n ca, .slice (some ⟨bb, 0, none⟩) n n, .slice (some ⟨bc, 0, none⟩) n n, .slice (some ⟨bl, 0, none⟩) m m, .slice (some ⟨bk, 0, none⟩) m m] 45)) w4.heap.size [.slice aa n ca, .slice (some ⟨bb, 0, none⟩) n n, .slice (some ⟨bc, 0, none⟩) n n, .slice (some ⟨bl, 0, none⟩) m m, .slice (some ⟨bk, 0, none⟩) m m] := Box.newA w4 [.slice aa n ca, .slice (some ⟨bb, 0, none⟩) n n, .slice (some ⟨bc, 0, none⟩) n n, .slice (some ⟨bl, 0, none⟩) m m, .slice (some ⟨bk, 0, none⟩) m m] _ rfl
  have h3 : Below w.heap.size w (w4.alloc (.cells #[.slice aa n ca, .slice (some ⟨bb, 0, none⟩) n n, .slice (some ⟨bc, 0, none⟩) n n, .slice (some ⟨bl, 0, none⟩) m m, .slice (some ⟨bk, 0, none⟩) m m] 45)) := below_step B4.out B4.out.size hba
  have h4 := FA.out.step hba
  have h5 := F4.out.below hba
  have h6 := P4.out.below hba
  have h7 := FA.out.bel.size
  obtain ⟨w5, hw5⟩ : ∃ W, W = (w4.alloc (.cells #[.slice aa n ca, .slice (some ⟨bb, 0, none⟩) n n, .slice (some ⟨bc, 0, none⟩) n n, .slice (some ⟨bl, 0, none⟩) m m, .slice (some ⟨bk, 0, none⟩) m m] 45)) := ⟨_, rfl⟩
  obtain ⟨U, hU⟩ : ∃ P, P = w4.heap.size := ⟨_, rfl⟩
  rw [← hw5] at hba hbq h3 h4 h5 h6 ⊢
  rw [← hU] at hbq h7 ⊢
  have HUQ := Lib.hid (show P < U ∧ yb < U ∧ U < w5.heap.size ∧ P < w5.heap.size ∧ P ≠ yb from by have h1 := hbq.lt; have h2 := HPB.out; have h3 := HYB.out; omega)
  have B5 := Lib.hid h3
  have F5 := Lib.hid h4
  have Y5 := Lib.hid h5
  have P5 := Lib.hid h6
  have Q5 := Lib.hid hbq
  clear hba hbq h3 h4 h5 h6 h7 hw5 hU B4 FA F4 P4
  have HBW := Lib.hid (show ∀ W, Bls [P, yb] w5.heap.size w5 W → Below w.heap.size w W from fun W h => B5.out.trans ((h.mono B5.out.size).below (fun k hk => by
    simp only [List.mem_cons, List.not_mem_nil, or_false] at hk
    rcases hk with e | e
    · rw [e]; exact HPB.out.1
    · rw [e]; exact HYB.out.1)))
  have HFK := Lib.hid (show ∀ W, Bls [P, yb] w5.heap.size w5 W → _ from fun W h => F5.out.kept HPB.out.2 (Nat.lt_trans HYB.out.2 HPB.out.2) hn0 h)
  have HQK := Lib.hid (show ∀ W, Bls [P, yb] w5.heap.size w5 W → Box W U [.slice aa n ca, .slice (some ⟨bb, 0, none⟩) n n, .slice (some ⟨bc, 0, none⟩) n n, .slice (some ⟨bl, 0, none⟩) m m, .slice (some ⟨bk, 0, none⟩) m m] from fun W h => Q5.out.bls h HUQ.out.2.2.1 (by have := HUQ.out; simp only [List.mem_cons, List.not_mem_nil, or_false]; omega))
  have HFL := Lib.hid F5.out.len
  have G0 := Lib.hid (show VxM w5 w5 P yb n ay yb cy y0 from ⟨P5.out, Y5.out, HWY.out, HY0.out, Bls.refl _ _ _, ⟨HUQ.out.2.2.2.2.symm, .inl rfl⟩, HUQ.out.2.2.2.1⟩)
  clear F5 Y5 P5 Q5 B5
  go_wp2_with fail
  refine (unit_any w5 P yb cy ay y0 (by rw [HY0.out]; exact G0.out.pb) HUQ.out.2.2.2.2 G0.out.f HWY.out (by rw [HY0.out]; omega)).mono ?_
  rintro e w6 ⟨rfl, hI⟩
  have HV0 := Lib.hid (vecL_zero f cl y0)
  have G1 := Lib.hid (G0.out.inp hI (by split; exact (unitI_len _).trans HY0.out; exact HY0.out))
  clear hI G0
  generalize (if okI (nrmI y0) then unitI y0 else y0) = Y0 at *
  generalize okI (nrmI y0) = ok0 at *
  dsimp only
  go_wp2_with fail
  go_step3
  go_wp2_with fail
  go_loopw [15, 17, 37] (fun s15 s17 s37 wr => ∃ (r st : Nat) (ok : Bool) (Y : List Nat) (ay' : Option Addr) (yb' cy' : Nat), s37 = .int .i64 r ∧ r ≤ 3 ∧ vecL f cl y0 r = (Y, st, ok) ∧ s15 = .int .i64 st ∧ s17 = .bool ok ∧ VxM w5 wr P yb n ay' yb' cy' Y) (fun _ _ s37 _ => 3 - (intOf s37).toNat)
  case atStart => exact ⟨0, 0, _, _, _, _, _, rfl, by decide, HV0.out, rfl, rfl, G1.out⟩
  case round =>
    obtain ⟨r, st, ok, Y, ay', yb', cy', rfl, hr, hV, rfl, rfl, hG⟩ := hrel
    have G := Lib.hid hG
    have HV := Lib.hid hV
    have hst : st ≤ 3 := by have := vecL_steps f cl y0 r; rw [hV] at this; exact Nat.le_trans this hr
    clear hG hV
    by_cases hr3 : r < 3
    case neg =>
      obtain rfl : r = 3 := by omega
      clear hr3 hr
      have HFV := Lib.hid (show V = (Y, st, ok) from by rw [HVC.out]; exact HV.out)
      obtain ⟨z1, z2, z3⟩ := G.out.pb.facts
      go_wp2_with fail
      have hby : w.heap.size ≤ yb' ∧ yb' < wr.heap.size := ⟨by have h1 := G.out.ne.2; have h2 := HYB.out.1; have h3 := HUQ.out; have h4 := HPB.out; omega, (G.out.f.flb (by rw [G.out.len]; omega)).2.lt⟩
      refine noGoto_ret ?_
      exact bodyPost_ret (results_three rfl (rv_tmp rfl) (rv_tmp rfl) (rv_tmp rfl)) rfl ⟨_, yb', _, by rw [HFV.out]; rfl, by rw [HFV.out]; exact G.out.f, hby.1, hby.2, by rw [HFV.out]; exact G.out.wd, by rw [HFV.out]; exact G.out.len, HBW.out _ G.out.bl⟩
    case pos =>
      have hr9 : (r : Int) < 3 := by omega
      cases ok
      case false =>
        obtain ⟨k, hk⟩ : ∃ k, 3 = r + k := ⟨3 - r, by omega⟩
        have HV3 := Lib.hid (show vecL f cl y0 3 = (Y, st, false) from by rw [hk]; exact vecL_stop HV.out k)
        clear hk
        have HFV := Lib.hid (show V = (Y, st, false) from by rw [HVC.out]; exact HV3.out)
        obtain ⟨z1, z2, z3⟩ := G.out.pb.facts
        go_wp2_with fail
        have hby : w.heap.size ≤ yb' ∧ yb' < wr.heap.size := ⟨by have h1 := G.out.ne.2; have h2 := HYB.out.1; have h3 := HUQ.out; have h4 := HPB.out; omega, (G.out.f.flb (by rw [G.out.len]; omega)).2.lt⟩
        refine noGoto_ret ?_
        exact bodyPost_ret (results_three rfl (rv_tmp rfl) (rv_tmp rfl) (rv_tmp rfl)) rfl ⟨_, yb', _, by rw [HFV.out]; rfl, by rw [HFV.out]; exact G.out.f, hby.1, hby.2, by rw [HFV.out]; exact G.out.wd, by rw [HFV.out]; exact G.out.len, HBW.out _ G.out.bl⟩
      case true =>
        obtain ⟨z1, z2, z3⟩ := G.out.pb.facts
        obtain ⟨f1, f2, f3⟩ := (HQK.out _ G.out.bl).facts
        go_upto_region 9 with (fail)
        go_wp2_with fail
        obtain ⟨g1, g2, g3, g4, g5⟩ := HFK.out _ G.out.bl
        refine (isolve_ok wr aa (some ⟨bb, 0, none⟩) (some ⟨bc, 0, none⟩) (some ⟨bl, 0, none⟩) (some ⟨bk, 0, none⟩) ay' f.a f.b f.c f.l Y f.s n m ca n n m m cy' g1 g2 g3 g4 g5 G.out.f.fls (fun e => by have h := (G.out.f.flb (by rw [G.out.len]; omega)).1; rw [e] at h; cases h) G.out.wd hn9 G.out.len HFL.out.1 HFL.out.2.1 HFL.out.2.2.1 HFL.out.2.2.2.1 HFL.out.2.2.2.2 HLN.out.2.1).mono ?_
        rintro e w7 ⟨a7, c7, b7, rfl, hF7, hb7, hW7, hB7⟩
        clear g1 g2 g3 g4 g5 f1 f2 f3 z1 z2 z3
        obtain ⟨S, hS⟩ : ∃ S, S = solI f.a f.b f.c f.l f.s Y := ⟨_, rfl⟩
        have HSL := Lib.hid (show S.length = n from by rw [hS, solI_len]; exact G.out.len)
        rw [← hS] at hF7 hW7
        have HS7 := Lib.hid hS.symm
        clear hS
        have G7 := Lib.hid (G.out.put (c := c7) hB7 hF7 hb7 HSL.out hW7)
        have hP7 := G.out.pb.below hB7
        obtain ⟨z1, z2, z3⟩ := hP7.facts
        have hz7 : w7.heap.size ≤ w7.heap.size := Nat.le_refl _
        clear hF7 hb7 hW7 hB7 hP7 hz7
        dsimp only
        go_upto_region 10 with (fail)
        obtain ⟨w8, hw8⟩ : ∃ W, W = w7.setCell ⟨P, 0, none⟩ (.slice a7 n c7) := ⟨_, rfl⟩
        rw [← hw8] at G7 ⊢
        clear hw8 z1 z2 z3 G
        obtain ⟨st1, hst1⟩ : ∃ s, s = st + 1 := ⟨_, rfl⟩
        have hzs : wrap64 ((st : Int) + 1) = (st1 : Int) := by unfold wrap64; omega
        have HST := Lib.hid hst1
        have hst4 : st1 ≤ 4 := by omega
        clear hst1 hst
        go_wp2_with fail
        refine (unit_any w8 P b7 c7 a7 S (by rw [G7.out.len]; exact G7.out.pb) (fun e => G7.out.ne.1 e.symm) G7.out.f G7.out.wd (by rw [G7.out.len]; omega)).mono ?_
        rintro e w9 ⟨rfl, hI⟩
        have G9 := Lib.hid (G7.out.inp hI (by split; exact (unitI_len _).trans G7.out.len; exact G7.out.len))
        clear hI G7
        obtain ⟨ok1, hok1⟩ : ∃ o, o = okI (nrmI S) := ⟨_, rfl⟩
        rw [← hok1] at G9 ⊢
        have HO1 := Lib.hid hok1.symm
        clear hok1
        cases ok1
        case false =>
          have HVN := Lib.hid (show vecL f cl y0 (r + 1) = (S, st1, false) from by rw [vecL_step HV.out, rndI_no HS7.out HO1.out, HST.out])
          obtain ⟨k, hk⟩ : ∃ k, 3 = r + 1 + k := ⟨2 - r, by omega⟩
          have HV3 := Lib.hid (show vecL f cl y0 3 = (S, st1, false) from by rw [hk]; exact vecL_stop HVN.out k)
          clear hk
          replace G9 := Lib.hid (show VxM w5 w9 P yb n a7 b7 c7 S from G9.out)
          have HFV := Lib.hid (show V = (S, st1, false) from by rw [HVC.out]; exact HV3.out)
          obtain ⟨z1, z2, z3⟩ := G9.out.pb.facts
          go_wp2_with fail
          have hby : w.heap.size ≤ b7 ∧ b7 < w9.heap.size := ⟨by have h1 := G9.out.ne.2; have h2 := HYB.out.1; have h3 := HUQ.out; have h4 := HPB.out; omega, (G9.out.f.flb (by rw [G9.out.len]; omega)).2.lt⟩
          refine noGoto_ret ?_
          exact bodyPost_ret (results_three rfl (rv_tmp rfl) (rv_tmp rfl) (rv_tmp rfl)) rfl ⟨_, b7, _, by rw [HFV.out]; rfl, by rw [HFV.out]; exact G9.out.f, hby.1, hby.2, by rw [HFV.out]; exact G9.out.wd, by rw [HFV.out]; exact G9.out.len, HBW.out _ G9.out.bl⟩
        case true =>
          obtain ⟨Z, hZ⟩ : ∃ Z, Z = unitI S := ⟨_, rfl⟩
          have HZ := Lib.hid hZ.symm
          replace G9 := Lib.hid (show VxM w5 w9 P yb n a7 b7 c7 (pasI Z cl 0) from hZ ▸ G9.out)
          clear hZ
          go_wp2_with fail
          go_loopw [53] (fun s53 wr => ∃ t : Nat, s53 = .int .i64 t ∧ t ≤ 2 ∧ VxM w5 wr P yb n a7 b7 c7 (pasI Z cl t)) (fun s53 _ => 2 - (intOf s53).toNat)
          case atStart => exact ⟨0, rfl, by decide, G9.out⟩
          case round =>
            obtain ⟨t, rfl, ht, hG⟩ := hrel
            have G := Lib.hid hG
            clear hG
            by_cases ht2 : t < 2
            case pos =>
              have ht9 : (t : Int) < 2 := by omega
              go_wp2_with fail
              go_loopw [57] (fun s57 wr => ∃ k : Nat, s57 = .int .i64 k ∧ k ≤ kl ∧ VxM w5 wr P yb n a7 b7 c7 (lesA (pasI Z cl t) cl k)) (fun s57 _ => kl - (intOf s57).toNat)
              case atStart => exact ⟨0, rfl, Nat.zero_le _, G.out⟩
              case round =>
                obtain ⟨k, rfl, hk, hG⟩ := hrel
                replace G := Lib.hid hG
                clear hG
                by_cases hkk : k < kl
                case pos =>
                  obtain ⟨bx, ox, ra, rc, rfl, hbx, cx, hFx, hlx⟩ := RwI.at (HC.out w (Below.refl _ _)) (show k < cl.length by rw [HLN.out.2.2.2]; exact hkk)
                  have hBw := HBW.out _ G.out.bl
                  have cx' := ((below_cells hBw).1 _ (ox + k) hbx).trans cx
                  have HFX := Lib.hid (And.intro hFx hlx)
                  have HBw := Lib.hid hBw
                  clear cx hFx hlx hBw hbx
                  obtain ⟨z1, z2, z3⟩ := G.out.pb.facts
                  have hk99 : k < 1000 := by omega
                  go_wp2_with fail
                  have hyb7 : w.heap.size ≤ b7 := by have h1 := G.out.ne.2; have h2 := HYB.out.1; have h3 := HUQ.out; have h4 := HPB.out; omega
                  have HLE := less_any w wr a7 ra (lesA (pasI Z cl t) cl k) (cl.getD k []) b7 c7 rc HBw.out hyb7 G.out.f G.out.wd HFX.out.1 (by rw [HFX.out.2, G.out.len]) (by rw [G.out.len]; omega)
                  rw [G.out.len] at HLE
                  refine HLE.mono ?_
                  rintro e w' ⟨rfl, hI⟩
                  have G2 := Lib.hid (G.out.inp hI (by rw [lesI_len]; exact G.out.len))
                  clear hI HLE z1 z2 z3 cx' HBw HFX hyb7
                  dsimp only
                  go_wp2_with fail
                  go_roundw
                  case rel => exact ⟨k + 1, by go_num, hkk, G2.out⟩
                  case measure => simp [intOf]; omega
                case neg =>
                  have hkl2 : kl = k := by omega
                  have G3 := Lib.hid (show VxM w5 wr P yb n a7 b7 c7 (pasI Z cl (t + 1)) from by rw [pasI, HLN.out.2.2.2, hkl2]; exact G.out)
                  clear hk hkk G
                  have hkk : ¬ (k : Int) < (kl : Int) := by omega
                  go_wp2_with fail
                  go_roundw
                  case rel => exact ⟨t + 1, by go_num, ht2, G3.out⟩
                  case measure => simp [intOf]; omega
            case neg =>
              obtain rfl : t = 2 := by omega
              clear ht ht2
              go_wp2_with fail
              refine (unit_any wr P b7 c7 a7 (pasI Z cl 2) (by rw [G.out.len]; exact G.out.pb) (fun e => G.out.ne.1 e.symm) G.out.f G.out.wd (by rw [G.out.len]; omega)).mono ?_
              rintro e w10 ⟨rfl, hI⟩
              have G10 := Lib.hid (G.out.inp hI (by split; exact (unitI_len _).trans G.out.len; exact G.out.len))
              clear hI G
              have HVN := Lib.hid (show vecL f cl y0 (r + 1) = (if okI (nrmI (pasI Z cl 2)) then unitI (pasI Z cl 2) else pasI Z cl 2, st1, okI (nrmI (pasI Z cl 2))) from by rw [vecL_step HV.out, rndI_yes HS7.out HO1.out, HST.out, HZ.out])
              obtain ⟨ok2, hok2⟩ : ∃ o, o = okI (nrmI (pasI Z cl 2)) := ⟨_, rfl⟩
              obtain ⟨Y2, hY2⟩ : ∃ y, y = (if okI (nrmI (pasI Z cl 2)) then unitI (pasI Z cl 2) else pasI Z cl 2) := ⟨_, rfl⟩
              rw [← hY2, ← hok2] at HVN
              rw [← hY2] at G10
              rw [← hok2]
              clear hY2 hok2
              dsimp only
              go_wp2_with fail
              go_roundw
              case rel => exact ⟨r + 1, st1, ok2, Y2, a7, b7, c7, by go_num, hr3, HVN.out, rfl, rfl, G10.out⟩
              case measure => simp [intOf]; omega
end Go.Proofs.Ytdljnhdhigbefaa

/- Layer 17, the document: two columns turned (printed by gen_ur.py). No condition but on lengths. -/
namespace Go.Proofs.Ytdljnhdhigbefaa
open Go Go.RowKit
set_option maxRecDepth 1000000

theorem idx17 {r n j N PP : Nat} (hP : PP = r * n) (hlt : PP + j < N) (hN : N ≤ 262144) : IntKind.i64.wrap ((PP : Int) + (j : Int)) = (PP : Int) + j ∧ 0 ≤ (PP : Int) + j ∧ (PP : Int) + (j : Int) < (N : Int) ∧ ((PP : Int) + (j : Int)).toNat = PP + j := ⟨by rw [IntKind.wrap_i64]; omega, by omega, by omega, by omega⟩
set_option maxHeartbeats 8000000 in
theorem RTurn17 (w : World) (rows cols j i zb zc c sc s ss : Nat) (z : List Nat) (hF : Flb w zb z) (hl : z.length = rows * cols) (hlc : z.length ≤ zc) (hcap : zc ≤ maxLen) (hj : j < cols) (hi : i < cols) (hr : rows ≤ 512) (hc : cols ≤ 512) :
    Calls Try.prog 63 #[.agg #[.int .i64 rows, .int .i64 cols, .slice (some ⟨zb, 0, none⟩) z.length zc], .int .i64 j, .int .i64 i, .float .f64 (raw c sc), .float .f64 (raw s ss)] w fun e w' => e = .returned (.tuple #[]) ∧ Flb w' zb (rotL z cols j i c s rows) ∧ Bel w.heap.size zb w w' := by
  have hszb : z.length ≤ 262144 := by rw [hl]; exact Nat.le_trans (Nat.mul_le_mul hr hc) (by decide)
  have HZ := Lib.hid (show _ ∧ _ ∧ _ ∧ _ ∧ _ ∧ _ ∧ _ from ⟨hl, hj, hi, hr, hc, hszb, hlc⟩)
  clear hl hj hi hr hc hlc hszb hcap
  obtain ⟨W0, hW0⟩ : ∃ W0, W0 = (w.alloc (.cells #[.int .i64 rows, .int .i64 cols, .slice (some ⟨zb, 0, none⟩) z.length zc] 26)) := ⟨_, rfl⟩
  have hB0 : Below w.heap.size w W0 := hW0 ▸ (Below.refl _ _).alloc (Nat.le_refl _) _
  have x0 : Box W0 w.heap.size [.int .i64 rows, .int .i64 cols, .slice (some ⟨zb, 0, none⟩) z.length zc] := hW0 ▸ (Box.newA w [.int .i64 rows, .int .i64 cols, .slice (some ⟨zb, 0, none⟩) z.length zc] _ rfl)
  have hne : w.heap.size ≠ zb := by have := hF.lt; omega
  have X0 := Lib.hid (show _ ∧ _ ∧ _ ∧ _ from ⟨x0, hF.below hB0, (Bel.of hB0 : Bel w.heap.size zb w W0), hne⟩)
  clear hB0 x0 hF hne
  go_enter Try.func63, Try.ntmps63
  go_upto_region 1 with (fail)
  rw [← hW0]
  clear hW0
  go_wp2_with fail
  go_loopw [10] (fun si wr => ∃ r : Nat, r ≤ rows ∧ si = .int .i64 r ∧ Box wr w.heap.size [.int .i64 rows, .int .i64 cols, .slice (some ⟨zb, 0, none⟩) z.length zc] ∧ Flb wr zb (rotL z cols j i c s r) ∧ Bel w.heap.size zb w wr) (fun si _ => rows - (intOf si).toNat)
  case atStart => exact ⟨0, Nat.zero_le _, rfl, X0.out.1, X0.out.2.1, X0.out.2.2.1⟩
  case round =>
    obtain ⟨r, hrr, rfl, hX, hF, hB⟩ := hrel
    have R1 := Lib.hid (show _ ∧ _ ∧ _ from ⟨hX, hF, hB⟩)
    clear hX hF hB
    by_cases hlt : r < rows
    case pos =>
      have HLT := Lib.hid hlt
      have hr9 : r < 1000 := by have := HZ.out.2.2.2.1; omega
      obtain ⟨L, hL⟩ : ∃ L, L = rotL z cols j i c s r := ⟨_, rfl⟩
      have hlen : L.length = z.length := by rw [hL, rotL, colsL_len]
      rw [← hL] at R1
      have HL := Lib.hid hL
      clear hL
      have hp1 := place_ltq hlt HZ.out.2.1
      have hp2 := place_ltq hlt HZ.out.2.2.1
      rw [← HZ.out.1] at hp1 hp2
      obtain ⟨w1, w2⟩ := idxU hp1 HZ.out.2.2.2.2.2.1
      obtain ⟨P, hP⟩ : ∃ P, P = r * cols := ⟨_, rfl⟩
      rw [← hP] at hp1 hp2 w1 w2
      obtain ⟨w3, q1, q2, q3⟩ := idx17 hP hp1 HZ.out.2.2.2.2.2.1
      obtain ⟨w5, q4, q5, q6⟩ := idx17 hP hp2 HZ.out.2.2.2.2.2.1
      have HP := Lib.hid hP
      clear hP
      obtain ⟨sx, cx⟩ := R1.out.2.1.at (i := P + j) (by rw [hlen]; exact hp1)
      obtain ⟨sy, cy⟩ := R1.out.2.1.at (i := P + i) (by rw [hlen]; exact hp2)
      obtain ⟨x, hx⟩ : ∃ x, x = L.getD (P + j) 0 := ⟨_, rfl⟩
      obtain ⟨y, hy⟩ : ∃ y, y = L.getD (P + i) 0 := ⟨_, rfl⟩
      rw [← hx] at cx
      rw [← hy] at cy
      have HXY := Lib.hid (And.intro hx hy)
      have HLen := Lib.hid hlen
      have HPB := Lib.hid (And.intro hp1 hp2)
      clear hx hy hlen
      obtain ⟨f01, f02, f03⟩ := R1.out.1.facts
      go_upto_region 4 with (fail)
      have hdr : Below wr.heap.size wr wr.drew := below_drewN 1 (Below.refl _ wr)
      have R2 := Lib.hid (show _ ∧ _ ∧ _ from ⟨R1.out.1.below hdr, R1.out.2.1.below hdr, bel_step R1.out.2.2 R1.out.2.2.size (Bel.of hdr)⟩)
      rw [← (below_cells hdr).1 _ _ R1.out.2.1.lt] at cx cy
      clear R1 f01 f02 f03
      refine wp_region_items 21 [(true, 0), (true, 1), (true, 2), (true, 3), (true, 4), (true, 5), (true, 6), (true, 7), (true, 8), (true, 9), (true, 10), (true, 11), (true, 12), (true, 13), (true, 14), (true, 15), (true, 16), (true, 17), (true, 18), (true, 19), (true, 20)] (fun W => (∀ i, W.cell? ⟨w.heap.size, i, none⟩ = ([.int .i64 rows, .int .i64 cols, .slice (some ⟨zb, 0, none⟩) z.length zc] : List Value)[i]?) ∧ W.cell? ⟨zb, P + j, none⟩ = some (.float .f64 (raw x sx)) ∧ W.cell? ⟨zb, P + i, none⟩ = some (.float .f64 (raw y sy))) (by kernel_rfl) (by kernel_rfl) ⟨R2.out.1.cell, cx, cy⟩ ?_
      generalize wr.drew = y0 at *
      clear hdr cx cy
      iterate 21 (refine iW_take (v := ?_) rfl rfl ?_ ?_; rotate_left; (next => (intro w' hSw; (try dsimp only at hSw); go_simp; (try (rw [if_pos (by omega)]; go_simp)); (try with_reducible rfl))); (simp only [Act.put, List.setIfInBounds_toArray, List.set_cons_zero, List.set_cons_succ]))
      refine iW_nil ?_
      go_simp
      go_wp2_with fail
      refine NoPanic.normal ?_
      go_upto_region 7 with (first | (refine wpList_flt rfl rfl rfl rfl rfl ?_; intro K hK _ _; go_frame; refine hK _ _ ?_; clear hK K))
      rename_i s1 n1 s2 n2 s3 n3 s4 n4 KK AA
      (try simp only [fadd_rawl, fadd_rawr, fsub_rawl, fsub_rawr, fmul_rawl, fmul_rawr, fdiv_rawl, fdiv_rawr])
      obtain ⟨f01, f02, f03⟩ := R2.out.1.facts
      have g1 := R2.out.2.1.lt
      have g2 := R2.out.2.1.frozen
      obtain ⟨sp, g3⟩ := R2.out.2.1.at (i := P + j) (by rw [HLen.out]; exact HPB.out.1)
      go_upto_region 8 with (first | (refine wpList_flt rfl rfl rfl rfl rfl ?_; intro K hK _ _; go_frame; refine hK _ _ ?_; clear hK K))
      clear f01 f02 f03 g1 g2 g3
      (try simp only [fadd_rawl, fadd_rawr, fsub_rawl, fsub_rawr, fmul_rawl, fmul_rawr, fdiv_rawl, fdiv_rawr])
      rename_i sp n5
      have hd5 : Below y0.heap.size y0 (y0.drewN (n1 + n2 + n3 + n4 + n5)) := below_drewN _ (Below.refl _ _)
      obtain ⟨y2, hy2⟩ : ∃ y2, y2 = (y0.drewN (n1 + n2 + n3 + n4 + n5)).setCell ⟨zb, P + j, none⟩ (.float .f64 (raw (fadd (fmul x c) (fmul y s)) sp)) := ⟨_, rfl⟩
      rw [← hy2]
      have R4 := Lib.hid (show Box y2 w.heap.size [.int .i64 rows, .int .i64 cols, .slice (some ⟨zb, 0, none⟩) z.length zc] ∧ Flb y2 zb (L.set (P + j) (fadd (fmul x c) (fmul y s))) ∧ Bel w.heap.size zb w y2 from hy2 ▸ ⟨(R2.out.1.below hd5).set_other X0.out.2.2.2 _ _, (R2.out.2.1.below hd5).set _ _ _, (bel_step R2.out.2.2 R2.out.2.2.size (Bel.of hd5)).set _ _⟩)
      clear R2 hd5 hy2
      obtain ⟨f01, f02, f03⟩ := R4.out.1.facts
      have g1 := R4.out.2.1.lt
      have g2 := R4.out.2.1.frozen
      obtain ⟨sq, g3⟩ := R4.out.2.1.at (i := P + i) (by rw [List.length_set, HLen.out]; exact HPB.out.2)
      go_upto_region 9 with (first | (refine wpList_flt rfl rfl rfl rfl rfl ?_; intro K hK _ _; go_frame; refine hK _ _ ?_; clear hK K))
      clear f01 f02 f03 g1 g2 g3
      (try simp only [fadd_rawl, fadd_rawr, fsub_rawl, fsub_rawr, fmul_rawl, fmul_rawr, fdiv_rawl, fdiv_rawr])
      rename_i sq n6
      have hd6 : Below y2.heap.size y2 (y2.drewN n6) := below_drewN _ (Below.refl _ _)
      go_roundw
      case rel => exact ⟨r + 1, HLT.out, by go_num, (R4.out.1.below hd6).set_other X0.out.2.2.2 _ _, by rw [rotL, colsL, colsR, ← rotL, ← HL.out, ← HP.out, ← HXY.out.1, ← HXY.out.2, rotA, rotB]; exact (R4.out.2.1.below hd6).set _ _ _, (bel_step R4.out.2.2 R4.out.2.2.size (Bel.of hd6)).set _ _⟩
      case measure => simp [intOf]; omega
    case neg =>
      obtain rfl : rows = r := by omega
      obtain ⟨f01, f02, f03⟩ := R1.out.1.facts
      go_wp2_with fail
      exact bodyPost_end (results_none rfl _ _ _) rfl ⟨rfl, R1.out.2.1, R1.out.2.2⟩
end Go.Proofs.Ytdljnhdhigbefaa
