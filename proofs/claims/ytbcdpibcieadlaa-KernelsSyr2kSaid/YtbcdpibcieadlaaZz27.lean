/- Layer 8: symmetric matrices to which products are added, plainly. No condition but on lengths. -/
import Derived.Test.YtbcdpibcieadlaaZz22
import Derived.Test.YtbcdpibcieadlaaZz23
import Derived.Test.YtbcdpibcieadlaaZz25
import Derived.Test.YtbcdpibcieadlaaLzZ
import Derived.Test.YtbcdpibcieadlaaZz2
import Derived.Deep.Slices
import Derived.Laws.Cover2
import Derived.Lib.SmallJoins
import Derived.ProofKit
namespace Go.Proofs.Ytbcdpibcieadlaa
open Go Go.RowKit
set_option maxRecDepth 1000000

theorem RSyr2L_any (w : World) (a : Nat) (rm cm : Nat) (am ax ay : Option Addr) (zm zx zy : List Nat) (pm px py : Nat) (hm : Fls w am zm) (hx : Fls w ax zx) (hy : Fls w ay zy) (lm : zm.length ≤ 262144) (lx : zx.length ≤ 262144) (ly : zy.length ≤ 262144) (u : rm ≤ 512) (e0 : rm = cm) (e1 : rm = zx.length) (e2 : cm = zy.length) (no : zm.length = rm * cm) :
    Calls Try.prog 43 #[.float .f64 a, .slice ax zx.length px, .slice ay zy.length py, .agg #[.int .i64 rm, .int .i64 cm, .slice am zm.length pm]] w fun e w' => (∃ a' c' l, e = .returned (.agg #[.int .i64 rm, .int .i64 cm, .slice a' l.length c']) ∧ Fls w' a' l ∧ l.length = zm.length ∧ HalfP (syr2D a zx zy zm cm) zm cm cm 0 l) ∧ Below w.heap.size w w' := by
  subst e0
  exact RSyr2_any w a rm am ax ay zm zx zy pm px py hm hx hy lm lx ly u e1 e2 no
theorem RSyr2kL_any (w : World) (a b : Nat) (rm cm rn cn ro co : Nat) (am an ao : Option Addr) (zm zn zo : List Nat) (pm pn po : Nat) (hm : Fls w am zm) (hn : Fls w an zn) (ho : Fls w ao zo) (lm : zm.length ≤ 262144) (ln : zn.length ≤ 262144) (lo : zo.length ≤ 262144) (u : ro ≤ 512) (um : cm ≤ 512) (nm : zm.length = rm * cm) (nn : zn.length = rn * cn) (no : zo.length = ro * co) (hpm : zm.length ≤ pm) (hqm : pm ≤ maxLen) (hpn : zn.length ≤ pn) (hqn : pn ≤ maxLen) (e0 : ro = co) (e1 : rm = ro) (e2 : rn = ro) (e3 : cm = cn) :
    Calls Try.prog 45 #[.float .f64 a, .agg #[.int .i64 rm, .int .i64 cm, .slice am zm.length pm], .agg #[.int .i64 rn, .int .i64 cn, .slice an zn.length pn], .float .f64 b, .agg #[.int .i64 ro, .int .i64 co, .slice ao zo.length po]] w fun e w' => (∃ a' c' l, e = .returned (.agg #[.int .i64 ro, .int .i64 co, .slice a' l.length c']) ∧ Fls w' a' l ∧ l.length = zo.length ∧ HalfP (syr2kD a b zm cm zn cn zo co) zo co co 0 l) ∧ Below w.heap.size w w' := by
  subst e0
  subst e1
  subst e2
  exact RSyr2k_any w a b _ am an ao zm zn zo pm pn po hm hn ho lm ln lo u cm cn e3 nm nn no um hpm hqm hpn hqn
/-- What is filled, as a view shows it. -/
theorem half_rw {v : Vw} {us ws : List Nat} {q st : Nat} {zs l : List Nat} (P : OfP v st q q zs ws) {D : Nat → Nat → Nat} (hl : l.length = q * q) (hH : HalfP D zs q q 0 l) (h : ∀ i j, i < q → j < q → ∃ s, v.get us i j = raw (if j ≤ i then D i j else zs.getD (i * q + j) 0) s) : Rw (v.list us) l :=
  list_rw v us q q P.er P.ec l hl fun i j hi hj => by
    obtain ⟨s, hs⟩ := h i j hi hj
    exact ⟨s, by rw [hs, hH.done i j hi hj]⟩
def fitS2 (rx cx ry cy rm cm nx ny : Nat) : Bool := vec8 rx cx && (vec8 ry cy && (decide (rm = cm) && (decide (rm = nx) && decide (cm = ny))))
section
variable {x y m : Vw} {sx sy sm rx cx ry cy rm cm : Nat} {zx zy zm xs ys ms us : List Nat} {a : Nat}
theorem syr2_code (Px : OfP x sx rx cx zx xs) (Py : OfP y sy ry cy zy ys) (Pm : OfP m sm rm cm zm ms) (hnx : zx.length = rx * cx) (hny : zy.length = ry * cy) :
    openE [x, y, m] (fits_Syr2 m x y) = if fitS2 rx cx ry cy rm cm zx.length zy.length then 0 else 8 := by
  have e : fits_Syr2 m x y = fitS2 rx cx ry cy rm cm zx.length zy.length := by
    unfold fits_Syr2 fitS2
    rw [Px.vecN hnx, Py.vecN hny, Pm.er, Pm.ec]
    cases vec8 rx cx <;> cases vec8 ry cy <;> simp
    by_cases h : rm = cm
    · subst h; simp
    · simp [h]
  unfold openE
  rw [e]
  simp [Px.ep, Py.ep, Pm.ep]
theorem syr2_bad (Px : OfP x sx rx cx zx xs) (Py : OfP y sy ry cy zy ys) (Pm : OfP m sm rm cm zm ms) (hnx : zx.length = rx * cx) (hny : zy.length = ry * cy) (hnm : zm.length = rm * cm)
    (hf : fitS2 rx cx ry cy rm cm zx.length zy.length = false) (hR : Rw us (syr2L a x y m xs ys ms)) : Rw (m.list us) zm := by
  unfold syr2L at hR
  rw [syr2_code Px Py Pm hnx hny, hf] at hR
  exact Pm.same hnm hR
theorem syr2_good (Px : OfP x sx rx cx zx xs) (Py : OfP y sy ry cy zy ys) (Pm : OfP m sm rm cm zm ms) (Im : OfI m rm cm) (hlm : ms.length = rm * cm) (hnx : zx.length = rx * cx) (hny : zy.length = ry * cy) (hnm : zm.length = rm * cm) (LZ : List Nat) (hll : LZ.length = zm.length) (hH : HalfP (syr2D a zx zy zm cm) zm cm cm 0 LZ)
    (hf : fitS2 rx cx ry cy rm cm zx.length zy.length = true) (hR : Rw us (syr2L a x y m xs ys ms)) : Rw (m.list us) LZ := by
  unfold syr2L at hR
  rw [syr2_code Px Py Pm hnx hny, hf] at hR
  simp only [if_true] at hR
  unfold fitS2 at hf
  simp only [Bool.and_eq_true, decide_eq_true_eq] at hf
  obtain ⟨vx, vy, e0, e1, e2⟩ := hf
  subst e0
  obtain ⟨_, h2⟩ := halfP_spec Im Pm.er Pm.ec (syr2V a x y xs ys m) ms hlm (syr2D a zx zy zm rm) (fun i j us hi hj _ hg => by
    unfold syr2V syr2D
    dsimp only
    rw [hg, Pm.get i j hi hj, Px.at vx i (by rw [← hnx, ← e1]; exact hi), Py.at vy j (by rw [← hny, ← e2]; exact hj), Py.at vy i (by rw [← hny, ← e2]; exact hi), Px.at vx j (by rw [← hnx, ← e1]; exact hj)]) rm (Nat.le_refl _)
  refine half_rw Pm (by rw [hll, hnm]) hH fun i j hi hj => ?_
  obtain ⟨s, hs⟩ := hR.get m i j
  refine ⟨s, ?_⟩
  rw [hs]
  have e := h2 i j hi hj
  unfold syr2P
  rw [Pm.er, e]
  by_cases h : j ≤ i
  · rw [if_pos h, if_pos ⟨hi, h⟩]
  · rw [if_neg h, if_neg (fun h3 => h h3.2), Pm.get i j hi hj]
end
def fitSk (ro co rm rn cm cn : Nat) : Bool := decide (ro = co) && (decide (rm = ro) && (decide (rn = ro) && decide (cm = cn)))
section
variable {m n o : Vw} {sm sn so rm cm rn cn ro co : Nat} {zm zn zo ms ns os us : List Nat} {a b : Nat}
theorem syr2k_code (Pm : OfP m sm rm cm zm ms) (Pn : OfP n sn rn cn zn ns) (Po : OfP o so ro co zo os) :
    openE [m, n, o] (fits_Syr2k o m n) = if fitSk ro co rm rn cm cn then 0 else 8 := by
  unfold fits_Syr2k openE fitSk
  rw [Pm.er, Pm.ec, Pn.er, Pn.ec, Po.er, Po.ec]
  simp [Pm.ep, Pn.ep, Po.ep]
theorem syr2k_bad (Pm : OfP m sm rm cm zm ms) (Pn : OfP n sn rn cn zn ns) (Po : OfP o so ro co zo os) (hno : zo.length = ro * co)
    (hf : fitSk ro co rm rn cm cn = false) (hR : Rw us (syr2kL a b m n o ms ns os)) : Rw (o.list us) zo := by
  unfold syr2kL at hR
  rw [syr2k_code Pm Pn Po, hf] at hR
  exact Po.same hno hR
theorem syr2k_good (Pm : OfP m sm rm cm zm ms) (Pn : OfP n sn rn cn zn ns) (Po : OfP o so ro co zo os) (Io : OfI o ro co) (hlo : os.length = ro * co) (hno : zo.length = ro * co) (LZ : List Nat) (hll : LZ.length = zo.length) (hH : HalfP (syr2kD a b zm cm zn cn zo co) zo co co 0 LZ)
    (hf : fitSk ro co rm rn cm cn = true) (hR : Rw us (syr2kL a b m n o ms ns os)) : Rw (o.list us) LZ := by
  unfold syr2kL at hR
  rw [syr2k_code Pm Pn Po, hf] at hR
  simp only [if_true] at hR
  unfold fitSk at hf
  simp only [Bool.and_eq_true, decide_eq_true_eq] at hf
  obtain ⟨e0, e1, e2, e3⟩ := hf
  subst e0
  obtain ⟨_, h2⟩ := halfP_spec Io Po.er Po.ec (syr2kV a b m n ms ns o) os hlo (syr2kD a b zm cm zn cn zo ro) (fun i j us hi hj _ hg => by
    unfold syr2kV syr2kD
    dsimp only
    rw [hg, Po.get i j hi hj, Pm.ec]
    have s1 : sumG (fun k => m.get ms i k) (fun k => n.get ns j k) 0 cm = sumG (atL (rowL zm cm i)) (atL (rowL zn cn j)) 0 cm := sumG_congr _ fun k hk => by
      rw [Nat.zero_add, rowL_at zm cm i k hk, rowL_at zn cn j k (by omega)]
      exact ⟨Pm.get i k (by omega) hk, Pn.get j k (by omega) (by omega)⟩
    have s2 : sumG (fun k => n.get ns i k) (fun k => m.get ms j k) 0 cm = sumG (atL (rowL zn cn i)) (atL (rowL zm cm j)) 0 cn := by
      rw [e3]
      exact sumG_congr _ fun k hk => by
        rw [Nat.zero_add, rowL_at zn cn i k hk, rowL_at zm cn j k (by omega)]
        exact ⟨Pn.get i k (by omega) hk, (Pm.get j k (by omega) (by omega)).trans (by rw [e3])⟩
    rw [s1, s2]) ro (Nat.le_refl _)
  refine half_rw Po (by rw [hll, hno]) hH fun i j hi hj => ?_
  obtain ⟨s, hs⟩ := hR.get o i j
  refine ⟨s, ?_⟩
  rw [hs]
  have e := h2 i j hi hj
  unfold syr2kP
  rw [Po.er, e]
  by_cases h : j ≤ i
  · rw [if_pos h, if_pos ⟨hi, h⟩]
  · rw [if_neg h, if_neg (fun h3 => h h3.2), Po.get i j hi hj]
end
end Go.Proofs.Ytbcdpibcieadlaa

/- 'plumblinelaw08.KernelsSyr2k', all matrices small enough (printed by gen_lw.py). No condition but on lengths. -/
namespace Go.Proofs.Ytbcdpibcieadlaa
open Go Go.RowKit
set_option maxRecDepth 1000000

set_option maxHeartbeats 16000000 in
theorem syr2k8_small (w : World) (a b : Nat) (rm cm rn cn ro co : Nat) (am an ao : Option Addr) (zm zn zo : List Nat) (pm pn po : Nat) (t : Bool)
    (hm : MatP w rm cm am zm pm) (hn : MatP w rn cn an zn pn) (ho : MatP w ro co ao zo po)
    (Bm : ∀ W, Calls Try.prog 15 #[.agg #[.int .i64 rm, .int .i64 cm, .slice am zm.length pm]] W fun e w' => e = .returned (.bool false) ∧ Below W.heap.size W w') (Bn : ∀ W, Calls Try.prog 15 #[.agg #[.int .i64 rn, .int .i64 cn, .slice an zn.length pn]] W fun e w' => e = .returned (.bool false) ∧ Below W.heap.size W w') (Bo : ∀ W, Calls Try.prog 15 #[.agg #[.int .i64 ro, .int .i64 co, .slice ao zo.length po]] W fun e w' => e = .returned (.bool false) ∧ Below W.heap.size W w') :
    Calls Try.prog 11 #[.float .f64 a, .agg #[.int .i64 rm, .int .i64 cm, .slice am zm.length pm], .agg #[.int .i64 rn, .int .i64 cn, .slice an zn.length pn], .float .f64 b, .agg #[.int .i64 ro, .int .i64 co, .slice ao zo.length po], .bool t] w fun e w' => e = .returned (.bool true) ∧ Below w.heap.size w w' := by
  have Hm := Lib.hid hm
  have HBm := Lib.hid Bm
  have Hn := Lib.hid hn
  have HBn := Lib.hid Bn
  have Ho := Lib.hid ho
  have HBo := Lib.hid Bo
  have HQo := Lib.hid (fun W => RSquare_any ro co ao zo.length po W)
  have t2 : ((rm : Int) != (ro : Int)) = !decide (rm = ro) := by rw [Bool.eq_iff_iff]; simp; omega
  have t3 : ((rn : Int) != (ro : Int)) = !decide (rn = ro) := by rw [Bool.eq_iff_iff]; simp; omega
  have t4 : ((cm : Int) != (cn : Int)) = !decide (cm = cn) := by rw [Bool.eq_iff_iff]; simp; omega
  clear hm Bm hn Bn ho Bo
  obtain ⟨W0, hW0⟩ : ∃ W0, W0 = (((w.alloc (.cells #[.int .i64 rm, .int .i64 cm, .slice am zm.length pm] 24)).alloc (.cells #[.int .i64 rn, .int .i64 cn, .slice an zn.length pn] 24)).alloc (.cells #[.int .i64 ro, .int .i64 co, .slice ao zo.length po] 24)) := ⟨_, rfl⟩
  have hB0 : Below w.heap.size w W0 := hW0 ▸ (((Below.refl _ _).alloc (Nat.le_refl _) _).alloc (by simp) _).alloc (by simp; omega) _
  have x0 : Box W0 (w.heap.size) [.int .i64 rm, .int .i64 cm, .slice am zm.length pm] := hW0 ▸ (((Box.newA w [.int .i64 rm, .int .i64 cm, .slice am zm.length pm] _ rfl).alloc _).alloc _)
  have x1 : Box W0 (w.heap.size + 1) [.int .i64 rn, .int .i64 cn, .slice an zn.length pn] := hW0 ▸ ((Box.newA _ [.int .i64 rn, .int .i64 cn, .slice an zn.length pn] _ (by simp)).alloc _)
  have x2 : Box W0 (w.heap.size + 1 + 1) [.int .i64 ro, .int .i64 co, .slice ao zo.length po] := hW0 ▸ (Box.newA _ [.int .i64 ro, .int .i64 co, .slice ao zo.length po] _ (by simp))
  have S0 := Lib.hid (show BoxS w W0 [(w.heap.size, [.int .i64 rm, .int .i64 cm, .slice am zm.length pm]), (w.heap.size + 1, [.int .i64 rn, .int .i64 cn, .slice an zn.length pn]), (w.heap.size + 1 + 1, [.int .i64 ro, .int .i64 co, .slice ao zo.length po])] from ⟨fun p hp => by
    simp only [List.mem_cons, List.not_mem_nil, or_false] at hp
    rcases hp with rfl | rfl | rfl
    · exact x0
    · exact x1
    · exact x2
    , hB0⟩)
  clear hB0 x0 x1 x2
  go_enter Try.func11, Try.ntmps11
  go_upto_region 1 with (fail)
  rw [← hW0]
  clear hW0
  obtain ⟨f01, f02, f03⟩ := (S0.out.get 0 rfl).facts
  obtain ⟨f11, f12, f13⟩ := (S0.out.get 1 rfl).facts
  obtain ⟨f21, f22, f23⟩ := (S0.out.get 2 rfl).facts
  go_wp2_with fail
  refine (HBm.out _).mono ?_
  rintro e w1 ⟨rfl, hb⟩
  have S1 := Lib.hid (S0.out.step hb)
  clear f01 f02 f03 f11 f12 f13 f21 f22 f23 hb
  dsimp only
  obtain ⟨f01, f02, f03⟩ := (S1.out.get 0 rfl).facts
  obtain ⟨f11, f12, f13⟩ := (S1.out.get 1 rfl).facts
  obtain ⟨f21, f22, f23⟩ := (S1.out.get 2 rfl).facts
  go_wp2_with fail
  refine (HBn.out _).mono ?_
  rintro e w2 ⟨rfl, hb⟩
  have S2 := Lib.hid (S1.out.step hb)
  clear f01 f02 f03 f11 f12 f13 f21 f22 f23 hb
  dsimp only
  obtain ⟨f01, f02, f03⟩ := (S2.out.get 0 rfl).facts
  obtain ⟨f11, f12, f13⟩ := (S2.out.get 1 rfl).facts
  obtain ⟨f21, f22, f23⟩ := (S2.out.get 2 rfl).facts
  go_wp2_with fail
  refine (HBo.out _).mono ?_
  rintro e w3 ⟨rfl, hb⟩
  have S3 := Lib.hid (S2.out.step hb)
  clear f01 f02 f03 f11 f12 f13 f21 f22 f23 hb
  dsimp only
  obtain ⟨f01, f02, f03⟩ := (S3.out.get 0 rfl).facts
  obtain ⟨f11, f12, f13⟩ := (S3.out.get 1 rfl).facts
  obtain ⟨f21, f22, f23⟩ := (S3.out.get 2 rfl).facts
  go_wp2_with fail
  refine (Ho.out.of false _ S3.out.below).mono ?_
  rintro e w4 ⟨⟨v, st, sb, ws, rfl, k1, k2, hS, hP, hI, hlw⟩, hb⟩
  have S4 := Lib.hid (S3.out.step hb)
  have L0 := Lib.hid (BoxS.view S4.out (hP.ok _ _ hS) hS hP.words S3.out k2)
  have Po := Lib.hid hP
  have Io := Lib.hid (And.intro hI hlw)
  clear f01 f02 f03 f11 f12 f13 f21 f22 f23 hb k1 k2 hS hP hI hlw
  unfold Vw.val
  obtain ⟨f01, f02, f03⟩ := (S4.out.get 0 rfl).facts
  obtain ⟨f11, f12, f13⟩ := (S4.out.get 1 rfl).facts
  obtain ⟨f21, f22, f23⟩ := (S4.out.get 2 rfl).facts
  go_upto_region 4 with (fail)
  clear f01 f02 f03 f11 f12 f13 f21 f22 f23
  obtain ⟨P, hPP⟩ : ∃ P, P = w4.heap.size := ⟨_, rfl⟩
  simp only [← hPP] at L0 ⊢
  generalize w4.alloc (.cells #[.pointer v.p, .int .i64 v.r, .int .i64 v.c, .int .i64 v.o, .int .i64 v.d, .int .i64 v.u] 29) = V0 at *
  clear hPP
  have hdr : Below V0.heap.size V0 V0.drew := below_drewN 1 (Below.refl _ V0)
  have S5 := Lib.hid (L0.out.step hdr)
  have HS := Lib.hid (show ∀ W, Below V0.drew.heap.size V0.drew W → (fun W => (∀ i, W.cell? ⟨w.heap.size, i, none⟩ = ([.int .i64 rm, .int .i64 cm, .slice am zm.length pm] : List Value)[i]?) ∧ (∀ i, W.cell? ⟨w.heap.size + 1, i, none⟩ = ([.int .i64 rn, .int .i64 cn, .slice an zn.length pn] : List Value)[i]?) ∧ (∀ i, W.cell? ⟨w.heap.size + 1 + 1, i, none⟩ = ([.int .i64 ro, .int .i64 co, .slice ao zo.length po] : List Value)[i]?) ∧ (∀ i, W.cell? ⟨P, i, none⟩ = ([.pointer v.p, .int .i64 v.r, .int .i64 v.c, .int .i64 v.o, .int .i64 v.d, .int .i64 v.u] : List Value)[i]?)) W from fun W h => ⟨((S5.out.step h).get 0 rfl).cell, ((S5.out.step h).get 1 rfl).cell, ((S5.out.step h).get 2 rfl).cell, ((S5.out.step h).get 3 rfl).cell⟩)
  refine wp_region_items 8 [(true, 0), (true, 1), (true, 2), (true, 4), (true, 6), (true, 7), (false, 3), (false, 5)] (fun W => (∀ i, W.cell? ⟨w.heap.size, i, none⟩ = ([.int .i64 rm, .int .i64 cm, .slice am zm.length pm] : List Value)[i]?) ∧ (∀ i, W.cell? ⟨w.heap.size + 1, i, none⟩ = ([.int .i64 rn, .int .i64 cn, .slice an zn.length pn] : List Value)[i]?) ∧ (∀ i, W.cell? ⟨w.heap.size + 1 + 1, i, none⟩ = ([.int .i64 ro, .int .i64 co, .slice ao zo.length po] : List Value)[i]?) ∧ (∀ i, W.cell? ⟨P, i, none⟩ = ([.pointer v.p, .int .i64 v.r, .int .i64 v.c, .int .i64 v.o, .int .i64 v.d, .int .i64 v.u] : List Value)[i]?)) (by kernel_rfl) (by kernel_rfl) (HS.out _ (Below.refl _ _)) ?_
  generalize V0.drew = w5 at *
  clear hdr
  iterate 6 (refine iW_take (v := ?_) rfl rfl ?_ ?_; rotate_left; (next => (intro w' hSw; (try dsimp only at hSw); go_simp; (try (rw [if_pos (by omega)]; go_simp)); (try with_reducible rfl))); (simp only [Act.put, List.setIfInBounds_toArray, List.set_cons_zero, List.set_cons_succ]))
  refine iW_mid rfl rfl ?_
  go_simp
  refine (Hm.out.of t w5 S5.out.below).mono ?_
  rintro e w6 ⟨⟨vm, stm, sbm, wsm, rfl, k1, k2, hS, hP, hI, hlw⟩, hb⟩
  have S6 := Lib.hid (S5.out.step hb)
  refine ⟨HS.out _ hb, ?_⟩
  have HSw6 := Lib.hid (fun W (h : Below w6.heap.size w6 W) => HS.out W (below_step hb hb.size h))
  have Km := Lib.hid (hP.ok _ _ hS)
  have Pm := Lib.hid hP
  clear hb k1 k2 hS hP hI hlw
  refine iW_mid rfl rfl ?_
  go_simp
  refine (Hn.out.of false w6 S6.out.below).mono ?_
  rintro e w7 ⟨⟨vn, stn, sbn, wsn, rfl, k1, k2, hS, hP, hI, hlw⟩, hb⟩
  have S7 := Lib.hid (S6.out.step hb)
  refine ⟨HSw6.out _ hb, ?_⟩
  have HSw7 := Lib.hid (fun W (h : Below w7.heap.size w7 W) => HSw6.out W (below_step hb hb.size h))
  have Kn := Lib.hid (hP.ok _ _ hS)
  have Pn := Lib.hid hP
  have Km_1 := Lib.hid (Km.out.below hb)
  clear hb k1 k2 hS hP hI hlw
  have HK := Syr2k_any w7 a b vm vn v sbm sbn sb wsm wsn ws Km_1.out Kn.out S7.out.ok Pm.out.words Pn.out.words Po.out.words
  rw [syr2k_code Pm.out Pn.out Po.out] at HK
  have HBad := Lib.hid (fun us hf hR => syr2k_bad (a := a) (b := b) Pm.out Pn.out Po.out Ho.out.hn (us := us) hf hR)
  have HGood := Lib.hid (fun us LZ hll hH hf hR => syr2k_good (a := a) (b := b) Pm.out Pn.out Po.out Io.out.1 Io.out.2 Ho.out.hn LZ hll hH (us := us) hf hR)
  unfold fitSk at HK HBad HGood
  have HKK := Lib.hid HK
  clear HK
  obtain ⟨q1, e1⟩ : ∃ q, q = decide (ro = co) := ⟨_, rfl⟩
  simp only [← e1] at HKK HBad HGood HQo
  have EE1 := Lib.hid e1
  clear e1
  obtain ⟨q2, e2⟩ : ∃ q, q = decide (rm = ro) := ⟨_, rfl⟩
  simp only [← e2] at HKK HBad HGood t2
  have EE2 := Lib.hid e2
  clear e2
  obtain ⟨q3, e3⟩ : ∃ q, q = decide (rn = ro) := ⟨_, rfl⟩
  simp only [← e3] at HKK HBad HGood t3
  have EE3 := Lib.hid e3
  clear e3
  obtain ⟨q4, e4⟩ : ∃ q, q = decide (cm = cn) := ⟨_, rfl⟩
  simp only [← e4] at HKK HBad HGood t4
  have EE4 := Lib.hid e4
  clear e4
  obtain ⟨E, hE⟩ : ∃ E : Int, E = (if (q1 && (q2 && (q3 && q4))) = true then (0 : Int) else 8) := ⟨_, rfl⟩
  simp only [← hE] at HKK
  have HE := Lib.hid hE
  clear hE
  refine iW_nil ?_
  go_simp
  go_wp2_with fail
  refine HKK.out.mono ?_
  rintro e w8 ⟨rfl, us, hok, hR, hW, hb⟩
  have HU := Lib.hid (And.intro hR hW)
  have L1 := Lib.hid (S7.out.kern hb hok hW)
  clear hok hR hW hb
  dsimp only
  go_wp2_with fail
  refine NoPanic.normal ?_
  obtain ⟨f01, f02, f03⟩ := (L1.out.get 0 rfl).facts
  obtain ⟨f11, f12, f13⟩ := (L1.out.get 1 rfl).facts
  obtain ⟨f21, f22, f23⟩ := (L1.out.get 2 rfl).facts
  obtain ⟨f31, f32, f33⟩ := (L1.out.get 3 rfl).facts
  go_wp2_with fail
  refine (HQo.out _).mono ?_
  rintro e w9 ⟨rfl, hb⟩
  have S9 := Lib.hid (L1.out.step hb)
  clear f01 f02 f03 f11 f12 f13 f21 f22 f23 f31 f32 f33 hb
  dsimp only
  obtain ⟨f01, f02, f03⟩ := (S9.out.get 0 rfl).facts
  obtain ⟨f11, f12, f13⟩ := (S9.out.get 1 rfl).facts
  obtain ⟨f21, f22, f23⟩ := (S9.out.get 2 rfl).facts
  obtain ⟨f31, f32, f33⟩ := (S9.out.get 3 rfl).facts
  cases q1
  · skip
    have hE := HE.out
    have hR := HBad.out us (by simp) HU.out.1
    simp only [Bool.false_and, Bool.and_false, Bool.true_and, Bool.and_true, Bool.and_self, Bool.false_eq_true, if_false, if_true] at hE
    subst hE
    have HSh := Lib.hid (fun W (h : v.Ok W sb us) hB => shows_any W v sb us ro co ao zo po h HU.out.2 Po.out.er Po.out.ec (Ho.out.fls W hB) Ho.out.words (by have := Ho.out.hl; omega) hR)
    clear hR
    go_wp2_with (go_at_call 22; refine (num8_any _ _).mono ?_; rintro e w' ⟨rfl, rfl⟩)
    refine (HSh.out _ S9.out.ok S9.out.below).mono ?_
    rintro e w10 ⟨rfl, hb⟩
    have S10 := Lib.hid (S9.out.step hb)
    clear f01 f02 f03 f11 f12 f13 f21 f22 f23 f31 f32 f33 hb HSh
    dsimp only
    go_wp2_with fail
    refine (known08_any _).mono ?_
    rintro e w11 ⟨rfl, hb⟩
    have S11 := Lib.hid (S10.out.step hb)
    clear hb
    dsimp only
    go_wp2_with fail
    go_ret
    exact ⟨rfl, S11.out.below⟩
  · skip
    cases q2
    · skip
      have hE := HE.out
      have hR := HBad.out us (by simp) HU.out.1
      simp only [Bool.false_and, Bool.and_false, Bool.true_and, Bool.and_true, Bool.and_self, Bool.false_eq_true, if_false, if_true] at hE
      subst hE
      have HSh := Lib.hid (fun W (h : v.Ok W sb us) hB => shows_any W v sb us ro co ao zo po h HU.out.2 Po.out.er Po.out.ec (Ho.out.fls W hB) Ho.out.words (by have := Ho.out.hl; omega) hR)
      clear hR
      go_wp2_with (go_at_call 22; refine (num8_any _ _).mono ?_; rintro e w' ⟨rfl, rfl⟩)
      refine (HSh.out _ S9.out.ok S9.out.below).mono ?_
      rintro e w10 ⟨rfl, hb⟩
      have S10 := Lib.hid (S9.out.step hb)
      clear f01 f02 f03 f11 f12 f13 f21 f22 f23 f31 f32 f33 hb HSh
      dsimp only
      go_wp2_with fail
      refine (known08_any _).mono ?_
      rintro e w11 ⟨rfl, hb⟩
      have S11 := Lib.hid (S10.out.step hb)
      clear hb
      dsimp only
      go_wp2_with fail
      go_ret
      exact ⟨rfl, S11.out.below⟩
    · skip
      cases q3
      · skip
        have hE := HE.out
        have hR := HBad.out us (by simp) HU.out.1
        simp only [Bool.false_and, Bool.and_false, Bool.true_and, Bool.and_true, Bool.and_self, Bool.false_eq_true, if_false, if_true] at hE
        subst hE
        have HSh := Lib.hid (fun W (h : v.Ok W sb us) hB => shows_any W v sb us ro co ao zo po h HU.out.2 Po.out.er Po.out.ec (Ho.out.fls W hB) Ho.out.words (by have := Ho.out.hl; omega) hR)
        clear hR
        go_wp2_with (go_at_call 22; refine (num8_any _ _).mono ?_; rintro e w' ⟨rfl, rfl⟩)
        refine (HSh.out _ S9.out.ok S9.out.below).mono ?_
        rintro e w10 ⟨rfl, hb⟩
        have S10 := Lib.hid (S9.out.step hb)
        clear f01 f02 f03 f11 f12 f13 f21 f22 f23 f31 f32 f33 hb HSh
        dsimp only
        go_wp2_with fail
        refine (known08_any _).mono ?_
        rintro e w11 ⟨rfl, hb⟩
        have S11 := Lib.hid (S10.out.step hb)
        clear hb
        dsimp only
        go_wp2_with fail
        go_ret
        exact ⟨rfl, S11.out.below⟩
      · skip
        cases q4
        · skip
          have hE := HE.out
          have hR := HBad.out us (by simp) HU.out.1
          simp only [Bool.false_and, Bool.and_false, Bool.true_and, Bool.and_true, Bool.and_self, Bool.false_eq_true, if_false, if_true] at hE
          subst hE
          have HSh := Lib.hid (fun W (h : v.Ok W sb us) hB => shows_any W v sb us ro co ao zo po h HU.out.2 Po.out.er Po.out.ec (Ho.out.fls W hB) Ho.out.words (by have := Ho.out.hl; omega) hR)
          clear hR
          go_wp2_with (go_at_call 22; refine (num8_any _ _).mono ?_; rintro e w' ⟨rfl, rfl⟩)
          refine (HSh.out _ S9.out.ok S9.out.below).mono ?_
          rintro e w10 ⟨rfl, hb⟩
          have S10 := Lib.hid (S9.out.step hb)
          clear f01 f02 f03 f11 f12 f13 f21 f22 f23 f31 f32 f33 hb HSh
          dsimp only
          go_wp2_with fail
          refine (known08_any _).mono ?_
          rintro e w11 ⟨rfl, hb⟩
          have S11 := Lib.hid (S10.out.step hb)
          clear hb
          dsimp only
          go_wp2_with fail
          go_ret
          exact ⟨rfl, S11.out.below⟩
        · skip
          have hE := HE.out
          have hR := fun LZ hll hH => HGood.out us LZ hll hH rfl HU.out.1
          simp only [Bool.false_and, Bool.and_false, Bool.true_and, Bool.and_true, Bool.and_self, Bool.false_eq_true, if_false, if_true] at hE
          subst hE
          have e1 := of_decide_eq_true EE1.out.symm
          have e2 := of_decide_eq_true EE2.out.symm
          have e3 := of_decide_eq_true EE3.out.symm
          have e4 := of_decide_eq_true EE4.out.symm
          have HEE := Lib.hid (show _ ∧ _ ∧ _ ∧ _ from ⟨e1, e2, e3, e4⟩)
          clear e1 e2 e3 e4
          have HRR := Lib.hid hR
          clear hR
          go_upto_region 7 with (fail)
          clear f01 f02 f03 f11 f12 f13 f21 f22 f23 f31 f32 f33
          have hdr : Below w9.heap.size w9 w9.drew := below_drewN 1 (Below.refl _ w9)
          have S10 := Lib.hid (S9.out.step hdr)
          have HS := Lib.hid (show ∀ W, Below w9.drew.heap.size w9.drew W → (fun W => (∀ i, W.cell? ⟨w.heap.size, i, none⟩ = ([.int .i64 rm, .int .i64 cm, .slice am zm.length pm] : List Value)[i]?) ∧ (∀ i, W.cell? ⟨w.heap.size + 1, i, none⟩ = ([.int .i64 rn, .int .i64 cn, .slice an zn.length pn] : List Value)[i]?) ∧ (∀ i, W.cell? ⟨w.heap.size + 1 + 1, i, none⟩ = ([.int .i64 ro, .int .i64 co, .slice ao zo.length po] : List Value)[i]?) ∧ (∀ i, W.cell? ⟨P, i, none⟩ = ([.pointer v.p, .int .i64 v.r, .int .i64 v.c, .int .i64 v.o, .int .i64 v.d, .int .i64 v.u] : List Value)[i]?)) W from fun W h => ⟨((S10.out.step h).get 0 rfl).cell, ((S10.out.step h).get 1 rfl).cell, ((S10.out.step h).get 2 rfl).cell, ((S10.out.step h).get 3 rfl).cell⟩)
          refine wp_region_items 11 [(true, 0), (false, 1), (true, 2), (true, 3), (true, 4), (true, 5), (true, 6), (true, 7), (true, 8), (true, 9), (false, 10)] (fun W => (∀ i, W.cell? ⟨w.heap.size, i, none⟩ = ([.int .i64 rm, .int .i64 cm, .slice am zm.length pm] : List Value)[i]?) ∧ (∀ i, W.cell? ⟨w.heap.size + 1, i, none⟩ = ([.int .i64 rn, .int .i64 cn, .slice an zn.length pn] : List Value)[i]?) ∧ (∀ i, W.cell? ⟨w.heap.size + 1 + 1, i, none⟩ = ([.int .i64 ro, .int .i64 co, .slice ao zo.length po] : List Value)[i]?) ∧ (∀ i, W.cell? ⟨P, i, none⟩ = ([.pointer v.p, .int .i64 v.r, .int .i64 v.c, .int .i64 v.o, .int .i64 v.d, .int .i64 v.u] : List Value)[i]?)) (by kernel_rfl) (by kernel_rfl) (HS.out _ (Below.refl _ _)) ?_
          generalize w9.drew = w10 at *
          clear hdr
          iterate 1 (refine iW_take (v := ?_) rfl rfl ?_ ?_; rotate_left; (next => (intro w' hSw; (try dsimp only at hSw); go_simp; (try (rw [if_pos (by omega)]; go_simp)); (try with_reducible rfl))); (simp only [Act.put, List.setIfInBounds_toArray, List.set_cons_zero, List.set_cons_succ]))
          refine iW_mid rfl rfl ?_
          go_simp
          refine (num8_any _ _).mono ?_
          rintro e w' ⟨rfl, rfl⟩
          refine ⟨HS.out _ (Below.refl _ _), ?_⟩
          iterate 8 (refine iW_take (v := ?_) rfl rfl ?_ ?_; rotate_left; (next => (intro w' hSw; (try dsimp only at hSw); go_simp; (try (rw [if_pos (by omega)]; go_simp)); (try with_reducible rfl))); (simp only [Act.put, List.setIfInBounds_toArray, List.set_cons_zero, List.set_cons_succ]))
          refine iW_mid rfl rfl ?_
          go_simp
          refine (RSyr2kL_any w10 a b rm cm rn cn ro co am an ao zm zn zo pm pn po (Hm.out.fls w10 S10.out.below) (Hn.out.fls w10 S10.out.below) (Ho.out.fls w10 S10.out.below) (by have := Hm.out.hl; omega) (by have := Hn.out.hl; omega) (by have := Ho.out.hl; omega) Ho.out.hr Hm.out.hc Hm.out.hn Hn.out.hn Ho.out.hn Hm.out.hp Hm.out.hm Hn.out.hp Hn.out.hm HEE.out.1 HEE.out.2.1 HEE.out.2.2.1 HEE.out.2.2.2).mono ?_
          rintro e w11 ⟨⟨da, dc, LZ, rfl, hF, hll, hH⟩, hb⟩
          have S11 := Lib.hid (S10.out.step hb)
          refine ⟨HS.out _ hb, ?_⟩
          have HSw11 := Lib.hid (fun W (h : Below w11.heap.size w11 W) => HS.out W (below_step hb hb.size h))
          have HF := Lib.hid hF
          have HFL := Lib.hid (show _ ∧ _ from ⟨hll, hH⟩)
          clear hb hF hll hH
          have HSh := Lib.hid (shows_any w11 v sb us ro co da LZ dc S11.out.ok HU.out.2 Po.out.er Po.out.ec HF.out (HFL.out.2.words (by rw [HFL.out.1, Ho.out.hn, HEE.out.1]) Ho.out.words (fun i j => syr2kD_lt _ _ _ _ _ _ _ _ _ _)) (by rw [HFL.out.1]; have := Ho.out.hl; omega) (HRR.out LZ HFL.out.1 HFL.out.2))
          refine iW_nil ?_
          go_simp
          go_wp2_with fail
          refine HSh.out.mono ?_
          rintro e w12 ⟨rfl, hb⟩
          have S12 := Lib.hid (S11.out.step hb)
          clear hb HSh
          dsimp only
          go_wp2_with fail
          refine (known08_any _).mono ?_
          rintro e w13 ⟨rfl, hb⟩
          have S13 := Lib.hid (S12.out.step hb)
          clear hb
          dsimp only
          go_wp2_with fail
          refine NoPanic.normal ?_
          go_wp2_with fail
          go_ret
          exact ⟨rfl, S13.out.below⟩
end Go.Proofs.Ytbcdpibcieadlaa

/- 'plumblinelaw08.KernelsSyr2k' at every input (printed by gen_lw.py). No condition but on lengths. -/
namespace Go.Proofs.Ytbcdpibcieadlaa
open Go Go.RowKit
set_option maxRecDepth 1000000

set_option maxHeartbeats 8000000 in
theorem syr2k8_any (w : World) (a : Nat) (rm cm : Int) (am : Option Addr) (zm : List Nat) (pm : Nat) (rn cn : Int) (an : Option Addr) (zn : List Nat) (pn : Nat) (b : Nat) (ro co : Int) (ao : Option Addr) (zo : List Nat) (po : Nat) (t : Bool) (_ha : a < 18446744073709551616) (hZm : Cel w am zm) (hWm : Words zm) (hlm : zm.length ≤ maxLen) (hkm : zm.length ≤ pm) (hmm : pm ≤ maxLen) (hZn : Cel w an zn) (hWn : Words zn) (hln : zn.length ≤ maxLen) (hkn : zn.length ≤ pn) (hmn : pn ≤ maxLen) (_hb : b < 18446744073709551616) (hZo : Cel w ao zo) (hWo : Words zo) (hlo : zo.length ≤ maxLen) (hko : zo.length ≤ po) (hmo : po ≤ maxLen) :
    Calls Try.prog 11 #[.float .f64 a, .agg #[.int .i64 rm, .int .i64 cm, .slice am zm.length pm], .agg #[.int .i64 rn, .int .i64 cn, .slice an zn.length pn], .float .f64 b, .agg #[.int .i64 ro, .int .i64 co, .slice ao zo.length po], .bool t] w fun e w' => e = .returned (.bool true) ∧ Below w.heap.size w w' := by
  have Bm := fun W => big8_any rm cm am zm.length pm W hlm
  have Bn := fun W => big8_any rn cn an zn.length pn W hln
  have Bo := fun W => big8_any ro co ao zo.length po W hlo
  by_cases hs : (!mayM rm cm zm.length || decide (150 < zm.length)) = false ∧ (!mayM rn cn zn.length || decide (150 < zn.length)) = false ∧ (!mayM ro co zo.length || decide (150 < zo.length)) = false
  · obtain ⟨gm, gn, go⟩ := hs
    rw [gm] at Bm
    rw [gn] at Bn
    rw [go] at Bo
    simp only [Bool.or_eq_false_iff, Bool.not_eq_false', decide_eq_false_iff_not] at gm gn go
    obtain ⟨rm, cm, rfl, rfl, um, vm, nm⟩ := mayM_nat gm.1
    obtain ⟨rn, cn, rfl, rfl, un, vn, nn⟩ := mayM_nat gn.1
    obtain ⟨ro, co, rfl, rfl, uo, vo, no⟩ := mayM_nat go.1
    exact syr2k8_small w a b rm cm rn cn ro co am an ao zm zn zo pm pn po t ⟨hZm, hWm, um, vm, nm, by omega, hkm, hmm⟩ ⟨hZn, hWn, un, vn, nn, by omega, hkn, hmn⟩ ⟨hZo, hWo, uo, vo, no, by omega, hko, hmo⟩ Bm Bn Bo
  · skip
    obtain ⟨W0, hW0⟩ : ∃ W0, W0 = (((w.alloc (.cells #[.int .i64 rm, .int .i64 cm, .slice am zm.length pm] 24)).alloc (.cells #[.int .i64 rn, .int .i64 cn, .slice an zn.length pn] 24)).alloc (.cells #[.int .i64 ro, .int .i64 co, .slice ao zo.length po] 24)) := ⟨_, rfl⟩
    have hB0 : Below w.heap.size w W0 := hW0 ▸ (((Below.refl _ _).alloc (Nat.le_refl _) _).alloc (by simp) _).alloc (by simp; omega) _
    have x0 : Box W0 (w.heap.size) [.int .i64 rm, .int .i64 cm, .slice am zm.length pm] := hW0 ▸ (((Box.newA w [.int .i64 rm, .int .i64 cm, .slice am zm.length pm] _ rfl).alloc _).alloc _)
    have x1 : Box W0 (w.heap.size + 1) [.int .i64 rn, .int .i64 cn, .slice an zn.length pn] := hW0 ▸ ((Box.newA _ [.int .i64 rn, .int .i64 cn, .slice an zn.length pn] _ (by simp)).alloc _)
    have x2 : Box W0 (w.heap.size + 1 + 1) [.int .i64 ro, .int .i64 co, .slice ao zo.length po] := hW0 ▸ (Box.newA _ [.int .i64 ro, .int .i64 co, .slice ao zo.length po] _ (by simp))
    have S0 := Lib.hid (show BoxS w W0 [(w.heap.size, [.int .i64 rm, .int .i64 cm, .slice am zm.length pm]), (w.heap.size + 1, [.int .i64 rn, .int .i64 cn, .slice an zn.length pn]), (w.heap.size + 1 + 1, [.int .i64 ro, .int .i64 co, .slice ao zo.length po])] from ⟨fun p hp => by
      simp only [List.mem_cons, List.not_mem_nil, or_false] at hp
      rcases hp with rfl | rfl | rfl
      · exact x0
      · exact x1
      · exact x2
      , hB0⟩)
    clear hB0 x0 x1 x2
    have HBm := Lib.hid Bm
    have HBn := Lib.hid Bn
    have HBo := Lib.hid Bo
    clear Bm hZm hWm hlm hkm hmm Bn hZn hWn hln hkn hmn Bo hZo hWo hlo hko hmo
    generalize (!mayM rm cm zm.length || decide (150 < zm.length)) = qm at *
    generalize (!mayM rn cn zn.length || decide (150 < zn.length)) = qn at *
    generalize (!mayM ro co zo.length || decide (150 < zo.length)) = qo at *
    have HS := Lib.hid hs
    clear hs
    go_enter Try.func11, Try.ntmps11
    go_upto_region 1 with (fail)
    rw [← hW0]
    clear hW0
    obtain ⟨f01, f02, f03⟩ := (S0.out.get 0 rfl).facts
    obtain ⟨f11, f12, f13⟩ := (S0.out.get 1 rfl).facts
    obtain ⟨f21, f22, f23⟩ := (S0.out.get 2 rfl).facts
    go_wp2_with fail
    refine (HBm.out _).mono ?_
    rintro e w1 ⟨rfl, hb⟩
    have S1 := Lib.hid (S0.out.step hb)
    clear hb f01 f02 f03 f11 f12 f13 f21 f22 f23
    dsimp only
    cases qm
    case true =>
      go_wp2_with fail
      refine (known08_any _).mono ?_
      rintro e w9 ⟨rfl, hb⟩
      have S9 := Lib.hid (S1.out.step hb)
      clear hb
      dsimp only
      go_wp2_with fail
      go_ret
      exact ⟨rfl, S9.out.below⟩
    case false =>
    obtain ⟨f01, f02, f03⟩ := (S1.out.get 0 rfl).facts
    obtain ⟨f11, f12, f13⟩ := (S1.out.get 1 rfl).facts
    obtain ⟨f21, f22, f23⟩ := (S1.out.get 2 rfl).facts
    go_wp2_with fail
    refine (HBn.out _).mono ?_
    rintro e w2 ⟨rfl, hb⟩
    have S2 := Lib.hid (S1.out.step hb)
    clear hb f01 f02 f03 f11 f12 f13 f21 f22 f23
    dsimp only
    cases qn
    case true =>
      go_wp2_with fail
      refine (known08_any _).mono ?_
      rintro e w9 ⟨rfl, hb⟩
      have S9 := Lib.hid (S2.out.step hb)
      clear hb
      dsimp only
      go_wp2_with fail
      go_ret
      exact ⟨rfl, S9.out.below⟩
    case false =>
    obtain ⟨f01, f02, f03⟩ := (S2.out.get 0 rfl).facts
    obtain ⟨f11, f12, f13⟩ := (S2.out.get 1 rfl).facts
    obtain ⟨f21, f22, f23⟩ := (S2.out.get 2 rfl).facts
    go_wp2_with fail
    refine (HBo.out _).mono ?_
    rintro e w3 ⟨rfl, hb⟩
    have S3 := Lib.hid (S2.out.step hb)
    clear hb f01 f02 f03 f11 f12 f13 f21 f22 f23
    dsimp only
    cases qo
    case true =>
      go_wp2_with fail
      refine (known08_any _).mono ?_
      rintro e w9 ⟨rfl, hb⟩
      have S9 := Lib.hid (S3.out.step hb)
      clear hb
      dsimp only
      go_wp2_with fail
      go_ret
      exact ⟨rfl, S9.out.below⟩
    case false =>
    exact absurd (by simp) HS.out
end Go.Proofs.Ytbcdpibcieadlaa

/- Arguments opened: slices of floats; a way up for results. No condition. -/
namespace Go.Proofs.Ytbcdpibcieadlaa
open Go Go.RowKit Go.ChangeShapes Go.WideShapes Go.Deep

section
variable {H : Type} {enc : TypeId × Value → H} {P : Program} {w : World} {base : Nat} {spare : Nat → Bool} {held : Bool}

theorem trod_f64 {fuel : Nat} {t : TypeId} {cs : List Value} {x : DataW H × List MemPlace} (ht : P.underlying t = some (.float .f64)) (h : DataW.trod enc P w base spare held fuel t cs = some x) : ∃ n, cs = [.float .f64 n] ∧ x = (.lit (.float .f64 n), []) ∧ n < 18446744073709551616 := by
  cases fuel with
  | zero => simp [DataW.trod] at h
  | succ n =>
    unfold DataW.trod at h
    rw [ht] at h
    split at h <;> simp_all
    rename_i k k' b hk
    subst hk
    obtain ⟨⟨rfl, hw⟩, rfl⟩ := h
    simp [Lit.wf] at hw
    exact hw

/-- A slice of floats: where it lies, its floats. -/
theorem open_fls {t e : TypeId} {fuel : Nat} {v : Value} {x : DataW H × List MemPlace} (ht : P.underlying t = some (.slice e)) (he : P.underlying e = some (.float .f64)) (hc : P.cellsOf e = 1) (h : DataW.trod enc P w base spare held fuel t [v] = some x) :
    ∃ (a : Option Addr) (zs : List Nat) (cap : Nat), v = .slice a zs.length cap ∧ Fls w a zs ∧ Words zs ∧ zs.length ≤ maxLen := by
  rcases open_slice1 ht hc h with ⟨h1, h2⟩ | ⟨a, len, cap, m, n, V, D, Pl, h1, hb, hl, hm, hmm, h2, hx⟩
  · simp only [List.cons.injEq, and_true] at h1
    subst h1
    exact ⟨none, [], 0, rfl, fun hz => absurd rfl hz, fun v hv => (by cases hv), Nat.zero_le _⟩
  · simp only [List.cons.injEq, and_true] at h1
    subst h1
    have hlm : len ≤ m := by rw [hmm]; split <;> omega
    obtain ⟨F, hF⟩ := choose_lt (α := Nat) (p := fun i x => w.cell? (a.add i) = some (.float .f64 x) ∧ x < 18446744073709551616) (n := len) (fun i hi => by
      obtain ⟨c, ht2⟩ := hx i (by omega)
      obtain ⟨x, hx1, _, hx2⟩ := trod_f64 he ht2
      simp only [List.cons.injEq, and_true] at hx1
      exact ⟨x, by rw [c, hx1], hx2⟩)
    refine ⟨some a, (List.range len).map F, cap, by simp, ?_, ?_, by simp; omega⟩
    · intro hz
      have hlen : 0 < len := by
        cases len with
        | zero => exact absurd rfl hz
        | succ n => omega
      have h0 := (hF 0 hlen).1
      obtain ⟨b, off, spot⟩ := a
      have hsp : spot = none ∧ b < w.heap.size := by
        unfold Addr.add World.cell? at h0
        simp only [if_true] at h0
        cases hh : w.heap[b]? with
        | none => rw [hh] at h0; cases h0
        | some o =>
          rw [hh] at h0
          refine ⟨?_, (Array.getElem?_eq_some_iff.1 hh).1⟩
          cases o with
          | cells c T r => simp only [] at h0; cases spot with
            | none => rfl
            | some s => simp at h0
          | _ => simp at h0
      obtain ⟨rfl, hbl⟩ := hsp
      refine ⟨b, off, rfl, hbl, fun i v hv => ?_⟩
      simp only [List.getElem?_map, Option.map_eq_some_iff] at hv
      obtain ⟨j, hj, rfl⟩ := hv
      have hi : i < len := by
        by_cases hi : i < len
        · exact hi
        · rw [List.getElem?_eq_none (by simp; omega)] at hj; cases hj
      rw [List.getElem?_range hi] at hj
      cases hj
      have := (hF i hi).1
      have ha : (Addr.add ⟨b, off, none⟩ i) = ⟨b, off + i, none⟩ := by
        unfold Addr.add
        split
        · subst_vars; rfl
        · rfl
      rw [ha] at this
      obtain ⟨s, hs⟩ := raw_self (hF i hi).2
      exact ⟨s, by rw [this, ← hs]⟩
    · intro v hv
      simp only [List.mem_map, List.mem_range] at hv
      obtain ⟨i, hi, rfl⟩ := hv
      exact (hF i hi).2
end
end Go.Proofs.Ytbcdpibcieadlaa

/- A law's row closed: the result is true, nothing that was there has turned, each argument reads as it did. No condition. -/
namespace Go.Proofs.Ytbcdpibcieadlaa
open Go Go.RowKit Go.ChangeShapes Go.WideShapes

section
variable {H : Type} {enc : TypeId × Value → H} {P : Program}

theorem trodAll_stays (hl : laidOutB P = true) {W W' : World} {sp : Nat → Bool} : ∀ {ts : List TypeId} {vs : List Value} {ds : List (DataW H)} {ps : List MemPlace},
    ts.all (fun t => P.readableRec t && decide (t < P.types.size)) = true → DataW.TrodAll enc P W 0 (fun _ => true) true ts vs ds ps → (∀ p ∈ ps, W.sameAt W' p) → (∀ p ∈ ps, sp p.block = true) → DataW.TrodAll enc P W' 0 sp true ts vs ds ps
  | [], _, _, _, _, h, _, _ => by
    obtain ⟨rfl, rfl, rfl⟩ := trodAll_nil h
    rfl
  | t :: ts, _, _, _, ht, h, h1, h2 => by
    obtain ⟨v, vs, d, ds, p, q, rfl, rfl, rfl, hd, hr⟩ := trodAll_cons h
    simp only [List.all_cons, Bool.and_eq_true, decide_eq_true_eq] at ht
    refine ⟨p, q, WideElems.Trod_stays hl ht.1.1 ht.1.2 hd (fun x hx => h1 x (by simp [hx])) (fun x hx => h2 x (by simp [hx])), trodAll_stays hl ht.2 hr (fun x hx => h1 x (by simp [hx])) (fun x hx => h2 x (by simp [hx])), rfl⟩

/-- What a law's row asks in the end. -/
theorem post_of_below {f : Func} {s : ChangeSpec} {apart fresh handsOn again : Bool} {W W' : World} {args : Array Value} {ds : List (DataW H)} {before : List MemPlace} {tb : TypeId}
    (hl : laidOutB P = true) (hread : f.params.toList.all (fun t => P.readableRec t && decide (t < P.types.size)) = true) (hv : s.vars = [])
    (hW : DataW.Whole enc P f.params.toList s.vars apart W args.toList ds [] before)
    (hs : s.fn H ds = { results := [.lit (.bool true)], args := ds }) (hb : Below W.heap.size W W') (hr : f.resultTypes = #[tb]) (htb : P.underlying tb = some .bool) :
    s.post enc P f apart fresh handsOn again W args (.bool true) W' := by
  have hlt : ∀ p ∈ before, p.block < W.heap.size := fun p hp => hW.lt p hp
  have hsame : ∀ p ∈ before, W.sameAt W' p := fun p hp => hb.same (hlt p hp)
  have hW0 := hW
  obtain ⟨p, q, hA, hV, rfl, hz, hn⟩ := hW0
  have hq : q = [] := by rw [hv] at hV; exact hV
  subst hq
  rw [List.append_nil] at hlt hsame hz hn
  have hres : ∀ (b : Nat) (sp : Nat → Bool) (hd : Bool), DataW.TrodAll enc P W' b sp hd f.resultTypes.toList ((Value.bool true).resultList f.resultTypes.size) (s.fn H (ds ++ [])).results [] := by
    intro b sp hd
    rw [List.append_nil, hs, hr]
    exact trodAll_mk1 (shut_bool htb _)
  have hargs : ∀ sp : Nat → Bool, (∀ x ∈ p, sp x.block = true) → DataW.TrodAll enc P W' 0 sp true f.params.toList args.toList (s.fn H (ds ++ [])).args p := by
    intro sp hsp
    rw [List.append_nil, hs]
    exact trodAll_stays hl hread hA hsame hsp
  have hvars : ∀ sp : Nat → Bool, DataW.TrodVars enc P W' sp s.vars (s.fn H (ds ++ [])).vars [] := by
    intro sp
    rw [List.append_nil, hs, hv]
    rfl
  have hold : ∀ x ∈ p, (fun b => decide (b < W.heap.size)) x.block = true := fun x hx => by simpa using hlt x hx
  refine ⟨ds, [], p ++ [], [], p, [], hW, hres _ _ _, hargs _ hold, hvars _, hb.frame _, fun _ => ?_⟩
  refine ⟨?_, _, _, ([] ++ p) ++ [], ⟨[] ++ p, [], trodAll_append (hargs _ (fun _ _ => rfl)) (hres _ _ _), hvars _, rfl, ?_, ?_⟩, ?_⟩
  · exact ok_one hr rfl (okWide_bool_mk htb _)
  · intro b off hp
    have h1 := hlt (MemPlace.cell b off) (by simpa using hp)
    rw [hb.frozen (p := ⟨b, off, none⟩) h1]
    exact hz b off (by simpa using hp)
  · intro ha
    have := hn ha
    simpa using this
  · intro x hx _
    simpa using hx
end
end Go.Proofs.Ytbcdpibcieadlaa
