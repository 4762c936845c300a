/- Layer 8, the document: a symmetric matrix of its lower places. No condition but on lengths. -/
import Derived.Test.YtbcdpibcieadlaaZz20
namespace Go.Proofs.Ytbcdpibcieadlaa
open Go Go.RowKit
set_option maxRecDepth 1000000

theorem run_append_memC (w : World) (ty : TypeId) (a : Option Addr) (zs : List Nat) (cap : Nat) (hZ : Fls w a zs) (hl : zs.length ≤ 262144) :
    ∃ a' b cap' w', (Builtin.append_ #[22, 22] ty #[.slice none 0 0, .slice a zs.length cap]).run Try.prog w = .ok (.slice a' zs.length cap') w' ∧ Mem w' w.heap.size a' b zs ∧ Below w.heap.size w w' ∧ zs.length ≤ cap' ∧ cap' ≤ maxLen := by
  cases a with
  | some ad =>
    obtain ⟨v', w', hr, hO, hb⟩ := run_append_ownF w ty w.heap.size (.slice none 0 0) [] (OwnF.nil _ _) ad zs cap hZ (by simpa using hl) (Nat.le_refl _)
    rw [List.nil_append] at hO
    obtain ⟨a', b, cap', rfl, c1, c2, h1, h2, h3⟩ := hO.fs
    exact ⟨a', b, cap', w', hr, ⟨h2, h1, h3⟩, hb, c1, c2⟩
  | none =>
    have hz : zs = [] := by
      cases zs with
      | nil => rfl
      | cons x xs => obtain ⟨b, off, e, _⟩ := hZ (by simp); cases e
    subst hz
    obtain ⟨i0, hi, hz0, hz1, hz2⟩ := info_parts info_f64
    refine ⟨none, w.heap.size, 0, w, ?_, ⟨.inl rfl, Nat.le_refl _, fun h => absurd rfl h⟩, Below.refl _ _, Nat.le_refl _, Nat.zero_le _⟩
    simp [Builtin.append_, run_underlying Try.underlying22, sizeOf, typeInfo, hi, Builtin.lenOf, Builtin.firstCells]
theorem wp_append_memC {w : World} {o : Oper} {a : Act} {K : Act → World → Prop} {Q : Exit → Act → World → Prop} (s x : Operand)
    (ho : o.op = .call { callee := .builtin .append, args := #[s, x], argTypes := #[22, 22] })
    (ad : Option Addr) (zs : List Nat) (cap : Nat) (hs : a.eval s = .slice none 0 0) (hx : a.eval x = .slice ad zs.length cap) (hZ : Fls w ad zs) (hl : zs.length ≤ 262144)
    (h : ∀ a' b cap' w', Mem w' w.heap.size a' b zs → Below w.heap.size w w' → zs.length ≤ cap' → cap' ≤ maxLen → K (a.put o.dst (.slice a' zs.length cap')) w') : o.wp Try.prog a w K Q := by
  obtain ⟨a', b, cap', w', hr, h2, h3, h4, h5⟩ := run_append_memC w o.type ad zs cap hZ hl
  unfold Oper.wp execOp
  simp only [ho, resolve, invoke, builtin, Sem.run_bind, Sem.run_pure, Result.andThen_ok, List.map_toArray, List.map_cons, List.map_nil, hs, hx, hr]
  exact h a' b cap' w' h2 h3 h4 h5
set_option maxHeartbeats 4000000 in
theorem RCopyC_any (w : World) (r c : Nat) (a : Option Addr) (zs : List Nat) (cap : Nat) (hZ : Fls w a zs) (hl : zs.length ≤ 262144) :
    Calls Try.prog 50 #[.agg #[.int .i64 r, .int .i64 c, .slice a zs.length cap]] w fun e w' => (∃ a' b cap', e = .returned (.agg #[.int .i64 r, .int .i64 c, .slice a' zs.length cap']) ∧ Mem w' w.heap.size a' b zs ∧ zs.length ≤ cap' ∧ cap' ≤ maxLen) ∧ Below w.heap.size w w' := by
  obtain ⟨W0, hW0⟩ : ∃ W0, W0 = (w.alloc (.cells #[.int .i64 r, .int .i64 c, .slice a zs.length cap] 24)).alloc (.cells #[.int .i64 0, .int .i64 0, .slice none 0 0] 24) := ⟨_, rfl⟩
  have hB0 : Below w.heap.size w W0 := hW0 ▸ ((Below.refl _ _).alloc (Nat.le_refl _) _).alloc (by simp) _
  have x0 : Box W0 w.heap.size [.int .i64 r, .int .i64 c, .slice a zs.length cap] := hW0 ▸ (Box.newA w [_, _, _] _ rfl).alloc _
  have x1 : Box W0 (w.heap.size + 1) [.int .i64 0, .int .i64 0, .slice none 0 0] := hW0 ▸ Box.newA _ _ _ (by simp)
  have HX := Lib.hid (show _ ∧ _ ∧ _ from ⟨hB0, x0, x1⟩)
  have HZ := Lib.hid (fun W (h : Below w.heap.size w W) => hZ.below h)
  clear hB0 x0 x1 hZ
  go_enter Try.func50, Try.ntmps50
  go_upto_region 1 with (fail)
  rw [← hW0]
  clear hW0
  have hdr : Below W0.heap.size W0 W0.drew := below_drewN 1 (Below.refl _ W0)
  have HB := Lib.hid (show _ ∧ _ ∧ _ from ⟨below_step HX.out.1 HX.out.1.size hdr, HX.out.2.1.below hdr, HX.out.2.2.below hdr⟩)
  have HS := Lib.hid (show ∀ W, Below W0.drew.heap.size W0.drew W → (fun W => ∀ i, W.cell? ⟨w.heap.size, i, none⟩ = ([.int .i64 r, .int .i64 c, .slice a zs.length cap] : List Value)[i]?) W from fun W h => (HB.out.2.1.below h).cell)
  refine wp_region_items 7 [(true, 0), (true, 1), (true, 2), (true, 3), (true, 4), (true, 5), (false, 6)] (fun W => ∀ i, W.cell? ⟨w.heap.size, i, none⟩ = ([.int .i64 r, .int .i64 c, .slice a zs.length cap] : List Value)[i]?) (by kernel_rfl) (by kernel_rfl) (HS.out _ (Below.refl _ _)) ?_
  generalize W0.drew = W1 at *
  clear hdr HX
  iterate 6 (refine iW_take (v := ?_) rfl rfl ?_ ?_; rotate_left; (next => (intro w' hSw; (try dsimp only at hSw); go_simp; (try (rw [if_pos (by omega)]; go_simp)); (try with_reducible rfl))); (simp only [Act.put, List.setIfInBounds_toArray, List.set_cons_zero, List.set_cons_succ]))
  refine iW_mid rfl rfl ?_
  refine wp_append_memC _ _ rfl a zs cap rfl rfl (HZ.out W1 HB.out.1) hl ?_
  intro a' b cap' w2 hM hb hc1 hc2
  have HCap := Lib.hid (And.intro hc1 hc2)
  clear hc1 hc2
  have hlt := HB.out.2.2.lt
  have hle := HB.out.1.size
  have HE := Lib.hid (show _ ∧ _ ∧ _ ∧ _ from ⟨hM, below_step HB.out.1 HB.out.1.size hb, HB.out.2.2.below hb, hlt⟩)
  refine ⟨HS.out _ hb, ?_⟩
  obtain ⟨q1, q2, q3⟩ := HE.out.2.2.1.facts
  clear hM hb HS HZ hlt hle
  refine iW_nil ?_
  go_simp
  go_wp2_with fail
  refine NoPanic.normal ?_
  go_wp2_with fail
  obtain ⟨hM, hB, x1, hlt⟩ := HE.out
  refine bodyPost_ret (results_one rfl (rv_cell (g := w.heap.size + 1) rfl (x1.put3 _ _ _) rfl Try.underlying24 (by kernel_rfl))) rfl ⟨⟨a', b, cap', rfl, ?_, HCap.out.1, HCap.out.2⟩, ?_⟩
  · have hx : ∀ u0 u1 u2, Mem (((w2.setCell ⟨w.heap.size + 1, 0, none⟩ u0).setCell ⟨w.heap.size + 1, 1, none⟩ u1).setCell ⟨w.heap.size + 1, 2, none⟩ u2) w.heap.size a' b zs := fun u0 u1 u2 => by
      have h1 := hM.lo
      have h2 := HB.out.1.size
      refine ⟨?_, by omega, fun hz => by simpa using hM.lt hz⟩
      rcases hM.fs with h | ⟨e, hF⟩
      · exact .inl h
      · exact .inr ⟨e, ((hF.other (by omega) _ _).other (by omega) _ _).other (by omega) _ _⟩
    exact hx _ _ _
  · exact below_put3 hB (by omega) _ _ _
/-- The places above the diagonal are set, up to row i and place j of it. -/
def LowP (zs : List Nat) (n i j : Nat) (l : List Nat) : Prop := ∀ a b, a < n → b < n → l.getD (a * n + b) 0 = if a < b ∧ (a < i ∨ a = i ∧ b < j) then zs.getD (b * n + a) 0 else zs.getD (a * n + b) 0
theorem LowP.zero (zs : List Nat) (n : Nat) : LowP zs n 0 0 zs := fun a b _ _ => by rw [if_neg (by omega)]
theorem LowP.next {zs l : List Nat} {n i j : Nat} (h : LowP zs n i j l) (hj : n ≤ j) : LowP zs n (i + 1) 0 l := fun a b ha hb => by
  rw [h a b ha hb]
  by_cases e : a < b ∧ (a < i ∨ a = i ∧ b < j)
  · rw [if_pos e, if_pos (by omega)]
  · rw [if_neg e, if_neg (by omega)]
theorem LowP.start {zs l : List Nat} {n i : Nat} (h : LowP zs n i 0 l) : LowP zs n i (i + 1) l := fun a b ha hb => by
  rw [h a b ha hb]
  by_cases e : a < b ∧ (a < i ∨ a = i ∧ b < 0)
  · rw [if_pos e, if_pos (by omega)]
  · rw [if_neg e, if_neg (by omega)]
theorem LowP.set {zs l : List Nat} {n i j : Nat} (h : LowP zs n i j l) (hl : l.length = n * n) (hi : i < n) (hj : j < n) (hij : i < j) : LowP zs n i (j + 1) (l.set (i * n + j) (zs.getD (j * n + i) 0)) := fun a b ha hb => by
  rw [getD_set8 _ _ _ _ (by rw [hl]; exact place8 hi hj), h a b ha hb]
  by_cases e : i * n + j = a * n + b
  · obtain ⟨rfl, rfl⟩ := place8_inj hj hb e
    rw [if_pos rfl, if_pos (by omega)]
  · rw [if_neg e]
    have hne : ¬ (a = i ∧ b = j) := fun h2 => e (by rw [h2.1, h2.2])
    by_cases e2 : a < b ∧ (a < i ∨ a = i ∧ b < j)
    · rw [if_pos e2, if_pos (by omega)]
    · rw [if_neg e2, if_neg (by omega)]
theorem LowP.done {zs l : List Nat} {n : Nat} (h : LowP zs n n 0 l) (a b : Nat) (ha : a < n) (hb : b < n) : l.getD (a * n + b) 0 = zs.getD ((max a b) * n + min a b) 0 := by
  rw [h a b ha hb]
  by_cases e : a < b
  · rw [if_pos (by omega), show max a b = b by omega, show min a b = a by omega]
  · rw [if_neg (by omega), show max a b = a by omega, show min a b = b by omega]
set_option maxHeartbeats 16000000 in
theorem RLower_any (w : World) (n : Nat) (a : Option Addr) (zs : List Nat) (cap : Nat) (hZ : Fls w a zs) (hl : zs.length ≤ 262144) (hn : zs.length = n * n) (hu : n ≤ 512) :
    Calls Try.prog 39 #[.agg #[.int .i64 n, .int .i64 n, .slice a zs.length cap]] w fun e w' => (∃ a' c' l, e = .returned (.agg #[.int .i64 n, .int .i64 n, .slice a' l.length c']) ∧ Fls w' a' l ∧ l.length = zs.length ∧ LowP zs n n 0 l ∧ l.length ≤ c' ∧ c' ≤ maxLen) ∧ Below w.heap.size w w' := by
  obtain ⟨W0, hW0⟩ : ∃ W0, W0 = (w.alloc (.cells #[.int .i64 n, .int .i64 n, .slice a zs.length cap] 24)).alloc (.cells #[.int .i64 0, .int .i64 0, .slice none 0 0] 24) := ⟨_, rfl⟩
  have hB0 : Below w.heap.size w W0 := hW0 ▸ ((Below.refl _ _).alloc (Nat.le_refl _) _).alloc (by simp) _
  have x0 : Box W0 w.heap.size [.int .i64 n, .int .i64 n, .slice a zs.length cap] := hW0 ▸ (Box.newA w [.int .i64 n, .int .i64 n, .slice a zs.length cap] _ rfl).alloc _
  have x1 : Box W0 (w.heap.size + 1) [.int .i64 0, .int .i64 0, .slice none 0 0] := hW0 ▸ Box.newA _ [.int .i64 0, .int .i64 0, .slice none 0 0] _ (by simp)
  have S0 := Lib.hid (show BoxS w W0 [(w.heap.size, [.int .i64 n, .int .i64 n, .slice a zs.length cap]), (w.heap.size + 1, [.int .i64 0, .int .i64 0, .slice none 0 0])] from ⟨fun p hp => by
    simp only [List.mem_cons, List.not_mem_nil, or_false] at hp
    rcases hp with rfl | rfl
    · exact x0
    · exact x1
    , hB0⟩)
  have HAt := Lib.hid (fun W (h : Below w.heap.size w W) i j (hi : i < n) (hj : j < n) => RAt_any W n n j i a zs cap (hZ.below h) hl (by rw [hn]; exact place8 hj hi))
  have HCp := Lib.hid (fun W (h : Below w.heap.size w W) => RCopyC_any W n n a zs cap (hZ.below h) hl)
  have HN := Lib.hid (show _ ∧ _ from ⟨hn, hl⟩)
  clear hB0 x0 x1 hZ hl hn
  go_enter Try.func39, Try.ntmps39
  go_upto_region 1 with (fail)
  rw [← hW0]
  clear hW0
  obtain ⟨f01, f02, f03⟩ := (S0.out.get 0 rfl).facts
  go_wp2_with fail
  refine (HCp.out _ S0.out.below).mono ?_
  rintro e w1 ⟨⟨ra, b0, rc, rfl, hMem, hc1, hc2⟩, hb⟩
  have HCap := Lib.hid (And.intro hc1 hc2)
  have D0 := Lib.hid (BoxS.copy (cs := [.int .i64 n, .int .i64 n, .slice ra zs.length rc]) (S0.out.step hb) S0.out hMem)
  clear f01 f02 f03 hMem hb HCp S0 hc1 hc2
  dsimp only
  go_upto_region 2 with (fail)
  obtain ⟨P, hPP⟩ : ∃ P, P = w1.heap.size := ⟨_, rfl⟩
  simp only [← hPP] at D0 ⊢
  generalize w1.alloc (.cells #[.int .i64 n, .int .i64 n, .slice ra zs.length rc] 24) = V0 at *
  clear hPP
  go_wp2_with fail
  go_loopw [4] (fun si wr => ∃ i : Nat, i ≤ n ∧ si = .int .i64 i ∧ ∃ l : List Nat, l.length = zs.length ∧ LowP zs n i 0 l ∧ DocW w wr ([(w.heap.size, [.int .i64 n, .int .i64 n, .slice a zs.length cap]), (w.heap.size + 1, [.int .i64 0, .int .i64 0, .slice none 0 0])] ++ [(P, [.int .i64 n, .int .i64 n, .slice ra zs.length rc])]) ra b0 l) (fun si _ => n - (intOf si).toNat)
  case atStart => exact ⟨0, Nat.zero_le _, rfl, zs, rfl, LowP.zero zs n, D0.out⟩
  case round =>
    obtain ⟨i, hi, rfl, l, hll, hP, hD⟩ := hrel
    have D1 := Lib.hid hD
    have HL1 := Lib.hid (And.intro hll hP)
    clear hD D0 hll hP
    by_cases hir : i < n
    · skip
      obtain ⟨f11, f12, f13⟩ := (D1.out.get 0 rfl).facts
      go_wp2_with fail
      clear f11 f12 f13
      go_loopw [5] (fun sj wr => ∃ j : Nat, i < j ∧ j ≤ n ∧ sj = .int .i64 j ∧ ∃ l : List Nat, l.length = zs.length ∧ LowP zs n i j l ∧ DocW w wr ([(w.heap.size, [.int .i64 n, .int .i64 n, .slice a zs.length cap]), (w.heap.size + 1, [.int .i64 0, .int .i64 0, .slice none 0 0])] ++ [(P, [.int .i64 n, .int .i64 n, .slice ra zs.length rc])]) ra b0 l) (fun sj _ => n - (intOf sj).toNat)
      case atStart => exact ⟨i + 1, Nat.lt_succ_self _, hir, by go_num, l, HL1.out.1, HL1.out.2.start, D1.out⟩
      case round =>
        clear HL1 D1
        obtain ⟨j, hij, hj, rfl, l, hll, hP, hD⟩ := hrel
        have D2 := Lib.hid hD
        have HL2 := Lib.hid (And.intro hll hP)
        clear hD hll hP
        by_cases hjc : j < n
        · skip
          obtain ⟨f11, f12, f13⟩ := (D2.out.get 0 rfl).facts
          obtain ⟨PP, hPP⟩ : ∃ PP, PP = i * n := ⟨_, rfl⟩
          have t1 : wrap64 ((i : Int) * (n : Int)) = (PP : Int) ∧ IntKind.i64.wrap ((i : Int) * (n : Int)) = (PP : Int) := by
            have hpl := place8 hir hjc
            have := HN.out.1
            have := HN.out.2
            exact ⟨w64m PP (by rw [hPP]; push_cast; rfl) (by omega), wi64m PP (by rw [hPP]; push_cast; rfl) (by omega)⟩
          have HPP := Lib.hid hPP
          clear hPP
          have t2 : IntKind.i64.wrap ((PP : Int) + (j : Int)) = (PP : Int) + j := by have hpl := place8 hir hjc; have h1 := HN.out.1; have h2 := HN.out.2; rw [IntKind.wrap_i64]; have := HPP.out; omega
          have HA1 := Lib.hid (fun W h => HAt.out W h i j hir hjc)
          have hV : zs.getD (j * n + i) 0 = zs.getD (j * n + i) 0 := rfl
          obtain ⟨zv, hzv⟩ : ∃ zv, zv = zs.getD (j * n + i) 0 := ⟨_, rfl⟩
          rw [← hzv] at HA1
          have HZV := Lib.hid hzv
          clear hzv hV
          go_upto_region 8 with (fail)
          have hdr : Below wr.heap.size wr wr.drew := below_drewN 1 (Below.refl _ wr)
          have D4 := Lib.hid (D2.out.step hdr)
          clear D2 f11 f12 f13
          have HS := Lib.hid (show ∀ W, Below wr.drew.heap.size wr.drew W → (fun W => (∀ i, W.cell? ⟨w.heap.size, i, none⟩ = ([.int .i64 n, .int .i64 n, .slice a zs.length cap] : List Value)[i]?) ∧ (∀ i, W.cell? ⟨P, i, none⟩ = ([.int .i64 n, .int .i64 n, .slice ra zs.length rc] : List Value)[i]?)) W from fun W h => ⟨((D4.out.step h).get 0 rfl).cell, ((D4.out.step h).get 2 rfl).cell⟩)
          have HPl := Lib.hid (place8 hir hjc)
          refine wp_region_items 12 [(true, 0), (true, 1), (true, 2), (true, 3), (true, 4), (true, 5), (true, 6), (true, 7), (true, 8), (true, 9), (true, 10), (false, 11)] (fun W => (∀ i, W.cell? ⟨w.heap.size, i, none⟩ = ([.int .i64 n, .int .i64 n, .slice a zs.length cap] : List Value)[i]?) ∧ (∀ i, W.cell? ⟨P, i, none⟩ = ([.int .i64 n, .int .i64 n, .slice ra zs.length rc] : List Value)[i]?)) (by kernel_rfl) (by kernel_rfl) (HS.out _ (Below.refl _ _)) ?_
          generalize wr.drew = w2 at *
          clear hdr
          have hPj : PP + j < 262144 := by have h1 := HPl.out; have h2 := HPP.out; have h3 := HN.out.1; have h4 := HN.out.2; omega
          iterate 11 (refine iW_take (v := ?_) rfl rfl ?_ ?_; rotate_left; (next => (intro w' hSw; (try dsimp only at hSw); go_simp; (try (rw [if_pos (by omega)]; go_simp)); (try with_reducible rfl))); (simp only [Act.put, List.setIfInBounds_toArray, List.set_cons_zero, List.set_cons_succ]))
          refine iW_mid rfl rfl ?_
          go_simp
          refine (HA1.out w2 D4.out.below).mono ?_
          rintro e w3 ⟨⟨s3, rfl⟩, hb⟩
          have D5 := Lib.hid (D4.out.step hb)
          refine ⟨HS.out _ hb, ?_⟩
          clear hb
          refine iW_nil ?_
          go_simp
          obtain ⟨rfl, hF⟩ := D5.out.flb (k := i * n + j) (by rw [HL2.out.1, HN.out.1]; exact HPl.out)
          have hF1 := hF.lt
          have hF2 := hF.frozen
          obtain ⟨sf, hF3⟩ := hF.at (i := i * n + j) (by rw [HL2.out.1, HN.out.1]; exact HPl.out)
          have DD := Lib.hid (D5.out.set (k := i * n + j) (by rw [HL2.out.1, HN.out.1]; exact HPl.out) zv s3)
          have hpz : PP + j < zs.length := by rw [HN.out.1, HPP.out]; exact HPl.out
          rw [← HPP.out] at hF3 DD
          have hzz := HN.out.2
          have HL3 := Lib.hid (show (l.set (PP + j) zv).length = zs.length ∧ LowP zs n i (j + 1) (l.set (PP + j) zv) from ⟨by rw [List.length_set]; exact HL2.out.1, by rw [HPP.out, HZV.out]; exact HL2.out.2.set (by rw [HL2.out.1, HN.out.1]) hir hjc hij⟩)
          clear hF D5
          go_wp2_with fail
          refine NoPanic.normal ?_
          go_wp2_with fail
          go_roundw
          case rel => exact ⟨j + 1, by omega, hjc, by go_num, _, HL3.out.1, HL3.out.2, DD.out⟩
          case measure => simp [intOf]; omega
        · skip
          obtain rfl : j = n := by omega
          obtain ⟨f11, f12, f13⟩ := (D2.out.get 0 rfl).facts
          go_wp2_with fail
          go_roundw
          case rel => exact ⟨i + 1, hir, by go_num, l, HL2.out.1, HL2.out.2.next (Nat.le_refl _), D2.out⟩
          case measure => simp [intOf]; omega
    · skip
      obtain rfl : i = n := by omega
      obtain ⟨f11, f12, f13⟩ := (D1.out.get 0 rfl).facts
      obtain ⟨f21, f22, f23⟩ := (D1.out.get 1 rfl).facts
      obtain ⟨f31, f32, f33⟩ := (D1.out.get 2 rfl).facts
      go_wp2_with fail
      have hx2 := D1.out.get 1 rfl
      have hne := D1.out.ne
      have hfs := D1.out.fs
      have hbl := D1.out.below
      refine bodyPost_ret (results_one rfl (rv_cell (g := w.heap.size + 1) rfl (hx2.put3 _ _ _) rfl Try.underlying24 (by kernel_rfl))) rfl ⟨⟨ra, rc, l, by rw [HL1.out.1], ?_, HL1.out.1, HL1.out.2, by rw [HL1.out.1]; exact HCap.out.1, HCap.out.2⟩, ?_⟩
      · have hq : ∀ u0 u1 u2, Fls (((wr.setCell ⟨w.heap.size + 1, 0, none⟩ u0).setCell ⟨w.heap.size + 1, 1, none⟩ u1).setCell ⟨w.heap.size + 1, 2, none⟩ u2) ra l := fun u0 u1 u2 => by
          by_cases hz : l = []
          · rw [hz]; exact fun h => absurd rfl h
          · rcases hfs with h | ⟨e, hF⟩
            · exact absurd h hz
            · subst e
              have hn := hne hz (w.heap.size + 1, [.int .i64 0, .int .i64 0, .slice none 0 0]) (List.mem_of_getElem? (i := 1) rfl)
              exact (((hF.other (Ne.symm hn) _ _).other (Ne.symm hn) _ _).other (Ne.symm hn) _ _).fls
        exact hq _ _ _
      · exact below_put3 hbl (by omega) _ _ _
end Go.Proofs.Ytbcdpibcieadlaa
