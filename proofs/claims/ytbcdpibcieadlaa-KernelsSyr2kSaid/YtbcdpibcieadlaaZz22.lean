/- Layer 8, the document: a symmetric matrix of its lower places. No condition but on lengths. -/
import Derived.Test.YtbcdpibcieadlaaZz20
import Derived.Test.YtbcdpibcieadlaaZz21
namespace Go.Proofs.Ytbcdpibcieadlaa
open Go Go.RowKit
set_option maxRecDepth 1000000

theorem run_append_memC (w : World) (ty : TypeId) (a : Option Addr) (zs : List Nat) (cap : Nat) (hZ : Fls w a zs) (hl : zs.length ≤ 262144) :
    ∃ a' b cap' w', (Builtin.append_ #[22, 22] ty #[.slice none 0 0, .slice a zs.length cap]).run Try.prog w = .ok (.slice a' zs.length cap') w' ∧ Mem w' w.heap.size a' b zs ∧ Below w.heap.size w w' ∧ zs.length ≤ cap' ∧ cap' ≤ maxLen := by
  cases a with
  | some ad =>
    obtain ⟨v', w', hr, hO, hb⟩ := run_append_ownF w ty w.heap.size (.slice none 0 0) [] (OwnF.nil _ _) ad zs cap hZ (by simpa using hl) (Nat.le_refl _)
    rw [List.nil_append] at hO
    obtain ⟨a', b, cap', rfl, c1, c2, h1, h2, h3⟩ := hO.fs
    exact ⟨a', b, cap', w', hr, ⟨h2, h1, h3⟩, hb, c1, c2⟩
  | none =>
    have hz : zs = [] := by
      cases zs with
      | nil => rfl
      | cons x xs => obtain ⟨b, off, e, _⟩ := hZ (by simp); cases e
    subst hz
    obtain ⟨i0, hi, hz0, hz1, hz2⟩ := info_parts info_f64
    refine ⟨none, w.heap.size, 0, w, ?_, ⟨.inl rfl, Nat.le_refl _, fun h => absurd rfl h⟩, Below.refl _ _, Nat.le_refl _, Nat.zero_le _⟩
    simp [Builtin.append_, run_underlying Try.underlying22, sizeOf, typeInfo, hi, Builtin.lenOf, Builtin.firstCells]
theorem wp_append_memC {w : World} {o : Oper} {a : Act} {K : Act → World → Prop} {Q : Exit → Act → World → Prop} (s x : Operand)
    (ho : o.op = .call { callee := .builtin .append, args := #[s, x], argTypes := #[22, 22] })
    (ad : Option Addr) (zs : List Nat) (cap : Nat) (hs : a.eval s = .slice none 0 0) (hx : a.eval x = .slice ad zs.length cap) (hZ : Fls w ad zs) (hl : zs.length ≤ 262144)
    (h : ∀ a' b cap' w', Mem w' w.heap.size a' b zs → Below w.heap.size w w' → zs.length ≤ cap' → cap' ≤ maxLen → K (a.put o.dst (.slice a' zs.length cap')) w') : o.wp Try.prog a w K Q := by
  obtain ⟨a', b, cap', w', hr, h2, h3, h4, h5⟩ := run_append_memC w o.type ad zs cap hZ hl
  unfold Oper.wp execOp
  simp only [ho, resolve, invoke, builtin, Sem.run_bind, Sem.run_pure, Result.andThen_ok, List.map_toArray, List.map_cons, List.map_nil, hs, hx, hr]
  exact h a' b cap' w' h2 h3 h4 h5
set_option maxHeartbeats 4000000 in
theorem RCopyC_any (w : World) (r c : Nat) (a : Option Addr) (zs : List Nat) (cap : Nat) (hZ : Fls w a zs) (hl : zs.length ≤ 262144) :
    Calls Try.prog 50 #[.agg #[.int .i64 r, .int .i64 c, .slice a zs.length cap]] w fun e w' => (∃ a' b cap', e = .returned (.agg #[.int .i64 r, .int .i64 c, .slice a' zs.length cap']) ∧ Mem w' w.heap.size a' b zs ∧ zs.length ≤ cap' ∧ cap' ≤ maxLen) ∧ Below w.heap.size w w' := by
  obtain ⟨W0, hW0⟩ : ∃ W0, W0 = (w.alloc (.cells #[.int .i64 r, .int .i64 c, .slice a zs.length cap] 24)).alloc (.cells #[.int .i64 0, .int .i64 0, .slice none 0 0] 24) := ⟨_, rfl⟩
  have hB0 : Below w.heap.size w W0 := hW0 ▸ ((Below.refl _ _).alloc (Nat.le_refl _) _).alloc (by simp) _
  have x0 : Box W0 w.heap.size [.int .i64 r, .int .i64 c, .slice a zs.length cap] := hW0 ▸ (Box.newA w [_, _, _] _ rfl).alloc _
  have x1 : Box W0 (w.heap.size + 1) [.int .i64 0, .int .i64 0, .slice none 0 0] := hW0 ▸ Box.newA _ _ _ (by simp)
  have HX := Lib.hid (show _ ∧ _ ∧ _ from ⟨hB0, x0, x1⟩)
  have HZ := Lib.hid (fun W (h : Below w.heap.size w W) => hZ.below h)
  clear hB0 x0 x1 hZ
  go_enter Try.func50, Try.ntmps50
  go_upto_region 1 with (fail)
  rw [← hW0]
  clear hW0
  have hdr : Below W0.heap.size W0 W0.drew := below_drewN 1 (Below.refl _ W0)
  have HB := Lib.hid (show _ ∧ _ ∧ _ from ⟨below_step HX.out.1 HX.out.1.size hdr, HX.out.2.1.below hdr, HX.out.2.2.below hdr⟩)
  have HS := Lib.hid (show ∀ W, Below W0.drew.heap.size W0.drew W → (fun W => ∀ i, W.cell? ⟨w.heap.size, i, none⟩ = ([.int .i64 r, .int .i64 c, .slice a zs.length cap] : List Value)[i]?) W from fun W h => (HB.out.2.1.below h).cell)
  refine wp_region_items 7 [(true, 0), (true, 1), (true, 2), (true, 3), (true, 4), (true, 5), (false, 6)] (fun W => ∀ i, W.cell? ⟨w.heap.size, i, none⟩ = ([.int .i64 r, .int .i64 c, .slice a zs.length cap] : List Value)[i]?) (by kernel_rfl) (by kernel_rfl) (HS.out _ (Below.refl _ _)) ?_
  generalize W0.drew = W1 at *
  clear hdr HX
  iterate 6 (refine iW_take (v := ?_) rfl rfl ?_ ?_; rotate_left; (next => (intro w' hSw; (try dsimp only at hSw); go_simp; (try (rw [if_pos (by omega)]; go_simp)); (try with_reducible rfl))); (simp only [Act.put, List.setIfInBounds_toArray, List.set_cons_zero, List.set_cons_succ]))
  refine iW_mid rfl rfl ?_
  refine wp_append_memC _ _ rfl a zs cap rfl rfl (HZ.out W1 HB.out.1) hl ?_
  intro a' b cap' w2 hM hb hc1 hc2
  have HCap := Lib.hid (And.intro hc1 hc2)
  clear hc1 hc2
  have hlt := HB.out.2.2.lt
  have hle := HB.out.1.size
  have HE := Lib.hid (show _ ∧ _ ∧ _ ∧ _ from ⟨hM, below_step HB.out.1 HB.out.1.size hb, HB.out.2.2.below hb, hlt⟩)
  refine ⟨HS.out _ hb, ?_⟩
  obtain ⟨q1, q2, q3⟩ := HE.out.2.2.1.facts
  clear hM hb HS HZ hlt hle
  refine iW_nil ?_
  go_simp
  go_wp2_with fail
  refine NoPanic.normal ?_
  go_wp2_with fail
  obtain ⟨hM, hB, x1, hlt⟩ := HE.out
  refine bodyPost_ret (results_one rfl (rv_cell (g := w.heap.size + 1) rfl (x1.put3 _ _ _) rfl Try.underlying24 (by kernel_rfl))) rfl ⟨⟨a', b, cap', rfl, ?_, HCap.out.1, HCap.out.2⟩, ?_⟩
  · have hx : ∀ u0 u1 u2, Mem (((w2.setCell ⟨w.heap.size + 1, 0, none⟩ u0).setCell ⟨w.heap.size + 1, 1, none⟩ u1).setCell ⟨w.heap.size + 1, 2, none⟩ u2) w.heap.size a' b zs := fun u0 u1 u2 => by
      have h1 := hM.lo
      have h2 := HB.out.1.size
      refine ⟨?_, by omega, fun hz => by simpa using hM.lt hz⟩
      rcases hM.fs with h | ⟨e, hF⟩
      · exact .inl h
      · exact .inr ⟨e, ((hF.other (by omega) _ _).other (by omega) _ _).other (by omega) _ _⟩
    exact hx _ _ _
  · exact below_put3 hB (by omega) _ _ _
/-- The places above the diagonal are set, up to row i and place j of it. -/
def LowP (zs : List Nat) (n i j : Nat) (l : List Nat) : Prop := ∀ a b, a < n → b < n → l.getD (a * n + b) 0 = if a < b ∧ (a < i ∨ a = i ∧ b < j) then zs.getD (b * n + a) 0 else zs.getD (a * n + b) 0
theorem LowP.zero (zs : List Nat) (n : Nat) : LowP zs n 0 0 zs := fun a b _ _ => by rw [if_neg (by omega)]
theorem LowP.next {zs l : List Nat} {n i j : Nat} (h : LowP zs n i j l) (hj : n ≤ j) : LowP zs n (i + 1) 0 l := fun a b ha hb => by
  rw [h a b ha hb]
  by_cases e : a < b ∧ (a < i ∨ a = i ∧ b < j)
  · rw [if_pos e, if_pos (by omega)]
  · rw [if_neg e, if_neg (by omega)]
theorem LowP.start {zs l : List Nat} {n i : Nat} (h : LowP zs n i 0 l) : LowP zs n i (i + 1) l := fun a b ha hb => by
  rw [h a b ha hb]
  by_cases e : a < b ∧ (a < i ∨ a = i ∧ b < 0)
  · rw [if_pos e, if_pos (by omega)]
  · rw [if_neg e, if_neg (by omega)]
theorem LowP.set {zs l : List Nat} {n i j : Nat} (h : LowP zs n i j l) (hl : l.length = n * n) (hi : i < n) (hj : j < n) (hij : i < j) : LowP zs n i (j + 1) (l.set (i * n + j) (zs.getD (j * n + i) 0)) := fun a b ha hb => by
  rw [getD_set8 _ _ _ _ (by rw [hl]; exact place8 hi hj), h a b ha hb]
  by_cases e : i * n + j = a * n + b
  · obtain ⟨rfl, rfl⟩ := place8_inj hj hb e
    rw [if_pos rfl, if_pos (by omega)]
  · rw [if_neg e]
    have hne : ¬ (a = i ∧ b = j) := fun h2 => e (by rw [h2.1, h2.2])
    by_cases e2 : a < b ∧ (a < i ∨ a = i ∧ b < j)
    · rw [if_pos e2, if_pos (by omega)]
    · rw [if_neg e2, if_neg (by omega)]
theorem LowP.done {zs l : List Nat} {n : Nat} (h : LowP zs n n 0 l) (a b : Nat) (ha : a < n) (hb : b < n) : l.getD (a * n + b) 0 = zs.getD ((max a b) * n + min a b) 0 := by
  rw [h a b ha hb]
  by_cases e : a < b
  · rw [if_pos (by omega), show max a b = b by omega, show min a b = a by omega]
  · rw [if_neg (by omega), show max a b = a by omega, show min a b = b by omega]
set_option maxHeartbeats 16000000 in
theorem RLower_any (w : World) (n : Nat) (a : Option Addr) (zs : List Nat) (cap : Nat) (hZ : Fls w a zs) (hl : zs.length ≤ 262144) (hn : zs.length = n * n) (hu : n ≤ 512) :
    Calls Try.prog 39 #[.agg #[.int .i64 n, .int .i64 n, .slice a zs.length cap]] w fun e w' => (∃ a' c' l, e = .returned (.agg #[.int .i64 n, .int .i64 n, .slice a' l.length c']) ∧ Fls w' a' l ∧ l.length = zs.length ∧ LowP zs n n 0 l ∧ l.length ≤ c' ∧ c' ≤ maxLen) ∧ Below w.heap.size w w' := by
  obtain ⟨W0, hW0⟩ : ∃ W0, W0 = (w.alloc (.cells #[.int .i64 n, .int .i64 n, .slice a zs.length cap] 24)).alloc (.cells #[.int .i64 0, .int .i64 0, .slice none 0 0] 24) := ⟨_, rfl⟩
  have hB0 : Below w.heap.size w W0 := hW0 ▸ ((Below.refl _ _).alloc (Nat.le_refl _) _).alloc (by simp) _
  have x0 : Box W0 w.heap.size [.int .i64 n, .int .i64 n, .slice a zs.length cap] := hW0 ▸ (Box.newA w [.int .i64 n, .int .i64 n, .slice a zs.length cap] _ rfl).alloc _
  have x1 : Box W0 (w.heap.size + 1) [.int .i64 0, .int .i64 0, .slice none 0 0] := hW0 ▸ Box.newA _ [.int .i64 0, .int .i64 0, .slice none 0 0] _ (by simp)
  have S0 := Lib.hid (show BoxS w W0 [(w.heap.size, [.int .i64 n, .int .i64 n, .slice a zs.length cap]), (w.heap.size + 1, [.int .i64 0, .int .i64 0, .slice none 0 0])] from ⟨fun p hp => by
    simp only [List.mem_cons, List.not_mem_nil, or_false] at hp
    rcases hp with rfl | rfl
    · exact x0
    · exact x1
    , hB0⟩)
  have HAt := Lib.hid (fun W (h : Below w.heap.size w W) i j (hi : i < n) (hj : j < n) => RAt_any W n n j i a zs cap (hZ.below h) hl (by rw [hn]; exact place8 hj hi))
  have HCp := Lib.hid (fun W (h : Below w.heap.size w W) => RCopyC_any W n n a zs cap (hZ.below h) hl)
  have HN := Lib.hid (show _ ∧ _ from ⟨hn, hl⟩)
  clear hB0 x0 x1 hZ hl hn
  go_enter Try.func39, Try.ntmps39
  go_upto_region 1 with (fail)
  rw [← hW0]
  clear hW0
  obtain ⟨f01, f02, f03⟩ := (S0.out.get 0 rfl).facts
  go_wp2_with fail
  refine (HCp.out _ S0.out.below).mono ?_
  rintro e w1 ⟨⟨ra, b0, rc, rfl, hMem, hc1, hc2⟩, hb⟩
  have HCap := Lib.hid (And.intro hc1 hc2)
  have D0 := Lib.hid (BoxS.copy (cs := [.int .i64 n, .int .i64 n, .slice ra zs.length rc]) (S0.out.step hb) S0.out hMem)
  clear f01 f02 f03 hMem hb HCp S0 hc1 hc2
  dsimp only
  go_upto_region 2 with (fail)
  obtain ⟨P, hPP⟩ : ∃ P, P = w1.heap.size := ⟨_, rfl⟩
  simp only [← hPP] at D0 ⊢
  generalize w1.alloc (.cells #[.int .i64 n, .int .i64 n, .slice ra zs.length rc] 24) = V0 at *
  clear hPP
  go_wp2_with fail
  go_loopw [4] (fun si wr => ∃ i : Nat, i ≤ n ∧ si = .int .i64 i ∧ ∃ l : List Nat, l.length = zs.length ∧ LowP zs n i 0 l ∧ DocW w wr ([(w.heap.size, [.int .i64 n, .int .i64 n, .slice a zs.length cap]), (w.heap.size + 1, [.int .i64 0, .int .i64 0, .slice none 0 0])] ++ [(P, [.int .i64 n, .int .i64 n, .slice ra zs.length rc])]) ra b0 l) (fun si _ => n - (intOf si).toNat)
  case atStart => exact ⟨0, Nat.zero_le _, rfl, zs, rfl, LowP.zero zs n, D0.out⟩
  case round =>
    obtain ⟨i, hi, rfl, l, hll, hP, hD⟩ := hrel
    have D1 := Lib.hid hD
    have HL1 := Lib.hid (And.intro hll hP)
    clear hD D0 hll hP
    by_cases hir : i < n
    · skip
      obtain ⟨f11, f12, f13⟩ := (D1.out.get 0 rfl).facts
      go_wp2_with fail
      clear f11 f12 f13
      go_loopw [5] (fun sj wr => ∃ j : Nat, i < j ∧ j ≤ n ∧ sj = .int .i64 j ∧ ∃ l : List Nat, l.length = zs.length ∧ LowP zs n i j l ∧ DocW w wr ([(w.heap.size, [.int .i64 n, .int .i64 n, .slice a zs.length cap]), (w.heap.size + 1, [.int .i64 0, .int .i64 0, .slice none 0 0])] ++ [(P, [.int .i64 n, .int .i64 n, .slice ra zs.length rc])]) ra b0 l) (fun sj _ => n - (intOf sj).toNat)
      case atStart => exact ⟨i + 1, Nat.lt_succ_self _, hir, by go_num, l, HL1.out.1, HL1.out.2.start, D1.out⟩
      case round =>
        clear HL1 D1
        obtain ⟨j, hij, hj, rfl, l, hll, hP, hD⟩ := hrel
        have D2 := Lib.hid hD
        have HL2 := Lib.hid (And.intro hll hP)
        clear hD hll hP
        by_cases hjc : j < n
        · skip
          obtain ⟨f11, f12, f13⟩ := (D2.out.get 0 rfl).facts
          obtain ⟨PP, hPP⟩ : ∃ PP, PP = i * n := ⟨_, rfl⟩
          have t1 : wrap64 ((i : Int) * (n : Int)) = (PP : Int) ∧ IntKind.i64.wrap ((i : Int) * (n : Int)) = (PP : Int) := by
            have hpl := place8 hir hjc
            have := HN.out.1
            have := HN.out.2
            exact ⟨w64m PP (by rw [hPP]; push_cast; rfl) (by omega), wi64m PP (by rw [hPP]; push_cast; rfl) (by omega)⟩
          have HPP := Lib.hid hPP
          clear hPP
          have t2 : IntKind.i64.wrap ((PP : Int) + (j : Int)) = (PP : Int) + j := by have hpl := place8 hir hjc; have h1 := HN.out.1; have h2 := HN.out.2; rw [IntKind.wrap_i64]; have := HPP.out; omega
          have HA1 := Lib.hid (fun W h => HAt.out W h i j hir hjc)
          have hV : zs.getD (j * n + i) 0 = zs.getD (j * n + i) 0 := rfl
          obtain ⟨zv, hzv⟩ : ∃ zv, zv = zs.getD (j * n + i) 0 := ⟨_, rfl⟩
          rw [← hzv] at HA1
          have HZV := Lib.hid hzv
          clear hzv hV
          go_upto_region 8 with (fail)
          have hdr : Below wr.heap.size wr wr.drew := below_drewN 1 (Below.refl _ wr)
          have D4 := Lib.hid (D2.out.step hdr)
          clear D2 f11 f12 f13
          have HS := Lib.hid (show ∀ W, Below wr.drew.heap.size wr.drew W → (fun W => (∀ i, W.cell? ⟨w.heap.size, i, none⟩ = ([.int .i64 n, .int .i64 n, .slice a zs.length cap] : List Value)[i]?) ∧ (∀ i, W.cell? ⟨P, i, none⟩ = ([.int .i64 n, .int .i64 n, .slice ra zs.length rc] : List Value)[i]?)) W from fun W h => ⟨((D4.out.step h).get 0 rfl).cell, ((D4.out.step h).get 2 rfl).cell⟩)
          have HPl := Lib.hid (place8 hir hjc)
          refine wp_region_items 12 [(true, 0), (true, 1), (true, 2), (true, 3), (true, 4), (true, 5), (true, 6), (true, 7), (true, 8), (true, 9), (true, 10), (false, 11)] (fun W => (∀ i, W.cell? ⟨w.heap.size, i, none⟩ = ([.int .i64 n, .int .i64 n, .slice a zs.length cap] : List Value)[i]?) ∧ (∀ i, W.cell? ⟨P, i, none⟩ = ([.int .i64 n, .int .i64 n, .slice ra zs.length rc] : List Value)[i]?)) (by kernel_rfl) (by kernel_rfl) (HS.out _ (Below.refl _ _)) ?_
          generalize wr.drew = w2 at *
          clear hdr
          have hPj : PP + j < 262144 := by have h1 := HPl.out; have h2 := HPP.out; have h3 := HN.out.1; have h4 := HN.out.2; omega
          iterate 11 (refine iW_take (v := ?_) rfl rfl ?_ ?_; rotate_left; (next => (intro w' hSw; (try dsimp only at hSw); go_simp; (try (rw [if_pos (by omega)]; go_simp)); (try with_reducible rfl))); (simp only [Act.put, List.setIfInBounds_toArray, List.set_cons_zero, List.set_cons_succ]))
          refine iW_mid rfl rfl ?_
          go_simp
          refine (HA1.out w2 D4.out.below).mono ?_
          rintro e w3 ⟨⟨s3, rfl⟩, hb⟩
          have D5 := Lib.hid (D4.out.step hb)
          refine ⟨HS.out _ hb, ?_⟩
          clear hb
          refine iW_nil ?_
          go_simp
          obtain ⟨rfl, hF⟩ := D5.out.flb (k := i * n + j) (by rw [HL2.out.1, HN.out.1]; exact HPl.out)
          have hF1 := hF.lt
          have hF2 := hF.frozen
          obtain ⟨sf, hF3⟩ := hF.at (i := i * n + j) (by rw [HL2.out.1, HN.out.1]; exact HPl.out)
          have DD := Lib.hid (D5.out.set (k := i * n + j) (by rw [HL2.out.1, HN.out.1]; exact HPl.out) zv s3)
          have hpz : PP + j < zs.length := by rw [HN.out.1, HPP.out]; exact HPl.out
          rw [← HPP.out] at hF3 DD
          have hzz := HN.out.2
          have HL3 := Lib.hid (show (l.set (PP + j) zv).length = zs.length ∧ LowP zs n i (j + 1) (l.set (PP + j) zv) from ⟨by rw [List.length_set]; exact HL2.out.1, by rw [HPP.out, HZV.out]; exact HL2.out.2.set (by rw [HL2.out.1, HN.out.1]) hir hjc hij⟩)
          clear hF D5
          go_wp2_with fail
          refine NoPanic.normal ?_
          go_wp2_with fail
          go_roundw
          case rel => exact ⟨j + 1, by omega, hjc, by go_num, _, HL3.out.1, HL3.out.2, DD.out⟩
          case measure => simp [intOf]; omega
        · skip
          obtain rfl : j = n := by omega
          obtain ⟨f11, f12, f13⟩ := (D2.out.get 0 rfl).facts
          go_wp2_with fail
          go_roundw
          case rel => exact ⟨i + 1, hir, by go_num, l, HL2.out.1, HL2.out.2.next (Nat.le_refl _), D2.out⟩
          case measure => simp [intOf]; omega
    · skip
      obtain rfl : i = n := by omega
      obtain ⟨f11, f12, f13⟩ := (D1.out.get 0 rfl).facts
      obtain ⟨f21, f22, f23⟩ := (D1.out.get 1 rfl).facts
      obtain ⟨f31, f32, f33⟩ := (D1.out.get 2 rfl).facts
      go_wp2_with fail
      have hx2 := D1.out.get 1 rfl
      have hne := D1.out.ne
      have hfs := D1.out.fs
      have hbl := D1.out.below
      refine bodyPost_ret (results_one rfl (rv_cell (g := w.heap.size + 1) rfl (hx2.put3 _ _ _) rfl Try.underlying24 (by kernel_rfl))) rfl ⟨⟨ra, rc, l, by rw [HL1.out.1], ?_, HL1.out.1, HL1.out.2, by rw [HL1.out.1]; exact HCap.out.1, HCap.out.2⟩, ?_⟩
      · have hq : ∀ u0 u1 u2, Fls (((wr.setCell ⟨w.heap.size + 1, 0, none⟩ u0).setCell ⟨w.heap.size + 1, 1, none⟩ u1).setCell ⟨w.heap.size + 1, 2, none⟩ u2) ra l := fun u0 u1 u2 => by
          by_cases hz : l = []
          · rw [hz]; exact fun h => absurd rfl h
          · rcases hfs with h | ⟨e, hF⟩
            · exact absurd h hz
            · subst e
              have hn := hne hz (w.heap.size + 1, [.int .i64 0, .int .i64 0, .slice none 0 0]) (List.mem_of_getElem? (i := 1) rfl)
              exact (((hF.other (Ne.symm hn) _ _).other (Ne.symm hn) _ _).other (Ne.symm hn) _ _).fls
        exact hq _ _ _
      · exact below_put3 hbl (by omega) _ _ _
end Go.Proofs.Ytbcdpibcieadlaa

/- Layer 8, the document: lower places filled. No condition but on lengths. -/
namespace Go.Proofs.Ytbcdpibcieadlaa
open Go Go.RowKit
set_option maxRecDepth 1000000

/-- The lower places are filled, up to row i and place j of it. -/
def HalfP (D : Nat → Nat → Nat) (zs : List Nat) (n i j : Nat) (l : List Nat) : Prop := ∀ a b, a < n → b < n → l.getD (a * n + b) 0 = if a < i ∧ b ≤ a ∨ a = i ∧ b < j then D a b else zs.getD (a * n + b) 0
theorem HalfP.zero (D : Nat → Nat → Nat) (zs : List Nat) (n : Nat) : HalfP D zs n 0 0 zs := fun a b _ _ => by rw [if_neg (by omega)]
theorem HalfP.next {D : Nat → Nat → Nat} {zs l : List Nat} {n i : Nat} (h : HalfP D zs n i (i + 1) l) : HalfP D zs n (i + 1) 0 l := fun a b ha hb => by
  rw [h a b ha hb]
  by_cases e : a < i ∧ b ≤ a ∨ a = i ∧ b < i + 1
  · rw [if_pos e, if_pos (by omega)]
  · rw [if_neg e, if_neg (by omega)]
theorem HalfP.set {D : Nat → Nat → Nat} {zs l : List Nat} {n i j : Nat} (h : HalfP D zs n i j l) (hl : l.length = n * n) (hi : i < n) (hj : j < n) : HalfP D zs n i (j + 1) (l.set (i * n + j) (D i j)) := fun a b ha hb => by
  rw [getD_set8 _ _ _ _ (by rw [hl]; exact place8 hi hj), h a b ha hb]
  by_cases e : i * n + j = a * n + b
  · obtain ⟨rfl, rfl⟩ := place8_inj hj hb e
    rw [if_pos rfl, if_pos (by omega)]
  · rw [if_neg e]
    have hne : ¬ (a = i ∧ b = j) := fun h2 => e (by rw [h2.1, h2.2])
    by_cases e2 : a < i ∧ b ≤ a ∨ a = i ∧ b < j
    · rw [if_pos e2, if_pos (by omega)]
    · rw [if_neg e2, if_neg (by omega)]
theorem HalfP.done {D : Nat → Nat → Nat} {zs l : List Nat} {n : Nat} (h : HalfP D zs n n 0 l) (a b : Nat) (ha : a < n) (hb : b < n) : l.getD (a * n + b) 0 = if b ≤ a then D a b else zs.getD (a * n + b) 0 := by
  rw [h a b ha hb]
  by_cases e : b ≤ a
  · rw [if_pos e, if_pos (by omega)]
  · rw [if_neg e, if_neg (by omega)]
theorem HalfP.words {D : Nat → Nat → Nat} {zs l : List Nat} {n : Nat} (h : HalfP D zs n n 0 l) (hl : l.length = n * n) (hz : Words zs) (hD : ∀ i j, D i j < 18446744073709551616) : Words l := fun v hv => by
  obtain ⟨k, hk, rfl⟩ := List.getElem_of_mem hv
  obtain ⟨h1, h2, h3⟩ := div_mod8 (show k < n * n by rw [← hl]; exact hk)
  have e := h.done (k / n) (k % n) h1 h2
  rw [h3, List.getD_eq_getElem?_getD, List.getElem?_eq_getElem hk] at e
  simp only [Option.getD_some] at e
  rw [e]
  split
  · exact hD _ _
  · exact hz.at _
def syr2D (a : Nat) (zx zy zm : List Nat) (n i j : Nat) : Nat := fadd (fadd (zm.getD (i * n + j) 0) (fmul (fmul a (atL zx i)) (atL zy j))) (fmul (fmul a (atL zy i)) (atL zx j))
theorem syr2D_lt (a : Nat) (zx zy zm : List Nat) (n i j : Nat) : syr2D a zx zy zm n i j < 18446744073709551616 := fadd_lt _ _
def syr2kD (a b : Nat) (zm : List Nat) (cm : Nat) (zn : List Nat) (cn : Nat) (zo : List Nat) (n i j : Nat) : Nat := bothW b (zo.getD (i * n + j) 0) a (fadd (sumG (atL (rowL zm cm i)) (atL (rowL zn cn j)) 0 cm) (sumG (atL (rowL zn cn i)) (atL (rowL zm cm j)) 0 cn))
theorem syr2kD_lt (a b : Nat) (zm : List Nat) (cm : Nat) (zn : List Nat) (cn : Nat) (zo : List Nat) (n i j : Nat) : syr2kD a b zm cm zn cn zo n i j < 18446744073709551616 := bothW_lt _ _ _ _
end Go.Proofs.Ytbcdpibcieadlaa

/- Layer 8, the document: Syr2 (printed by gen_pb.py). No condition but on lengths. -/
namespace Go.Proofs.Ytbcdpibcieadlaa
open Go Go.RowKit
set_option maxRecDepth 1000000

set_option maxHeartbeats 16000000 in
theorem RSyr2_any (w : World) (a : Nat) (q : Nat) (am ax ay : Option Addr) (zm zx zy : List Nat) (pm px py : Nat) (hm : Fls w am zm) (hx : Fls w ax zx) (hy : Fls w ay zy) (lm : zm.length ≤ 262144) (lx : zx.length ≤ 262144) (ly : zy.length ≤ 262144) (uq : q ≤ 512) (e1 : q = zx.length) (e2 : q = zy.length) (no : zm.length = q * q) :
    Calls Try.prog 43 #[.float .f64 a, .slice ax zx.length px, .slice ay zy.length py, .agg #[.int .i64 q, .int .i64 q, .slice am zm.length pm]] w fun e w' => (∃ a' c' l, e = .returned (.agg #[.int .i64 q, .int .i64 q, .slice a' l.length c']) ∧ Fls w' a' l ∧ l.length = zm.length ∧ HalfP (syr2D a zx zy zm q) zm q q 0 l) ∧ Below w.heap.size w w' := by
  obtain ⟨W0, hW0⟩ : ∃ W0, W0 = ((w.alloc (.cells #[.int .i64 q, .int .i64 q, .slice am zm.length pm] 24)).alloc (.cells #[.int .i64 0, .int .i64 0, .slice none 0 0] 24)) := ⟨_, rfl⟩
  have hB0 : Below w.heap.size w W0 := hW0 ▸ ((Below.refl _ _).alloc (Nat.le_refl _) _).alloc (by simp) _
  have x0 : Box W0 (w.heap.size) [.int .i64 q, .int .i64 q, .slice am zm.length pm] := hW0 ▸ ((Box.newA w [.int .i64 q, .int .i64 q, .slice am zm.length pm] _ rfl).alloc _)
  have x1 : Box W0 (w.heap.size + 1) [.int .i64 0, .int .i64 0, .slice none 0 0] := hW0 ▸ (Box.newA _ [.int .i64 0, .int .i64 0, .slice none 0 0] _ (by simp))
  have S0 := Lib.hid (show BoxS w W0 [(w.heap.size, [.int .i64 q, .int .i64 q, .slice am zm.length pm]), (w.heap.size + 1, [.int .i64 0, .int .i64 0, .slice none 0 0])] from ⟨fun p hp => by
    simp only [List.mem_cons, List.not_mem_nil, or_false] at hp
    rcases hp with rfl | rfl
    · exact x0
    · exact x1
    , hB0⟩)
  have HAt := Lib.hid (fun W (h : Below w.heap.size w W) i j (hi : i < q) (hj : j < q) => RAt_any W q q i j am zm pm (hm.below h) lm (by rw [no]; exact place8 hi hj))
  have HCp := Lib.hid (fun W (h : Below w.heap.size w W) => RCopy_any W q q am zm pm (hm.below h) lm)
  have HVx := Lib.hid (fun W (h : Below w.heap.size w W) i (hi : i < q) => (hx.below h).at8 (i := i) (by omega))
  have HVy := Lib.hid (fun W (h : Below w.heap.size w W) j (hj : j < q) => (hy.below h).at8 (i := j) (by omega))
  rw [← e1, ← e2]
  have HN := Lib.hid (show _ ∧ _ from ⟨no, lm⟩)
  clear hB0 x0 x1 hm no hx lx hy ly e1 e2 lm
  go_enter Try.func43, Try.ntmps43
  go_upto_region 1 with (fail)
  rw [← hW0]
  clear hW0
  obtain ⟨f01, f02, f03⟩ := (S0.out.get 0 rfl).facts
  go_wp2_with fail
  refine (HCp.out _ S0.out.below).mono ?_
  rintro e w1 ⟨⟨ra, b0, rc, rfl, hMem⟩, hb⟩
  have D0 := Lib.hid (BoxS.copy (cs := [.int .i64 q, .int .i64 q, .slice ra zm.length rc]) (S0.out.step hb) S0.out hMem)
  clear f01 f02 f03 hMem hb HCp S0
  dsimp only
  go_upto_region 2 with (fail)
  obtain ⟨P, hPP⟩ : ∃ P, P = w1.heap.size := ⟨_, rfl⟩
  simp only [← hPP] at D0 ⊢
  generalize w1.alloc (.cells #[.int .i64 q, .int .i64 q, .slice ra zm.length rc] 24) = V0 at *
  clear hPP
  go_wp2_with fail
  go_loopw [10] (fun si wr => ∃ i : Nat, i ≤ q ∧ si = .int .i64 i ∧ ∃ l : List Nat, l.length = zm.length ∧ HalfP (syr2D a zx zy zm q) zm q i 0 l ∧ DocW w wr ([(w.heap.size, [.int .i64 q, .int .i64 q, .slice am zm.length pm]), (w.heap.size + 1, [.int .i64 0, .int .i64 0, .slice none 0 0])] ++ [(P, [.int .i64 q, .int .i64 q, .slice ra zm.length rc])]) ra b0 l) (fun si _ => q - (intOf si).toNat)
  case atStart => exact ⟨0, Nat.zero_le _, rfl, zm, rfl, HalfP.zero _ _ _, D0.out⟩
  case round =>
    obtain ⟨i, hi, rfl, l, hll, hP, hD⟩ := hrel
    have D1 := Lib.hid hD
    have HL1 := Lib.hid (And.intro hll hP)
    clear hD D0 hll hP
    by_cases hir : i < q
    · skip
      obtain ⟨f11, f12, f13⟩ := (D1.out.get 0 rfl).facts
      go_wp2_with fail
      clear f11 f12 f13
      go_loopw [11] (fun sj wr => ∃ j : Nat, j ≤ i + 1 ∧ sj = .int .i64 j ∧ ∃ l : List Nat, l.length = zm.length ∧ HalfP (syr2D a zx zy zm q) zm q i j l ∧ DocW w wr ([(w.heap.size, [.int .i64 q, .int .i64 q, .slice am zm.length pm]), (w.heap.size + 1, [.int .i64 0, .int .i64 0, .slice none 0 0])] ++ [(P, [.int .i64 q, .int .i64 q, .slice ra zm.length rc])]) ra b0 l) (fun sj _ => i + 1 - (intOf sj).toNat)
      case atStart => exact ⟨0, Nat.zero_le _, rfl, l, HL1.out.1, HL1.out.2, D1.out⟩
      case round =>
        clear HL1 D1
        obtain ⟨j, hj, rfl, l, hll, hP, hD⟩ := hrel
        have D2 := Lib.hid hD
        have HL2 := Lib.hid (And.intro hll hP)
        clear hD hll hP
        by_cases hji : j < i + 1
        · skip
          have hjc : j < q := by omega
          have tji : (j : Int) ≤ (i : Int) := by omega
          obtain ⟨PP, hPP⟩ : ∃ PP, PP = i * q := ⟨_, rfl⟩
          have t1 : wrap64 ((i : Int) * (q : Int)) = (PP : Int) ∧ IntKind.i64.wrap ((i : Int) * (q : Int)) = (PP : Int) := by
            have hpl := place8 hir hjc
            have := HN.out.1
            have := HN.out.2
            exact ⟨w64m PP (by rw [hPP]; push_cast; rfl) (by omega), wi64m PP (by rw [hPP]; push_cast; rfl) (by omega)⟩
          have HPP := Lib.hid hPP
          clear hPP
          have t2 : IntKind.i64.wrap ((PP : Int) + (j : Int)) = (PP : Int) + j := by have hpl := place8 hir hjc; have h1 := HN.out.1; have h2 := HN.out.2; rw [IntKind.wrap_i64]; have := HPP.out; omega
          have HPl := Lib.hid (place8 hir hjc)
          have hPj : PP + j < 262144 := by have h1 := HPl.out; have h2 := HPP.out; have h3 := HN.out.1; have h4 := HN.out.2; omega
          have HA1 := Lib.hid (fun W h => HAt.out W h i j hir hjc)
          have HV := Lib.hid (show syr2D a zx zy zm q i j = fadd (fadd (zm.getD (i * q + j) 0) (fmul (fmul a (atL zx i)) (atL zy j))) (fmul (fmul a (atL zy i)) (atL zx j)) from rfl)
          generalize zm.getD (i * q + j) 0 = zv at *
          have CX1 := Lib.hid (fun W h => HVx.out W h i hir)
          have CY2 := Lib.hid (fun W h => HVy.out W h j hjc)
          have CY1 := Lib.hid (fun W h => HVy.out W h i hir)
          have CX2 := Lib.hid (fun W h => HVx.out W h j hjc)
          obtain ⟨X1, hqX1⟩ : ∃ z, z = atL zx i := ⟨_, rfl⟩
          rw [← hqX1] at CX1 HV
          clear hqX1
          obtain ⟨Y2, hqY2⟩ : ∃ z, z = atL zy j := ⟨_, rfl⟩
          rw [← hqY2] at CY2 HV
          clear hqY2
          obtain ⟨Y1, hqY1⟩ : ∃ z, z = atL zy i := ⟨_, rfl⟩
          rw [← hqY1] at CY1 HV
          clear hqY1
          obtain ⟨X2, hqX2⟩ : ∃ z, z = atL zx j := ⟨_, rfl⟩
          rw [← hqX2] at CX2 HV
          clear hqX2
          obtain ⟨b_x1, o_x1, s_x1, c_x1, d_x1, g_x1⟩ := CX1.out wr D2.out.below
          subst c_x1
          go_upto_region 9 with (refine wpList_flt rfl rfl rfl rfl rfl ?_; intro K hK sqx1 nqx1; go_frame; refine hK _ _ ?_; clear hK K)
          have hdq : Below wr.heap.size wr (wr.drewN nqx1) := below_drewN nqx1 (Below.refl _ _)
          have Ex1 := Lib.hid (D2.out.step hdq)
          clear d_x1 g_x1 hdq
          generalize wr.drewN nqx1 = wfx1 at *
          obtain ⟨b_y2, o_y2, s_y2, c_y2, d_y2, g_y2⟩ := CY2.out wfx1 Ex1.out.below
          subst c_y2
          go_upto_region 10 with (refine wpList_flt rfl rfl rfl rfl rfl ?_; intro K hK sqy2 nqy2; go_frame; refine hK _ _ ?_; clear hK K)
          have hdq : Below wfx1.heap.size wfx1 (wfx1.drewN nqy2) := below_drewN nqy2 (Below.refl _ _)
          have Ey2 := Lib.hid (Ex1.out.step hdq)
          clear d_y2 g_y2 hdq
          generalize wfx1.drewN nqy2 = wfy2 at *
          obtain ⟨b_y1, o_y1, s_y1, c_y1, d_y1, g_y1⟩ := CY1.out wfy2 Ey2.out.below
          obtain ⟨rfl, rfl⟩ : b_y2 = b_y1 ∧ o_y2 = o_y1 := by simpa using c_y1
          go_upto_region 11 with (refine wpList_flt rfl rfl rfl rfl rfl ?_; intro K hK sqy1 nqy1; go_frame; refine hK _ _ ?_; clear hK K)
          have hdq : Below wfy2.heap.size wfy2 (wfy2.drewN nqy1) := below_drewN nqy1 (Below.refl _ _)
          have Ey1 := Lib.hid (Ey2.out.step hdq)
          clear d_y1 g_y1 hdq
          generalize wfy2.drewN nqy1 = wfy1 at *
          obtain ⟨b_x2, o_x2, s_x2, c_x2, d_x2, g_x2⟩ := CX2.out wfy1 Ey1.out.below
          obtain ⟨rfl, rfl⟩ : b_x1 = b_x2 ∧ o_x1 = o_x2 := by simpa using c_x2
          go_upto_region 12 with (refine wpList_flt rfl rfl rfl rfl rfl ?_; intro K hK sqx2 nqx2; go_frame; refine hK _ _ ?_; clear hK K)
          have hdq : Below wfy1.heap.size wfy1 (wfy1.drewN nqx2) := below_drewN nqx2 (Below.refl _ _)
          have Ex2 := Lib.hid (Ey1.out.step hdq)
          clear d_x2 g_x2 hdq
          generalize wfy1.drewN nqx2 = wfx2 at *
          have DL := Lib.hid Ex2.out
          obtain ⟨f11, f12, f13⟩ := (DL.out.get 0 rfl).facts
          go_wp2_with fail
          refine (HA1.out _ DL.out.below).mono ?_
          rintro e w3 ⟨⟨s3, rfl⟩, hb⟩
          have DM := Lib.hid (DL.out.step hb)
          clear hb f11 f12 f13
          dsimp only
          go_upto_region 13 with (refine wpList_flt rfl rfl rfl rfl rfl ?_; intro K hK sqt nqt; go_frame; refine hK _ _ ?_; clear hK K)
          have hdq : Below w3.heap.size w3 (w3.drewN nqt) := below_drewN nqt (Below.refl _ _)
          have DN := Lib.hid (DM.out.step hdq)
          clear hdq
          generalize w3.drewN nqt = w4 at *
          obtain ⟨f11, f12, f13⟩ := (DN.out.get 0 rfl).facts
          obtain ⟨f21, f22, f23⟩ := (DN.out.get 2 rfl).facts
          obtain ⟨rfl, hF⟩ := DN.out.flb (k := i * q + j) (by rw [HL2.out.1, HN.out.1]; exact HPl.out)
          have hF1 := hF.lt
          have hF2 := hF.frozen
          obtain ⟨sf, hF3⟩ := hF.at (i := i * q + j) (by rw [HL2.out.1, HN.out.1]; exact HPl.out)
          have DD := Lib.hid (fun n s => (DN.out.step (below_drewN n (Below.refl _ _))).set (k := i * q + j) (by rw [HL2.out.1, HN.out.1]; exact HPl.out) (syr2D a zx zy zm q i j) s)
          have hpz : PP + j < zm.length := by rw [HN.out.1, HPP.out]; exact HPl.out
          rw [← HPP.out] at hF3 DD
          have hzz := HN.out.2
          have HL3 := Lib.hid (show (l.set (PP + j) ((syr2D a zx zy zm q) i j)).length = zm.length ∧ HalfP (syr2D a zx zy zm q) zm q i (j + 1) (l.set (PP + j) ((syr2D a zx zy zm q) i j)) from ⟨by rw [List.length_set]; exact HL2.out.1, by rw [HPP.out]; exact HL2.out.2.set (by rw [HL2.out.1, HN.out.1]) hir hjc⟩)
          clear hF
          go_wp2_with (first | (fail) | (refine wpList_flt rfl rfl rfl rfl rfl ?_; intro K hK _ _; go_frame; refine hK _ _ ?_; clear hK K))
          go_roundw
          case rel => exact ⟨j + 1, by omega, by go_num, _, HL3.out.1, HL3.out.2, by rw [HV.out] at DD ⊢; exact DD.out _ _⟩
          case measure => simp [intOf]; omega
        · skip
          obtain rfl : j = i + 1 := by omega
          go_wp2_with fail
          go_roundw
          case rel => exact ⟨i + 1, hir, by go_num, l, HL2.out.1, HL2.out.2.next, D2.out⟩
          case measure => simp [intOf]; omega
    · skip
      obtain rfl : i = q := by omega
      obtain ⟨f11, f12, f13⟩ := (D1.out.get 0 rfl).facts
      obtain ⟨f21, f22, f23⟩ := (D1.out.get 1 rfl).facts
      obtain ⟨f31, f32, f33⟩ := (D1.out.get 2 rfl).facts
      go_wp2_with fail
      have hx2 := D1.out.get 1 rfl
      have hne := D1.out.ne
      have hfs := D1.out.fs
      have hbl := D1.out.below
      refine bodyPost_ret (results_one rfl (rv_cell (g := w.heap.size + 1) rfl (hx2.put3 _ _ _) rfl Try.underlying24 (by kernel_rfl))) rfl ⟨⟨ra, rc, l, by rw [HL1.out.1], ?_, HL1.out.1, HL1.out.2⟩, ?_⟩
      · have hq : ∀ u0 u1 u2, Fls (((wr.setCell ⟨w.heap.size + 1, 0, none⟩ u0).setCell ⟨w.heap.size + 1, 1, none⟩ u1).setCell ⟨w.heap.size + 1, 2, none⟩ u2) ra l := fun u0 u1 u2 => by
          by_cases hz : l = []
          · rw [hz]; exact fun h => absurd rfl h
          · rcases hfs with h | ⟨e, hF⟩
            · exact absurd h hz
            · subst e
              have hn := hne hz (w.heap.size + 1, [.int .i64 0, .int .i64 0, .slice none 0 0]) (List.mem_of_getElem? (i := 1) rfl)
              exact (((hF.other (Ne.symm hn) _ _).other (Ne.symm hn) _ _).other (Ne.symm hn) _ _).fls
        exact hq _ _ _
      · exact below_put3 hbl (by omega) _ _ _
end Go.Proofs.Ytbcdpibcieadlaa
