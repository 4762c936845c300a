/- Layer 8, the document: the sum of products of floats up to a NaN's bits; a matrix times a vector. No condition but on lengths. -/
import Derived.Test.YtbcdpibcieadlaaLa
namespace Go.Proofs.Ytbcdpibcieadlaa
open Go Go.RowKit
set_option maxRecDepth 1000000

theorem Fls.at8 {w : World} {a : Option Addr} {zs : List Nat} (h : Fls w a zs) {i : Nat} (hi : i < zs.length) : ∃ b off s, a = some ⟨b, off, none⟩ ∧ b < w.heap.size ∧ w.cell? ⟨b, off + i, none⟩ = some (.float .f64 (raw (atL zs i) s)) := h.at hi
set_option maxHeartbeats 4000000 in
theorem RDotF_any (w : World) (za ya : Option Addr) (zs ys : List Nat) (zc yc : Nat) (hZ : Fls w za zs) (hY : Fls w ya ys) (hl : zs.length ≤ 262144) (he : ys.length = zs.length) :
    Calls Try.prog 26 #[.slice za zs.length zc, .slice ya ys.length yc] w fun e w' => (∃ s, e = .returned (.float .f64 (raw (sumG (atL zs) (atL ys) 0 zs.length) s))) ∧ Below w.heap.size w w' := by
  rw [he]
  obtain ⟨n, hn⟩ : ∃ n, n = zs.length := ⟨_, rfl⟩
  have HZ := Lib.hid (show ∀ W k, Below w.heap.size w W → k < n → ∃ b off s, za = some ⟨b, off, none⟩ ∧ b < W.heap.size ∧ W.cell? ⟨b, off + k, none⟩ = some (.float .f64 (raw (atL zs k) s)) from fun W k h hk => (hZ.below h).at8 (by omega))
  have HY := Lib.hid (show ∀ W k, Below w.heap.size w W → k < n → ∃ b off s, ya = some ⟨b, off, none⟩ ∧ b < W.heap.size ∧ W.cell? ⟨b, off + k, none⟩ = some (.float .f64 (raw (atL ys k) s)) from fun W k h hk => (hY.below h).at8 (by omega))
  rw [← hn] at hl ⊢
  generalize atL zs = x at *
  generalize atL ys = y at *
  clear hZ hY he hn
  go_enter Try.func26, Try.ntmps26
  go_wp2_with fail
  go_loopw [5, 6] (fun s5 s6 wr => ∃ k s : Nat, k ≤ n ∧ s5 = .float .f64 (raw (sumG x y 0 k) s) ∧ s6 = .int .i64 k ∧ Below w.heap.size w wr) (fun _ s6 _ => n - (intOf s6).toNat)
  case atStart => exact ⟨0, 0, Nat.zero_le _, by rw [sumG, raw_of_not (by kernel_rfl)], rfl, Below.refl _ _⟩
  case round =>
    obtain ⟨k, s, hk, rfl, rfl, hB⟩ := hrel
    by_cases hlt : k < n
    · obtain ⟨b1, o1, sa, e1, c1, d1⟩ := HZ.out wr k hB hlt
      obtain ⟨b2, o2, sb, e2, c2, d2⟩ := HY.out wr k hB hlt
      subst e1 e2
      have HB := Lib.hid (show _ ∧ _ from ⟨hB, hlt⟩)
      have hdr : Below wr.heap.size wr wr.drew := below_drewN 1 (Below.refl _ wr)
      have HS := Lib.hid (show wr.drew.cell? ⟨b1, o1 + k, none⟩ = some (.float .f64 (raw (x k) sa)) ∧ wr.drew.cell? ⟨b2, o2 + k, none⟩ = some (.float .f64 (raw (y k) sb)) from ⟨cells_of_below hdr _ _ _ d1, cells_of_below hdr _ _ _ d2⟩)
      have HB2 := Lib.hid (below_step hB hB.size hdr)
      clear hB hk HZ HY hdr d1 d2
      go_upto_region 5 with (fail)
      refine wp_region_items 8 [(true, 0), (true, 1), (true, 2), (true, 3), (true, 4), (true, 5), (true, 6), (true, 7)] (fun W => W.cell? ⟨b1, o1 + k, none⟩ = some (.float .f64 (raw (x k) sa)) ∧ W.cell? ⟨b2, o2 + k, none⟩ = some (.float .f64 (raw (y k) sb))) (by kernel_rfl) (by kernel_rfl) HS.out ?_
      generalize wr.drew = w2 at *
      iterate 8 (refine iW_take (v := ?_) rfl rfl ?_ ?_; rotate_left; (next => (intro w' hSw; (try dsimp only at hSw); go_simp; (try (rw [if_pos (by omega)]; go_simp)); (try with_reducible rfl))); (simp only [Act.put, List.setIfInBounds_toArray, List.set_cons_zero, List.set_cons_succ]))
      refine iW_nil ?_
      go_simp
      go_wp2_with (first | (fail) | (refine wpList_flt rfl rfl rfl rfl rfl ?_; intro K hK _ _; go_frame; refine hK _ _ ?_; clear hK K))
      refine NoPanic.normal ?_
      go_wp2_with (first | (fail) | (refine wpList_flt rfl rfl rfl rfl rfl ?_; intro K hK _ _; go_frame; refine hK _ _ ?_; clear hK K))
      go_roundw
      case rel => exact ⟨k + 1, _, HB.out.2, by rw [sumG, Nat.zero_add]; simp only [fadd_rawl, fadd_rawr, fmul_rawl, fmul_rawr]; rfl, by go_num, below_drewN _ HB2.out⟩
      case measure => have := HB.out.2; simp [intOf]; omega
    · obtain rfl : k = n := by omega
      have HB := Lib.hid hB
      clear hB hk
      go_wp2_with fail
      go_ret
      exact ⟨⟨s, rfl⟩, HB.out⟩
/-- A matrix times a vector, added to another one: the document's. -/
def gemvR (a : Nat) (zs : List Nat) (c : Nat) (xs : List Nat) (b : Nat) (ys : List Nat) (r : Nat) : List Nat := (List.range r).map fun i => bothW b (atL ys i) a (sumG (atL (rowL zs c i)) (atL xs) 0 c)
theorem gemvR_len (a : Nat) (zs : List Nat) (c : Nat) (xs : List Nat) (b : Nat) (ys : List Nat) (r : Nat) : (gemvR a zs c xs b ys r).length = r := by unfold gemvR; simp
theorem gemvR_succ (a : Nat) (zs : List Nat) (c : Nat) (xs : List Nat) (b : Nat) (ys : List Nat) (r : Nat) : gemvR a zs c xs b ys (r + 1) = gemvR a zs c xs b ys r ++ [bothW b (atL ys r) a (sumG (atL (rowL zs c r)) (atL xs) 0 c)] := by
  unfold gemvR
  rw [List.range_succ, List.map_append]
  rfl
set_option maxHeartbeats 8000000 in
theorem RGemv_any (w : World) (a b r c : Nat) (za xa ya : Option Addr) (zs xs ys : List Nat) (zc xc yc : Nat) (hZ : Fls w za zs) (hX : Fls w xa xs) (hY : Fls w ya ys) (hl : zs.length ≤ 262144) (hn : zs.length = r * c) (hxl : xs.length = c) (hyl : ys.length = r) (hcap : zs.length ≤ zc) (hcm : zc ≤ maxLen) (hr : r ≤ 512) (hc : c ≤ 512) :
    Calls Try.prog 30 #[.float .f64 a, .agg #[.int .i64 r, .int .i64 c, .slice za zs.length zc], .slice xa xs.length xc, .float .f64 b, .slice ya ys.length yc] w fun e w' => (∃ v, e = .returned v ∧ OwnF w' w.heap.size v (gemvR a zs c xs b ys r)) ∧ Below w.heap.size w w' := by
  obtain ⟨W1, hW1⟩ : ∃ W1, W1 = w.alloc (.cells #[.int .i64 r, .int .i64 c, .slice za zs.length zc] 24) := ⟨_, rfl⟩
  have hB0 : Below w.heap.size w W1 := hW1 ▸ (Below.refl _ _).alloc (Nat.le_refl _) _
  have x0 : Box W1 w.heap.size [.int .i64 r, .int .i64 c, .slice za zs.length zc] := hW1 ▸ Box.newA w [.int .i64 r, .int .i64 c, .slice za zs.length zc] 24 rfl
  have HR := Lib.hid (fun W (h : Below w.heap.size w W) i (hi : i < r) => RRow_any W r c i za zs zc (hZ.below h) hl hn hi hcap hcm hr)
  have HD := Lib.hid (fun W (h : Below w.heap.size w W) i a' cap' (hF : Fls W a' (rowL zs c i)) => RDotF_any W a' xa (rowL zs c i) xs cap' xc hF (hX.below h) (by rw [rowL_len]; omega) (by rw [rowL_len, hxl]))
  simp only [rowL_len] at HD HR
  have HY := Lib.hid (fun W (h : Below w.heap.size w W) i (hi : i < r) => (hY.below h).at8 (i := i) (by omega))
  have HX0 := Lib.hid (show _ ∧ _ from ⟨hB0, x0⟩)
  have HL := Lib.hid (show _ ∧ _ from ⟨hr, hyl⟩)
  rw [hyl]
  clear hZ hX hY hl hn hxl hyl hcap hcm hr hc hB0
  obtain ⟨p1, p2, p3⟩ := x0.facts
  clear x0
  go_enter Try.func30, Try.ntmps30
  go_upto_region 2 with (fail)
  rw [← hW1]
  clear hW1
  go_wp2_with fail
  clear p1 p2 p3
  go_loopw [11, 12] (fun s11 s12 wr => ∃ k : Nat, k ≤ r ∧ OwnF wr W1.heap.size s11 (gemvR a zs c xs b ys k) ∧ s12 = .int .i64 k ∧ Below W1.heap.size W1 wr) (fun _ s12 _ => r - (intOf s12).toNat)
  case atStart => exact ⟨0, Nat.zero_le _, OwnF.nil _ _, rfl, Below.refl _ _⟩
  case round =>
    obtain ⟨k, hk, hO, rfl, hB⟩ := hrel
    have hs := hB.size
    have hBw := below_step HX0.out.1 HX0.out.1.size hB
    have x1 := HX0.out.2.below hB
    obtain ⟨q1, q2, q3⟩ := x1.facts
    by_cases hlt : k < r
    · go_upto_region 5 with (fail)
      have hdr : Below wr.heap.size wr wr.drew := below_drewN 1 (Below.refl _ wr)
      have hB2 := below_step hB hB.size hdr
      have hBw2 := below_step hBw hBw.size hdr
      obtain ⟨b2, o2, s2, rfl, c2, d2⟩ := HY.out _ hBw2 k hlt
      have HS := Lib.hid (show ∀ W, Below wr.drew.heap.size wr.drew W → (fun W => (∀ i, W.cell? ⟨w.heap.size, i, none⟩ = ([.int .i64 r, .int .i64 c, .slice za zs.length zc] : List Value)[i]?) ∧ W.cell? ⟨b2, o2 + k, none⟩ = some (.float .f64 (raw (atL ys k) s2))) W from fun W h => ⟨((x1.below hdr).below h).cell, cells_of_below h _ _ _ d2⟩)
      refine wp_region_items 14 [(true, 0), (true, 1), (true, 2), (true, 3), (true, 4), (true, 5), (true, 6), (true, 7), (true, 8), (true, 10), (false, 9), (false, 11), (false, 12), (false, 13)] (fun W => (∀ i, W.cell? ⟨w.heap.size, i, none⟩ = ([.int .i64 r, .int .i64 c, .slice za zs.length zc] : List Value)[i]?) ∧ W.cell? ⟨b2, o2 + k, none⟩ = some (.float .f64 (raw (atL ys k) s2))) (by kernel_rfl) (by kernel_rfl) (HS.out _ (Below.refl _ _)) ?_
      have HO := Lib.hid (hO.below hdr)
      have HB2 := Lib.hid (show _ ∧ _ ∧ _ from ⟨hB2, hBw2, hlt⟩)
      generalize wr.drew = w2 at *
      have hk5 : k ≤ 512 := by have := HL.out.1; omega
      have hlk : (k : Int) < (r : Int) := by omega
      clear hB hBw hB2 hBw2 hO hdr c2 d2 x1 q1 q2 q3 hk hs
      iterate 10 (refine iW_take (v := ?_) rfl rfl ?_ ?_; rotate_left; (next => (intro w' hSw; (try dsimp only at hSw); go_simp; (try (rw [if_pos (by omega)]; go_simp)); (try with_reducible rfl))); (simp only [Act.put, List.setIfInBounds_toArray, List.set_cons_zero, List.set_cons_succ]))
      refine iW_mid rfl rfl ?_
      go_simp
      refine (HR.out w2 HB2.out.2.1 k HB2.out.2.2).mono ?_
      rintro e w3 ⟨⟨a', cap', rfl, hF⟩, hb3⟩
      have HF := Lib.hid hF
      have HO3 := Lib.hid (HO.out.below hb3)
      have HB3 := Lib.hid (show _ ∧ _ from ⟨below_step HB2.out.1 HB2.out.1.size hb3, below_step HB2.out.2.1 HB2.out.2.1.size hb3⟩)
      refine ⟨HS.out _ hb3, ?_⟩
      have HS3 := Lib.hid (fun W (h : Below w3.heap.size w3 W) => HS.out W (below_step hb3 hb3.size h))
      clear hF hb3 HO HS
      refine iW_mid rfl rfl ?_
      go_simp
      refine (HD.out w3 HB3.out.2 k a' cap' HF.out).mono ?_
      rintro e w4 ⟨⟨s4, rfl⟩, hb4⟩
      have HO4 := Lib.hid (HO3.out.below hb4)
      have HB4 := Lib.hid (show _ ∧ _ from ⟨below_step HB3.out.1 HB3.out.1.size hb4, below_step HB3.out.2 HB3.out.2.size hb4⟩)
      refine ⟨HS3.out _ hb4, ?_⟩
      have HS4 := Lib.hid (fun W (h : Below w4.heap.size w4 W) => HS3.out W (below_step hb4 hb4.size h))
      clear hb4 HO3 HS3
      refine iW_mid rfl rfl ?_
      go_simp
      refine (RBoth_any w4 b (atL ys k) a _ s4 s2).mono ?_
      rintro e w5 ⟨⟨s5, rfl⟩, hb5⟩
      have HO5 := Lib.hid (HO4.out.below hb5)
      have HB5 := Lib.hid (show _ ∧ _ from ⟨below_step HB4.out.1 HB4.out.1.size hb5, below_step HB4.out.2 HB4.out.2.size hb5⟩)
      refine ⟨HS4.out _ hb5, ?_⟩
      have HS5 := Lib.hid (fun W (h : Below w5.heap.size w5 W) => HS4.out W (below_step hb5 hb5.size h))
      clear hb5 HO4 HS4
      refine iW_mid rfl rfl ?_
      go_simp
      refine ⟨HS5.out _ ((Below.refl _ _).alloc (Nat.le_refl _) _), ?_⟩
      refine iW_nil ?_
      go_simp
      refine wpList_append_one rfl _ _ rfl W1.heap.size _ (gemvR a zs c xs b ys k) rfl HO5.out _ _ _ rfl (by rw [gemvR_len]; omega) HB5.out.1.size ?_
      intro v' w6 hO6 hb6
      have HE := Lib.hid (show _ ∧ _ from ⟨hO6, HB5.out.1.trans hb6⟩)
      clear hO6 hb6
      go_wp2_with fail
      refine NoPanic.normal ?_
      go_wp2_with fail
      go_roundw
      case rel => exact ⟨k + 1, HB2.out.2.2, by rw [gemvR_succ]; exact HE.out.1, by go_num, HE.out.2⟩
      case measure => have := HB2.out.2.2; simp [intOf]; omega
    · obtain rfl : k = r := by omega
      have HB := Lib.hid (show _ ∧ _ from ⟨hO, hBw⟩)
      clear hB hk hO hBw
      go_wp2_with fail
      go_ret
      exact ⟨⟨_, rfl, HB.out.1.mono HX0.out.1.size⟩, HB.out.2⟩
end Go.Proofs.Ytbcdpibcieadlaa
