/- Layer 17: values, and columns of two matrices, sorted (printed by gen_uj.py). No condition but on lengths. -/
import Derived.Test.YtdljnhdhigbefaaZz9
import Derived.Test.YtdljnhdhigbefaaZz10
namespace Go.Proofs.Ytdljnhdhigbefaa
open Go Go.RowKit
set_option maxRecDepth 1000000

theorem maxL_bnd (w : List Nat) : ∀ (f j k : Nat), k < w.length → maxL w f j k < w.length
  | 0, _, _, h => h
  | f + 1, j, k, h => by
    rw [maxL]
    split
    · rename_i hj
      refine maxL_bnd w f (j + 1) _ ?_
      split
      · exact hj
      · exact h
    · exact h
theorem maxL_step {w : List Nat} {f j k : Nat} (hf : w.length ≤ j + f) (hj : j < w.length) : ∃ g, f = g + 1 ∧ w.length ≤ (j + 1) + g ∧ maxL w f j k = maxL w g (j + 1) (if flt (w.getD k 0) (w.getD j 0) then j else k) := by
  cases f with
  | zero => omega
  | succ g => exact ⟨g, rfl, by omega, by rw [maxL, if_pos hj]⟩
theorem maxL_end {w : List Nat} {f j k : Nat} (hj : ¬ j < w.length) : maxL w f j k = k := by
  cases f with
  | zero => rfl
  | succ g => rw [maxL, if_neg hj]
theorem set_self (z : List Nat) (p : Nat) : z.set p (z.getD p 0) = z := by
  by_cases h : p < z.length
  · rw [List.getD_eq_getElem?_getD, List.getElem?_eq_getElem h]
    exact List.set_getElem_self h
  · exact List.set_eq_of_length_le (by omega)
theorem swapL_self (l : List Nat) (i : Nat) : swapL l i i = l := by
  unfold swapL
  rw [set_self l i, set_self l i]
theorem swcL_self (z : List Nat) (n i : Nat) : ∀ r, swcL z n i i r = z
  | 0 => rfl
  | r + 1 => by
    have h := swcL_self z n i r
    unfold swcL at h ⊢
    rw [colsL, h, colsR, set_self, set_self]
theorem fs_pick {W : World} {a : Option Addr} {b B : Nat} {l : List Nat} (h : FS W a b l) (N d : Nat) (hB : B ≤ b) (hlt : l ≠ [] → b < N) (hN : B ≤ N) : ∃ b', FS W a b' l ∧ B ≤ b' ∧ (l = [] ∧ b' = N + d ∨ l ≠ [] ∧ b' = b) := by
  by_cases h0 : l = []
  · exact ⟨N + d, .inl h0, by omega, .inl ⟨h0, rfl⟩⟩
  · exact ⟨b, h, hB, .inr ⟨h0, rfl⟩⟩
structure BoxU (w W : World) (bs : List (Nat × List Value)) : Prop where
  bx : ∀ p ∈ bs, Box W p.1 p.2
  below : Below w.heap.size w W
theorem BoxU.step {w W W' : World} {bs : List (Nat × List Value)} (h : BoxU w W bs) (hb : Below W.heap.size W W') : BoxU w W' bs := ⟨fun p hp => (h.bx p hp).below hb, below_step h.below h.below.size hb⟩
theorem BoxU.get {w W : World} {bs : List (Nat × List Value)} (h : BoxU w W bs) (k : Nat) {n : Nat} {cs : List Value} (hk : bs[k]? = some (n, cs)) : Box W n cs := h.bx (n, cs) (List.mem_of_getElem? hk)
/-- Blocks that may be written: they are apart where they hold anything. -/
structure SoP where
  n : Nat
  ru : Nat
  rv : Nat
  wb : Nat
  ub : Nat
  vb : Nat
  wc : Nat
  uc : Nat
  vc : Nat
  wa : Option Addr
  ua : Option Addr
  va : Option Addr
structure SoG (w W : World) (q : SoP) (l u v : List Nat) : Prop where
  x4 : Box W w.heap.size [.int .i64 q.ru, .int .i64 q.n, .slice q.ua (q.ru * q.n) q.uc]
  x5 : Box W (w.heap.size + 1) [.int .i64 q.rv, .int .i64 q.n, .slice q.va (q.rv * q.n) q.vc]
  x7 : Box W (w.heap.size + 1 + 1) [.int .i64 0, .int .i64 0, .slice none 0 0]
  x8 : Box W (w.heap.size + 1 + 1 + 1) [.int .i64 0, .int .i64 0, .slice none 0 0]
  f : FS W q.wa q.wb l
  fl : l.length = q.n
  fw : Words l
  u : MxF W q.ru q.n q.ua q.uc q.ub u
  v : MxF W q.rv q.n q.va q.vc q.vb v
  below : Below w.heap.size w W
  nd : (w.heap.size + 3 < q.wb ∧ w.heap.size + 3 < q.ub ∧ w.heap.size + 3 < q.vb) ∧ q.wb ≠ q.ub ∧ q.wb ≠ q.vb ∧ q.ub ≠ q.vb
  hn : q.n ≤ 512 ∧ q.ru ≤ 512 ∧ q.rv ≤ 512
section
variable {w W W' : World} {q : SoP} {l u v : List Nat}
theorem FS.belU {b s : Nat} {a : Option Addr} {l : List Nat} (h : FS W a b l) (hs : b ≠ s) (hb : Bel W.heap.size s W W') : FS W' a b l := h.imp id (fun ⟨h1, h2⟩ => ⟨h1, h2.bel hs hb⟩)
theorem FS.otherU {b m : Nat} {a : Option Addr} {l : List Nat} (h : FS W a b l) (hm : b ≠ m) (j : Nat) (u : Value) : FS (W.setCell ⟨m, j, none⟩ u) a b l := h.imp id (fun ⟨h1, h2⟩ => ⟨h1, h2.other hm j u⟩)
theorem SoG.step (h : SoG w W q l u v) (hb : Below W.heap.size W W') : SoG w W' q l u v := ⟨h.x4.below hb, h.x5.below hb, h.x7.below hb, h.x8.below hb, h.f.below hb, h.fl, h.fw, h.u.below hb, h.v.below hb, below_step h.below h.below.size hb, h.nd, h.hn⟩
theorem SoG.putU (h : SoG w W q l u v) {u' : List Nat} (hu : MxF W' q.ru q.n q.ua q.uc q.ub u') (hb : Bel W.heap.size q.ub W W') : SoG w W' q l u' v := by
  obtain ⟨⟨n1, n2, n3⟩, n4, n5, n6⟩ := h.nd
  exact ⟨h.x4.bel (by omega) hb, h.x5.bel (by omega) hb, h.x7.bel (by omega) hb, h.x8.bel (by omega) hb, h.f.belU n4 hb, h.fl, h.fw, hu, h.v.bel (fun _ e => n6 e.symm) hb, h.below.trans ((hb.mono h.below.size).below (by omega)), h.nd, h.hn⟩
theorem SoG.putV (h : SoG w W q l u v) {v' : List Nat} (hv : MxF W' q.rv q.n q.va q.vc q.vb v') (hb : Bel W.heap.size q.vb W W') : SoG w W' q l u v' := by
  obtain ⟨⟨n1, n2, n3⟩, n4, n5, n6⟩ := h.nd
  exact ⟨h.x4.bel (by omega) hb, h.x5.bel (by omega) hb, h.x7.bel (by omega) hb, h.x8.bel (by omega) hb, h.f.belU n5 hb, h.fl, h.fw, h.u.bel (fun _ e => n6 e) hb, hv, h.below.trans ((hb.mono h.below.size).below (by omega)), h.nd, h.hn⟩
theorem SoG.setW (h : SoG w W q l u v) (j x s : Nat) (hx : x < 18446744073709551616) : SoG w (W.setCell ⟨q.wb, j, none⟩ (.float .f64 (raw x s))) q (l.set j x) u v := by
  obtain ⟨⟨n1, n2, n3⟩, n4, n5, n6⟩ := h.nd
  have hb : Bel W.heap.size q.wb W (W.setCell ⟨q.wb, j, none⟩ (.float .f64 (raw x s))) := (Bel.refl _ _ _).set _ _
  refine ⟨h.x4.bel (by omega) hb, h.x5.bel (by omega) hb, h.x7.bel (by omega) hb, h.x8.bel (by omega) hb, ?_, by rw [List.length_set]; exact h.fl, words_setG h.fw hx, h.u.bel (fun _ e => n4 e.symm) hb, h.v.bel (fun _ e => n5 e.symm) hb, h.below.trans ((hb.mono h.below.size).below (by omega)), h.nd, h.hn⟩
  rcases h.f with h0 | ⟨h1, h2⟩
  · exact .inl (by rw [h0]; rfl)
  · exact .inr ⟨h1, h2.set j x s⟩
end
theorem Box.set_other3U {W : World} {n m : Nat} {cs : List Value} (h : Box W n cs) (hne : n ≠ m) {v0 v1 v2 : Value} : Box (((W.setCell ⟨m, 0, none⟩ v0).setCell ⟨m, 1, none⟩ v1).setCell ⟨m, 2, none⟩ v2) n cs := ((h.set_other hne _ _).set_other hne _ _).set_other hne _ _
def SortedPG (w : World) (ru rv : Nat) (l u v : List Nat) (e : Ending) (w' : World) : Prop :=
  ∃ q : SoP, q.n = l.length ∧ q.ru = ru ∧ q.rv = rv ∧ e = .returned (.tuple #[.slice q.wa q.n q.wc, .agg #[.int .i64 ru, .int .i64 q.n, .slice q.ua (ru * q.n) q.uc], .agg #[.int .i64 rv, .int .i64 q.n, .slice q.va (rv * q.n) q.vc], .int .i64 0]) ∧
    FS w' q.wa q.wb (sortG l.length ru rv l u v l.length).1 ∧ MxF w' ru q.n q.ua q.uc q.ub (sortG l.length ru rv l u v l.length).2.1 ∧ MxF w' rv q.n q.va q.vc q.vb (sortG l.length ru rv l u v l.length).2.2 ∧ Below w.heap.size w w' ∧ w.heap.size ≤ q.wb ∧ w.heap.size ≤ q.ub ∧ w.heap.size ≤ q.vb

set_option maxHeartbeats 16000000 in
theorem gsorted_any (w : World) (a ua va : Option Addr) (l u v : List Nat) (wc uc vc ru rv : Nat) (hl : Fls w a l) (hu : Fls w ua u) (hv : Fls w va v) (ha : a = none → l = []) (hua : ua = none → u = []) (hva : va = none → v = []) (hW : Words l) (hWu : Words u) (hWv : Words v) (hn : l.length ≤ 512) (hru : ru ≤ 512) (hrv : rv ≤ 512) (hul : u.length = ru * l.length) (hvl : v.length = rv * l.length) (hfin : l.all ffin = true) :
    Calls Try.prog 60 #[.slice a l.length wc, .agg #[.int .i64 ru, .int .i64 l.length, .slice ua u.length uc], .agg #[.int .i64 rv, .int .i64 l.length, .slice va v.length vc]] w (SortedPG w ru rv l u v) := by
  have hlu : u.length ≤ 262144 := by rw [hul]; exact Nat.le_trans (Nat.mul_le_mul hru hn) (by decide)
  have hlv : v.length ≤ 262144 := by rw [hvl]; exact Nat.le_trans (Nat.mul_le_mul hrv hn) (by decide)
  have HMu := Lib.hid (fun W => mayB_of hru hn hul ▸ GmayM_any W (ru : Int) (l.length : Int) ua u.length uc (by unfold maxLen; omega))
  have HMv := Lib.hid (fun W => mayB_of hrv hn hvl ▸ GmayM_any W (rv : Int) (l.length : Int) va v.length vc (by unfold maxLen; omega))
  have HF := Lib.hid (fun W (h : Below w.heap.size w W) => hfin ▸ GFin_any W a l wc (hl.below h) hW (by unfold maxLen; omega))
  have HC := Lib.hid (fun W (h : Below w.heap.size w W) => Clone_any W a l wc (hl.below h) (by omega) ha)
  have HCu := Lib.hid (fun W (h : Below w.heap.size w W) => Clone_any W ua u uc (hu.below h) hlu hua)
  have HCv := Lib.hid (fun W (h : Below w.heap.size w W) => Clone_any W va v vc (hv.below h) hlv hva)
  have HL := Lib.hid (show _ ∧ _ ∧ _ ∧ _ ∧ _ from ⟨hul, hvl, hn, hru, hrv⟩)
  have HWd := Lib.hid (show _ ∧ _ ∧ _ from ⟨hW, hWu, hWv⟩)
  have t1 : ((l.length : Int) != (l.length : Int)) = false := bne_self_eq_false _
  obtain ⟨W0, hW0⟩ : ∃ W0, W0 = ((((w.alloc (.cells #[.int .i64 ru, .int .i64 l.length, .slice ua u.length uc] 26)).alloc (.cells #[.int .i64 rv, .int .i64 l.length, .slice va v.length vc] 26)).alloc (.cells #[.int .i64 0, .int .i64 0, .slice none 0 0] 26)).alloc (.cells #[.int .i64 0, .int .i64 0, .slice none 0 0] 26)) := ⟨_, rfl⟩
  have hB0 : Below w.heap.size w W0 := hW0 ▸ ((((Below.refl _ _).alloc (Nat.le_refl _) _).alloc (by simp) _).alloc (by simp; omega) _).alloc (by simp; omega) _
  have x4 : Box W0 w.heap.size [.int .i64 ru, .int .i64 l.length, .slice ua u.length uc] := hW0 ▸ (((Box.newA w [.int .i64 ru, .int .i64 l.length, .slice ua u.length uc] _ rfl).alloc _).alloc _).alloc _
  have x5 : Box W0 (w.heap.size + 1) [.int .i64 rv, .int .i64 l.length, .slice va v.length vc] := hW0 ▸ ((Box.newA _ [.int .i64 rv, .int .i64 l.length, .slice va v.length vc] _ (by simp)).alloc _).alloc _
  have x7 : Box W0 (w.heap.size + 1 + 1) [.int .i64 0, .int .i64 0, .slice none 0 0] := hW0 ▸ (Box.newA _ [.int .i64 0, .int .i64 0, .slice none 0 0] _ (by simp)).alloc _
  have x8 : Box W0 (w.heap.size + 1 + 1 + 1) [.int .i64 0, .int .i64 0, .slice none 0 0] := hW0 ▸ Box.newA _ [.int .i64 0, .int .i64 0, .slice none 0 0] _ (by simp)
  have S0 := Lib.hid (show BoxU w W0 [(w.heap.size, [.int .i64 ru, .int .i64 l.length, .slice ua u.length uc]), (w.heap.size + 1, [.int .i64 rv, .int .i64 l.length, .slice va v.length vc]), (w.heap.size + 1 + 1, [.int .i64 0, .int .i64 0, .slice none 0 0]), (w.heap.size + 1 + 1 + 1, [.int .i64 0, .int .i64 0, .slice none 0 0])] from ⟨fun p hp => by
    simp only [List.mem_cons, List.not_mem_nil, or_false] at hp
    rcases hp with rfl | rfl | rfl | rfl
    · exact x4
    · exact x5
    · exact x7
    · exact x8
    , hB0⟩)
  clear hl hu hv ha hua hva hW hWu hWv hn hru hrv hul hvl hfin hB0 x4 x5 x7 x8 hlu hlv
  go_enter Try.func60, Try.ntmps60
  go_upto_region 1 with (fail)
  rw [← hW0]
  clear hW0
  obtain ⟨f01, f02, f03⟩ := (S0.out.get 0 rfl).facts
  obtain ⟨f11, f12, f13⟩ := (S0.out.get 1 rfl).facts
  go_wp2_with fail
  refine (HMu.out _).mono ?_
  rintro e w1 ⟨rfl, hb⟩
  clear f01 f02 f03 f11 f12 f13
  have S1 := Lib.hid (S0.out.step hb)
  clear hb S0
  dsimp only
  obtain ⟨f01, f02, f03⟩ := (S1.out.get 0 rfl).facts
  obtain ⟨f11, f12, f13⟩ := (S1.out.get 1 rfl).facts
  go_wp2_with fail
  refine (HMv.out _).mono ?_
  rintro e w2 ⟨rfl, hb⟩
  clear f01 f02 f03 f11 f12 f13
  have S2 := Lib.hid (S1.out.step hb)
  clear hb S1
  dsimp only
  obtain ⟨f01, f02, f03⟩ := (S2.out.get 0 rfl).facts
  obtain ⟨f11, f12, f13⟩ := (S2.out.get 1 rfl).facts
  go_wp2_with fail
  refine (HF.out _ S2.out.below).mono ?_
  rintro e w3 ⟨rfl, rfl⟩
  clear f01 f02 f03 f11 f12 f13
  dsimp only
  go_upto_region 8 with (fail)
  have hdr : Below w2.heap.size w2 w2.drew := below_drewN 1 (Below.refl _ _)
  have T0 := Lib.hid (S2.out.step hdr)
  clear hdr S2
  refine wp_region_items 8 [(true, 0), (true, 2), (true, 3), (true, 5), (true, 6), (false, 1), (false, 4), (false, 7)] (fun W => (∀ i, W.cell? ⟨w.heap.size, i, none⟩ = ([.int .i64 ru, .int .i64 l.length, .slice ua u.length uc] : List Value)[i]?) ∧ (∀ i, W.cell? ⟨w.heap.size + 1, i, none⟩ = ([.int .i64 rv, .int .i64 l.length, .slice va v.length vc] : List Value)[i]?)) (by kernel_rfl) (by kernel_rfl) ⟨(T0.out.get 0 rfl).cell, (T0.out.get 1 rfl).cell⟩ ?_
  generalize w2.drew = y0 at *
  iterate 5 (refine iW_take (v := ?_) rfl rfl ?_ ?_; rotate_left; (next => (intro w' hSw; (try dsimp only at hSw); go_simp; (try (rw [if_pos (by omega)]; go_simp)); (try with_reducible rfl))); (simp only [Act.put, List.setIfInBounds_toArray, List.set_cons_zero, List.set_cons_succ]))
  refine iW_mid rfl rfl ?_
  go_simp
  refine (HC.out _ T0.out.below).mono ?_
  rintro e y1 ⟨⟨sv, rfl, hO⟩, hb⟩
  have T1 := Lib.hid (T0.out.step hb)
  obtain ⟨b1, wb1, cp1, rfl, k1, k2, k3, hF, k4⟩ := hO.fs
  have O1_1 := Lib.hid hF
  have hsz := hb.size
  have Q1 := Lib.hid (show _ ∧ _ ∧ _ ∧ _ ∧ _ ∧ _ from ⟨k1, k2, k3, k4, hsz, (T0.out.get 3 rfl).lt⟩)
  refine ⟨⟨(T1.out.get 0 rfl).cell, (T1.out.get 1 rfl).cell⟩, ?_⟩
  clear hb hO hF k1 k2 k3 k4 hsz T0
  refine iW_mid rfl rfl ?_
  go_simp
  refine (HCu.out _ T1.out.below).mono ?_
  rintro e y2 ⟨⟨sv, rfl, hO⟩, hb⟩
  have T2 := Lib.hid (T1.out.step hb)
  have O1_2 := Lib.hid (O1_1.out.below hb)
  obtain ⟨b2, wb2, cp2, rfl, k1, k2, k3, hF, k4⟩ := hO.fs
  have O2_2 := Lib.hid hF
  have hsz := hb.size
  have Q2 := Lib.hid (show _ ∧ _ ∧ _ ∧ _ ∧ _ ∧ _ from ⟨k1, k2, k3, k4, hsz, (T1.out.get 3 rfl).lt⟩)
  refine ⟨⟨(T2.out.get 0 rfl).cell, (T2.out.get 1 rfl).cell⟩, ?_⟩
  clear hb hO hF k1 k2 k3 k4 hsz T1 O1_1
  refine iW_mid rfl rfl ?_
  go_simp
  refine (HCv.out _ T2.out.below).mono ?_
  rintro e y3 ⟨⟨sv, rfl, hO⟩, hb⟩
  have T3 := Lib.hid (T2.out.step hb)
  have O1_3 := Lib.hid (O1_2.out.below hb)
  have O2_3 := Lib.hid (O2_2.out.below hb)
  obtain ⟨b3, wb3, cp3, rfl, k1, k2, k3, hF, k4⟩ := hO.fs
  have O3_3 := Lib.hid hF
  have hsz := hb.size
  have Q3 := Lib.hid (show _ ∧ _ ∧ _ ∧ _ ∧ _ ∧ _ from ⟨k1, k2, k3, k4, hsz, (T2.out.get 3 rfl).lt⟩)
  refine ⟨⟨(T3.out.get 0 rfl).cell, (T3.out.get 1 rfl).cell⟩, ?_⟩
  clear hb hO hF k1 k2 k3 k4 hsz T2 O1_2 O2_2
  obtain ⟨d1, F1, g1, q1⟩ := fs_pick O1_3.out y3.heap.size 0 (Q1.out.2.2.1) (fun h0 => by have := Q1.out.2.2.2.1 h0; have := Q2.out.2.2.2.2.1; have := Q3.out.2.2.2.2.1; omega) (by have := Q1.out.2.2.2.2.1; have := Q2.out.2.2.2.2.1; have := Q3.out.2.2.2.2.1; omega)
  obtain ⟨d2, F2, g2, q2⟩ := fs_pick O2_3.out y3.heap.size 1 (Q2.out.2.2.1) (fun h0 => by have := Q2.out.2.2.2.1 h0; have := Q3.out.2.2.2.2.1; omega) (by have := Q2.out.2.2.2.2.1; have := Q3.out.2.2.2.2.1; omega)
  obtain ⟨d3, F3, g3, q3⟩ := fs_pick O3_3.out y3.heap.size 2 (Q3.out.2.2.1) (fun h0 => Q3.out.2.2.2.1 h0) (Q3.out.2.2.2.2.1)
  have hnd : (w.heap.size + 3 < d1 ∧ w.heap.size + 3 < d2 ∧ w.heap.size + 3 < d3) ∧ d1 ≠ d2 ∧ d1 ≠ d3 ∧ d2 ≠ d3 := by
    have a1 := Q1.out; have a2 := Q2.out; have a3 := Q3.out
    rcases q1 with ⟨e1, f1⟩ | ⟨e1, f1⟩ <;> rcases q2 with ⟨e2, f2⟩ | ⟨e2, f2⟩ <;> rcases q3 with ⟨e3, f3⟩ | ⟨e3, f3⟩
    all_goals
      have c1 : l ≠ [] → wb1 < y1.heap.size := a1.2.2.2.1
      have c2 : u ≠ [] → wb2 < y2.heap.size := a2.2.2.2.1
      have c3 : v ≠ [] → wb3 < y3.heap.size := a3.2.2.2.1
      have c4 := a2.2.2.1; have c5 := a3.2.2.1; have c6 := a1.2.2.1; have c7 := a1.2.2.2.2; have c8 := a2.2.2.2.2; have c9 := a3.2.2.2.2
      first | (have c1' := c1 e1) | skip
      first | (have c2' := c2 e2) | skip
      first | (have c3' := c3 e3) | skip
      omega
  obtain ⟨q, hq⟩ : ∃ q : SoP, q = ⟨l.length, ru, rv, d1, d2, d3, cp1, cp2, cp3, b1, b2, b3⟩ := ⟨_, rfl⟩
  have G0 := Lib.hid (show SoG w ((y3.setCell ⟨w.heap.size, 2, none⟩ (.slice b2 u.length cp2)).setCell ⟨w.heap.size + 1, 2, none⟩ (.slice b3 v.length cp3)) q l u v by
    subst hq
    have e4 := (T3.out.get 0 rfl).set 2 (.slice b2 u.length cp2)
    have z := T3.out.get 0 rfl
    refine ⟨?_, ?_, ((T3.out.get 2 rfl).set_other (by omega) _ _).set_other (by omega) _ _, ((T3.out.get 3 rfl).set_other (by omega) _ _).set_other (by omega) _ _, (F1.otherU (m := w.heap.size) (by omega) 2 (.slice b2 u.length cp2)).otherU (m := w.heap.size + 1) (by omega) 2 (.slice b3 v.length cp3), rfl, HWd.out.1, ⟨(F2.otherU (m := w.heap.size) (by omega) 2 (.slice b2 u.length cp2)).otherU (m := w.heap.size + 1) (by omega) 2 (.slice b3 v.length cp3), HL.out.1, ⟨Q2.out.1, Q2.out.2.1⟩, HWd.out.2.1⟩, ⟨(F3.otherU (m := w.heap.size) (by omega) 2 (.slice b2 u.length cp2)).otherU (m := w.heap.size + 1) (by omega) 2 (.slice b3 v.length cp3), HL.out.2.1, ⟨Q3.out.1, Q3.out.2.1⟩, HWd.out.2.2⟩, below_set (below_set T3.out.below (Nat.le_refl _) _ _) (by omega) _ _, hnd, HL.out.2.2⟩
    · have h := (T3.out.get 0 rfl).set 2 (.slice b2 u.length cp2)
      rw [← HL.out.1]
      exact Box.set_other h (by omega) _ _
    · have h := ((T3.out.get 1 rfl).set_other (m := w.heap.size) (by omega) 2 (.slice b2 u.length cp2)).set 2 (.slice b3 v.length cp3)
      rw [← HL.out.2.1]
      exact h)
  clear F1 F2 F3 g1 g2 g3 q1 q2 q3 hnd O1_3 O2_3 O3_3 Q1 Q2 Q3 HC HCu HCv HF HMu HMv
  obtain ⟨f01, f02, f03⟩ := (T3.out.get 0 rfl).facts
  obtain ⟨f11, f12, f13⟩ := (T3.out.get 1 rfl).facts
  refine iW_nil ?_
  go_simp
  go_wp2_with fail
  refine NoPanic.normal ?_
  clear f01 f02 f03 f11 f12 f13 T3
  go_upto_region 10 with (fail)
  generalize (y3.setCell ⟨w.heap.size, 2, none⟩ (.slice b2 u.length cp2)).setCell ⟨w.heap.size + 1, 2, none⟩ (.slice b3 v.length cp3) = W4 at *
  have hqn : q.n = l.length ∧ q.ru = ru ∧ q.rv = rv ∧ q.wa = b1 ∧ q.wc = cp1 := by subst hq; exact ⟨rfl, rfl, rfl, rfl, rfl⟩
  clear hq t1
  obtain ⟨n, hn⟩ : ∃ n, n = l.length := ⟨_, rfl⟩
  rw [← hn] at hqn
  simp only [← hn]
  have HQ := Lib.hid (And.intro hqn hn)
  have e1 := hqn.1
  have e4 := hqn.2.2.2.1
  subst e4
  clear hqn hn e1
  have H51 := Lib.hid (show n ≤ 512 by have := HL.out; have := HQ.out.2; omega)
  go_wp2_with fail
  go_loopw [71] (fun s71 wr => ∃ i : Nat, s71 = .int .i64 i ∧ i ≤ n ∧ SoG w wr q (sortG n ru rv l u v i).1 (sortG n ru rv l u v i).2.1 (sortG n ru rv l u v i).2.2) (fun s71 _ => n - (intOf s71).toNat)
  case atStart => exact ⟨0, rfl, Nat.zero_le _, G0.out⟩
  case round =>
    clear G0
    obtain ⟨i, rfl, hi, hS⟩ := hrel
    by_cases hlt : i < n
    case pos =>
      obtain ⟨L, hL⟩ : ∃ L, L = (sortG n ru rv l u v i).1 := ⟨_, rfl⟩
      obtain ⟨U, hU⟩ : ∃ U, U = (sortG n ru rv l u v i).2.1 := ⟨_, rfl⟩
      obtain ⟨V, hV⟩ : ∃ V, V = (sortG n ru rv l u v i).2.2 := ⟨_, rfl⟩
      rw [← hL, ← hU, ← hV] at hS
      have hLn : L.length = n := hS.fl.trans HQ.out.1.1
      obtain ⟨K, hK⟩ : ∃ K, K = maxL L L.length (i + 1) i := ⟨_, rfl⟩
      have hKn : K < n := by have := maxL_bnd L L.length (i + 1) i (by omega); rw [← hK] at this; omega
      have HR := Lib.hid (show sortG n ru rv l u v (i + 1) = (swapL L i K, swcL U n i K ru, swcL V n i K rv) by rw [sortG, ← hL, ← hU, ← hV, ← hK])
      obtain ⟨hwa, _⟩ := hS.f.flb (by omega)
      have HS := Lib.hid hS
      have HK := Lib.hid hK
      have HKn := Lib.hid hKn
      have HLn := Lib.hid hLn
      have HLt := Lib.hid hlt
      clear hS hK hKn hL hU hV hLn
      rw [hwa]
      have HWA := Lib.hid hwa
      clear hwa
      go_wp2_with fail
      go_loopw [13, 14] (fun s13 s14 wr => ∃ j k f : Nat, s13 = .int .i64 k ∧ s14 = .int .i64 j ∧ k < n ∧ j ≤ n ∧ L.length ≤ j + f ∧ maxL L f j k = K ∧ SoG w wr q L U V) (fun _ s14 _ => n - (intOf s14).toNat)
      case atStart =>
        exact ⟨i + 1, i, L.length, rfl, congrArg (Value.int .i64) (w64p (by have := H51.out; omega)), hlt, hlt, by omega, HK.out.symm, HS.out⟩
      case round =>
        clear HS
        obtain ⟨j, k, f, rfl, rfl, hk, hj, hf, hmax, hS⟩ := hrel
        have hLn := HLn.out
        obtain ⟨_, hfb⟩ := hS.f.flb (by omega)
        have hblt := hfb.lt
        have hbfz := hfb.frozen
        by_cases hjl : j < n
        case pos =>
          have hj9 : j < 1000 := by have := H51.out; omega
          obtain ⟨g, hg1, hg2, hg3⟩ := maxL_step (w := L) (f := f) (j := j) (k := k) hf (by omega)
          rw [hg3] at hmax
          obtain ⟨s1, c1⟩ := hfb.at (i := j) (by omega)
          obtain ⟨s2, c2⟩ := hfb.at (i := k) (by omega)
          have HSk := Lib.hid (show _ ∧ _ ∧ _ from ⟨hS, hmax, hg2⟩)
          clear hS hmax hg1 hg2 hg3 hfb hf hLn
          cases hq : flt (L.getD k 0) (L.getD j 0)
          case false =>
            rw [hq] at HSk
            generalize L.getD j 0 = vj at *
            generalize L.getD k 0 = vk at *
            go_wp2_with fail
            refine wp_region_nqb 9 (fun _ _ _ => False) (by kernel_rfl) (by kernel_rfl) ?_
            intro C R hc hb' hb2 hd hR
            simp only [List.take_succ_cons, List.take_zero]
            repeat (
              first
                | (refine nqW_plain (fun K hK => ?_))
                | (refine nqW_step (fun K hK => ?_); go_simp)
              first
                | (refine nq_move rfl ?_; go_simp; refine hK _ ?_; clear hK K)
                | (refine nq_assign rfl ?_; go_simp; refine hK _ ?_; clear hK K)
                | (refine nq_flt rfl rfl rfl rfl hd ?_; intro _; go_frame; refine hK _ ?_; clear hK K)
                | (refine nq_same ?_; intro w' hw'; go_simp; (try go_bits); refine hK _ ?_; clear hK K hw' w')
                | (refine nq_same ?_; intro w' hw'; go_simp; rw [if_pos (by omega)]; go_simp; (try go_bits); refine hK _ ?_; clear hK K hw' w')
                | (go_simp; refine hK _ ?_; clear hK K))
            refine nqW_nil (hR _ ?_)
            clear hc hb' hb2 hd hR
            intro w' hw'
            simp only [List.drop]
            have HSw := Lib.hid (HSk.out.1.step hw')
            clear c1 c2 hw' hblt hbfz
            go_wp2
            go_roundw
            case rel => exact ⟨j + 1, k, g, rfl, by go_num, hk, hjl, HSk.out.2.2, HSk.out.2.1, HSw.out⟩
            case measure => simp [intOf]; omega
          case true =>
            rw [hq] at HSk
            generalize L.getD j 0 = vj at *
            generalize L.getD k 0 = vk at *
            go_wp2_with fail
            refine wp_region_nqb 9 (fun _ _ _ => False) (by kernel_rfl) (by kernel_rfl) ?_
            intro C R hc hb' hb2 hd hR
            simp only [List.take_succ_cons, List.take_zero]
            repeat (
              first
                | (refine nqW_plain (fun K hK => ?_))
                | (refine nqW_step (fun K hK => ?_); go_simp)
              first
                | (refine nq_move rfl ?_; go_simp; refine hK _ ?_; clear hK K)
                | (refine nq_assign rfl ?_; go_simp; refine hK _ ?_; clear hK K)
                | (refine nq_flt rfl rfl rfl rfl hd ?_; intro _; go_frame; refine hK _ ?_; clear hK K)
                | (refine nq_same ?_; intro w' hw'; go_simp; (try go_bits); refine hK _ ?_; clear hK K hw' w')
                | (refine nq_same ?_; intro w' hw'; go_simp; rw [if_pos (by omega)]; go_simp; (try go_bits); refine hK _ ?_; clear hK K hw' w')
                | (go_simp; refine hK _ ?_; clear hK K))
            refine nqW_nil (hR _ ?_)
            clear hc hb' hb2 hd hR
            intro w' hw'
            simp only [List.drop]
            have HSw := Lib.hid (HSk.out.1.step hw')
            clear c1 c2 hw' hblt hbfz
            go_wp2
            go_roundw
            case rel => exact ⟨j + 1, j, g, rfl, by go_num, hjl, hjl, HSk.out.2.2, HSk.out.2.1, HSw.out⟩
            case measure => simp [intOf]; omega
        case neg =>
          obtain rfl : k = K := (maxL_end (by omega)).symm.trans hmax
          clear hmax hf
          by_cases hik : k = i
          case pos =>
            have HSi := Lib.hid (show SoG w wr q (sortG n ru rv l u v (i + 1)).1 (sortG n ru rv l u v (i + 1)).2.1 (sortG n ru rv l u v (i + 1)).2.2 by rw [HR.out, hik, swapL_self, swcL_self, swcL_self]; exact hS)
            clear hS hfb hblt hbfz hLn
            subst hik
            have hi9 : k < 1000 := by have := H51.out; omega
            go_wp2_with fail
            go_roundw
            case rel => exact ⟨k + 1, by go_num, HLt.out, HSi.out⟩
            case measure => simp [intOf]; omega
          case neg =>
            have hik' : ¬ i = k := fun h => hik h.symm
            obtain ⟨w4, hw4⟩ : ∃ w4, w4 = wr.drew := ⟨_, rfl⟩
            have hS4 := hS.step (below_drewN 1 (Below.refl _ wr))
            rw [show wr.drewN 1 = wr.drew from rfl, ← hw4] at hS4
            clear hS hfb hblt hbfz
            obtain ⟨_, hfb⟩ := hS4.f.flb (by omega)
            obtain ⟨s1, c1⟩ := hfb.at (i := i) (by omega)
            obtain ⟨s2, c2⟩ := hfb.at (i := k) (by omega)
            have hblt := hfb.lt
            have hbfz := hfb.frozen
            have HS5 := Lib.hid (show SoG w ((w4.setCell ⟨q.wb, i, none⟩ (.float .f64 (raw (L.getD k 0) s2))).setCell ⟨q.wb, k, none⟩ (.float .f64 (raw (L.getD i 0) s1))) q (swapL L i k) U V from (hS4.setW i (L.getD k 0) s2 (hS4.fw.at _)).setW k (L.getD i 0) s1 (hS4.fw.at _))
            clear hS4 hfb hLn
            generalize L.getD i 0 = vi at *
            generalize L.getD k 0 = vk at *
            go_upto_region 20 with (fail)
            refine wp_region_swap 15 13 [(false, 0), (false, 1), (false, 2), (false, 3), (false, 4), (false, 5), (false, 6), (true, 7), (false, 8), (false, 9), (false, 10), (true, 11), (false, 12)] [14] (fun W => W.cell? ⟨q.wb, i, none⟩ = some (.float .f64 (raw vi s1)) ∧ W.cell? ⟨q.wb, k, none⟩ = some (.float .f64 (raw vk s2))) rfl (by kernel_rfl) (by kernel_rfl) (hw4 ▸ ⟨c1, c2⟩) ?_
            refine thW_any (v := ?_) rfl rfl ?_ ?_; rotate_left; (next => (intro w'; go_simp; (try (rw [if_pos (by omega)]; go_simp)); (try with_reducible rfl))); (simp only [Act.put, List.setIfInBounds_toArray, List.set_cons_zero, List.set_cons_succ])
            refine thW_any (v := ?_) rfl rfl ?_ ?_; rotate_left; (next => (intro w'; go_simp; (try (rw [if_pos (by omega)]; go_simp)); (try with_reducible rfl))); (simp only [Act.put, List.setIfInBounds_toArray, List.set_cons_zero, List.set_cons_succ])
            refine thW_any (v := ?_) rfl rfl ?_ ?_; rotate_left; (next => (intro w'; go_simp; (try (rw [if_pos (by omega)]; go_simp)); (try with_reducible rfl))); (simp only [Act.put, List.setIfInBounds_toArray, List.set_cons_zero, List.set_cons_succ])
            refine thW_any (v := ?_) rfl rfl ?_ ?_; rotate_left; (next => (intro w'; go_simp; (try (rw [if_pos (by omega)]; go_simp)); (try with_reducible rfl))); (simp only [Act.put, List.setIfInBounds_toArray, List.set_cons_zero, List.set_cons_succ])
            refine thW_any (v := ?_) rfl rfl ?_ ?_; rotate_left; (next => (intro w'; go_simp; (try (rw [if_pos (by omega)]; go_simp)); (try with_reducible rfl))); (simp only [Act.put, List.setIfInBounds_toArray, List.set_cons_zero, List.set_cons_succ])
            refine thW_any (v := ?_) rfl rfl ?_ ?_; rotate_left; (next => (intro w'; go_simp; (try (rw [if_pos (by omega)]; go_simp)); (try with_reducible rfl))); (simp only [Act.put, List.setIfInBounds_toArray, List.set_cons_zero, List.set_cons_succ])
            refine thW_any (v := ?_) rfl rfl ?_ ?_; rotate_left; (next => (intro w'; go_simp; (try (rw [if_pos (by omega)]; go_simp)); (try with_reducible rfl))); (simp only [Act.put, List.setIfInBounds_toArray, List.set_cons_zero, List.set_cons_succ])
            refine thW_take (v := ?_) rfl rfl ?_ ?_; rotate_left; (next => (intro w' hSw; (try dsimp only at hSw); go_simp; (try (rw [if_pos (by omega)]; go_simp)); (try with_reducible rfl))); (simp only [Act.put, List.setIfInBounds_toArray, List.set_cons_zero, List.set_cons_succ])
            refine thW_any (v := ?_) rfl rfl ?_ ?_; rotate_left; (next => (intro w'; go_simp; (try (rw [if_pos (by omega)]; go_simp)); (try with_reducible rfl))); (simp only [Act.put, List.setIfInBounds_toArray, List.set_cons_zero, List.set_cons_succ])
            refine thW_any (v := ?_) rfl rfl ?_ ?_; rotate_left; (next => (intro w'; go_simp; (try (rw [if_pos (by omega)]; go_simp)); (try with_reducible rfl))); (simp only [Act.put, List.setIfInBounds_toArray, List.set_cons_zero, List.set_cons_succ])
            refine thW_any (v := ?_) rfl rfl ?_ ?_; rotate_left; (next => (intro w'; go_simp; (try (rw [if_pos (by omega)]; go_simp)); (try with_reducible rfl))); (simp only [Act.put, List.setIfInBounds_toArray, List.set_cons_zero, List.set_cons_succ])
            refine thW_take (v := ?_) rfl rfl ?_ ?_; rotate_left; (next => (intro w' hSw; (try dsimp only at hSw); go_simp; (try (rw [if_pos (by omega)]; go_simp)); (try with_reducible rfl))); (simp only [Act.put, List.setIfInBounds_toArray, List.set_cons_zero, List.set_cons_succ])
            refine thW_any (v := ?_) rfl rfl ?_ ?_; rotate_left; (next => (intro w'; go_simp; (try (rw [if_pos (by omega)]; go_simp)); (try with_reducible rfl))); (simp only [Act.put, List.setIfInBounds_toArray, List.set_cons_zero, List.set_cons_succ])
            refine thW_nil ?_
            refine ⟨rfl, ?_⟩
            unfold Oper.wp
            rw [← hw4]
            clear hw4
            go_simp
            refine tlW_take (v := ?_) rfl rfl ?_ ?_; rotate_left; (next => (intro w'; go_simp; (try (rw [if_pos (by omega)]; go_simp)); (try with_reducible rfl))); (simp only [Act.put, List.setIfInBounds_toArray, List.set_cons_zero, List.set_cons_succ])
            refine tlW_nil ?_
            (try simp only [List.drop])
            (try go_wp2)
            refine NoPanic.normal ?_
            clear c1 c2 hblt hbfz
            generalize (w4.setCell ⟨q.wb, i, none⟩ (.float .f64 (raw vk s2))).setCell ⟨q.wb, k, none⟩ (.float .f64 (raw vi s1)) = w5 at *
            obtain ⟨q1, q2, q3⟩ := HS5.out.x4.facts
            go_wp2_with fail
            clear q1 q2 q3
            have HCol := Lib.hid (cols_any _ i k (.func (.func 94) #[] #[]) (fun _ y => y) (fun x _ => x) HS5.out.u (by rw [HQ.out.1.1]; exact HLt.out) (by rw [HQ.out.1.1]; exact hk) HS5.out.hn.2.1 HS5.out.hn.1 (fun _ => swapF_to _ _) swapAB)
            rw [HS5.out.u.len] at HCol
            refine HCol.out.mono ?_
            rintro e w6 ⟨rfl, hu, hb⟩
            have HS6 := Lib.hid (HS5.out.putU hu hb)
            clear hu hb HCol HS5
            dsimp only
            obtain ⟨q1, q2, q3⟩ := HS6.out.x5.facts
            go_wp2_with fail
            clear q1 q2 q3
            have HCol := Lib.hid (cols_any _ i k (.func (.func 94) #[] #[]) (fun _ y => y) (fun x _ => x) HS6.out.v (by rw [HQ.out.1.1]; exact HLt.out) (by rw [HQ.out.1.1]; exact hk) HS6.out.hn.2.2 HS6.out.hn.1 (fun _ => swapF_to _ _) swapAB)
            rw [HS6.out.v.len] at HCol
            refine HCol.out.mono ?_
            rintro e w7 ⟨rfl, hu, hb⟩
            have HS7 := Lib.hid (HS6.out.putV hu hb)
            clear hu hb HCol HS6
            dsimp only
            have HSi := Lib.hid (show SoG w w7 q (sortG n ru rv l u v (i + 1)).1 (sortG n ru rv l u v (i + 1)).2.1 (sortG n ru rv l u v (i + 1)).2.2 by rw [HR.out]; have h := HS7.out; rw [HQ.out.1.1, HQ.out.1.2.1, HQ.out.1.2.2.1] at h; exact h)
            clear HS7
            have hi9 : i < 1000 := by have := H51.out; omega
            go_wp2_with fail
            go_roundw
            case rel => exact ⟨i + 1, by go_num, HLt.out, HSi.out⟩
            case measure => simp [intOf]; omega
    case neg =>
      have hin : n = i := by omega
      subst hin
      have HS := Lib.hid hS
      clear hS hi hlt
      go_upto_region 24 with (fail)
      have hdr : Below wr.heap.size wr wr.drew := below_drewN 1 (Below.refl _ _)
      have HS1 := Lib.hid (HS.out.step hdr)
      clear HS hdr
      refine wp_region_items 5 [(true, 0), (true, 1), (true, 2), (true, 3), (false, 4)] (fun W => (∀ i, W.cell? ⟨w.heap.size, i, none⟩ = ([.int .i64 q.ru, .int .i64 q.n, .slice q.ua (q.ru * q.n) q.uc] : List Value)[i]?) ∧ (∀ i, W.cell? ⟨w.heap.size + 1, i, none⟩ = ([.int .i64 q.rv, .int .i64 q.n, .slice q.va (q.rv * q.n) q.vc] : List Value)[i]?)) (by kernel_rfl) (by kernel_rfl) ⟨HS1.out.x4.cell, HS1.out.x5.cell⟩ ?_
      generalize wr.drew = w9 at *
      obtain ⟨p1, p2, p3⟩ := HS1.out.x7.facts
      iterate 4 (refine iW_take (v := ?_) rfl rfl ?_ ?_; rotate_left; (next => (intro w' hSw; (try dsimp only at hSw); go_simp; (try (rw [if_pos (by omega)]; go_simp)); (try with_reducible rfl))); (simp only [Act.put, List.setIfInBounds_toArray, List.set_cons_zero, List.set_cons_succ]))
      refine iW_mid rfl rfl ?_
      go_simp
      obtain ⟨wx, hwx⟩ : ∃ x, x = (((w9).setCell ⟨w.heap.size + 1 + 1, 0, none⟩ (.int .i64 q.ru)).setCell ⟨w.heap.size + 1 + 1, 1, none⟩ (.int .i64 q.n)).setCell ⟨w.heap.size + 1 + 1, 2, none⟩ (.slice q.ua (q.ru * q.n) q.uc) := ⟨_, rfl⟩
      rw [← hwx]
      have HX := Lib.hid (show Box wx w.heap.size [.int .i64 q.ru, .int .i64 q.n, .slice q.ua (q.ru * q.n) q.uc] ∧ Box wx (w.heap.size + 1) [.int .i64 q.rv, .int .i64 q.n, .slice q.va (q.rv * q.n) q.vc] ∧ Box wx (w.heap.size + 1 + 1) [.int .i64 q.ru, .int .i64 q.n, .slice q.ua (q.ru * q.n) q.uc] ∧ Box wx (w.heap.size + 1 + 1 + 1) [.int .i64 0, .int .i64 0, .slice none 0 0] ∧ FS wx q.wa q.wb (sortG n ru rv l u v n).1 ∧ FS wx q.ua q.ub (sortG n ru rv l u v n).2.1 ∧ FS wx q.va q.vb (sortG n ru rv l u v n).2.2 ∧ Below w.heap.size w wx by
        subst hwx
        have h := HS1.out
        obtain ⟨⟨n1, n2, n3⟩, _⟩ := h.nd
        have o : ∀ {b : Nat} {cs : List Value}, Box w9 b cs → b ≠ w.heap.size + 1 + 1 → Box ((((w9).setCell ⟨w.heap.size + 1 + 1, 0, none⟩ (.int .i64 q.ru)).setCell ⟨w.heap.size + 1 + 1, 1, none⟩ (.int .i64 q.n)).setCell ⟨w.heap.size + 1 + 1, 2, none⟩ (.slice q.ua (q.ru * q.n) q.uc)) b cs := fun hb hne => ((hb.set_other hne _ _).set_other hne _ _).set_other hne _ _
        have f : ∀ {a : Option Addr} {b : Nat} {L : List Nat}, FS w9 a b L → b ≠ w.heap.size + 1 + 1 → FS ((((w9).setCell ⟨w.heap.size + 1 + 1, 0, none⟩ (.int .i64 q.ru)).setCell ⟨w.heap.size + 1 + 1, 1, none⟩ (.int .i64 q.n)).setCell ⟨w.heap.size + 1 + 1, 2, none⟩ (.slice q.ua (q.ru * q.n) q.uc)) a b L := fun hb hne => ((hb.otherU hne _ _).otherU hne _ _).otherU hne _ _
        exact ⟨o h.x4 (by omega), o h.x5 (by omega), Box.put3 h.x7 _ _ _, o h.x8 (by omega), f h.f (by omega), f h.u.fs (by omega), f h.v.fs (by omega), below_put3 h.below (by omega) _ _ _⟩)
      clear hwx p1 p2 p3
      refine ⟨⟨HS1.out.x4.cell, HS1.out.x5.cell⟩, ?_⟩
      obtain ⟨p1, p2, p3⟩ := HX.out.2.2.2.1.facts
      refine iW_nil ?_
      go_simp
      go_wp2_with fail
      refine NoPanic.normal ?_
      go_wp2_with fail
      trace_state
      obtain ⟨y4, y5, y7, y8, yf, yu, yv, yb⟩ := HX.out
      obtain ⟨⟨n1, n2, n3⟩, _⟩ := HS1.out.nd
      have hru := HQ.out.1.2.1
      have hrv := HQ.out.1.2.2.1
      have hqn := HQ.out.1.1
      have hnl := HQ.out.2
      have hcp := HQ.out.1.2.2.2.2
      have lu := HS1.out.u
      have lv := HS1.out.v
      refine bodyPost_ret (results_four rfl (rv_tmp rfl) (rv_cell (g := w.heap.size + 1 + 1) rfl (y7.set_other3U (by omega)) rfl Try.underlying26 (by kernel_rfl)) (rv_cell (g := w.heap.size + 1 + 1 + 1) rfl (Box.put3 y8 _ _ _) rfl Try.underlying26 (by kernel_rfl)) (rv_tmp rfl)) rfl ⟨q, by rw [hqn, hnl], hru, hrv, ?_, ?_, ?_, ?_, ?_, by omega, by omega, by omega⟩
      · rw [← hru, ← hrv, hqn, hcp]; rfl
      · rw [← hnl]; exact ((yf.otherU (by omega) _ _).otherU (by omega) _ _).otherU (by omega) _ _
      · rw [← hnl]; rw [hru] at lu; exact ⟨((yu.otherU (by omega) _ _).otherU (by omega) _ _).otherU (by omega) _ _, lu.len, lu.cap, lu.words⟩
      · rw [← hnl]; rw [hrv] at lv; exact ⟨((yv.otherU (by omega) _ _).otherU (by omega) _ _).otherU (by omega) _ _, lv.len, lv.cap, lv.words⟩
      · exact below_put3 yb (by omega) _ _ _
end Go.Proofs.Ytdljnhdhigbefaa

/- Layer 17: what tells nothing; values that are not finite are not sorted. No condition but on lengths. -/
namespace Go.Proofs.Ytdljnhdhigbefaa
open Go Go.RowKit
set_option maxRecDepth 1000000

section
variable {P : Program} {fn : Func} {tmps : Array Value} {w : World} {r1 r2 r3 r4 r5 : ResultVar} {v1 v2 v3 v4 v5 : Value}
theorem results_five (h : fn.results = #[r1, r2, r3, r4, r5]) (h1 : (rvSem tmps r1).run P w = .ok v1 w) (h2 : (rvSem tmps r2).run P w = .ok v2 w) (h3 : (rvSem tmps r3).run P w = .ok v3 w) (h4 : (rvSem tmps r4).run P w = .ok v4 w) (h5 : (rvSem tmps r5).run P w = .ok v5 w) : (results fn tmps).run P w = .ok (.tuple #[v1, v2, v3, v4, v5]) w := by
  have e : results fn tmps = (do let vs ← #[r1, r2, r3, r4, r5].mapM (rvSem tmps); pure (if h : vs.size = 1 then vs[0] else .tuple vs)) := by unfold results; rw [h]; rfl
  rw [e]
  simp [h1, h2, h3, h4, h5]
end
def nilM : Value := .agg #[.int .i64 0, .int .i64 0, .slice none 0 0]
theorem none4_any (w : World) (e : Int) : Calls Try.prog 93 #[.int .i64 e] w fun r w' => r = .returned (.tuple #[.slice none 0 0, nilM, nilM, .int .i64 e]) ∧ Below w.heap.size w w' := by
  obtain ⟨W0, hW0⟩ : ∃ W0, W0 = (w.alloc (.cells #[.int .i64 0, .int .i64 0, .slice none 0 0] 26)).alloc (.cells #[.int .i64 0, .int .i64 0, .slice none 0 0] 26) := ⟨_, rfl⟩
  have hB0 : Below w.heap.size w W0 := hW0 ▸ ((Below.refl _ _).alloc (Nat.le_refl _) _).alloc (by simp) _
  have x3 : Box W0 w.heap.size [.int .i64 0, .int .i64 0, .slice none 0 0] := hW0 ▸ (Box.newA w [_, _, _] _ rfl).alloc _
  have x4 : Box W0 (w.heap.size + 1) [.int .i64 0, .int .i64 0, .slice none 0 0] := hW0 ▸ Box.newA _ [_, _, _] _ (by simp)
  have HX := Lib.hid (show _ ∧ _ ∧ _ from ⟨hB0, x3, x4⟩)
  obtain ⟨p1, p2, p3⟩ := x3.facts
  obtain ⟨q1, q2, q3⟩ := x4.facts
  clear hB0 x3 x4
  go_enter Try.func93, Try.ntmps93
  go_upto_region 1 with (fail)
  rw [← hW0]
  clear hW0
  go_wp2_with fail
  obtain ⟨hB0, x3, x4⟩ := HX.out
  have z3 := (Box.put3 x3 (.int .i64 0) (.int .i64 0) (.slice none 0 0)).set_other3U (m := w.heap.size + 1) (by omega) (v0 := .int .i64 0) (v1 := .int .i64 0) (v2 := .slice none 0 0)
  have z4 := Box.put3 (x4.set_other3U (m := w.heap.size) (by omega) (v0 := .int .i64 0) (v1 := .int .i64 0) (v2 := .slice none 0 0)) (.int .i64 0) (.int .i64 0) (.slice none 0 0)
  exact bodyPost_ret (results_four rfl (rv_tmp rfl) (rv_cell (g := w.heap.size) rfl z3 rfl Try.underlying26 (by kernel_rfl)) (rv_cell (g := w.heap.size + 1) rfl z4 rfl Try.underlying26 (by kernel_rfl)) (rv_tmp rfl)) rfl ⟨rfl, below_put3 (below_put3 hB0 (Nat.le_refl _) _ _ _) (by omega) _ _ _⟩
theorem none5_any (w : World) (m e : Int) : Calls Try.prog 51 #[.int .i64 m, .int .i64 e] w fun r w' => r = .returned (.tuple #[.slice none 0 0, nilM, nilM, .int .i64 m, .int .i64 e]) ∧ Below w.heap.size w w' := by
  obtain ⟨W0, hW0⟩ : ∃ W0, W0 = (w.alloc (.cells #[.int .i64 0, .int .i64 0, .slice none 0 0] 26)).alloc (.cells #[.int .i64 0, .int .i64 0, .slice none 0 0] 26) := ⟨_, rfl⟩
  have hB0 : Below w.heap.size w W0 := hW0 ▸ ((Below.refl _ _).alloc (Nat.le_refl _) _).alloc (by simp) _
  have x3 : Box W0 w.heap.size [.int .i64 0, .int .i64 0, .slice none 0 0] := hW0 ▸ (Box.newA w [_, _, _] _ rfl).alloc _
  have x4 : Box W0 (w.heap.size + 1) [.int .i64 0, .int .i64 0, .slice none 0 0] := hW0 ▸ Box.newA _ [_, _, _] _ (by simp)
  have HX := Lib.hid (show _ ∧ _ ∧ _ from ⟨hB0, x3, x4⟩)
  obtain ⟨p1, p2, p3⟩ := x3.facts
  obtain ⟨q1, q2, q3⟩ := x4.facts
  clear hB0 x3 x4
  go_enter Try.func51, Try.ntmps51
  go_upto_region 1 with (fail)
  rw [← hW0]
  clear hW0
  go_wp2_with fail
  obtain ⟨hB0, x3, x4⟩ := HX.out
  have z3 := (Box.put3 x3 (.int .i64 0) (.int .i64 0) (.slice none 0 0)).set_other3U (m := w.heap.size + 1) (by omega) (v0 := .int .i64 0) (v1 := .int .i64 0) (v2 := .slice none 0 0)
  have z4 := Box.put3 (x4.set_other3U (m := w.heap.size) (by omega) (v0 := .int .i64 0) (v1 := .int .i64 0) (v2 := .slice none 0 0)) (.int .i64 0) (.int .i64 0) (.slice none 0 0)
  exact bodyPost_ret (results_five rfl (rv_tmp rfl) (rv_cell (g := w.heap.size) rfl z3 rfl Try.underlying26 (by kernel_rfl)) (rv_cell (g := w.heap.size + 1) rfl z4 rfl Try.underlying26 (by kernel_rfl)) (rv_tmp rfl) (rv_tmp rfl)) rfl ⟨rfl, below_put3 (below_put3 hB0 (Nat.le_refl _) _ _ _) (by omega) _ _ _⟩
-- END
end Go.Proofs.Ytdljnhdhigbefaa
