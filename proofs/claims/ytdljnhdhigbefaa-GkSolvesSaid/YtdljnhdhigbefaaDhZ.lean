/- The document's layer 17: its Solve (printed by gen_dh.py). No condition but on lengths. -/
import Derived.Test.YtdljnhdhigbefaaDgZ
import Derived.Test.YtdljnhdhigbefaaDkZ
namespace Go.Proofs.Ytdljnhdhigbefaa
open Go Go.RowKit
set_option maxRecDepth 1000000

theorem wpList_append_oneF {w : World} {ops : Array Oper} {rest : List Oper} {o : Oper} {a : Act} {Q : Exit → Act → World → Prop} (hgd : o.guard = none) (s x : Operand)
    (ho : o.op = .call { callee := .builtin .append, args := #[s, x], argTypes := #[22, 22] })
    (g : Nat) (hs : a.eval s = .slice (some ⟨g, 0, none⟩) 1 1) (hO : OwnF w g (.slice (some ⟨g, 0, none⟩) 1 1) [0]) (xa : Option Addr) (l2 : List Nat) (cap : Nat) (hx : a.eval x = .slice xa l2.length cap) (hZ : Fls w xa l2) (hn : xa = none → l2 = [] ∧ cap = 0) (hl : l2.length ≤ 262000) (hg : g < w.heap.size)
    (h : ∀ b c w', FS w' (some ⟨b, 0, none⟩) b (0 :: l2) → b < w'.heap.size → (b = g ∨ w.heap.size ≤ b) → Bel w.heap.size g w w' → wpList Try.prog ops Q rest (a.put o.dst (.slice (some ⟨b, 0, none⟩) (0 :: l2).length c)) w') : wpList Try.prog ops Q (o :: rest) a w :=
  wpList_plain hgd fun _ hK => wp_append_oneF s x ho g hs hO xa l2 cap hx hZ hn hl hg fun b c w' h1 h2 h3 h4 => hK _ _ (h b c w' h1 h2 h3 h4)
/-- What the document's solving comes to. -/
def RSolveGQ (w : World) (n ru rv : Nat) (y : GkS × Nat × Bool) (r : Ending) (w' : World) : Prop :=
  if y.2.2 = true ∧ y.1.d.all ffin = true then
    ∃ a c a1 c1 a2 c2, r = .returned (.tuple #[.slice a n c, .agg #[.int .i64 ru, .int .i64 n, .slice a1 (ru * n : Nat) c1], .agg #[.int .i64 rv, .int .i64 n, .slice a2 (rv * n : Nat) c2], .int .i64 (y.2.1 : Nat), .bool true]) ∧ Fls w' a (sortG n ru rv y.1.d y.1.u y.1.v n).1 ∧ Fls w' a1 (sortG n ru rv y.1.d y.1.u y.1.v n).2.1 ∧ Fls w' a2 (sortG n ru rv y.1.d y.1.u y.1.v n).2.2 ∧ Below w.heap.size w w'
  else r = .returned (.tuple #[.slice none 0 0, nilM, nilM, .int .i64 (y.2.1 : Nat), .bool false]) ∧ Below w.heap.size w w'
set_option maxHeartbeats 4000000 in
/-- What is made becomes what is held. -/
theorem RGk.mk0 {w W : World} {Y Z ru rv n ne : Nat} {ad ae au av : Option Addr} {dc ec uc vc bd be bu bv : Nat} {d e u v : List Nat}
    (hy : Box W Y [.int .i64 ru, .int .i64 n, .slice au (ru * n) uc]) (hz : Box W Z [.int .i64 rv, .int .i64 n, .slice av (rv * n) vc])
    (h3 : Box W (w.heap.size + 1 + 1 + 1) [.int .i64 0, .int .i64 0, .slice none 0 0]) (h4 : Box W (w.heap.size + 1 + 1 + 1 + 1) [.int .i64 0, .int .i64 0, .slice none 0 0])
    (hd : FS W ad bd d) (he : FS W ae be e) (hu : FS W au bu u) (hv : FS W av bv v)
    (hlu : u.length = ru * n ∧ u.length ≤ uc ∧ uc ≤ maxLen ∧ Words u) (hlv : v.length = rv * n ∧ v.length ≤ vc ∧ vc ≤ maxLen ∧ Words v)
    (hl : d.length = n ∧ e.length = ne) (hn : n ≤ ne ∧ ne ≤ 600 ∧ n ≤ 512 ∧ ru ≤ 512 ∧ rv ≤ 512) (hw : Words d ∧ Words e)
    (hY : w.heap.size + 1 + 1 + 1 + 1 < Y ∧ w.heap.size + 1 + 1 + 1 + 1 < Z ∧ Y ≠ Z) (hbd : d ≠ [] → w.heap.size + 1 + 1 + 1 + 1 < bd ∧ bd ≠ Y ∧ bd ≠ Z) (hbe : e ≠ [] → w.heap.size + 1 + 1 + 1 + 1 < be ∧ be ≠ Y ∧ be ≠ Z) (hbu : u ≠ [] → w.heap.size + 1 + 1 + 1 + 1 < bu ∧ bu ≠ Y ∧ bu ≠ Z) (hbv : v ≠ [] → w.heap.size + 1 + 1 + 1 + 1 < bv ∧ bv ≠ Y ∧ bv ≠ Z)
    (k1 : d ≠ [] → e ≠ [] → bd ≠ be) (k2 : d ≠ [] → u ≠ [] → bd ≠ bu) (k3 : d ≠ [] → v ≠ [] → bd ≠ bv) (k4 : e ≠ [] → u ≠ [] → be ≠ bu) (k5 : e ≠ [] → v ≠ [] → be ≠ bv) (k6 : u ≠ [] → v ≠ [] → bu ≠ bv)
    (hB : Below w.heap.size w W) : ∃ p : RgP, (p.Y = Y ∧ p.Z = Z ∧ p.n = n ∧ p.ne = ne ∧ p.ru = ru ∧ p.rv = rv ∧ p.ad = ad ∧ p.ae = ae ∧ p.dc = dc ∧ p.ec = ec) ∧ RGk w W p ⟨d, e, u, v⟩ := by
  obtain ⟨N, hN⟩ : ∃ N, N = Y + Z + bd + be + bu + bv + 1 := ⟨_, rfl⟩
  have pick : ∀ (l : List Nat) (a : Option Addr) (b k : Nat), FS W a b l → ∃ b', FS W a b' l ∧ ((l = [] ∧ b' = N + k) ∨ (l ≠ [] ∧ b' = b)) := fun l a b k h => by
    by_cases h0 : l = []
    · exact ⟨N + k, .inl h0, .inl ⟨h0, rfl⟩⟩
    · exact ⟨b, h, .inr ⟨h0, rfl⟩⟩
  obtain ⟨b1, f1, g1⟩ := pick _ _ _ 0 hd
  obtain ⟨b2, f2, g2⟩ := pick _ _ _ 1 he
  obtain ⟨b3, f3, g3⟩ := pick _ _ _ 2 hu
  obtain ⟨b4, f4, g4⟩ := pick _ _ _ 3 hv
  refine ⟨⟨Y, Z, n, ne, ru, rv, ad, ae, au, av, dc, ec, uc, vc, b1, b2, b3, b4⟩, ⟨rfl, rfl, rfl, rfl, rfl, rfl, rfl, rfl, rfl, rfl⟩, hy, hz, h3, h4, f1, f2, ⟨f3, hlu.1, ⟨hlu.2.1, hlu.2.2.1⟩, hlu.2.2.2⟩, ⟨f4, hlv.1, ⟨hlv.2.1, hlv.2.2.1⟩, hlv.2.2.2⟩, hl.1, hl.2, hn, hw.1, hw.2, ?_, ?_, hB⟩
  · have hNN : Y < N ∧ Z < N ∧ bd < N ∧ be < N ∧ bu < N ∧ bv < N := by omega
    have P1 : ∀ (l : List Nat) (b b' k X : Nat), ((l = [] ∧ b' = N + k) ∨ (l ≠ [] ∧ b' = b)) → X < N → (l ≠ [] → b ≠ X) → X ≠ b' := fun l b b' k X h h1 h2 => by
      rcases h with ⟨_, h⟩ | ⟨z, h⟩
      · omega
      · have := h2 z; omega
    have P2 : ∀ (l : List Nat) (b b' k : Nat) (l2 : List Nat) (c c' k2 : Nat), ((l = [] ∧ b' = N + k) ∨ (l ≠ [] ∧ b' = b)) → ((l2 = [] ∧ c' = N + k2) ∨ (l2 ≠ [] ∧ c' = c)) → k ≠ k2 → b < N → c < N → (l ≠ [] → l2 ≠ [] → b ≠ c) → b' ≠ c' := fun l b b' k l2 c c' k2 h h1 h2 h3 h4 h5 => by
      rcases h with ⟨_, h⟩ | ⟨z, h⟩ <;> rcases h1 with ⟨_, h1⟩ | ⟨z1, h1⟩
      · omega
      · omega
      · omega
      · have := h5 z z1; omega
    simp only [List.nodup_cons, List.mem_cons, List.not_mem_nil, or_false, not_or, not_false_eq_true, List.nodup_nil, and_true]
    refine ⟨⟨hY.2.2, P1 d bd b1 0 Y g1 hNN.1 (fun h => (hbd h).2.1), P1 e be b2 1 Y g2 hNN.1 (fun h => (hbe h).2.1), P1 u bu b3 2 Y g3 hNN.1 (fun h => (hbu h).2.1), P1 v bv b4 3 Y g4 hNN.1 (fun h => (hbv h).2.1)⟩, ⟨P1 d bd b1 0 Z g1 hNN.2.1 (fun h => (hbd h).2.2), P1 e be b2 1 Z g2 hNN.2.1 (fun h => (hbe h).2.2), P1 u bu b3 2 Z g3 hNN.2.1 (fun h => (hbu h).2.2), P1 v bv b4 3 Z g4 hNN.2.1 (fun h => (hbv h).2.2)⟩, ⟨P2 d bd b1 0 e be b2 1 g1 g2 (by decide) hNN.2.2.1 hNN.2.2.2.1 k1, P2 d bd b1 0 u bu b3 2 g1 g3 (by decide) hNN.2.2.1 hNN.2.2.2.2.1 k2, P2 d bd b1 0 v bv b4 3 g1 g4 (by decide) hNN.2.2.1 hNN.2.2.2.2.2 k3⟩, ⟨P2 e be b2 1 u bu b3 2 g2 g3 (by decide) hNN.2.2.2.1 hNN.2.2.2.2.1 k4, P2 e be b2 1 v bv b4 3 g2 g4 (by decide) hNN.2.2.2.1 hNN.2.2.2.2.2 k5⟩, P2 u bu b3 2 v bv b4 3 g3 g4 (by decide) hNN.2.2.2.2.1 hNN.2.2.2.2.2 k6⟩
  · have P3 : ∀ (l : List Nat) (b b' k : Nat), ((l = [] ∧ b' = N + k) ∨ (l ≠ [] ∧ b' = b)) → (l ≠ [] → w.heap.size + 1 + 1 + 1 + 1 < b) → w.heap.size + 1 + 1 + 1 + 1 < b' := fun l b b' k h h2 => by
      rcases h with ⟨_, h⟩ | ⟨z, h⟩
      · omega
      · have := h2 z; omega
    exact ⟨hY.1, hY.2.1, P3 d bd b1 0 g1 (fun h => (hbd h).1), P3 e be b2 1 g2 (fun h => (hbe h).1), P3 u bu b3 2 g3 (fun h => (hbu h).1), P3 v bv b4 3 g4 (fun h => (hbv h).1)⟩

set_option maxHeartbeats 32000000 in
theorem RSolve17 (w : World) (da ea ua va : Option Addr) (d e u v : List Nat) (dc ec uc vc ru rv : Nat) (hd : Fls w da d) (he : Fls w ea e) (hu : Fls w ua u) (hv : Fls w va v) (hda : da = none → d = [] ∧ dc = 0) (hea : ea = none → e = [] ∧ ec = 0) (hua : ua = none → u = [] ∧ uc = 0) (hva : va = none → v = [] ∧ vc = 0) (hW : Words d) (hWe : Words e) (hWu : Words u) (hWv : Words v) (hn : d.length ≤ 512) (hel : mayT d.length e.length = true) (hru : ru ≤ 512) (hrv : rv ≤ 512) (hul : u.length = ru * d.length) (hvl : v.length = rv * d.length) :
    Calls Try.prog 19 #[.agg #[.slice da d.length dc, .slice ea e.length ec], .agg #[.int .i64 ru, .int .i64 d.length, .slice ua u.length uc], .agg #[.int .i64 rv, .int .i64 d.length, .slice va v.length vc]] w (RSolveGQ w d.length ru rv (solG d.length ru rv (bigG d (0 :: e) d.length) d.length ⟨d, 0 :: e, u, v⟩ 0)) := by
  have hlu : u.length ≤ 262144 := by rw [hul]; exact Nat.le_trans (Nat.mul_le_mul hru hn) (by decide)
  have hlv : v.length ≤ 262144 := by rw [hvl]; exact Nat.le_trans (Nat.mul_le_mul hrv hn) (by decide)
  have hle : e.length ≤ 512 := by unfold mayT at hel; simp at hel; omega
  have hne : d.length ≤ e.length + 1 := by unfold mayT at hel; simp at hel; omega
  obtain ⟨y, hy⟩ : ∃ y, y = solG d.length ru rv (bigG d (0 :: e) d.length) d.length ⟨d, 0 :: e, u, v⟩ 0 := ⟨_, rfl⟩
  rw [← hy]
  have HY := Lib.hid hy
  have HCu := Lib.hid (fun W (h : Below w.heap.size w W) => Copy9 W (ru : Int) (d.length : Int) ua u uc (hu.below h) hlu hua)
  have HCv := Lib.hid (fun W (h : Below w.heap.size w W) => Copy9 W (rv : Int) (d.length : Int) va v vc (hv.below h) hlv hva)
  have HDE := Lib.hid (show _ ∧ _ ∧ _ ∧ _ from ⟨hd, he, hda, hea⟩)
  have HL := Lib.hid (show _ ∧ _ ∧ _ ∧ _ ∧ _ ∧ _ ∧ _ from ⟨hul, hvl, hn, hru, hrv, hle, hne⟩)
  have HWd := Lib.hid (show _ ∧ _ ∧ _ ∧ _ from ⟨hW, hWe, hWu, hWv⟩)
  obtain ⟨W0, hW0⟩ : ∃ W0, W0 = (((((w.alloc (.cells #[.slice da d.length dc, .slice ea e.length ec] 24)).alloc (.cells #[.int .i64 ru, .int .i64 d.length, .slice ua u.length uc] 26)).alloc (.cells #[.int .i64 rv, .int .i64 d.length, .slice va v.length vc] 26)).alloc (.cells #[.int .i64 0, .int .i64 0, .slice none 0 0] 26)).alloc (.cells #[.int .i64 0, .int .i64 0, .slice none 0 0] 26)) := ⟨_, rfl⟩
  have hB0 : Below w.heap.size w W0 := hW0 ▸ (((((Below.refl _ _).alloc (Nat.le_refl _) _).alloc (by simp) _).alloc (by simp; omega) _).alloc (by simp; omega) _).alloc (by simp; omega) _
  have x0 : Box W0 (w.heap.size) [.slice da d.length dc, .slice ea e.length ec] := hW0 ▸ (((((Box.newA w [.slice da d.length dc, .slice ea e.length ec] _ rfl).alloc _).alloc _).alloc _).alloc _)
  have x1 : Box W0 (w.heap.size + 1) [.int .i64 ru, .int .i64 d.length, .slice ua u.length uc] := hW0 ▸ ((((Box.newA _ [.int .i64 ru, .int .i64 d.length, .slice ua u.length uc] _ (by simp)).alloc _).alloc _).alloc _)
  have x2 : Box W0 (w.heap.size + 1 + 1) [.int .i64 rv, .int .i64 d.length, .slice va v.length vc] := hW0 ▸ (((Box.newA _ [.int .i64 rv, .int .i64 d.length, .slice va v.length vc] _ (by simp)).alloc _).alloc _)
  have x3 : Box W0 (w.heap.size + 1 + 1 + 1) [.int .i64 0, .int .i64 0, .slice none 0 0] := hW0 ▸ ((Box.newA _ [.int .i64 0, .int .i64 0, .slice none 0 0] _ (by simp)).alloc _)
  have x4 : Box W0 (w.heap.size + 1 + 1 + 1 + 1) [.int .i64 0, .int .i64 0, .slice none 0 0] := hW0 ▸ (Box.newA _ [.int .i64 0, .int .i64 0, .slice none 0 0] _ (by simp))
  have S0 := Lib.hid (show BoxU w W0 [(w.heap.size, [.slice da d.length dc, .slice ea e.length ec]), (w.heap.size + 1, [.int .i64 ru, .int .i64 d.length, .slice ua u.length uc]), (w.heap.size + 1 + 1, [.int .i64 rv, .int .i64 d.length, .slice va v.length vc]), (w.heap.size + 1 + 1 + 1, [.int .i64 0, .int .i64 0, .slice none 0 0]), (w.heap.size + 1 + 1 + 1 + 1, [.int .i64 0, .int .i64 0, .slice none 0 0])] from ⟨fun p hp => by
    simp only [List.mem_cons, List.not_mem_nil, or_false] at hp
    rcases hp with rfl | rfl | rfl | rfl | rfl
    · exact x0
    · exact x1
    · exact x2
    · exact x3
    · exact x4
    , hB0⟩)
  clear hB0 x0 x1 x2 x3 x4 hd he hu hv hda hea hua hva hW hWe hWu hWv hn hel hru hrv hul hvl hlu hlv hle hne hy
  go_enter Try.func19, Try.ntmps19
  go_upto_region 1 with (fail)
  rw [← hW0]
  clear hW0
  obtain ⟨f01, f02, f03⟩ := (S0.out.get 0 rfl).facts
  go_upto_region 2 with (fail)
  refine region2_q _ _ _ _ _ _ _ _ _ _ _ _ _ _ _ _ _ _ _ _ _ _ _ _ _ _ _ _ _ _ _ _ _ _ _ _ _ _ _ _ _ _ _ _ _ _ _ _ _ _ _ _ _ _ _ _ _ _ _ _ _ _ _ _ _ _ _ _ _ _ _ _ _ _ _ _ _ _ _ _ _ _ _ _ _ _ _ _ _ _ _ _ _ _ _ _ _ _ _ _ _ _ _ _ _ _ _ _ _ _ _ _ _ _ _ _ _ _ _ _ _ _ _ _ _ _ _ _ _ _ _ _ _ _ _ _ _ _ _ _ _ _ _ _ _ _ _ _ _ _ _ _ _ _ _ _ _ _ _ _ _ _ _ _ _ _ _ _ _ _ _ _ _ _ _ _ _ _ _ _ _ _ _ _ _ _ _ _ _ _ _ _ _ _ _ _ _ _ _ _ _ _ _ _ _ _ _ _ _ _ _ _ _ _ _ _ _ _ _ _ _ _ _ _ _ _ _ _ _ _ _ _ _ _ _ _ _ _ _ _ _ _ _ _ _ _ _ _ _ _ _ _ _ _ _ _ _ _ _ _ _ _ _ _ _ _ _ _ _ _ _ _ _ _ _ _ _ _ _ _ _ _ _ _ _ _ _ _ _ _ _ _ _ _ _ _ _ _ _ _ _ _ _ _ _ _ _ _ _ _ _ _ _ _ _ _ _ _ _ _ _ _ _ _ _ _ _ _ _ _ _ _ _ _ _ _ _ _ _ _ _ _ _ _ _ _ _ _ _ _ _ _ _ _ _ _ _ _ _ _ _ _ _ _ _ _ _ _ _ _ _ _ _ _ _ _ _ _ _ _ _ _ _ _ _ _ _ _ _ _ _ _ _ _ _ _ _ _ _ _ _ _ _ _ _ _ _ _ _ _ _ _ _ _ _ _ _ _ _ w da ea ua va d e u v dc ec uc vc ru rv W0 S0.out HCu.out HCv.out _ ?_
  intro u12 u13 u49 u50 u51 u52 wc hcut
  clear f01 f02 f03
  obtain ⟨bY, bZ, a2, a3, b2, c2, b3, c3, rfl, rfl, hS, hY, hZ, hu, hv, hcp, hyz, hu2, hv2, huv⟩ := hcut
  have HR := Lib.hid (show BoxU w wc _ ∧ Box wc bY _ ∧ Box wc bZ _ ∧ FS wc a2 b2 u ∧ FS wc a3 b3 v from ⟨hS, hY, hZ, hu, hv⟩)
  have HN := Lib.hid (show _ ∧ _ ∧ _ ∧ _ from ⟨hyz, hu2, hv2, huv⟩)
  have HCP := Lib.hid hcp
  have HBL := Lib.hid (show bY < wc.heap.size ∧ bZ < wc.heap.size ∧ (u ≠ [] → b2 < wc.heap.size) ∧ (v ≠ [] → b3 < wc.heap.size) from ⟨hY.lt, hZ.lt, fun h => (hu.resolve_left h).2.lt, fun h => (hv.resolve_left h).2.lt⟩)
  clear hS hY hZ hu hv hyz hu2 hv2 huv hcp S0 HCu HCv
  obtain ⟨f01, f02, f03⟩ := (HR.out.1.get 0 rfl).facts
  go_upto_region 4 with (at_builtin; refine wpList_append_anyF rfl (.const (.slice none 0 0)) (.tmp 54) rfl wc.heap.size _ [] rfl (OwnF.nil _ _) da d dc rfl (HDE.out.1.below HR.out.1.below) HDE.out.2.2.1 (by have := HL.out.2.2.1; simp; omega) (Nat.le_refl _) ?_; rintro v1 W1 hO1 hb1; rw [List.nil_append] at hO1; obtain ⟨a1, b1, c1, rfl, kd1, kd2, kd3, hFd, kd4⟩ := hO1.fs)
  clear f01 f02 f03
  have hs1 := hb1.size
  have HR1 := Lib.hid (show BoxU w W1 _ ∧ Box W1 bY _ ∧ Box W1 bZ _ ∧ FS W1 a2 b2 u ∧ FS W1 a3 b3 v ∧ FS W1 a1 b1 d from ⟨HR.out.1.step hb1, HR.out.2.1.below hb1, HR.out.2.2.1.below hb1, HR.out.2.2.2.1.below hb1, HR.out.2.2.2.2.below hb1, hFd⟩)
  have HN1 := Lib.hid (show wc.heap.size ≤ b1 ∧ (d ≠ [] → b1 < W1.heap.size) ∧ wc.heap.size ≤ W1.heap.size from ⟨kd3, kd4, hs1⟩)
  clear hO1 hb1 kd1 kd2 kd3 kd4 hFd hs1 HR
  obtain ⟨f01, f02, f03⟩ := (HR1.out.1.get 0 rfl).facts
  have HZ := Lib.hid (OwnF.zero W1)
  have hbz := (Below.refl W1.heap.size W1).alloc (Nat.le_refl _) (.cells #[.float .f64 0] 40)
  have HZB := Lib.hid hbz
  clear hbz
  go_upto_region 5 with (at_builtin; refine wpList_append_oneF rfl (.tmp 56) (.tmp 58) rfl W1.heap.size rfl HZ.out ea e ec rfl (HDE.out.2.1.below (HR1.out.1.step HZB.out).below) HDE.out.2.2.2 (by have := HL.out.2.2.2.2.2.1; omega) (by simp) ?_; rintro b6 c6 W3 hF6 hlt6 hb6 hB6)
  clear f01 f02 f03
  have hsz := HZB.out.size
  have HS3 := Lib.hid hB6
  obtain ⟨W2, hW2⟩ : ∃ x, x = W1.alloc (.cells #[.float .f64 0] 40) := ⟨_, rfl⟩
  rw [← hW2] at hB6 hb6 HS3 hsz
  have h12 : Below W1.heap.size W1 W2 := hW2 ▸ HZB.out
  have hl1 : W1.heap.size < W2.heap.size := by rw [hW2]; simp
  clear HS3 HZ HZB hW2 hsz
  have hL := HL.out
  have hN := HN.out
  have hN1 := HN1.out
  have hBL := HBL.out
  have h13 : W1.heap.size ≤ W3.heap.size := Nat.le_trans h12.size hB6.size
  obtain ⟨p, hp, hG⟩ : ∃ p : RgP, (p.Y = bY ∧ p.Z = bZ ∧ p.n = d.length ∧ p.ne = (0 :: e).length ∧ p.ru = ru ∧ p.rv = rv ∧ p.ad = a1 ∧ p.ae = some ⟨b6, 0, none⟩ ∧ p.dc = c1 ∧ p.ec = c6) ∧ RGk w W3 p ⟨d, 0 :: e, u, v⟩ := by
    obtain ⟨g0, g1, g2, g3, g4, g5⟩ := HR1.out
    have i0 := (g0.step h12).belV (by have := g0.below.size; omega) (fun p hp => by have := (g0.get 4 rfl).lt; simp only [List.mem_cons, List.not_mem_nil, or_false] at hp; rcases hp with rfl | rfl | rfl | rfl | rfl <;> (show _ ≠ _) <;> simp <;> omega) hB6
    have i1 := (g1.below h12).bel (by omega) hB6
    have i2 := (g2.below h12).bel (by omega) hB6
    have i3 := (g3.below h12).belC (fun h => by have := hBL.2.2.1 h; omega) hB6
    have i4 := (g4.below h12).belC (fun h => by have := hBL.2.2.2 h; omega) hB6
    have i5 := (g5.below h12).belC (fun h => by have := hN1.2.1 h; omega) hB6
    rw [hL.1] at i1
    rw [hL.2.1] at i2
    have e4 := (g0.get 4 rfl).lt
    exact RGk.mk0 i1 i2 (i0.get 3 rfl) (i0.get 4 rfl) i5 hF6 i3 i4 ⟨hL.1, HCP.out.1, HCP.out.2.1, HWd.out.2.2.1⟩ ⟨hL.2.1, HCP.out.2.2.1, HCP.out.2.2.2, HWd.out.2.2.2⟩ ⟨rfl, rfl⟩ ⟨by simp; omega, by simp; omega, hL.2.2.1, hL.2.2.2.1, hL.2.2.2.2.1⟩ ⟨HWd.out.1, fun x hx => by rcases List.mem_cons.1 hx with rfl | h; decide; exact HWd.out.2.1 x h⟩ hN.1
      (fun h => by have := hN1.2.1 h; omega) (fun _ => by omega) hN.2.1 hN.2.2.1 (fun h _ => by have := hN1.2.1 h; omega) (fun h k => by have := hN1.2.1 h; have := hBL.2.2.1 k; omega) (fun h k => by have := hN1.2.1 h; have := hBL.2.2.2 k; omega) (fun _ k => by have := hBL.2.2.1 k; omega) (fun _ k => by have := hBL.2.2.2 k; omega) hN.2.2.2 i0.below
  have HG := Lib.hid hG
  obtain ⟨h1, h2, h3, h4, h5, h6, h7, h8, h9, h10⟩ := hp
  clear hL hN hN1 hBL hB6 hb6 hF6 hlt6 h12 hl1 h13 HR1 HN HN1 HBL HCP
  obtain ⟨n, hnn⟩ : ∃ n, n = d.length := ⟨_, rfl⟩
  rw [← hnn] at h3 HY ⊢
  have HND := Lib.hid hnn
  clear hnn
  have HE := Lib.hid (show ru = p.ru ∧ rv = p.rv ∧ e.length + 1 = p.ne from ⟨h5.symm, h6.symm, by rw [h4]; simp⟩)
  have he6 : (Value.slice (some ⟨b6, 0, none⟩) (e.length + 1) c6) = .slice p.ae p.ne p.ec := by rw [h8, h4, h10, List.length_cons]
  rw [he6]
  clear he6 h4 h5 h6 h8 h10
  subst h1 h2 h3 h7 h9
  have HY1 := Lib.hid (show y = solG p.n p.ru p.rv (bigG d (0 :: e) p.n) p.n ⟨d, 0 :: e, u, v⟩ 0 by rw [← HE.out.1, ← HE.out.2.1]; exact HY.out)
  clear HY
  have hn5 : p.n ≤ 512 := HG.out.hn.2.2.1
  go_wp2_with fail
  go_loopw [16, 17] (fun s16 s17 wr => ∃ (i sb : Nat), s16 = .float .f64 (raw (bigG d (0 :: e) i) sb) ∧ s17 = .int .i64 i ∧ i ≤ p.n ∧ bigG d (0 :: e) i < 18446744073709551616 ∧ RGk w wr p ⟨d, 0 :: e, u, v⟩) (fun _ s17 _ => p.n - (intOf s17).toNat)
  case atStart => exact ⟨0, 0, by show _ = Value.float .f64 (raw 0 0); rw [raw_of_not (by kernel_rfl)], rfl, Nat.zero_le _, (show (0 : Nat) < 18446744073709551616 by decide), HG.out⟩
  case round =>
    obtain ⟨i, sb, rfl, rfl, hi, hbl, hG⟩ := hrel
    have G2 := Lib.hid hG
    have HI := Lib.hid hi
    clear hG hi HG
    obtain ⟨big, hbig⟩ : ∃ b, b = bigG d (0 :: e) i := ⟨_, rfl⟩
    rw [← hbig] at hbl ⊢
    have HB := Lib.hid (show big = bigG d (0 :: e) i ∧ big < 18446744073709551616 from ⟨hbig, hbl⟩)
    clear hbig hbl
    by_cases hlt : i < p.n
    case pos =>
      have HN := Lib.hid (show 0 < p.n ∧ i < p.n ∧ i < p.ne ∧ i < 1000 from by have := G2.out.hn; omega)
      have hin := HN.out.2.1
      have hie := HN.out.2.2.1
      have hi9 := HN.out.2.2.2
      obtain ⟨ha1, ha2⟩ : p.ad = some ⟨p.bd, 0, none⟩ ∧ p.ae = some ⟨p.be, 0, none⟩ := ⟨(G2.out.addr HN.out.1).1.1, (G2.out.addr HN.out.1).2.1⟩
      rw [ha1, ha2]
      have HA := Lib.hid (And.intro ha1 ha2)
      clear ha1 ha2
      obtain ⟨di, hdi⟩ : ∃ x, x = d.getD i 0 := ⟨_, rfl⟩
      obtain ⟨ei, hei⟩ : ∃ x, x = (0 :: e).getD i 0 := ⟨_, rfl⟩
      have HED := Lib.hid (show di = d.getD i 0 ∧ ei = (0 :: e).getD i 0 ∧ di < 18446744073709551616 ∧ ei < 18446744073709551616 from ⟨hdi, hei, hdi ▸ G2.out.wd.at _, hei ▸ G2.out.we.at _⟩)
      clear hdi hei
      go_upto_region 9 with (fail)
      have G3 := Lib.hid (show RGk w wr.drew p _ from G2.out.step (below_drewN 1 (Below.refl _ wr)))
      clear G2
      obtain ⟨sd, cd⟩ := G3.out.atD HN.out.2.1
      obtain ⟨se, ce⟩ := G3.out.atE HN.out.1 HN.out.2.2.1
      dsimp only at cd ce
      rw [← HED.out.1] at cd
      rw [← HED.out.2.1] at ce
      have HS := Lib.hid (show _ ∧ _ from ⟨cd, ce⟩)
      clear cd ce
      refine wp_region_items 9 [(true, 0), (true, 1), (true, 2), (true, 3), (true, 5), (true, 6), (true, 7), (true, 8), (false, 4)] (fun W => W.cell? ⟨p.bd, i, none⟩ = some (.float .f64 (raw di sd)) ∧ W.cell? ⟨p.be, i, none⟩ = some (.float .f64 (raw ei se))) (by kernel_rfl) (by kernel_rfl) HS.out ?_
      generalize wr.drew = w1 at *
      iterate 8 (refine iW_take (v := ?_) rfl rfl ?_ ?_; rotate_left; (next => (intro w' hSw; (try dsimp only at hSw); go_simp; (try (rw [if_pos (by omega)]; go_simp)); (try with_reducible rfl))); (simp only [Act.put, List.setIfInBounds_toArray, List.set_cons_zero, List.set_cons_succ]))
      refine iW_mid rfl rfl ?_
      go_simp
      refine (RAbsF di sd HED.out.2.2.1 w1).mono ?_
      rintro e_ w2 ⟨⟨s1, rfl⟩, rfl⟩
      refine ⟨HS.out, ?_⟩
      refine iW_nil ?_
      go_simp
      go_wp2_with fail
      refine (RAbsF ei se HED.out.2.2.2 w1).mono ?_
      rintro e_ w3 ⟨⟨s2, rfl⟩, rfl⟩
      go_wp2_with (first | (refine wpList_flt rfl rfl rfl rfl rfl ?_; intro K hK s3 n3; go_frame; refine hK _ _ ?_; clear hK K))
      refine NoPanic.normal ?_
      simp only [fadd_rawl, fadd_rawr]
      have hb := below_drewN n3 (Below.refl w1.heap.size w1)
      have G4 := Lib.hid (G3.out.step hb)
      generalize w1.drewN n3 = w2 at *
      clear hb G3 HS
      obtain ⟨T, hT⟩ : ∃ x, x = fadd (fabs di) (fabs ei) := ⟨_, rfl⟩
      rw [← hT]
      have HT := Lib.hid (show T = fadd (fabs di) (fabs ei) ∧ T < 18446744073709551616 from ⟨hT, hT ▸ fadd_lt _ _⟩)
      clear hT
      have HBN := Lib.hid (show bigG d (0 :: e) (i + 1) = if flt big T then T else big by rw [bigG, ← HB.out.1, ← HED.out.1, ← HED.out.2.1, ← HT.out.1])
      go_upto_region 10 with (fail)
      cases hq : flt big T
      case false =>
        have HBN2 := Lib.hid (show bigG d (0 :: e) (i + 1) = big by rw [HBN.out, hq]; rfl)
        go_wp2_with fail
        go_roundw
        case rel => exact ⟨i + 1, sb, by rw [HBN2.out], by go_num, hlt, by rw [HBN2.out]; exact HB.out.2, G4.out⟩
        case measure => simp [intOf]; omega
      case true =>
        have HBN2 := Lib.hid (show bigG d (0 :: e) (i + 1) = T by rw [HBN.out, hq]; rfl)
        go_wp2_with fail
        go_roundw
        case rel => exact ⟨i + 1, s3, by rw [HBN2.out], by go_num, hlt, by rw [HBN2.out]; exact HT.out.2, G4.out⟩
        case measure => simp [intOf]; omega
    case neg =>
      have hid : i = p.n := by have := HI.out; omega
      have HY2 := Lib.hid (show solG p.n p.ru p.rv big p.n ⟨d, 0 :: e, u, v⟩ 0 = y by rw [HB.out.1, hid]; exact HY1.out.symm)
      clear hid HI HY1 HB
      go_wp2_with fail
      go_loopw [19, 20] (fun s19 s20 wk => ∃ (m s : Nat) (K : Int) (S : GkS), s19 = .int .i64 s ∧ s20 = .int .i64 K ∧ K = (m : Int) - 1 ∧ m ≤ p.n ∧ s + 30 * m ≤ 30 * p.n ∧ solG p.n p.ru p.rv big m S s = y ∧ RGk w wk p S) (fun _ s20 _ => (intOf s20 + 1).toNat)
      case atStart => exact ⟨p.n, 0, _, _, rfl, rfl, by first | rfl | (unfold wrap64; omega) | (rw [IntKind.wrap_i64]; omega), Nat.le_refl _, by omega, HY2.out, G2.out⟩
      case round =>
        obtain ⟨m, s, K, S, rfl, rfl, hK, hm, hs, hy, hG⟩ := hrel
        have G4 := Lib.hid hG
        have HY3 := Lib.hid hy
        have HM := Lib.hid (And.intro hm hs)
        clear hG hy hm hs G2 HY2
        by_cases hm0 : 0 < m
        case pos =>
          obtain ⟨k, hk⟩ : ∃ k, m = k + 1 := ⟨m - 1, by omega⟩
          subst hk
          obtain rfl : K = (k : Int) := by omega
          clear hm0 hK
          have HK := Lib.hid (show k < p.n ∧ 0 < p.n ∧ k < 1000 ∧ s + 30 * k + 30 ≤ 30 * p.n ∧ s ≤ 19000 from by have h2 := HM.out; omega)
          have hkd := HK.out.1
          have hk5 := HK.out.2.2.1
          have HSt := Lib.hid (show (let z := valG p.n p.ru p.rv big k 30 S; if z.2.2 then solG p.n p.ru p.rv big k z.1 (s + z.2.1) else (z.1, s + z.2.1, false)) = y from HY3.out)
          clear HY3 HM
          obtain ⟨ha1, ha2⟩ : p.ad = some ⟨p.bd, 0, none⟩ ∧ p.ae = some ⟨p.be, 0, none⟩ := ⟨(G4.out.addr HK.out.2.1).1.1, (G4.out.addr HK.out.2.1).2.1⟩
          have HA := Lib.hid (And.intro ha1 ha2)
          rw [ha1, ha2]
          clear ha1 ha2
          go_upto_block 3 with (fail)
          refine value_part_q _ _ _ _ _ _ _ _ _ _ _ _ _ _ _ _ _ _ _ _ _ _ _ _ _ _ _ _ _ _ _ _ _ _ _ _ _ _ _ _ _ _ _ _ _ _ _ _ _ _ _ _ _ _ _ _ _ _ _ _ _ _ _ _ _ _ _ _ _ _ _ _ _ _ _ _ _ _ _ _ _ _ _ _ _ _ _ _ _ _ _ _ _ _ _ _ _ _ _ _ _ _ _ _ _ _ _ _ _ _ _ _ _ _ _ _ _ _ _ _ _ _ _ _ _ _ _ _ _ _ _ _ _ _ _ _ _ _ _ _ _ _ _ _ _ _ _ _ _ _ _ _ _ _ _ _ _ _ _ _ _ _ _ _ _ _ _ _ _ _ _ _ _ _ _ _ _ _ _ _ _ _ _ _ _ _ _ _ _ _ _ _ _ _ _ _ _ _ _ _ _ _ _ _ _ _ _ _ _ _ _ _ _ _ _ _ _ _ _ _ _ _ _ _ _ _ _ _ _ _ _ _ _ _ _ _ _ _ _ _ _ _ _ _ _ _ _ _ _ _ _ _ _ _ _ _ _ _ _ _ _ _ _ _ _ _ _ _ _ _ _ _ _ _ _ _ _ _ _ _ _ _ _ _ _ _ _ _ _ _ _ _ _ _ _ _ _ _ _ _ _ _ _ _ _ _ _ _ _ _ _ _ _ _ _ _ _ _ _ _ _ _ _ _ _ _ _ _ _ _ _ _ _ _ _ _ _ _ _ _ _ _ _ _ _ _ _ _ _ _ _ _ _ _ _ _ _ _ _ _ _ _ _ _ _ _ _ _ _ _ _ _ _ _ _ _ _ _ _ _ _ _ _ _ _ _ _ _ _ _ _ _ _ _ _ _ _ _ _ _ _ _ _ _ _ _ _ _ _ _ _ _ p S big sb s k w wr G4.out HK.out.1 HK.out.2.2.2.2 _ ?_ ?_
          · intro u6 u9 u10 u19 u21 u22 u23 u24 u25 u26 u27 u28 u29 u30 u31 u32 u33 u34 u35 u36 u37 u38 u39 u40 u41 u42 u43 u44 u45 u86 u87 u88 u89 u90 u91 u92 u93 u94 u95 u96 u97 u98 u99 u100 u101 u102 u103 u104 u105 u106 u107 u108 u109 u110 u111 u112 u113 u114 u115 u116 u117 u118 u119 u120 u121 u122 u123 u124 u125 u126 u127 u128 u129 u130 u131 u132 u133 u134 u135 u136 u137 u138 u139 u140 u141 u142 u143 u144 u145 u146 u147 u148 u149 u150 u151 u152 u153 u154 u155 u156 u157 u158 u159 u160 u161 u162 u163 u164 u165 u166 u167 u168 u169 u170 u171 u172 u173 u174 u175 u176 u177 u178 u179 u180 u181 u182 u183 u184 u185 u186 u187 u188 u189 u190 u191 u192 u193 u194 u195 u196 u197 u198 u199 u200 u201 u202 u203 u204 u205 u206 u207 u208 u209 u210 u211 u212 u213 u214 u215 u216 u217 u218 u219 u220 u221 u222 u223 u224 u225 u226 u227 u228 u229 u230 u231 u232 u233 u234 u235 u236 u237 u238 u239 u240 u241 u242 u243 u244 u245 u246 u247 u248 u249 u250 u251 u252 u253 u254 u255 u256 u257 u258 u259 u260 u261 u262 u263 u264 u265 u266 u267 u268 u269 u270 u271 u272 u273 u274 u275 u276 u277 u278 u279 u280 u281 u282 u283 u284 u285 u286 u287 u288 u289 u290 u291 u292 u293 u294 u295 u296 u297 u298 u299 u300 u301 u302 u303 u304 u305 u306 u307 u308 u309 u310 u311 u312 u313 u314 u315 u316 u317 u318 u319 u320 u321 u322 u323 u324 u325 u326 u327 u328 u329 u330 u331 u332 u333 u334 u335 u336 u337 u338 u339 u340 u341 u342 u343 u344 u345 u346 u347 u348 u349 u350 u351 u352 u353 u354 u355 u356 u357 u358 u359 u360 u361 u362 u363 u364 u365 u366 u367 u368 u369 u370 u371 u372 u373 u374 u375 u376 u377 u378 u379 u380 u381 u382 u383 u384 u385 u386 u387 u388 u389 u390 u391 u392 u393 u394 u395 u396 u397 u398 u399 u400 u401 u402 u403 u404 u405 u406 w1 hcut
            obtain ⟨T, j, hv, hj, rfl, hT⟩ := hcut
            have HT := Lib.hid hT
            have HS2 := Lib.hid (show solG p.n p.ru p.rv big k T (s + j) = y by have h := HSt.out; rw [hv] at h; exact h)
            have HJ9 := Lib.hid hj
            clear hv hT HSt hj G4
            (try dsimp only)
            go_wp2_with fail
            go_roundw
            case rel => exact ⟨k, s + j, _, T, rfl, rfl, by first | rfl | (unfold wrap64; omega) | (rw [IntKind.wrap_i64]; omega), by omega, by have := HK.out; have := HJ9.out; omega, HS2.out, HT.out⟩
            case measure => simp [intOf]
          · intro u6 u9 u10 u19 u21 u22 u23 u24 u25 u26 u27 u28 u29 u30 u31 u32 u33 u34 u35 u36 u37 u38 u39 u40 u41 u42 u43 u44 u45 u86 u87 u88 u89 u90 u91 u92 u93 u94 u95 u96 u97 u98 u99 u100 u101 u102 u103 u104 u105 u106 u107 u108 u109 u110 u111 u112 u113 u114 u115 u116 u117 u118 u119 u120 u121 u122 u123 u124 u125 u126 u127 u128 u129 u130 u131 u132 u133 u134 u135 u136 u137 u138 u139 u140 u141 u142 u143 u144 u145 u146 u147 u148 u149 u150 u151 u152 u153 u154 u155 u156 u157 u158 u159 u160 u161 u162 u163 u164 u165 u166 u167 u168 u169 u170 u171 u172 u173 u174 u175 u176 u177 u178 u179 u180 u181 u182 u183 u184 u185 u186 u187 u188 u189 u190 u191 u192 u193 u194 u195 u196 u197 u198 u199 u200 u201 u202 u203 u204 u205 u206 u207 u208 u209 u210 u211 u212 u213 u214 u215 u216 u217 u218 u219 u220 u221 u222 u223 u224 u225 u226 u227 u228 u229 u230 u231 u232 u233 u234 u235 u236 u237 u238 u239 u240 u241 u242 u243 u244 u245 u246 u247 u248 u249 u250 u251 u252 u253 u254 u255 u256 u257 u258 u259 u260 u261 u262 u263 u264 u265 u266 u267 u268 u269 u270 u271 u272 u273 u274 u275 u276 u277 u278 u279 u280 u281 u282 u283 u284 u285 u286 u287 u288 u289 u290 u291 u292 u293 u294 u295 u296 u297 u298 u299 u300 u301 u302 u303 u304 u305 u306 u307 u308 u309 u310 u311 u312 u313 u314 u315 u316 u317 u318 u319 u320 u321 u322 u323 u324 u325 u326 u327 u328 u329 u330 u331 u332 u333 u334 u335 u336 u337 u338 u339 u340 u341 u342 u343 u344 u345 u346 u347 u348 u349 u350 u351 u352 u353 u354 u355 u356 u357 u358 u359 u360 u361 u362 u363 u364 u365 u366 u367 u368 u369 u370 u371 u372 u373 u374 u375 u376 u377 u378 u379 u380 u381 u382 u383 u384 u385 u386 u387 u388 u389 u390 u391 u392 u393 u394 u395 u396 u397 u398 u399 u400 u401 u402 u403 u404 u405 u406 w1 hcut
            obtain ⟨T, j, hv, rfl, rfl, rfl, hb3, hb4, hbl⟩ := hcut
            have HS2 := Lib.hid (show (T, s + j, false) = y by have h := HSt.out; rw [hv] at h; exact h)
            have HB := Lib.hid (show _ ∧ _ ∧ _ from ⟨hb3, hb4, hbl⟩)
            clear hv HSt hb3 hb4 hbl
            (try dsimp only)
            go_wp2_with fail
            refine bodyPost_ret (results_five rfl (rv_tmp rfl) (rv_cell (g := w.heap.size + 1 + 1 + 1) rfl HB.out.1 rfl Try.underlying26 (by kernel_rfl)) (rv_cell (g := w.heap.size + 1 + 1 + 1 + 1) rfl HB.out.2.1 rfl Try.underlying26 (by kernel_rfl)) (rv_tmp rfl) (rv_tmp rfl)) rfl ?_
            rw [← HS2.out]
            unfold RSolveGQ
            rw [if_neg (by simp)]
            exact ⟨rfl, HB.out.2.2⟩
        case neg =>
          obtain rfl : m = 0 := by omega
          have hK1 : ¬ (0 : Int) ≤ K := by omega
          clear hK
          have HS3 := Lib.hid (show (S, s, true) = y from HY3.out)
          clear HY3
          have HFi := Lib.hid (G4.out.ld ▸ RFin12 wr p.ad S.d p.dc G4.out.d.fls (by rw [G4.out.ld]; unfold maxLen; omega))
          go_wp2_with fail
          refine HFi.out.mono ?_
          rintro r w1 ⟨rfl, hb⟩
          have G5 := Lib.hid (G4.out.step hb)
          clear hb G4 HFi
          dsimp only
          cases hfin : S.d.all ffin
          case false =>
            have HFF := Lib.hid hfin
            clear hfin
            obtain ⟨f1, f2, f3⟩ := G5.out.x3.facts
            obtain ⟨g1, g2, g3⟩ := G5.out.x4.facts
            have z3 := (Box.put3 G5.out.x3 (.int .i64 0) (.int .i64 0) (.slice none 0 0)).set_other3U (m := w.heap.size + 1 + 1 + 1 + 1) (by omega) (v0 := .int .i64 0) (v1 := .int .i64 0) (v2 := .slice none 0 0)
            have z4 := Box.put3 (G5.out.x4.set_other3U (m := w.heap.size + 1 + 1 + 1) (by omega) (v0 := .int .i64 0) (v1 := .int .i64 0) (v2 := .slice none 0 0)) (.int .i64 0) (.int .i64 0) (.slice none 0 0)
            have hB := below_put3 (below_put3 G5.out.below (show w.heap.size ≤ w.heap.size + 1 + 1 + 1 by omega) (.int .i64 0) (.int .i64 0) (.slice none 0 0)) (show w.heap.size ≤ w.heap.size + 1 + 1 + 1 + 1 by omega) (.int .i64 0) (.int .i64 0) (.slice none 0 0)
            have HZ := Lib.hid (show _ ∧ _ ∧ _ from ⟨z3, z4, hB⟩)
            clear z3 z4 hB
            go_wp2_with fail
            refine bodyPost_ret (results_five rfl (rv_tmp rfl) (rv_cell (g := w.heap.size + 1 + 1 + 1) rfl HZ.out.1 rfl Try.underlying26 (by kernel_rfl)) (rv_cell (g := w.heap.size + 1 + 1 + 1 + 1) rfl HZ.out.2.1 rfl Try.underlying26 (by kernel_rfl)) (rv_tmp rfl) (rv_tmp rfl)) rfl ?_
            rw [← HS3.out]
            unfold RSolveGQ
            rw [if_neg (by simp [HFF.out])]
            exact ⟨rfl, HZ.out.2.2⟩
          case true =>
            have HFF := Lib.hid hfin
            clear hfin
            obtain ⟨t, ht, hfs, hu, hv, hlo⟩ : ∃ t : SoP, (t.n = p.n ∧ t.ru = p.ru ∧ t.rv = p.rv ∧ t.wa = p.ad ∧ t.wc = p.dc ∧ t.ua = p.au ∧ t.uc = p.uc ∧ t.va = p.av ∧ t.vc = p.vc) ∧ FS w1 t.wa t.wb S.d ∧ MxF w1 t.ru t.n t.ua t.uc t.ub S.u ∧ MxF w1 t.rv t.n t.va t.vc t.vb S.v ∧ ((t.wb ≠ w1.heap.size ∧ t.wb ≠ w1.heap.size + 1 ∧ t.ub ≠ w1.heap.size ∧ t.ub ≠ w1.heap.size + 1 ∧ t.vb ≠ w1.heap.size ∧ t.vb ≠ w1.heap.size + 1) ∧ (t.wb ≠ t.ub ∧ t.wb ≠ t.vb ∧ t.ub ≠ t.vb) ∧ (∀ x ∈ [t.wb, t.ub, t.vb], x ≠ p.Y ∧ x ≠ p.Z ∧ w.heap.size + 1 + 1 + 1 + 1 < x)) := by
              have hg := G5.out
              obtain ⟨⟨n1, n2, n3, n4, n5⟩, ⟨n6, n7, n8, n9⟩, ⟨n10, n11, n12⟩, ⟨n13, n14⟩, n15⟩ := nodup6 hg.nd
              have hlo := hg.lo
              have hYl := hg.xu.lt
              have hZl := hg.xv.lt
              have h4l := hg.x4.lt
              have pick : ∀ (l : List Nat) (a : Option Addr) (b k : Nat), FS w1 a b l → ∃ b', FS w1 a b' l ∧ ((l = [] ∧ b' = w1.heap.size + 2 + k) ∨ (b' = b ∧ b < w1.heap.size)) := fun l a b k h => by
                by_cases h0 : l = []
                · exact ⟨w1.heap.size + 2 + k, .inl h0, .inl ⟨h0, rfl⟩⟩
                · exact ⟨b, h, .inr ⟨rfl, (h.resolve_left h0).2.lt⟩⟩
              obtain ⟨b1, f1, g1⟩ := pick _ _ _ 0 hg.d
              obtain ⟨b2, f2, g2⟩ := pick _ _ _ 1 hg.u.fs
              obtain ⟨b3, f3, g3⟩ := pick _ _ _ 2 hg.v.fs
              refine ⟨⟨p.n, p.ru, p.rv, b1, b2, b3, p.dc, p.uc, p.vc, p.ad, p.au, p.av⟩, ⟨rfl, rfl, rfl, rfl, rfl, rfl, rfl, rfl, rfl⟩, f1, ⟨f2, hg.u.len, hg.u.cap, hg.u.words⟩, ⟨f3, hg.v.len, hg.v.cap, hg.v.words⟩, ⟨?_, ?_, ?_⟩⟩
              · show b1 ≠ _ ∧ b1 ≠ _ ∧ b2 ≠ _ ∧ b2 ≠ _ ∧ b3 ≠ _ ∧ b3 ≠ _
                refine ⟨?_, ?_, ?_, ?_, ?_, ?_⟩
                · rcases g1 with ⟨_, g1⟩ | ⟨g1, z1⟩ <;> omega
                · rcases g1 with ⟨_, g1⟩ | ⟨g1, z1⟩ <;> omega
                · rcases g2 with ⟨_, g1⟩ | ⟨g1, z1⟩ <;> omega
                · rcases g2 with ⟨_, g1⟩ | ⟨g1, z1⟩ <;> omega
                · rcases g3 with ⟨_, g1⟩ | ⟨g1, z1⟩ <;> omega
                · rcases g3 with ⟨_, g1⟩ | ⟨g1, z1⟩ <;> omega
              · show b1 ≠ b2 ∧ b1 ≠ b3 ∧ b2 ≠ b3
                refine ⟨?_, ?_, ?_⟩
                · rcases g1 with ⟨_, g1⟩ | ⟨g1, z1⟩ <;> rcases g2 with ⟨_, g2⟩ | ⟨g2, z2⟩ <;> omega
                · rcases g1 with ⟨_, g1⟩ | ⟨g1, z1⟩ <;> rcases g3 with ⟨_, g2⟩ | ⟨g2, z2⟩ <;> omega
                · rcases g2 with ⟨_, g1⟩ | ⟨g1, z1⟩ <;> rcases g3 with ⟨_, g2⟩ | ⟨g2, z2⟩ <;> omega
              · intro x hx
                have hx' : x = b1 ∨ x = b2 ∨ x = b3 := by simpa using hx
                rcases hx' with rfl | rfl | rfl
                · rcases g1 with ⟨_, g1⟩ | ⟨g1, z1⟩ <;> omega
                · rcases g2 with ⟨_, g1⟩ | ⟨g1, z1⟩ <;> omega
                · rcases g3 with ⟨_, g1⟩ | ⟨g1, z1⟩ <;> omega
            obtain ⟨t1, t2, t3, t4, t5, t6, t7, t8, t9⟩ := ht
            have HSo := Lib.hid (RSort17 w1 t S.d S.u S.v hfs (G5.out.ld.trans t1.symm) G5.out.wd hu hv ⟨hlo.1, hlo.2.1⟩ ⟨by rw [t1]; exact G5.out.hn.2.2.1, by rw [t2]; exact G5.out.hn.2.2.2.1, by rw [t3]; exact G5.out.hn.2.2.2.2⟩)
            rw [t1, t2, t3, t4, t5, t6, t7, t8, t9] at HSo
            have HLo := Lib.hid hlo.2.2
            clear hfs hu hv hlo t1 t2 t3 t4 t5 t6 t7 t8 t9
            obtain ⟨f1, f2, f3⟩ := G5.out.xu.facts
            obtain ⟨g1, g2, g3⟩ := G5.out.xv.facts
            go_wp2_with fail
            refine HSo.out.mono ?_
            rintro r w2 ⟨rfl, hF1, hF2, hF3, hbl⟩
            clear f1 f2 f3 g1 g2 g3
            dsimp only
            have hnin : ∀ x, (x = p.Y ∨ x = p.Z ∨ x ≤ w.heap.size + 1 + 1 + 1 + 1) → x ∉ [t.wb, t.ub, t.vb] := fun x hx hm => by have := HLo.out x hm; omega
            have HW := Lib.hid (show Box w2 p.Y _ ∧ Box w2 p.Z _ ∧ Box w2 (w.heap.size + 1 + 1 + 1) _ ∧ Box w2 (w.heap.size + 1 + 1 + 1 + 1) _ ∧ FS w2 p.ad t.wb _ ∧ MxF w2 p.ru p.n p.au p.uc t.ub _ ∧ MxF w2 p.rv p.n p.av p.vc t.vb _ ∧ Below w.heap.size w w2 from ⟨G5.out.xu.bls hbl G5.out.xu.lt (hnin _ (.inl rfl)), G5.out.xv.bls hbl G5.out.xv.lt (hnin _ (.inr (.inl rfl))), G5.out.x3.bls hbl G5.out.x3.lt (hnin _ (.inr (.inr (by omega)))), G5.out.x4.bls hbl G5.out.x4.lt (hnin _ (.inr (.inr (by omega)))), hF1, hF2, hF3, ((Bls.of G5.out.below).trans (hbl.mono G5.out.below.size)).below (fun x hx => by have := HLo.out x hx; omega)⟩)
            have HYZ := Lib.hid (show w.heap.size + 1 + 1 + 1 + 1 < p.Y ∧ w.heap.size + 1 + 1 + 1 + 1 < p.Z ∧ w.heap.size + 1 + 1 + 1 + 1 < t.wb ∧ w.heap.size + 1 + 1 + 1 + 1 < t.ub ∧ w.heap.size + 1 + 1 + 1 + 1 < t.vb from ⟨G5.out.lo.1, G5.out.lo.2.1, (HLo.out _ (by simp)).2.2, (HLo.out _ (by simp)).2.2, (HLo.out _ (by simp)).2.2⟩)
            clear hF1 hF2 hF3 hbl hnin G5 HSo HLo
            go_upto_region 104 with (fail)
            have hdr := below_drewN 1 (Below.refl w2.heap.size w2)
            have V1 := Lib.hid (show Box w2.drew p.Y [.int .i64 p.ru, .int .i64 p.n, .slice p.au (p.ru * p.n) p.uc] ∧ Box w2.drew p.Z [.int .i64 p.rv, .int .i64 p.n, .slice p.av (p.rv * p.n) p.vc] ∧ Box w2.drew (w.heap.size + 1 + 1 + 1) [.int .i64 0, .int .i64 0, .slice none 0 0] ∧ Box w2.drew (w.heap.size + 1 + 1 + 1 + 1) [.int .i64 0, .int .i64 0, .slice none 0 0] ∧ FS w2.drew p.ad t.wb _ ∧ FS w2.drew p.au t.ub _ ∧ FS w2.drew p.av t.vb _ ∧ Below w.heap.size w w2.drew from ⟨HW.out.1.below hdr, HW.out.2.1.below hdr, HW.out.2.2.1.below hdr, HW.out.2.2.2.1.below hdr, HW.out.2.2.2.2.1.below hdr, HW.out.2.2.2.2.2.1.fs.below hdr, HW.out.2.2.2.2.2.2.1.fs.below hdr, below_step HW.out.2.2.2.2.2.2.2 HW.out.2.2.2.2.2.2.2.size hdr⟩)
            clear hdr HW
            refine wp_region_items 7 [(true, 0), (true, 1), (true, 2), (true, 3), (true, 4), (false, 5), (false, 6)] (fun W => (∀ j, W.cell? ⟨p.Y, j, none⟩ = ([.int .i64 p.ru, .int .i64 p.n, .slice p.au (p.ru * p.n) p.uc] : List Value)[j]?) ∧ (∀ j, W.cell? ⟨p.Z, j, none⟩ = ([.int .i64 p.rv, .int .i64 p.n, .slice p.av (p.rv * p.n) p.vc] : List Value)[j]?)) (by kernel_rfl) (by kernel_rfl) ⟨V1.out.1.cell, V1.out.2.1.cell⟩ ?_
            generalize w2.drew = v1 at *
            iterate 5 (refine iW_take (v := ?_) rfl rfl ?_ ?_; rotate_left; (next => (intro w' hSw; (try dsimp only at hSw); go_simp; (try (rw [if_pos (by omega)]; go_simp)); (try with_reducible rfl))); (simp only [Act.put, List.setIfInBounds_toArray, List.set_cons_zero, List.set_cons_succ]))
            obtain ⟨f1, f2, f3⟩ := V1.out.2.2.1.facts
            refine iW_mid rfl rfl ?_
            go_simp
            have hb := bel_put3U (W := v1) (w.heap.size + 1 + 1 + 1) (.int .i64 p.ru) (.int .i64 p.n) (.slice p.au (p.ru * p.n) p.uc)
            have lo := HYZ.out
            have V2 := Lib.hid (show Box (((v1.setCell ⟨w.heap.size + 1 + 1 + 1, 0, none⟩ (.int .i64 p.ru)).setCell ⟨w.heap.size + 1 + 1 + 1, 1, none⟩ (.int .i64 p.n)).setCell ⟨w.heap.size + 1 + 1 + 1, 2, none⟩ (.slice p.au (p.ru * p.n) p.uc)) p.Y [.int .i64 p.ru, .int .i64 p.n, .slice p.au (p.ru * p.n) p.uc] ∧ Box (((v1.setCell ⟨w.heap.size + 1 + 1 + 1, 0, none⟩ (.int .i64 p.ru)).setCell ⟨w.heap.size + 1 + 1 + 1, 1, none⟩ (.int .i64 p.n)).setCell ⟨w.heap.size + 1 + 1 + 1, 2, none⟩ (.slice p.au (p.ru * p.n) p.uc)) p.Z [.int .i64 p.rv, .int .i64 p.n, .slice p.av (p.rv * p.n) p.vc] ∧ Box (((v1.setCell ⟨w.heap.size + 1 + 1 + 1, 0, none⟩ (.int .i64 p.ru)).setCell ⟨w.heap.size + 1 + 1 + 1, 1, none⟩ (.int .i64 p.n)).setCell ⟨w.heap.size + 1 + 1 + 1, 2, none⟩ (.slice p.au (p.ru * p.n) p.uc)) (w.heap.size + 1 + 1 + 1) [.int .i64 p.ru, .int .i64 p.n, .slice p.au (p.ru * p.n) p.uc] ∧ Box (((v1.setCell ⟨w.heap.size + 1 + 1 + 1, 0, none⟩ (.int .i64 p.ru)).setCell ⟨w.heap.size + 1 + 1 + 1, 1, none⟩ (.int .i64 p.n)).setCell ⟨w.heap.size + 1 + 1 + 1, 2, none⟩ (.slice p.au (p.ru * p.n) p.uc)) (w.heap.size + 1 + 1 + 1 + 1) [.int .i64 0, .int .i64 0, .slice none 0 0] ∧ FS (((v1.setCell ⟨w.heap.size + 1 + 1 + 1, 0, none⟩ (.int .i64 p.ru)).setCell ⟨w.heap.size + 1 + 1 + 1, 1, none⟩ (.int .i64 p.n)).setCell ⟨w.heap.size + 1 + 1 + 1, 2, none⟩ (.slice p.au (p.ru * p.n) p.uc)) p.ad t.wb _ ∧ FS (((v1.setCell ⟨w.heap.size + 1 + 1 + 1, 0, none⟩ (.int .i64 p.ru)).setCell ⟨w.heap.size + 1 + 1 + 1, 1, none⟩ (.int .i64 p.n)).setCell ⟨w.heap.size + 1 + 1 + 1, 2, none⟩ (.slice p.au (p.ru * p.n) p.uc)) p.au t.ub _ ∧ FS (((v1.setCell ⟨w.heap.size + 1 + 1 + 1, 0, none⟩ (.int .i64 p.ru)).setCell ⟨w.heap.size + 1 + 1 + 1, 1, none⟩ (.int .i64 p.n)).setCell ⟨w.heap.size + 1 + 1 + 1, 2, none⟩ (.slice p.au (p.ru * p.n) p.uc)) p.av t.vb _ ∧ Below w.heap.size w (((v1.setCell ⟨w.heap.size + 1 + 1 + 1, 0, none⟩ (.int .i64 p.ru)).setCell ⟨w.heap.size + 1 + 1 + 1, 1, none⟩ (.int .i64 p.n)).setCell ⟨w.heap.size + 1 + 1 + 1, 2, none⟩ (.slice p.au (p.ru * p.n) p.uc)) from ⟨V1.out.1.bel (by omega) hb, V1.out.2.1.bel (by omega) hb, Box.put3 V1.out.2.2.1 (.int .i64 p.ru) (.int .i64 p.n) (.slice p.au (p.ru * p.n) p.uc), V1.out.2.2.2.1.bel (by omega) hb, V1.out.2.2.2.2.1.belU (by omega) hb, V1.out.2.2.2.2.2.1.belU (by omega) hb, V1.out.2.2.2.2.2.2.1.belU (by omega) hb, V1.out.2.2.2.2.2.2.2.trans ((hb.mono V1.out.2.2.2.2.2.2.2.size).below (by omega))⟩)
            refine ⟨⟨V2.out.1.cell, V2.out.2.1.cell⟩, ?_⟩
            clear hb lo f1 f2 f3 V1
            generalize ((v1.setCell ⟨w.heap.size + 1 + 1 + 1, 0, none⟩ (.int .i64 p.ru)).setCell ⟨w.heap.size + 1 + 1 + 1, 1, none⟩ (.int .i64 p.n)).setCell ⟨w.heap.size + 1 + 1 + 1, 2, none⟩ (.slice p.au (p.ru * p.n) p.uc) = v2 at *
            obtain ⟨f1, f2, f3⟩ := V2.out.2.2.2.1.facts
            refine iW_mid rfl rfl ?_
            go_simp
            have hb := bel_put3U (W := v2) (w.heap.size + 1 + 1 + 1 + 1) (.int .i64 p.rv) (.int .i64 p.n) (.slice p.av (p.rv * p.n) p.vc)
            have lo := HYZ.out
            have V3 := Lib.hid (show Box (((v2.setCell ⟨w.heap.size + 1 + 1 + 1 + 1, 0, none⟩ (.int .i64 p.rv)).setCell ⟨w.heap.size + 1 + 1 + 1 + 1, 1, none⟩ (.int .i64 p.n)).setCell ⟨w.heap.size + 1 + 1 + 1 + 1, 2, none⟩ (.slice p.av (p.rv * p.n) p.vc)) p.Y [.int .i64 p.ru, .int .i64 p.n, .slice p.au (p.ru * p.n) p.uc] ∧ Box (((v2.setCell ⟨w.heap.size + 1 + 1 + 1 + 1, 0, none⟩ (.int .i64 p.rv)).setCell ⟨w.heap.size + 1 + 1 + 1 + 1, 1, none⟩ (.int .i64 p.n)).setCell ⟨w.heap.size + 1 + 1 + 1 + 1, 2, none⟩ (.slice p.av (p.rv * p.n) p.vc)) p.Z [.int .i64 p.rv, .int .i64 p.n, .slice p.av (p.rv * p.n) p.vc] ∧ Box (((v2.setCell ⟨w.heap.size + 1 + 1 + 1 + 1, 0, none⟩ (.int .i64 p.rv)).setCell ⟨w.heap.size + 1 + 1 + 1 + 1, 1, none⟩ (.int .i64 p.n)).setCell ⟨w.heap.size + 1 + 1 + 1 + 1, 2, none⟩ (.slice p.av (p.rv * p.n) p.vc)) (w.heap.size + 1 + 1 + 1) [.int .i64 p.ru, .int .i64 p.n, .slice p.au (p.ru * p.n) p.uc] ∧ Box (((v2.setCell ⟨w.heap.size + 1 + 1 + 1 + 1, 0, none⟩ (.int .i64 p.rv)).setCell ⟨w.heap.size + 1 + 1 + 1 + 1, 1, none⟩ (.int .i64 p.n)).setCell ⟨w.heap.size + 1 + 1 + 1 + 1, 2, none⟩ (.slice p.av (p.rv * p.n) p.vc)) (w.heap.size + 1 + 1 + 1 + 1) [.int .i64 p.rv, .int .i64 p.n, .slice p.av (p.rv * p.n) p.vc] ∧ FS (((v2.setCell ⟨w.heap.size + 1 + 1 + 1 + 1, 0, none⟩ (.int .i64 p.rv)).setCell ⟨w.heap.size + 1 + 1 + 1 + 1, 1, none⟩ (.int .i64 p.n)).setCell ⟨w.heap.size + 1 + 1 + 1 + 1, 2, none⟩ (.slice p.av (p.rv * p.n) p.vc)) p.ad t.wb _ ∧ FS (((v2.setCell ⟨w.heap.size + 1 + 1 + 1 + 1, 0, none⟩ (.int .i64 p.rv)).setCell ⟨w.heap.size + 1 + 1 + 1 + 1, 1, none⟩ (.int .i64 p.n)).setCell ⟨w.heap.size + 1 + 1 + 1 + 1, 2, none⟩ (.slice p.av (p.rv * p.n) p.vc)) p.au t.ub _ ∧ FS (((v2.setCell ⟨w.heap.size + 1 + 1 + 1 + 1, 0, none⟩ (.int .i64 p.rv)).setCell ⟨w.heap.size + 1 + 1 + 1 + 1, 1, none⟩ (.int .i64 p.n)).setCell ⟨w.heap.size + 1 + 1 + 1 + 1, 2, none⟩ (.slice p.av (p.rv * p.n) p.vc)) p.av t.vb _ ∧ Below w.heap.size w (((v2.setCell ⟨w.heap.size + 1 + 1 + 1 + 1, 0, none⟩ (.int .i64 p.rv)).setCell ⟨w.heap.size + 1 + 1 + 1 + 1, 1, none⟩ (.int .i64 p.n)).setCell ⟨w.heap.size + 1 + 1 + 1 + 1, 2, none⟩ (.slice p.av (p.rv * p.n) p.vc)) from ⟨V2.out.1.bel (by omega) hb, V2.out.2.1.bel (by omega) hb, V2.out.2.2.1.bel (by omega) hb, Box.put3 V2.out.2.2.2.1 (.int .i64 p.rv) (.int .i64 p.n) (.slice p.av (p.rv * p.n) p.vc), V2.out.2.2.2.2.1.belU (by omega) hb, V2.out.2.2.2.2.2.1.belU (by omega) hb, V2.out.2.2.2.2.2.2.1.belU (by omega) hb, V2.out.2.2.2.2.2.2.2.trans ((hb.mono V2.out.2.2.2.2.2.2.2.size).below (by omega))⟩)
            refine ⟨⟨V3.out.1.cell, V3.out.2.1.cell⟩, ?_⟩
            clear hb lo f1 f2 f3 V2
            generalize ((v2.setCell ⟨w.heap.size + 1 + 1 + 1 + 1, 0, none⟩ (.int .i64 p.rv)).setCell ⟨w.heap.size + 1 + 1 + 1 + 1, 1, none⟩ (.int .i64 p.n)).setCell ⟨w.heap.size + 1 + 1 + 1 + 1, 2, none⟩ (.slice p.av (p.rv * p.n) p.vc) = v3 at *
            refine iW_nil ?_
            go_simp
            go_wp2_with fail
            refine NoPanic.normal ?_
            go_wp2_with fail
            refine bodyPost_ret (results_five rfl (rv_tmp rfl) (rv_cell (g := w.heap.size + 1 + 1 + 1) rfl V3.out.2.2.1 rfl Try.underlying26 (by kernel_rfl)) (rv_cell (g := w.heap.size + 1 + 1 + 1 + 1) rfl V3.out.2.2.2.1 rfl Try.underlying26 (by kernel_rfl)) (rv_tmp rfl) (rv_tmp rfl)) rfl ?_
            rw [← HS3.out, HE.out.1, HE.out.2.1, ← HND.out]
            unfold RSolveGQ
            rw [if_pos ⟨rfl, HFF.out⟩]
            exact ⟨_, _, _, _, _, _, rfl, V3.out.2.2.2.2.1.fls, V3.out.2.2.2.2.2.1.fls, V3.out.2.2.2.2.2.2.1.fls, V3.out.2.2.2.2.2.2.2⟩
end Go.Proofs.Ytdljnhdhigbefaa
