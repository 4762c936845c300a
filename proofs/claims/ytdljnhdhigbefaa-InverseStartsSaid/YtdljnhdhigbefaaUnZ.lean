/- Layer 17: the state's functions on what gk.Solve holds; Sorted, whatever it is handed. No condition but on lengths. -/
import Derived.Test.YtdljnhdhigbefaaZz12
import Derived.Test.YtdljnhdhigbefaaZz13
namespace Go.Proofs.Ytdljnhdhigbefaa
open Go Go.RowKit
set_option maxRecDepth 1000000

theorem startG_posU (d e : List Nat) (big : Nat) : ∀ k, (startG d e big k).2 = true → 0 < (startG d e big k).1
  | 0, h => by simp [startG] at h
  | k + 1, h => by
    unfold startG at h ⊢
    split at h
    · cases h
    · split at h
      · rename_i h1 h2; rw [if_neg h1, if_pos h2]; exact Nat.succ_pos _
      · rename_i h1 h2; rw [if_neg h1, if_neg h2]; exact startG_posU d e big k h
section
variable {w W W' : World} {p : GsP} {g g' : GkS} {big : Nat}
theorem GSt.cells (h : GSt w W p g big) : ∃ sb, Box W p.X [.slice p.ad p.n p.dc, .slice p.ae p.ne p.ec, .int .i64 p.ru, .int .i64 p.n, .slice p.au (p.ru * p.n) p.uc, .int .i64 p.rv, .int .i64 p.n, .slice p.av (p.rv * p.n) p.vc, .float .f64 (raw big sb)] := h.box
theorem GSt.addr (h : GSt w W p g big) (h0 : 0 < p.n) : (p.ad = some ⟨p.bd, 0, none⟩ ∧ Flb W p.bd g.d) ∧ p.ae = some ⟨p.be, 0, none⟩ ∧ Flb W p.be g.e := by
  have hd0 : g.d ≠ [] := fun e => by have hq := h.ld; rw [e] at hq; simp at hq; omega
  have he0 : g.e ≠ [] := fun e => by have hq := h.le; have := h.hn; rw [e] at hq; simp at hq; omega
  exact ⟨h.d.resolve_left hd0, h.e.resolve_left he0⟩
theorem GSt.cells0 (h : GSt w W p g big) (h0 : 0 < p.n) : ∃ sb, Box W p.X [.slice (some ⟨p.bd, 0, none⟩) p.n p.dc, .slice (some ⟨p.be, 0, none⟩) p.ne p.ec, .int .i64 p.ru, .int .i64 p.n, .slice p.au (p.ru * p.n) p.uc, .int .i64 p.rv, .int .i64 p.n, .slice p.av (p.rv * p.n) p.vc, .float .f64 (raw big sb)] := by
  obtain ⟨sb, hx⟩ := h.cells
  obtain ⟨⟨e1, _⟩, e2, _⟩ := h.addr h0
  rw [e1, e2] at hx
  exact ⟨sb, hx⟩
theorem GSt.atD (h : GSt w W p g big) {i : Nat} (hi : i < p.n) : ∃ s, W.cell? ⟨p.bd, i, none⟩ = some (.float .f64 (raw (g.d.getD i 0) s)) := ((h.addr (by omega)).1.2).at (by rw [h.ld]; exact hi)
theorem GSt.atE (h : GSt w W p g big) (h0 : 0 < p.n) {i : Nat} (hi : i < p.ne) : ∃ s, W.cell? ⟨p.be, i, none⟩ = some (.float .f64 (raw (g.e.getD i 0) s)) := ((h.addr h0).2.2).at (by rw [h.le]; exact hi)
theorem GSt.setD (h : GSt w W p g big) (h0 : 0 < p.n) (i x s : Nat) (hx : x < 18446744073709551616) : GSt w (W.setCell ⟨p.bd, i, none⟩ (.float .f64 (raw x s))) p { g with d := g.d.set i x } big := by
  obtain ⟨sb, hs⟩ := h.stw h0
  exact h.back h0 (hs.setD i x s hx) ((Bls.refl _ _ _).set (by simp) _ _)
theorem gst_start {k : Nat} (h : GSt w W p g big) (hk : k < p.n) : Calls Try.prog 55 #[.pointer (some ⟨p.X, 0, none⟩), .int .i64 k] W fun r w' => r = .returned (.tuple #[.int .i64 (startG g.d g.e big k).1, .bool (startG g.d g.e big k).2]) ∧ GSt w w' p g big := by
  obtain ⟨sb, hs⟩ := h.stw (by omega)
  refine (start_any W p.X k (p.q big sb) g hs hk).mono ?_
  rintro r w' ⟨rfl, hb⟩
  exact ⟨rfl, h.step hb⟩
theorem gst_clear {l k : Nat} (h : GSt w W p g big) (hl : 0 < l) (hlk : l ≤ k) (hk : k < p.n) : Calls Try.prog 56 #[.pointer (some ⟨p.X, 0, none⟩), .int .i64 l, .int .i64 k] W fun r w' => r = .returned (.tuple #[]) ∧ GSt w w' p (clearG p.n p.ru big l k g) big := by
  obtain ⟨sb, hs⟩ := h.stw (by omega)
  refine (clear_any W p.X l k (p.q big sb) g hs hl hlk hk).mono ?_
  rintro r w' ⟨rfl, h1, h2⟩
  exact ⟨rfl, h.back (by omega) h1 (h2.sub (fun k hk => by simp only [List.mem_cons, List.not_mem_nil, or_false] at hk ⊢; rcases hk with rfl | rfl | rfl; exact .inr (.inl rfl); exact .inr (.inr (.inl rfl)); exact .inr (.inr (.inr (.inl rfl)))))⟩
theorem gst_sweep {l k : Nat} (h : GSt w W p g big) (hlk : l < k) (hk : k < p.n) : Calls Try.prog 59 #[.pointer (some ⟨p.X, 0, none⟩), .int .i64 l, .int .i64 k] W fun r w' => r = .returned (.tuple #[]) ∧ GSt w w' p (sweepG p.n p.ru p.rv g l k) big := by
  obtain ⟨sb, hs⟩ := h.stw (by omega)
  refine (gsweep_any W p.X l k (p.q big sb) g hs hlk hk).mono ?_
  rintro r w' ⟨rfl, h1, h2⟩
  exact ⟨rfl, h.back (by omega) h1 (h2.sub (fun k hk => by simp only [List.mem_cons, List.not_mem_nil, or_false] at hk ⊢; exact .inr hk))⟩
theorem gst_cols {k : Nat} (h : GSt w W p g big) (hk : k < p.n) : Calls Try.prog 57 #[.agg #[.int .i64 p.rv, .int .i64 p.n, .slice p.av (p.rv * p.n) p.vc], .int .i64 k, .int .i64 k, .func (.func 58) #[] #[]] W fun r w' => r = .returned (.tuple #[]) ∧ GSt w w' p { g with v := negL g.v p.n k p.rv } big := by
  obtain ⟨sb, hs⟩ := h.stw (by omega)
  have := cols_any W k k (.func (.func 58) #[] #[]) _ _ h.v hk hk h.hn.2.2.2.2 h.hn.2.2.1 (fun _ => negF_to W p.bv) negAB
  rw [h.v.len] at this
  refine this.mono ?_
  rintro r w' ⟨rfl, h1, h2⟩
  exact ⟨rfl, h.back (by omega) (hs.putV h1 h2) (Bls.ofBel h2 (by simp))⟩
end
theorem valG_doneU {n ru rv big k f : Nat} {x : GkS} (h : (startG x.d x.e big k).1 = k) : valG n ru rv big k f x = (finG n rv (preG n ru big k x) k, 0, true) := by cases f <;> rw [valG, if_pos h]
theorem valG_zeroU {n ru rv big k : Nat} {x : GkS} (h : ¬ (startG x.d x.e big k).1 = k) : valG n ru rv big k 0 x = (preG n ru big k x, 0, false) := by rw [valG, if_neg h]
theorem valG_succU {n ru rv big k f : Nat} {x : GkS} (h : ¬ (startG x.d x.e big k).1 = k) : valG n ru rv big k (f + 1) x = ((valG n ru rv big k f (sweepG n ru rv (preG n ru big k x) (startG x.d x.e big k).1 k)).1, (valG n ru rv big k f (sweepG n ru rv (preG n ru big k x) (startG x.d x.e big k).1 k)).2.1 + 1, (valG n ru rv big k f (sweepG n ru rv (preG n ru big k x) (startG x.d x.e big k).1 k)).2.2) := by rw [valG, if_neg h]
/-- What Sorted tells. -/
structure SR where
  a : Option Addr
  a1 : Option Addr
  a2 : Option Addr
  n : Nat
  c : Nat
  r1 : Nat
  k1 : Nat
  l1 : Nat
  c1 : Nat
  r2 : Nat
  k2 : Nat
  l2 : Nat
  c2 : Nat
  e : Nat
  b0 : Nat
  b1 : Nat
  b2 : Nat
  z0 : List Nat
  z1 : List Nat
  z2 : List Nat
structure SR.In (s : SR) (W : World) : Prop where
  f0 : FS W s.a s.b0 s.z0
  f1 : FS W s.a1 s.b1 s.z1
  f2 : FS W s.a2 s.b2 s.z2
structure SR.Tells (s : SR) (n ru rv : Nat) (d u v : List Nat) : Prop where
  yes : d.all ffin = true → (s.n = n ∧ s.r1 = ru ∧ s.k1 = n ∧ s.l1 = ru * n ∧ s.r2 = rv ∧ s.k2 = n ∧ s.l2 = rv * n ∧ s.e = 0) ∧ s.z0 = (sortG n ru rv d u v n).1 ∧ s.z1 = (sortG n ru rv d u v n).2.1 ∧ s.z2 = (sortG n ru rv d u v n).2.2
  no : d.all ffin = false → s.e = 10
theorem SR.In.step {s : SR} {W W' : World} (h : s.In W) (hb : Below W.heap.size W W') : s.In W' := ⟨h.f0.below hb, h.f1.below hb, h.f2.below hb⟩
theorem SR.In.lt {s : SR} {W : World} (h : s.In W) : (s.z0 ≠ [] → s.b0 < W.heap.size) ∧ (s.z1 ≠ [] → s.b1 < W.heap.size) ∧ (s.z2 ≠ [] → s.b2 < W.heap.size) :=
  ⟨fun h0 => (h.f0.resolve_left h0).2.lt, fun h0 => (h.f1.resolve_left h0).2.lt, fun h0 => (h.f2.resolve_left h0).2.lt⟩
theorem FS.belC {W W' : World} {b s : Nat} {a : Option Addr} {l : List Nat} (h : FS W a b l) (hs : l ≠ [] → b ≠ s) (hb : Bel W.heap.size s W W') : FS W' a b l := by
  by_cases h0 : l = []
  · exact .inl h0
  · exact h.belU (hs h0) hb
theorem SR.In.bel {s : SR} {W W' : World} {k : Nat} (h : s.In W) (hk : (s.z0 ≠ [] → s.b0 ≠ k) ∧ (s.z1 ≠ [] → s.b1 ≠ k) ∧ (s.z2 ≠ [] → s.b2 ≠ k)) (hb : Bel W.heap.size k W W') : s.In W' := ⟨h.f0.belC hk.1 hb, h.f1.belC hk.2.1 hb, h.f2.belC hk.2.2 hb⟩
theorem gsorted_both (w : World) (a ua va : Option Addr) (l u v : List Nat) (wc uc vc ru rv : Nat) (hl : Fls w a l) (hu : Fls w ua u) (hv : Fls w va v) (ha : a = none → l = []) (hua : ua = none → u = []) (hva : va = none → v = []) (hW : Words l) (hWu : Words u) (hWv : Words v) (hn : l.length ≤ 512) (hru : ru ≤ 512) (hrv : rv ≤ 512) (hul : u.length = ru * l.length) (hvl : v.length = rv * l.length) :
    Calls Try.prog 60 #[.slice a l.length wc, .agg #[.int .i64 ru, .int .i64 l.length, .slice ua u.length uc], .agg #[.int .i64 rv, .int .i64 l.length, .slice va v.length vc]] w fun r w' => ∃ s : SR, r = .returned (.tuple #[.slice s.a s.n s.c, .agg #[.int .i64 s.r1, .int .i64 s.k1, .slice s.a1 s.l1 s.c1], .agg #[.int .i64 s.r2, .int .i64 s.k2, .slice s.a2 s.l2 s.c2], .int .i64 s.e]) ∧ s.In w' ∧ s.Tells l.length ru rv l u v ∧ (w.heap.size ≤ s.b0 ∧ w.heap.size ≤ s.b1 ∧ w.heap.size ≤ s.b2) ∧ Below w.heap.size w w' := by
  cases hfin : l.all ffin
  · refine (gsorted_bad w a ua va l u v wc uc vc ru rv hl hW hn hru hrv hul hvl hfin).mono ?_
    rintro r w' ⟨rfl, hb⟩
    exact ⟨⟨none, none, none, 0, 0, 0, 0, 0, 0, 0, 0, 0, 0, 10, w.heap.size, w.heap.size, w.heap.size, [], [], []⟩, rfl, ⟨.inl rfl, .inl rfl, .inl rfl⟩, ⟨(fun h => by rw [hfin] at h; cases h), fun _ => rfl⟩, ⟨Nat.le_refl _, Nat.le_refl _, Nat.le_refl _⟩, hb⟩
  · refine (gsorted_any w a ua va l u v wc uc vc ru rv hl hu hv ha hua hva hW hWu hWv hn hru hrv hul hvl hfin).mono ?_
    rintro r w' ⟨q, h1, h2, h3, rfl, f0, f1, f2, hb, b0, b1, b2⟩
    exact ⟨⟨q.wa, q.ua, q.va, q.n, q.wc, ru, q.n, ru * q.n, q.uc, rv, q.n, rv * q.n, q.vc, 0, q.wb, q.ub, q.vb, _, _, _⟩, rfl, ⟨f0, f1.fs, f2.fs⟩, ⟨fun _ => ⟨⟨h1, rfl, h1, by rw [h1], rfl, h1, by rw [h1], rfl⟩, rfl, rfl, rfl⟩, fun h => by rw [hfin] at h; cases h⟩, ⟨b0, b1, b2⟩, hb⟩
theorem gst_sorted {w W : World} {p : GsP} {g : GkS} {big : Nat} (h : GSt w W p g big) : Calls Try.prog 60 #[.slice p.ad p.n p.dc, .agg #[.int .i64 p.ru, .int .i64 p.n, .slice p.au (p.ru * p.n) p.uc], .agg #[.int .i64 p.rv, .int .i64 p.n, .slice p.av (p.rv * p.n) p.vc]] W fun r w' => ∃ s : SR, r = .returned (.tuple #[.slice s.a s.n s.c, .agg #[.int .i64 s.r1, .int .i64 s.k1, .slice s.a1 s.l1 s.c1], .agg #[.int .i64 s.r2, .int .i64 s.k2, .slice s.a2 s.l2 s.c2], .int .i64 s.e]) ∧ s.In w' ∧ s.Tells p.n p.ru p.rv g.d g.u g.v ∧ (W.heap.size ≤ s.b0 ∧ W.heap.size ≤ s.b1 ∧ W.heap.size ≤ s.b2) ∧ Below W.heap.size W w' := by
  have nn : ∀ {a : Option Addr} {b : Nat} {l : List Nat}, FS W a b l → a = none → l = [] := fun hf ha => by
    rcases hf with h0 | ⟨h1, _⟩
    · exact h0
    · rw [ha] at h1; cases h1
  have hk := gsorted_both W p.ad p.au p.av g.d g.u g.v p.dc p.uc p.vc p.ru p.rv h.d.fls h.u.fs.fls h.v.fs.fls (nn h.d) (nn h.u.fs) (nn h.v.fs) h.wd h.u.words h.v.words (by rw [h.ld]; exact h.hn.2.2.1) h.hn.2.2.2.1 h.hn.2.2.2.2 (by rw [h.ld]; exact h.u.len) (by rw [h.ld]; exact h.v.len)
  rw [h.u.len, h.v.len, h.ld] at hk
  exact hk
/-- What gk.Solve holds behind its sorting. -/
structure FinW (w W : World) (t : SR) (b22 b23 : Nat) : Prop where
  k1 : Box W b22 [.int .i64 t.r1, .int .i64 t.k1, .slice t.a1 t.l1 t.c1]
  k2 : Box W b23 [.int .i64 t.r2, .int .i64 t.k2, .slice t.a2 t.l2 t.c2]
  x3 : Box W (w.heap.size + 1 + 1 + 1) [.int .i64 0, .int .i64 0, .slice none 0 0]
  x4 : Box W (w.heap.size + 1 + 1 + 1 + 1) [.int .i64 0, .int .i64 0, .slice none 0 0]
  inn : t.In W
  lo : w.heap.size + 1 + 1 + 1 + 1 < b22 ∧ w.heap.size + 1 + 1 + 1 + 1 < b23 ∧ w.heap.size + 1 + 1 + 1 + 1 < t.b0 ∧ w.heap.size + 1 + 1 + 1 + 1 < t.b1 ∧ w.heap.size + 1 + 1 + 1 + 1 < t.b2
  below : Below w.heap.size w W
theorem bel_put3U {W : World} (m : Nat) (v0 v1 v2 : Value) : Bel W.heap.size m W (((W.setCell ⟨m, 0, none⟩ v0).setCell ⟨m, 1, none⟩ v1).setCell ⟨m, 2, none⟩ v2) := (((Bel.refl _ _ _).set _ _).set _ _).set _ _
theorem FinW.made {w W : World} {p : GsP} {g : GkS} {big b22 b23 : Nat} {t : SR} (hG : GSt w W p g big) (z1 : Box W b22 [.int .i64 0, .int .i64 0, .slice none 0 0]) (z2 : Box W b23 [.int .i64 0, .int .i64 0, .slice none 0 0]) (ht : t.In W) (d1 : b22 ≠ b23)
    (hlo : w.heap.size + 1 + 1 + 1 + 1 < b22 ∧ w.heap.size + 1 + 1 + 1 + 1 < b23 ∧ w.heap.size + 1 + 1 + 1 + 1 < t.b0 ∧ w.heap.size + 1 + 1 + 1 + 1 < t.b1 ∧ w.heap.size + 1 + 1 + 1 + 1 < t.b2)
    (dn1 : (t.z0 ≠ [] → t.b0 ≠ b22) ∧ (t.z1 ≠ [] → t.b1 ≠ b22) ∧ (t.z2 ≠ [] → t.b2 ≠ b22)) (dn2 : (t.z0 ≠ [] → t.b0 ≠ b23) ∧ (t.z1 ≠ [] → t.b1 ≠ b23) ∧ (t.z2 ≠ [] → t.b2 ≠ b23)) :
    FinW w ((((((W.setCell ⟨b22, 0, none⟩ (.int .i64 t.r1)).setCell ⟨b22, 1, none⟩ (.int .i64 t.k1)).setCell ⟨b22, 2, none⟩ (.slice t.a1 t.l1 t.c1)).setCell ⟨b23, 0, none⟩ (.int .i64 t.r2)).setCell ⟨b23, 1, none⟩ (.int .i64 t.k2)).setCell ⟨b23, 2, none⟩ (.slice t.a2 t.l2 t.c2)) t b22 b23 := by
  have hb1 := bel_put3U (W := W) b22 (.int .i64 t.r1) (.int .i64 t.k1) (.slice t.a1 t.l1 t.c1)
  have y1 : Box _ b22 [.int .i64 t.r1, .int .i64 t.k1, .slice t.a1 t.l1 t.c1] := z1.put3 (.int .i64 t.r1) (.int .i64 t.k1) (.slice t.a1 t.l1 t.c1)
  have y2 := z2.bel (fun e => d1 e.symm) hb1
  have y3 := hG.x3.bel (by omega) hb1
  have y4 := hG.x4.bel (by omega) hb1
  have yt := ht.bel dn1 hb1
  have yb := hG.below.trans ((hb1.mono hG.below.size).below (by omega))
  generalize ((W.setCell ⟨b22, 0, none⟩ (.int .i64 t.r1)).setCell ⟨b22, 1, none⟩ (.int .i64 t.k1)).setCell ⟨b22, 2, none⟩ (.slice t.a1 t.l1 t.c1) = W1 at *
  have hb2 := bel_put3U (W := W1) b23 (.int .i64 t.r2) (.int .i64 t.k2) (.slice t.a2 t.l2 t.c2)
  exact ⟨y1.bel d1 hb2, y2.put3 _ _ _, y3.bel (by omega) hb2, y4.bel (by omega) hb2, yt.bel dn2 hb2, hlo, yb.trans ((hb2.mono yb.size).below (by omega))⟩
theorem SR.In.belB {s : SR} {W W' : World} {L : List Nat} (h : s.In W) (hb : Bls L W.heap.size W W') (hL : ∀ k ∈ L, k ≠ s.b0 ∧ k ≠ s.b1 ∧ k ≠ s.b2) : s.In W' := by
  have go : ∀ {a : Option Addr} {b : Nat} {l : List Nat}, FS W a b l → b ∉ L → FS W' a b l := fun hf hb' => by
    rcases hf with h0 | ⟨h1, h2⟩
    · exact .inl h0
    · exact .inr ⟨h1, h2.bls hb h2.lt hb'⟩
  exact ⟨go h.f0 (fun hm => (hL _ hm).1 rfl), go h.f1 (fun hm => (hL _ hm).2.1 rfl), go h.f2 (fun hm => (hL _ hm).2.2 rfl)⟩
end Go.Proofs.Ytdljnhdhigbefaa
