/- Layer 12: what a solving holds on to, from call to call. No condition but on lengths. -/
import Derived.Test.YtbmnlohaidbmdaaQj
namespace Go.Proofs.Ytbmnlohaidbmdaa
open Go Go.RowKit
set_option maxRecDepth 1000000

theorem Words.set {l : List Nat} (h : Words l) (i : Nat) {v : Nat} (hv : v < 18446744073709551616) : Words (l.set i v) := fun x hx => by
  rcases List.mem_or_eq_of_mem_set hx with h1 | h1
  · exact h x h1
  · rw [h1]; exact hv
theorem swN_words {n rows : Nat} {x : SwS} (hd : Words x.d) (he : Words x.e) (i : Nat) : Words (swN n rows x i).d ∧ Words (swN n rows x i).e ∧ (swN n rows x i).g < 18446744073709551616 :=
  ⟨hd.set _ (fadd_lt _ _), he.set _ (hypW_lt _ _), fsub_lt _ _⟩
theorem swL_words {n rows l m : Nat} : ∀ (k : Nat) {x : SwS}, Words x.d → Words x.e → x.g < 18446744073709551616 → Words (swL n rows l m k x).1.d ∧ Words (swL n rows l m k x).1.e ∧ (swL n rows l m k x).1.g < 18446744073709551616
  | 0, x, hd, he, hg => ⟨hd, he, hg⟩
  | k + 1, x, hd, he, hg => by
    rw [swL]
    split
    · exact ⟨hd.set _ (fsub_lt _ _), (he.set _ (hypW_lt _ _)).set _ (by decide), hg⟩
    · obtain ⟨h1, h2, h3⟩ := swN_words (n := n) (rows := rows) hd he (l + k)
      exact swL_words k h1 h2 h3
theorem sweepL_words {n rows : Nat} {x : QlS} (hd : Words x.d) (he : Words x.e) (l m : Nat) : Words (sweepL n rows x l m).d ∧ Words (sweepL n rows x l m).e := by
  obtain ⟨h1, h2, h3⟩ := swL_words (n := n) (rows := rows) (l := l) (m := m) (m - l) (x := sw0 x.d x.e x.z l m) hd he (fadd_lt _ _)
  unfold sweepL swE
  split
  · exact ⟨h1, h2⟩
  · exact ⟨h1.set _ (fsub_lt _ _), (h2.set _ h3).set _ (by decide)⟩

/-- What is held: the struct, its three slices; all in blocks of the call's own. -/
structure QlW (w W : World) (X : Nat) (da ea za : Option Addr) (bd be zb cd ce zc rows n ne M : Nat) (S : QlS) : Prop where
  box : Box W X [.slice da n cd, .slice ea ne ce, .int .i64 rows, .int .i64 n, .slice za M zc]
  d : FS W da bd S.d
  e : FS W ea be S.e
  z : FS W za zb S.z
  dl : S.d.length = n
  el : S.e.length = ne
  zl : S.z.length = M
  wd : Words S.d
  we : Words S.e
  bel : Below w.heap.size w W
/-- What is known of the places. -/
structure QlD (w : World) (X bd be zb zc rows n ne M : Nat) : Prop where
  hne : 0 < n → ne = n
  hM : M = rows * n
  cap : M ≤ zc ∧ zc ≤ maxLen
  hn : n ≤ 512
  hr : rows ≤ 512
  xd : 0 < n → X ≠ bd
  xe : X ≠ be
  xz : X ≠ zb
  de : 0 < n → bd ≠ be
  dz : 0 < n → bd ≠ zb
  ez : be ≠ zb
  X0 : w.heap.size + 1 + 1 < X
  d0 : 0 < n → w.heap.size + 1 + 1 < bd
  e0 : w.heap.size + 1 + 1 < be
  z0 : w.heap.size + 1 + 1 < zb
section
variable {w W W' : World} {X bd be zb cd ce zc rows n ne M l m : Nat} {da ea za : Option Addr} {S : QlS}
theorem QlW.below (h : QlW w W X da ea za bd be zb cd ce zc rows n ne M S) (hb : Below W.heap.size W W') : QlW w W' X da ea za bd be zb cd ce zc rows n ne M S :=
  ⟨h.box.below hb, h.d.below hb, h.e.below hb, h.z.below hb, h.dl, h.el, h.zl, h.wd, h.we, below_step h.bel h.bel.size hb⟩
theorem Ql_end (hD : QlD w X bd be zb zc rows n ne M) (h : QlW w W X da ea za bd be zb cd ce zc rows n ne M S) (hl : l < n) :
    Calls Try.prog 27 #[.pointer (some ⟨X, 0, none⟩), .int .i64 l] W fun r w' => r = .returned (.int .i64 (endL S.d S.e S.d.length l)) ∧ QlW w w' X da ea za bd be zb cd ce zc rows n ne M S ∧ Below W.heap.size W w' := by
  have hne := hD.hne (by omega)
  subst hne
  have hdl := h.dl
  have hel := h.el
  obtain ⟨rfl, hd⟩ := h.d.flb (by rw [hdl]; omega)
  obtain ⟨rfl, he⟩ := h.e.flb (by rw [hel]; omega)
  have hn := hD.hn
  have hb := h.box
  rw [← hdl] at hb
  have hb2 := hb
  rw [show S.d.length = S.e.length by rw [hdl, hel]] at hb
  refine (end_any W X bd be cd ce l _ _ _ S.d S.e (by rw [show S.e.length = S.d.length by rw [hdl, hel]]; exact hb2) hd he h.wd h.we (by rw [hdl, hel]) (by omega) (by omega)).mono ?_
  rintro r w' ⟨rfl, hbl⟩
  exact ⟨rfl, h.below hbl, hbl⟩
theorem Ql_sweep (hD : QlD w X bd be zb zc rows n ne M) (h : QlW w W X da ea za bd be zb cd ce zc rows n ne M S) (hl : l < m) (hm : m < n) :
    Calls Try.prog 28 #[.pointer (some ⟨X, 0, none⟩), .int .i64 l, .int .i64 m] W fun r w' => r = .returned (.tuple #[]) ∧ QlW w w' X da ea za bd be zb cd ce zc rows n ne M (sweepL n rows S l m) ∧ Bls [bd, be, zb] W.heap.size W w' := by
  have hne := hD.hne (by omega)
  subst hne
  have hdl := h.dl
  have hel := h.el
  have hzl := h.zl
  have h0 : 0 < ne := by omega
  obtain ⟨rfl, hd⟩ := h.d.flb (by rw [hdl]; omega)
  obtain ⟨rfl, he⟩ := h.e.flb (by rw [hel]; omega)
  have hz : Zf W rows ne za zc zb S.z := by
    refine ⟨by rw [hzl, hD.hM], ?_⟩
    rcases h.z with h1 | ⟨h1, h2⟩
    · left
      have := hD.hM
      rw [← hzl, h1] at this
      have h3 : rows * ne = 0 := by simpa using this.symm
      rcases Nat.mul_eq_zero.1 h3 with h4 | h4
      · exact h4
      · omega
    · exact .inr ⟨h1, h2, by rw [hzl]; exact hD.cap.1, hD.cap.2⟩
  obtain ⟨d, e, z⟩ := S
  have hb := h.box
  simp only at hdl hel hzl
  refine (sweep_any W X bd be zb rows ne cd ce zc l m za d e z (by rw [hdl, hel, hzl]; exact hb) hd he hz hdl hel hl hm hD.hn hD.hr (hD.xd h0) hD.xe hD.xz (hD.de h0) (hD.dz h0) hD.ez).mono ?_
  rintro r w' ⟨rfl, k1, k2, k3, k4⟩
  obtain ⟨g1, g2, g3⟩ := sweepL_len ne rows ⟨d, e, z⟩ l m
  obtain ⟨v1, v2⟩ := sweepL_words (n := ne) (rows := rows) (x := ⟨d, e, z⟩) h.wd h.we l m
  refine ⟨rfl, ⟨hb.bls k4 hb.lt (by simp only [List.mem_cons, List.not_mem_nil, or_false, not_or]; exact ⟨hD.xd h0, hD.xe, hD.xz⟩), .inr ⟨rfl, k1⟩, .inr ⟨rfl, k2⟩, ?_, g1.trans hdl, g2.trans hel, g3.trans hzl, v1, v2, ?_⟩, k4⟩
  · rcases k3 with ⟨j1, j2 | ⟨j2, j3, _⟩⟩
    · left
      have j3 : rows * ne = 0 := by rw [j2, Nat.zero_mul]
      exact List.eq_nil_of_length_eq_zero (j1.trans j3)
    · exact .inr ⟨j2, j3⟩
  · have k5 : Bls [bd, be, zb] w.heap.size W w' := k4.mono h.bel.size
    exact ((Bls.of h.bel).trans k5).below (fun k hk => by
      simp only [List.mem_cons, List.not_mem_nil, or_false] at hk
      have := hD.d0 h0
      have := hD.e0
      have := hD.z0
      rcases hk with rfl | rfl | rfl <;> omega)
end
end Go.Proofs.Ytbmnlohaidbmdaa
