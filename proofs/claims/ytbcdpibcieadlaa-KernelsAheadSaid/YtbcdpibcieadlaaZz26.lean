/- Layer 8: views, boxes, and floats beside them, in one hand; a column set place by place. No condition but on lengths. -/
import Derived.Test.YtbcdpibcieadlaaZz25
import Derived.Test.YtbcdpibcieadlaaZz21
namespace Go.Proofs.Ytbcdpibcieadlaa
open Go Go.RowKit
set_option maxRecDepth 1000000

structure AhW (w W : World) (bs : List (Nat × List Value)) (vs : List Vs) (fl : List (Option Addr × List Nat)) : Prop where
  v : VsW w W bs vs
  f : ∀ p ∈ fl, FlV W p.1 p.2 (vs.map fun x => x.2.1)
  lt : ∀ x ∈ vs, x.2.1 < W.heap.size
section
variable {w W W' : World} {bs : List (Nat × List Value)} {vs : List Vs} {fl : List (Option Addr × List Nat)} {v : Vw} {sb : Nat} {ws us l zs : List Nat} {a : Option Addr}
theorem AhW.of (h : VsW w W bs vs) (hs : ∀ x ∈ vs, x.1.p.isSome = true) : AhW w W bs vs [] := ⟨h, fun p hp => (by cases hp), fun x hx => (Vw.Ok.sto (h.ok x hx) (hs x hx)).1⟩
theorem AhW.step (h : AhW w W bs vs fl) (hb : Below W.heap.size W W') : AhW w W' bs vs fl := ⟨h.v.step hb, fun p hp => (h.f p hp).step hb, fun x hx => Nat.lt_of_lt_of_le (h.lt x hx) hb.size⟩
theorem AhW.below (h : AhW w W bs vs fl) : Below w.heap.size w W := h.v.below
theorem AhW.get (h : AhW w W bs vs fl) (k : Nat) {n : Nat} {cs : List Value} (hk : bs[k]? = some (n, cs)) : Box W n cs := h.v.get k hk
theorem AhW.vw (h : AhW w W bs vs fl) (k : Nat) {v : Vw} {sb : Nat} {ws : List Nat} (hk : vs[k]? = some (v, sb, ws)) : v.Ok W sb ws ∧ Words ws := h.v.vw k hk
theorem AhW.fls (h : AhW w W bs vs fl) (k : Nat) (hk : fl[k]? = some (a, l)) : Fls W a l := (h.f _ (List.mem_of_getElem? hk)).fls
theorem AhW.put {ls cs : List Vs} (h : AhW w W bs (ls ++ (v, sb, ws) :: cs) fl) (ho : v.Ok W' sb us) (hW : Words us) (hb : Bel W.heap.size sb W W') : AhW w W' bs (ls ++ (v, sb, us) :: cs) fl := by
  refine ⟨h.v.put ho hW hb, fun p hp => ?_, fun x hx => ?_⟩
  · have e : (ls ++ (v, sb, us) :: cs).map (fun x => x.2.1) = (ls ++ (v, sb, ws) :: cs).map (fun x => x.2.1) := by simp
    rw [e]
    exact (h.f p hp).put (by simp) hb
  · have hz := hb.size
    have h1 := h.lt
    simp only [List.mem_append, List.mem_cons] at hx h1
    rcases hx with hx | rfl | hx
    · exact Nat.lt_of_lt_of_le (h1 x (.inl hx)) hz
    · exact Nat.lt_of_lt_of_le (h1 (v, sb, ws) (.inr (.inl rfl))) hz
    · exact Nat.lt_of_lt_of_le (h1 x (.inr (.inr hx))) hz
theorem AhW.add (h : AhW w W bs vs fl) (F : FlV W a l (vs.map fun x => x.2.1)) : AhW w W bs vs (fl ++ [(a, l)]) := ⟨h.v, fun p hp => by
  rcases List.mem_append.1 hp with hp | hp
  · exact h.f p hp
  · simp only [List.mem_cons, List.not_mem_nil, or_false] at hp
    subst hp
    exact F, h.lt⟩
theorem AhW.lts (h : AhW w W bs vs fl) : ∀ x ∈ vs.map (fun x => x.2.1), x < W.heap.size := fun x hx => by
  obtain ⟨y, hy, rfl⟩ := List.mem_map.1 hx
  exact h.lt y hy
theorem AhW.own {sv : Value} (h : AhW w W bs vs fl) (hb : Below W.heap.size W W') (hO : W'.ownsRow W.heap.size 31 1 sv l.length (l.map (Value.float .f64))) (hw : Words l) : ∃ a cap, sv = .slice a l.length cap ∧ AhW w W' bs vs (fl ++ [(a, l)]) := by
  obtain ⟨a, cap, e, hF, _⟩ := own_row hO hw h.lts
  exact ⟨a, cap, e, (h.step hb).add hF⟩
theorem AhW.ownf {sv : Value} (h : AhW w W bs vs fl) (hb : Below W.heap.size W W') (hO : OwnF W' W.heap.size sv l) : ∃ a cap, sv = .slice a l.length cap ∧ AhW w W' bs vs (fl ++ [(a, l)]) := by
  obtain ⟨a, cap, e, hF⟩ := hO.flv h.lts
  exact ⟨a, cap, e, (h.step hb).add hF⟩
theorem vok_st {v : Vw} {st : Nat} (h : v.Ok W sb ws) (e : v.p = some ⟨st, 0, none⟩) : st < W.heap.size := by
  rcases h with rfl | ⟨⟨st', e', h1, _⟩, _⟩
  · cases e
  · rw [e] at e'
    obtain rfl : st = st' := by simpa using e'
    exact h1.lt
theorem AhW.box (h : AhW w W bs vs fl) (cs : List Value) (T : TypeId) : AhW w (W.alloc (.cells cs.toArray T)) (bs ++ [(W.heap.size, cs)]) vs fl := by
  have hb : Below W.heap.size W (W.alloc (.cells cs.toArray T)) := (Below.refl _ _).alloc (Nat.le_refl _) _
  have h3 := h.step hb
  refine ⟨⟨fun p hp => ?_, h3.v.ok, h3.v.words, fun p hp x hx => ?_, h3.v.nn, h3.v.lo, h3.v.below⟩, h3.f, h3.lt⟩
  · rcases List.mem_append.1 hp with hp | hp
    · exact h3.v.bx p hp
    · simp only [List.mem_cons, List.not_mem_nil, or_false] at hp
      subst hp
      exact Box.newA _ _ _ rfl
  · rcases List.mem_append.1 hp with hp | hp
    · exact h.v.nb p hp x hx
    · simp only [List.mem_cons, List.not_mem_nil, or_false] at hp
      subst hp
      have h1 := h.lt x hx
      refine ⟨?_, fun st e => ?_⟩
      · show W.heap.size ≠ x.2.1
        omega
      · show W.heap.size ≠ st
        have := vok_st (h.v.ok x hx) e
        omega
/-- A block more that may be written. -/
theorem AhW.mem {b : Nat} (h : AhW w W bs vs fl) (hb : Below W.heap.size W W') (hM : Mem W' W.heap.size a b zs) (h0 : zs ≠ []) : AhW w W' bs (vs ++ [(Vw.none, b, [])]) fl := by
  have h3 := h.step hb
  have hlo := hM.lo
  have hne : ∀ st, (Vw.none).p = some ⟨st, 0, none⟩ → False := fun st e => by cases e
  refine ⟨⟨h3.v.bx, fun x hx => ?_, fun x hx => ?_, fun p hp x hx => ?_, ?_, fun x hx => ?_, h3.v.below⟩, fun p hp => ?_, fun x hx => ?_⟩
  · rcases List.mem_append.1 hx with hx | hx
    · exact h3.v.ok x hx
    · simp only [List.mem_cons, List.not_mem_nil, or_false] at hx
      subst hx
      exact .inl rfl
  · rcases List.mem_append.1 hx with hx | hx
    · exact h3.v.words x hx
    · simp only [List.mem_cons, List.not_mem_nil, or_false] at hx
      subst hx
      exact fun y hy => by cases hy
  · rcases List.mem_append.1 hx with hx | hx
    · exact h3.v.nb p hp x hx
    · simp only [List.mem_cons, List.not_mem_nil, or_false] at hx
      subst hx
      refine ⟨?_, fun st e => (hne st e).elim⟩
      have := (h.v.bx p hp).lt
      show p.1 ≠ b
      omega
  · refine List.pairwise_append.2 ⟨h3.v.nn, by simp, fun x hx y hy => ?_⟩
    simp only [List.mem_cons, List.not_mem_nil, or_false] at hy
    subst hy
    refine ⟨?_, fun st e => ?_, fun st e => (hne st e).elim⟩
    · have := h.lt x hx
      show x.2.1 ≠ b
      omega
    · have := vok_st (h.v.ok x hx) e
      show st ≠ b
      omega
  · rcases List.mem_append.1 hx with hx | hx
    · exact h3.v.lo x hx
    · simp only [List.mem_cons, List.not_mem_nil, or_false] at hx
      subst hx
      exact Nat.le_trans h.v.below.size hlo
  · refine ⟨(h3.f p hp).fls, fun b0 o e hz x hx => ?_⟩
    rw [List.map_append, List.mem_append] at hx
    rcases hx with hx | hx
    · exact (h3.f p hp).ne b0 o e hz x hx
    · simp only [List.map_cons, List.map_nil, List.mem_cons, List.not_mem_nil, or_false] at hx
      subst hx
      obtain ⟨b', off, e', hlt, _⟩ := (h.f p hp).fls hz
      rw [e] at e'
      simp only [Option.some.injEq, Addr.mk.injEq] at e'
      obtain ⟨rfl, _⟩ := e'
      omega
  · rcases List.mem_append.1 hx with hx | hx
    · exact h3.lt x hx
    · simp only [List.mem_cons, List.not_mem_nil, or_false] at hx
      subst hx
      exact hM.lt h0
end
/-- A column set, the first i places. -/
def pclL (zs l : List Nat) (n j : Nat) : Nat → List Nat
  | 0 => zs
  | i + 1 => (pclL zs l n j i).set (i * n + j) (l.getD i 0)
theorem pclL_len (zs l : List Nat) (n j : Nat) : ∀ i, (pclL zs l n j i).length = zs.length
  | 0 => rfl
  | i + 1 => by rw [pclL, List.length_set]; exact pclL_len zs l n j i
theorem pclL_at (zs l : List Nat) {n j : Nat} (hn : zs.length = n * n) (hj : j < n) : ∀ i, i ≤ n → ∀ p q, p < n → q < n → (pclL zs l n j i).getD (p * n + q) 0 = if q = j ∧ p < i then l.getD p 0 else zs.getD (p * n + q) 0
  | 0, _, p, q, _, _ => by rw [pclL, if_neg (fun h => Nat.not_lt_zero _ h.2)]
  | i + 1, hi, p, q, hp, hq => by
    rw [pclL, getD_set8 _ _ _ _ (by rw [pclL_len, hn]; exact place8 (by omega) hj), pclL_at zs l hn hj i (by omega) p q hp hq]
    by_cases e : i * n + j = p * n + q
    · obtain ⟨rfl, rfl⟩ := place8_inj hj hq e
      rw [if_pos rfl, if_pos ⟨rfl, by omega⟩]
    · rw [if_neg e]
      by_cases e2 : q = j ∧ p < i
      · rw [if_pos e2, if_pos ⟨e2.1, by omega⟩]
      · rw [if_neg e2, if_neg (fun h => e2 ⟨h.1, by have : p ≠ i := fun h3 => e (by rw [h3, h.1]); omega⟩)]
theorem pclL_all (zs l : List Nat) {n j : Nat} (hn : zs.length = n * n) (hj : j < n) : pclL zs l n j n = putclL zs l n j := by
  refine List.ext_getElem (by rw [pclL_len, putclL_len, hn]) fun k h1 h2 => ?_
  rw [pclL_len, hn] at h1
  have e1 : (pclL zs l n j n)[k] = (pclL zs l n j n).getD k 0 := by simp [List.getD_eq_getElem?_getD, pclL_len, hn, h1]
  have e2 : (putclL zs l n j)[k] = (putclL zs l n j).getD k 0 := by simp [List.getD_eq_getElem?_getD, putclL_len, h1]
  obtain ⟨d1, d2, d3⟩ := div_mod8 h1
  rw [e1, e2]
  have e3 := pclL_at zs l hn hj n (Nat.le_refl _) (k / n) (k % n) d1 d2
  rw [d3] at e3
  rw [e3]
  unfold putclL
  rw [getD_map_range _ h1]
  by_cases e : k % n = j
  · rw [if_pos ⟨e, d1⟩, if_pos e]
  · rw [if_neg (fun h => e h.1), if_neg e]
theorem putclL_words {zs l : List Nat} (hz : Words zs) (hl : Words l) (n j : Nat) : Words (putclL zs l n j) := fun x hx => by
  unfold putclL at hx
  obtain ⟨k, _, rfl⟩ := List.mem_map.1 hx
  split
  · exact hl.at _
  · exact hz.at _
/-- A row and the same column turned meet in a place. -/
theorem share_rc {v : Vw} {k : Nat} (hp : v.p.isSome = true) (hr : k < v.r) (hc : k < v.c) : (((v.col k).T.places (plcs (v.col k).T.c ((v.col k).T.r * (v.col k).T.c))).any fun q => decide (q ∈ (v.row k).places (plcs (v.row k).c ((v.row k).r * (v.row k).c)))) = true := by
  rw [List.any_eq_true]
  have pm : ∀ c k : Nat, k < c → (0, k) ∈ plcs c (1 * c) := fun c k h => by
    unfold plcs
    refine List.mem_map.2 ⟨k, List.mem_range.2 (by omega), ?_⟩
    rw [Nat.div_eq_of_lt h, Nat.mod_eq_of_lt h]
  rw [row_form hp hr, col_form hp hc]
  unfold Vw.T Vw.places
  dsimp only
  refine ⟨v.o + k * v.d + k * v.u, List.mem_map.2 ⟨(0, k), pm _ _ hr, ?_⟩, ?_⟩
  · dsimp only
    omega
  · rw [decide_eq_true_eq]
    refine List.mem_map.2 ⟨(0, k), pm _ _ hc, ?_⟩
    dsimp only
    omega
theorem idx8 {i n k N PP : Nat} (hP : PP = i * n) (hlt : PP + k < N) (hN : N ≤ 150) : wrap64 ((i : Int) * (n : Int)) = (PP : Int) ∧ IntKind.i64.wrap ((i : Int) * (n : Int)) = (PP : Int) ∧ IntKind.i64.wrap ((PP : Int) + (k : Int)) = (PP : Int) + k := by
  have h : (i : Int) * (n : Int) = (PP : Int) := by rw [hP]; push_cast; rfl
  rw [h]
  clear h hP
  refine ⟨w64m PP rfl (by omega), wi64m PP rfl (by omega), ?_⟩
  rw [IntKind.wrap_i64]
  omega
theorem fls_at8 {W : World} {lb lo : Nat} {l : List Nat} (h : Fls W (some ⟨lb, lo, none⟩) l) {i : Nat} (hi : i < l.length) : ∃ s, W.cell? ⟨lb, lo + i, none⟩ = some (.float .f64 (raw (l.getD i 0) s)) := by
  obtain ⟨b, off, e, _, hc⟩ := h (fun e => by rw [e] at hi; exact absurd hi (Nat.not_lt_zero _))
  simp only [Option.some.injEq, Addr.mk.injEq, and_true] at e
  obtain ⟨rfl, rfl⟩ := e
  exact hc i _ (by simp [List.getD_eq_getElem?_getD, hi])
theorem swap_no {x y : Vw} (hx : x.p.isSome = true) (hy : y.p.isSome = true) : openE [x, y] (fits_Swap x y true) = 8 := by
  unfold openE fits_Swap
  simp [hx, hy]
theorem ok_of_part {v u : Vw} {W W' : World} {sb : Nat} {ws us : List Nat} (h : v.Ok W sb ws) (k : u.Ok W' sb us) (e : u.p = v.p) (hp : v.p.isSome = true) (hl : us.length = ws.length) : v.Ok W' sb us := by
  rcases h with rfl | ⟨_, hin, hr, hc⟩
  · cases hp
  rcases k with rfl | ⟨hS, _⟩
  · rw [← e] at hp; cases hp
  exact .inr ⟨e ▸ hS, by rw [hl]; exact hin, hr, hc⟩
theorem swap_same {x y : Vw} {st sb : Nat} {ys : List Nat} (ex : x.p = some ⟨st, 0, none⟩) (ey : y.p = some ⟨st, 0, none⟩) (W W' : World) (X1 : List Nat) (hy : y.Ok W sb ys) (hx : x.Ok W' sb X1) (hb : Bel W.heap.size sb W W') : y.Ok W' sb X1 := by
  rcases hy with rfl | ⟨⟨s1, e1, h1, h2, h3⟩, hin, hr, hc⟩
  · cases ey
  rcases hx with rfl | ⟨⟨s2, e2, g1, g2, g3⟩, _⟩
  · cases ex
  rw [ey] at e1
  rw [ex] at e2
  obtain rfl : st = s1 := by simpa using e1
  obtain rfl : st = s2 := by simpa using e2
  have hne := Sto.ne h1 h2
  have hl : ys.length = X1.length := by
    have := (h1.bel hne hb).inj g1
    simpa using this
  exact .inr ⟨⟨st, ey, g1, g2, g3⟩, by rw [← hl]; exact hin, hr, hc⟩
end Go.Proofs.Ytbcdpibcieadlaa

/- Layer 8, the document: Ger (printed by gen_lm.py). No condition but on lengths. -/
namespace Go.Proofs.Ytbcdpibcieadlaa
open Go Go.RowKit
set_option maxRecDepth 1000000

/-- An entry of a matrix to which a vector times another one is added, as the document says. -/
def gerD (a : Nat) (zx zy zm : List Nat) (c i j : Nat) : Nat := fadd (zm.getD (i * c + j) 0) (fmul (fmul a (atL zx i)) (atL zy j))
theorem gerD_lt (a : Nat) (zx zy zm : List Nat) (c i j : Nat) : gerD a zx zy zm c i j < 18446744073709551616 := fadd_lt _ _
set_option maxHeartbeats 16000000 in
theorem RGer_any (w : World) (a : Nat) (rm cm : Nat) (am ax ay : Option Addr) (zm zx zy : List Nat) (pm px py : Nat) (hm : Fls w am zm) (hx : Fls w ax zx) (hy : Fls w ay zy) (lm : zm.length ≤ 262144) (lx : zx.length ≤ 262144) (ly : zy.length ≤ 262144) (nm : zm.length = rm * cm) (um : rm ≤ 512) (vm : cm ≤ 512) (e1 : rm = zx.length) (e2 : cm = zy.length) :
    Calls Try.prog 41 #[.float .f64 a, .slice ax zx.length px, .slice ay zy.length py, .agg #[.int .i64 rm, .int .i64 cm, .slice am zm.length pm]] w fun e w' => (∃ a' c', e = .returned (.agg #[.int .i64 rm, .int .i64 cm, .slice a' (fillL (gerD a zx zy zm cm) cm zm (rm * cm)).length c']) ∧ Fls w' a' (fillL (gerD a zx zy zm cm) cm zm (rm * cm))) ∧ Below w.heap.size w w' := by
  rw [fillL_len]
  obtain ⟨W0, hW0⟩ : ∃ W0, W0 = ((w.alloc (.cells #[.int .i64 rm, .int .i64 cm, .slice am zm.length pm] 24)).alloc (.cells #[.int .i64 0, .int .i64 0, .slice none 0 0] 24)) := ⟨_, rfl⟩
  have hB0 : Below w.heap.size w W0 := hW0 ▸ ((Below.refl _ _).alloc (Nat.le_refl _) _).alloc (by simp) _
  have x0 : Box W0 (w.heap.size) [.int .i64 rm, .int .i64 cm, .slice am zm.length pm] := hW0 ▸ ((Box.newA w [.int .i64 rm, .int .i64 cm, .slice am zm.length pm] _ rfl).alloc _)
  have x1 : Box W0 (w.heap.size + 1) [.int .i64 0, .int .i64 0, .slice none 0 0] := hW0 ▸ (Box.newA _ [.int .i64 0, .int .i64 0, .slice none 0 0] _ (by simp))
  have S0 := Lib.hid (show BoxS w W0 [(w.heap.size, [.int .i64 rm, .int .i64 cm, .slice am zm.length pm]), (w.heap.size + 1, [.int .i64 0, .int .i64 0, .slice none 0 0])] from ⟨fun p hp => by
    simp only [List.mem_cons, List.not_mem_nil, or_false] at hp
    rcases hp with rfl | rfl
    · exact x0
    · exact x1
    , hB0⟩)
  have HAt := Lib.hid (fun W (h : Below w.heap.size w W) i j (hi : i < rm) (hj : j < cm) => RAt_any W rm cm i j am zm pm (hm.below h) lm (by rw [nm]; exact place8 hi hj))
  have HCp := Lib.hid (fun W (h : Below w.heap.size w W) => RCopy_any W rm cm am zm pm (hm.below h) lm)
  have HVx := Lib.hid (fun W (h : Below w.heap.size w W) i (hi : i < rm) => (hx.below h).at8 (i := i) (by omega))
  have HVy := Lib.hid (fun W (h : Below w.heap.size w W) j (hj : j < cm) => (hy.below h).at8 (i := j) (by omega))
  rw [← e1, ← e2]
  have HE := Lib.hid (show _ ∧ _ from ⟨e1, e2⟩)
  have HN := Lib.hid (show _ ∧ _ from ⟨nm, lm⟩)
  have hco : cm ≤ 512 := vm
  have hro : rm ≤ 512 := um
  clear hB0 x0 x1 hm lm hx lx hy ly nm um vm e1 e2
  go_enter Try.func41, Try.ntmps41
  go_upto_region 1 with (fail)
  rw [← hW0]
  clear hW0
  obtain ⟨f01, f02, f03⟩ := (S0.out.get 0 rfl).facts
  go_wp2_with fail
  refine (HCp.out _ S0.out.below).mono ?_
  rintro e w1 ⟨⟨ra, b0, rc, rfl, hMem⟩, hb⟩
  have D0 := Lib.hid (BoxS.copy (cs := [.int .i64 rm, .int .i64 cm, .slice ra zm.length rc]) (S0.out.step hb) S0.out hMem)
  clear f01 f02 f03 hMem hb HCp S0
  dsimp only
  go_upto_region 2 with (fail)
  obtain ⟨P, hPP⟩ : ∃ P, P = w1.heap.size := ⟨_, rfl⟩
  simp only [← hPP] at D0 ⊢
  generalize w1.alloc (.cells #[.int .i64 rm, .int .i64 cm, .slice ra zm.length rc] 24) = V0 at *
  clear hPP
  replace D0 : Hid (DocW w V0 ([(w.heap.size, [.int .i64 rm, .int .i64 cm, .slice am zm.length pm]), (w.heap.size + 1, [.int .i64 0, .int .i64 0, .slice none 0 0])] ++ [(P, [.int .i64 rm, .int .i64 cm, .slice ra zm.length rc])]) ra b0 (fillL (gerD a zx zy zm cm) cm zm (0 * cm))) := by rw [Nat.zero_mul]; exact D0
  go_wp2_with fail
  go_loopw [10] (fun si wr => ∃ i : Nat, i ≤ rm ∧ si = .int .i64 i ∧ DocW w wr ([(w.heap.size, [.int .i64 rm, .int .i64 cm, .slice am zm.length pm]), (w.heap.size + 1, [.int .i64 0, .int .i64 0, .slice none 0 0])] ++ [(P, [.int .i64 rm, .int .i64 cm, .slice ra zm.length rc])]) ra b0 (fillL (gerD a zx zy zm cm) cm zm (i * cm))) (fun si _ => rm - (intOf si).toNat)
  case atStart => exact ⟨0, Nat.zero_le _, rfl, D0.out⟩
  case round =>
    obtain ⟨i, hi, rfl, hD⟩ := hrel
    have D1 := Lib.hid hD
    clear hD D0
    by_cases hir : i < rm
    · skip
      obtain ⟨f11, f12, f13⟩ := (D1.out.get 0 rfl).facts
      go_wp2_with fail
      clear f11 f12 f13
      go_loopw [11] (fun sj wr => ∃ j : Nat, j ≤ cm ∧ sj = .int .i64 j ∧ DocW w wr ([(w.heap.size, [.int .i64 rm, .int .i64 cm, .slice am zm.length pm]), (w.heap.size + 1, [.int .i64 0, .int .i64 0, .slice none 0 0])] ++ [(P, [.int .i64 rm, .int .i64 cm, .slice ra zm.length rc])]) ra b0 (fillL (gerD a zx zy zm cm) cm zm (i * cm + j))) (fun sj _ => cm - (intOf sj).toNat)
      case atStart => exact ⟨0, Nat.zero_le _, rfl, D1.out⟩
      case round =>
        obtain ⟨j, hj, rfl, hD⟩ := hrel
        have D2 := Lib.hid hD
        clear hD D1
        by_cases hjc : j < cm
        · skip
          obtain ⟨f11, f12, f13⟩ := (D2.out.get 0 rfl).facts
          obtain ⟨PP, hPP⟩ : ∃ PP, PP = i * cm := ⟨_, rfl⟩
          have t1 : wrap64 ((i : Int) * (cm : Int)) = (PP : Int) ∧ IntKind.i64.wrap ((i : Int) * (cm : Int)) = (PP : Int) := by
            have hpl := place8 hir hjc
            have := HN.out.1
            have := HN.out.2
            exact ⟨w64m PP (by rw [hPP]; push_cast; rfl) (by omega), wi64m PP (by rw [hPP]; push_cast; rfl) (by omega)⟩
          have HPP := Lib.hid hPP
          clear hPP
          have t2 : IntKind.i64.wrap ((PP : Int) + (j : Int)) = (PP : Int) + j := by have hpl := place8 hir hjc; have h1 := HN.out.1; have h2 := HN.out.2; rw [IntKind.wrap_i64]; have := HPP.out; omega
          have HA1 := Lib.hid (fun W h => HAt.out W h i j hir hjc)
          obtain ⟨bx, ox, sx, rfl, cx1, cx2⟩ := HVx.out wr D2.out.below i hir
          obtain ⟨by', oy, sy, rfl, cy1, cy2⟩ := HVy.out wr D2.out.below j hjc
          have hV : gerD a zx zy zm cm i j = fadd (zm.getD (i * cm + j) 0) (fmul (fmul a (atL zx i)) (atL zy j)) := rfl
          have HV := Lib.hid hV
          clear hV
          generalize atL zx i = X at *
          generalize atL zy j = Y at *
          generalize zm.getD (i * cm + j) 0 = zv at *
          have hijx : i < rm ∧ j < cm := ⟨hir, hjc⟩
          go_upto_region 9 with (refine wpList_flt rfl rfl rfl rfl rfl ?_; intro K hK sq0 nq0; go_frame; refine hK _ _ ?_; clear hK K)
          have hdq : Below wr.heap.size wr (wr.drewN nq0) := below_drewN nq0 (Below.refl _ _)
          have cy3 := cells_of_below hdq _ _ _ cy2
          have cy4 := Nat.lt_of_lt_of_le cy1 hdq.size
          have D2a := Lib.hid (D2.out.step hdq)
          clear hdq f11 f12 f13 cx1 cx2 cy1 cy2
          generalize wr.drewN nq0 = wq1 at *
          go_upto_region 10 with (refine wpList_flt rfl rfl rfl rfl rfl ?_; intro K hK sq1 nq1; go_frame; refine hK _ _ ?_; clear hK K)
          have hdq : Below wq1.heap.size wq1 (wq1.drewN nq1) := below_drewN nq1 (Below.refl _ _)
          have D2b := Lib.hid (D2a.out.step hdq)
          clear hdq cy3 cy4
          generalize wq1.drewN nq1 = wq at *
          have D3 := D2b
          clear D2a D2b D2
          simp only [fmul_rawl, fmul_rawr]
          -- REGION
          have hdr : Below wq.heap.size wq wq.drew := below_drewN 1 (Below.refl _ wq)
          have D4 := Lib.hid (D3.out.step hdr)
          clear D3
          have HS := Lib.hid (show ∀ W, Below wq.drew.heap.size wq.drew W → (fun W => (∀ i, W.cell? ⟨w.heap.size, i, none⟩ = ([.int .i64 rm, .int .i64 cm, .slice am zm.length pm] : List Value)[i]?) ∧ (∀ i, W.cell? ⟨P, i, none⟩ = ([.int .i64 rm, .int .i64 cm, .slice ra zm.length rc] : List Value)[i]?)) W from fun W h => ⟨((D4.out.step h).get 0 rfl).cell, ((D4.out.step h).get 2 rfl).cell⟩)
          have HPl := Lib.hid (place8 hir hjc)
          refine wp_region_items 14 [(true, 0), (true, 1), (true, 2), (true, 3), (true, 4), (true, 5), (true, 6), (true, 7), (true, 8), (true, 9), (true, 10), (true, 12), (false, 11), (false, 13)] (fun W => (∀ i, W.cell? ⟨w.heap.size, i, none⟩ = ([.int .i64 rm, .int .i64 cm, .slice am zm.length pm] : List Value)[i]?) ∧ (∀ i, W.cell? ⟨P, i, none⟩ = ([.int .i64 rm, .int .i64 cm, .slice ra zm.length rc] : List Value)[i]?)) (by kernel_rfl) (by kernel_rfl) (HS.out _ (Below.refl _ _)) ?_
          generalize wq.drew = w2 at *
          clear hdr
          have hPj : PP + j < 262144 := by have h1 := HPl.out; have h2 := HPP.out; have h3 := HN.out.1; have h4 := HN.out.2; omega
          iterate 12 (refine iW_take (v := ?_) rfl rfl ?_ ?_; rotate_left; (next => (intro w' hSw; (try dsimp only at hSw); go_simp; (try (rw [if_pos (by omega)]; go_simp)); (try with_reducible rfl))); (simp only [Act.put, List.setIfInBounds_toArray, List.set_cons_zero, List.set_cons_succ]))
          refine iW_mid rfl rfl ?_
          go_simp
          refine (HA1.out w2 D4.out.below).mono ?_
          rintro e w3 ⟨⟨s3, rfl⟩, hb⟩
          have D5 := Lib.hid (D4.out.step hb)
          refine ⟨HS.out _ hb, ?_⟩
          have HS2 := Lib.hid (fun W (h : Below w3.heap.size w3 W) => HS.out W (below_step hb hb.size h))
          clear hb
          refine iW_mid rfl rfl ?_
          refine wp_flt rfl rfl rfl rfl ?_
          intro s4 n4
          have hb : Below w3.heap.size w3 (w3.drewN n4) := below_drewN n4 (Below.refl _ _)
          have D9 := Lib.hid (D5.out.step hb)
          refine ⟨HS2.out _ hb, ?_⟩
          generalize w3.drewN n4 = w8 at *
          clear hb
          refine iW_nil ?_
          go_simp
          rw [← HV.out]
          have hlen := fillL_len (gerD a zx zy zm cm) cm zm (i * cm + j)
          obtain ⟨rfl, hF⟩ := D9.out.flb (k := i * cm + j) (by rw [hlen, HN.out.1]; exact HPl.out)
          have hF1 := hF.lt
          have hF2 := hF.frozen
          obtain ⟨sf, hF3⟩ := hF.at (i := i * cm + j) (by rw [hlen, HN.out.1]; exact HPl.out)
          have DD := Lib.hid (show DocW w (w8.setCell ⟨b0, i * cm + j, none⟩ (.float .f64 (raw (gerD a zx zy zm cm i j) s4))) ([(w.heap.size, [.int .i64 rm, .int .i64 cm, .slice am zm.length pm]), (w.heap.size + 1, [.int .i64 0, .int .i64 0, .slice none 0 0])] ++ [(P, [.int .i64 rm, .int .i64 cm, .slice (some ⟨b0, 0, none⟩) zm.length rc])]) (some ⟨b0, 0, none⟩) b0 (fillL (gerD a zx zy zm cm) cm zm (i * cm + (j + 1))) from by
            rw [← Nat.add_assoc, fillL_at _ _ _ hjc]
            exact D9.out.set (by rw [hlen, HN.out.1]; exact HPl.out) _ s4)
          generalize gerD a zx zy zm cm i j = tv at *
          have hpz : PP + j < zm.length := by rw [HN.out.1, HPP.out]; exact HPl.out
          rw [← HPP.out] at hF3 DD
          have hzz := HN.out.2
          clear hF hlen D9
          go_wp2_with fail
          refine NoPanic.normal ?_
          go_wp2_with fail
          go_roundw
          case rel => exact ⟨j + 1, hjc, by go_num, by rw [← HPP.out]; exact DD.out⟩
          case measure => simp [intOf]; omega
        · skip
          obtain rfl : j = cm := by omega
          obtain ⟨f11, f12, f13⟩ := (D2.out.get 0 rfl).facts
          go_wp2_with fail
          go_roundw
          case rel => exact ⟨i + 1, hir, by go_num, by rw [Nat.succ_mul]; exact D2.out⟩
          case measure => simp [intOf]; omega
    · skip
      obtain rfl : i = rm := by omega
      obtain ⟨f11, f12, f13⟩ := (D1.out.get 0 rfl).facts
      obtain ⟨f21, f22, f23⟩ := (D1.out.get 1 rfl).facts
      obtain ⟨f31, f32, f33⟩ := (D1.out.get 2 rfl).facts
      go_wp2_with fail
      have hx2 := D1.out.get 1 rfl
      have hne := D1.out.ne
      have hfs := D1.out.fs
      have hbl := D1.out.below
      refine bodyPost_ret (results_one rfl (rv_cell (g := w.heap.size + 1) rfl (hx2.put3 _ _ _) rfl Try.underlying24 (by kernel_rfl))) rfl ⟨⟨ra, rc, rfl, ?_⟩, ?_⟩
      · have hq : ∀ u0 u1 u2, Fls (((wr.setCell ⟨w.heap.size + 1, 0, none⟩ u0).setCell ⟨w.heap.size + 1, 1, none⟩ u1).setCell ⟨w.heap.size + 1, 2, none⟩ u2) ra (fillL (gerD a zx zy zm cm) cm zm (i * cm)) := fun u0 u1 u2 => by
          by_cases hz : (fillL (gerD a zx zy zm cm) cm zm (i * cm)) = []
          · rw [hz]; exact fun h => absurd rfl h
          · rcases hfs with h | ⟨e, hF⟩
            · exact absurd h hz
            · subst e
              have hn := hne hz (w.heap.size + 1, [.int .i64 0, .int .i64 0, .slice none 0 0]) (List.mem_of_getElem? (i := 1) rfl)
              exact (((hF.other (Ne.symm hn) _ _).other (Ne.symm hn) _ _).other (Ne.symm hn) _ _).fls
        exact hq _ _ _
      · exact below_put3 hbl (by omega) _ _ _
end Go.Proofs.Ytbcdpibcieadlaa
