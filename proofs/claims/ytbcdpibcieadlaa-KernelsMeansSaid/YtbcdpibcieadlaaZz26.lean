/- Layer 8: views, boxes, and floats beside them, in one hand; a column set place by place. No condition but on lengths. -/
import Derived.Test.YtbcdpibcieadlaaZz25
import Derived.Test.YtbcdpibcieadlaaZz24
namespace Go.Proofs.Ytbcdpibcieadlaa
open Go Go.RowKit
set_option maxRecDepth 1000000

structure AhW (w W : World) (bs : List (Nat × List Value)) (vs : List Vs) (fl : List (Option Addr × List Nat)) : Prop where
  v : VsW w W bs vs
  f : ∀ p ∈ fl, FlV W p.1 p.2 (vs.map fun x => x.2.1)
  lt : ∀ x ∈ vs, x.2.1 < W.heap.size
section
variable {w W W' : World} {bs : List (Nat × List Value)} {vs : List Vs} {fl : List (Option Addr × List Nat)} {v : Vw} {sb : Nat} {ws us l zs : List Nat} {a : Option Addr}
theorem AhW.of (h : VsW w W bs vs) (hs : ∀ x ∈ vs, x.1.p.isSome = true) : AhW w W bs vs [] := ⟨h, fun p hp => (by cases hp), fun x hx => (Vw.Ok.sto (h.ok x hx) (hs x hx)).1⟩
theorem AhW.step (h : AhW w W bs vs fl) (hb : Below W.heap.size W W') : AhW w W' bs vs fl := ⟨h.v.step hb, fun p hp => (h.f p hp).step hb, fun x hx => Nat.lt_of_lt_of_le (h.lt x hx) hb.size⟩
theorem AhW.below (h : AhW w W bs vs fl) : Below w.heap.size w W := h.v.below
theorem AhW.get (h : AhW w W bs vs fl) (k : Nat) {n : Nat} {cs : List Value} (hk : bs[k]? = some (n, cs)) : Box W n cs := h.v.get k hk
theorem AhW.vw (h : AhW w W bs vs fl) (k : Nat) {v : Vw} {sb : Nat} {ws : List Nat} (hk : vs[k]? = some (v, sb, ws)) : v.Ok W sb ws ∧ Words ws := h.v.vw k hk
theorem AhW.fls (h : AhW w W bs vs fl) (k : Nat) (hk : fl[k]? = some (a, l)) : Fls W a l := (h.f _ (List.mem_of_getElem? hk)).fls
theorem AhW.put {ls cs : List Vs} (h : AhW w W bs (ls ++ (v, sb, ws) :: cs) fl) (ho : v.Ok W' sb us) (hW : Words us) (hb : Bel W.heap.size sb W W') : AhW w W' bs (ls ++ (v, sb, us) :: cs) fl := by
  refine ⟨h.v.put ho hW hb, fun p hp => ?_, fun x hx => ?_⟩
  · have e : (ls ++ (v, sb, us) :: cs).map (fun x => x.2.1) = (ls ++ (v, sb, ws) :: cs).map (fun x => x.2.1) := by simp
    rw [e]
    exact (h.f p hp).put (by simp) hb
  · have hz := hb.size
    have h1 := h.lt
    simp only [List.mem_append, List.mem_cons] at hx h1
    rcases hx with hx | rfl | hx
    · exact Nat.lt_of_lt_of_le (h1 x (.inl hx)) hz
    · exact Nat.lt_of_lt_of_le (h1 (v, sb, ws) (.inr (.inl rfl))) hz
    · exact Nat.lt_of_lt_of_le (h1 x (.inr (.inr hx))) hz
theorem AhW.add (h : AhW w W bs vs fl) (F : FlV W a l (vs.map fun x => x.2.1)) : AhW w W bs vs (fl ++ [(a, l)]) := ⟨h.v, fun p hp => by
  rcases List.mem_append.1 hp with hp | hp
  · exact h.f p hp
  · simp only [List.mem_cons, List.not_mem_nil, or_false] at hp
    subst hp
    exact F, h.lt⟩
theorem AhW.lts (h : AhW w W bs vs fl) : ∀ x ∈ vs.map (fun x => x.2.1), x < W.heap.size := fun x hx => by
  obtain ⟨y, hy, rfl⟩ := List.mem_map.1 hx
  exact h.lt y hy
theorem AhW.own {sv : Value} (h : AhW w W bs vs fl) (hb : Below W.heap.size W W') (hO : W'.ownsRow W.heap.size 31 1 sv l.length (l.map (Value.float .f64))) (hw : Words l) : ∃ a cap, sv = .slice a l.length cap ∧ AhW w W' bs vs (fl ++ [(a, l)]) := by
  obtain ⟨a, cap, e, hF, _⟩ := own_row hO hw h.lts
  exact ⟨a, cap, e, (h.step hb).add hF⟩
theorem AhW.ownf {sv : Value} (h : AhW w W bs vs fl) (hb : Below W.heap.size W W') (hO : OwnF W' W.heap.size sv l) : ∃ a cap, sv = .slice a l.length cap ∧ AhW w W' bs vs (fl ++ [(a, l)]) := by
  obtain ⟨a, cap, e, hF⟩ := hO.flv h.lts
  exact ⟨a, cap, e, (h.step hb).add hF⟩
theorem vok_st {v : Vw} {st : Nat} (h : v.Ok W sb ws) (e : v.p = some ⟨st, 0, none⟩) : st < W.heap.size := by
  rcases h with rfl | ⟨⟨st', e', h1, _⟩, _⟩
  · cases e
  · rw [e] at e'
    obtain rfl : st = st' := by simpa using e'
    exact h1.lt
theorem AhW.box (h : AhW w W bs vs fl) (cs : List Value) (T : TypeId) : AhW w (W.alloc (.cells cs.toArray T)) (bs ++ [(W.heap.size, cs)]) vs fl := by
  have hb : Below W.heap.size W (W.alloc (.cells cs.toArray T)) := (Below.refl _ _).alloc (Nat.le_refl _) _
  have h3 := h.step hb
  refine ⟨⟨fun p hp => ?_, h3.v.ok, h3.v.words, fun p hp x hx => ?_, h3.v.nn, h3.v.lo, h3.v.below⟩, h3.f, h3.lt⟩
  · rcases List.mem_append.1 hp with hp | hp
    · exact h3.v.bx p hp
    · simp only [List.mem_cons, List.not_mem_nil, or_false] at hp
      subst hp
      exact Box.newA _ _ _ rfl
  · rcases List.mem_append.1 hp with hp | hp
    · exact h.v.nb p hp x hx
    · simp only [List.mem_cons, List.not_mem_nil, or_false] at hp
      subst hp
      have h1 := h.lt x hx
      refine ⟨?_, fun st e => ?_⟩
      · show W.heap.size ≠ x.2.1
        omega
      · show W.heap.size ≠ st
        have := vok_st (h.v.ok x hx) e
        omega
/-- A block more that may be written. -/
theorem AhW.mem {b : Nat} (h : AhW w W bs vs fl) (hb : Below W.heap.size W W') (hM : Mem W' W.heap.size a b zs) (h0 : zs ≠ []) : AhW w W' bs (vs ++ [(Vw.none, b, [])]) fl := by
  have h3 := h.step hb
  have hlo := hM.lo
  have hne : ∀ st, (Vw.none).p = some ⟨st, 0, none⟩ → False := fun st e => by cases e
  refine ⟨⟨h3.v.bx, fun x hx => ?_, fun x hx => ?_, fun p hp x hx => ?_, ?_, fun x hx => ?_, h3.v.below⟩, fun p hp => ?_, fun x hx => ?_⟩
  · rcases List.mem_append.1 hx with hx | hx
    · exact h3.v.ok x hx
    · simp only [List.mem_cons, List.not_mem_nil, or_false] at hx
      subst hx
      exact .inl rfl
  · rcases List.mem_append.1 hx with hx | hx
    · exact h3.v.words x hx
    · simp only [List.mem_cons, List.not_mem_nil, or_false] at hx
      subst hx
      exact fun y hy => by cases hy
  · rcases List.mem_append.1 hx with hx | hx
    · exact h3.v.nb p hp x hx
    · simp only [List.mem_cons, List.not_mem_nil, or_false] at hx
      subst hx
      refine ⟨?_, fun st e => (hne st e).elim⟩
      have := (h.v.bx p hp).lt
      show p.1 ≠ b
      omega
  · refine List.pairwise_append.2 ⟨h3.v.nn, by simp, fun x hx y hy => ?_⟩
    simp only [List.mem_cons, List.not_mem_nil, or_false] at hy
    subst hy
    refine ⟨?_, fun st e => ?_, fun st e => (hne st e).elim⟩
    · have := h.lt x hx
      show x.2.1 ≠ b
      omega
    · have := vok_st (h.v.ok x hx) e
      show st ≠ b
      omega
  · rcases List.mem_append.1 hx with hx | hx
    · exact h3.v.lo x hx
    · simp only [List.mem_cons, List.not_mem_nil, or_false] at hx
      subst hx
      exact Nat.le_trans h.v.below.size hlo
  · refine ⟨(h3.f p hp).fls, fun b0 o e hz x hx => ?_⟩
    rw [List.map_append, List.mem_append] at hx
    rcases hx with hx | hx
    · exact (h3.f p hp).ne b0 o e hz x hx
    · simp only [List.map_cons, List.map_nil, List.mem_cons, List.not_mem_nil, or_false] at hx
      subst hx
      obtain ⟨b', off, e', hlt, _⟩ := (h.f p hp).fls hz
      rw [e] at e'
      simp only [Option.some.injEq, Addr.mk.injEq] at e'
      obtain ⟨rfl, _⟩ := e'
      omega
  · rcases List.mem_append.1 hx with hx | hx
    · exact h3.lt x hx
    · simp only [List.mem_cons, List.not_mem_nil, or_false] at hx
      subst hx
      exact hM.lt h0
end
/-- A column set, the first i places. -/
def pclL (zs l : List Nat) (n j : Nat) : Nat → List Nat
  | 0 => zs
  | i + 1 => (pclL zs l n j i).set (i * n + j) (l.getD i 0)
theorem pclL_len (zs l : List Nat) (n j : Nat) : ∀ i, (pclL zs l n j i).length = zs.length
  | 0 => rfl
  | i + 1 => by rw [pclL, List.length_set]; exact pclL_len zs l n j i
theorem pclL_at (zs l : List Nat) {n j : Nat} (hn : zs.length = n * n) (hj : j < n) : ∀ i, i ≤ n → ∀ p q, p < n → q < n → (pclL zs l n j i).getD (p * n + q) 0 = if q = j ∧ p < i then l.getD p 0 else zs.getD (p * n + q) 0
  | 0, _, p, q, _, _ => by rw [pclL, if_neg (fun h => Nat.not_lt_zero _ h.2)]
  | i + 1, hi, p, q, hp, hq => by
    rw [pclL, getD_set8 _ _ _ _ (by rw [pclL_len, hn]; exact place8 (by omega) hj), pclL_at zs l hn hj i (by omega) p q hp hq]
    by_cases e : i * n + j = p * n + q
    · obtain ⟨rfl, rfl⟩ := place8_inj hj hq e
      rw [if_pos rfl, if_pos ⟨rfl, by omega⟩]
    · rw [if_neg e]
      by_cases e2 : q = j ∧ p < i
      · rw [if_pos e2, if_pos ⟨e2.1, by omega⟩]
      · rw [if_neg e2, if_neg (fun h => e2 ⟨h.1, by have : p ≠ i := fun h3 => e (by rw [h3, h.1]); omega⟩)]
theorem pclL_all (zs l : List Nat) {n j : Nat} (hn : zs.length = n * n) (hj : j < n) : pclL zs l n j n = putclL zs l n j := by
  refine List.ext_getElem (by rw [pclL_len, putclL_len, hn]) fun k h1 h2 => ?_
  rw [pclL_len, hn] at h1
  have e1 : (pclL zs l n j n)[k] = (pclL zs l n j n).getD k 0 := by simp [List.getD_eq_getElem?_getD, pclL_len, hn, h1]
  have e2 : (putclL zs l n j)[k] = (putclL zs l n j).getD k 0 := by simp [List.getD_eq_getElem?_getD, putclL_len, h1]
  obtain ⟨d1, d2, d3⟩ := div_mod8 h1
  rw [e1, e2]
  have e3 := pclL_at zs l hn hj n (Nat.le_refl _) (k / n) (k % n) d1 d2
  rw [d3] at e3
  rw [e3]
  unfold putclL
  rw [getD_map_range _ h1]
  by_cases e : k % n = j
  · rw [if_pos ⟨e, d1⟩, if_pos e]
  · rw [if_neg (fun h => e h.1), if_neg e]
theorem putclL_words {zs l : List Nat} (hz : Words zs) (hl : Words l) (n j : Nat) : Words (putclL zs l n j) := fun x hx => by
  unfold putclL at hx
  obtain ⟨k, _, rfl⟩ := List.mem_map.1 hx
  split
  · exact hl.at _
  · exact hz.at _
/-- A row and the same column turned meet in a place. -/
theorem share_rc {v : Vw} {k : Nat} (hp : v.p.isSome = true) (hr : k < v.r) (hc : k < v.c) : (((v.col k).T.places (plcs (v.col k).T.c ((v.col k).T.r * (v.col k).T.c))).any fun q => decide (q ∈ (v.row k).places (plcs (v.row k).c ((v.row k).r * (v.row k).c)))) = true := by
  rw [List.any_eq_true]
  have pm : ∀ c k : Nat, k < c → (0, k) ∈ plcs c (1 * c) := fun c k h => by
    unfold plcs
    refine List.mem_map.2 ⟨k, List.mem_range.2 (by omega), ?_⟩
    rw [Nat.div_eq_of_lt h, Nat.mod_eq_of_lt h]
  rw [row_form hp hr, col_form hp hc]
  unfold Vw.T Vw.places
  dsimp only
  refine ⟨v.o + k * v.d + k * v.u, List.mem_map.2 ⟨(0, k), pm _ _ hr, ?_⟩, ?_⟩
  · dsimp only
    omega
  · rw [decide_eq_true_eq]
    refine List.mem_map.2 ⟨(0, k), pm _ _ hc, ?_⟩
    dsimp only
    omega
theorem idx8 {i n k N PP : Nat} (hP : PP = i * n) (hlt : PP + k < N) (hN : N ≤ 150) : wrap64 ((i : Int) * (n : Int)) = (PP : Int) ∧ IntKind.i64.wrap ((i : Int) * (n : Int)) = (PP : Int) ∧ IntKind.i64.wrap ((PP : Int) + (k : Int)) = (PP : Int) + k := by
  have h : (i : Int) * (n : Int) = (PP : Int) := by rw [hP]; push_cast; rfl
  rw [h]
  clear h hP
  refine ⟨w64m PP rfl (by omega), wi64m PP rfl (by omega), ?_⟩
  rw [IntKind.wrap_i64]
  omega
theorem fls_at8 {W : World} {lb lo : Nat} {l : List Nat} (h : Fls W (some ⟨lb, lo, none⟩) l) {i : Nat} (hi : i < l.length) : ∃ s, W.cell? ⟨lb, lo + i, none⟩ = some (.float .f64 (raw (l.getD i 0) s)) := by
  obtain ⟨b, off, e, _, hc⟩ := h (fun e => by rw [e] at hi; exact absurd hi (Nat.not_lt_zero _))
  simp only [Option.some.injEq, Addr.mk.injEq, and_true] at e
  obtain ⟨rfl, rfl⟩ := e
  exact hc i _ (by simp [List.getD_eq_getElem?_getD, hi])
theorem swap_no {x y : Vw} (hx : x.p.isSome = true) (hy : y.p.isSome = true) : openE [x, y] (fits_Swap x y true) = 8 := by
  unfold openE fits_Swap
  simp [hx, hy]
theorem ok_of_part {v u : Vw} {W W' : World} {sb : Nat} {ws us : List Nat} (h : v.Ok W sb ws) (k : u.Ok W' sb us) (e : u.p = v.p) (hp : v.p.isSome = true) (hl : us.length = ws.length) : v.Ok W' sb us := by
  rcases h with rfl | ⟨_, hin, hr, hc⟩
  · cases hp
  rcases k with rfl | ⟨hS, _⟩
  · rw [← e] at hp; cases hp
  exact .inr ⟨e ▸ hS, by rw [hl]; exact hin, hr, hc⟩
theorem swap_same {x y : Vw} {st sb : Nat} {ys : List Nat} (ex : x.p = some ⟨st, 0, none⟩) (ey : y.p = some ⟨st, 0, none⟩) (W W' : World) (X1 : List Nat) (hy : y.Ok W sb ys) (hx : x.Ok W' sb X1) (hb : Bel W.heap.size sb W W') : y.Ok W' sb X1 := by
  rcases hy with rfl | ⟨⟨s1, e1, h1, h2, h3⟩, hin, hr, hc⟩
  · cases ey
  rcases hx with rfl | ⟨⟨s2, e2, g1, g2, g3⟩, _⟩
  · cases ex
  rw [ey] at e1
  rw [ex] at e2
  obtain rfl : st = s1 := by simpa using e1
  obtain rfl : st = s2 := by simpa using e2
  have hne := Sto.ne h1 h2
  have hl : ys.length = X1.length := by
    have := (h1.bel hne hb).inj g1
    simpa using this
  exact .inr ⟨⟨st, ey, g1, g2, g3⟩, by rw [← hl]; exact hin, hr, hc⟩
end Go.Proofs.Ytbcdpibcieadlaa

/- Regions that draw their order: as Nq12, but an operation of the chain may wait for some of those beside it. No condition. -/
namespace Go.Proofs.Ytbcdpibcieadlaa
open Go Go.RowKit
section
variable {P : Program} {ops : Array Oper} {Q : Exit → Act → World → Prop} {md : Region.Mode} {S : World → Prop} {n : Nat}
def waitB (nd : List (Nat × Nat)) (c : Nat) (pd : List Nat) : Bool := nd.any fun p => decide (p.1 = c) && pd.contains p.2
def deadB (nd : List (Nat × Nat)) (rc pd : List Nat) : Bool := nd.any fun p => !rc.contains p.1 && pd.contains p.2
theorem deadB_tail {nd : List (Nat × Nat)} {c : Nat} {rc pd : List Nat} (h : deadB nd (c :: rc) pd = false) (hw : waitB nd c pd = false) : deadB nd rc pd = false := by
  unfold deadB waitB at *
  rw [List.any_eq_false] at *
  intro p hp
  have h1 := h p hp
  have h2 := hw p hp
  simp at h1 h2 ⊢
  intro h3
  by_cases e : p.1 = c
  · exact h2 e
  · exact h1 e h3
theorem deadB_erase {nd : List (Nat × Nat)} {q : Nat} {rc pd : List Nat} (h : deadB nd rc pd = false) : deadB nd rc (pd.erase q) = false := by
  unfold deadB at *
  rw [List.any_eq_false] at *
  intro p hp
  have h1 := h p hp
  simp at h1 ⊢
  intro h3 h4
  exact h1 h3 (List.mem_of_mem_erase h4)
def stateN (nd : List (Nat × Nat)) (md : Region.Mode) (ops : Array Oper) (n : Nat) (rc pd : List Nat) : Bool :=
  match rc with
  | [] => match pd with
    | [] => Region.seqB md ops (ops.size - n) n (lstd ops.size n [] [])
    | x :: l => permL (Region.ready md ops (lstd ops.size n [] (x :: l))) (x :: l)
  | c :: rc => permL (Region.ready md ops (lstd ops.size n (c :: rc) pd)) (if waitB nd c pd then pd else c :: pd)
def invN (nd : List (Nat × Nat)) (md : Region.Mode) (ops : Array Oper) (n : Nat) (calls free : List Nat) : Bool :=
  decide (calls ++ free).Nodup && ((calls ++ free).all fun i => decide (i < n)) && (sufs calls).all fun rc => (subsL free).all fun pd => deadB nd rc pd || stateN nd md ops n rc pd
theorem wpAnyS_invN {nd : List (Nat × Nat)} {J : List Nat → List Nat → Act → World → Prop} {K : Act → World → Prop} {calls free : List Nat} (hB : invN nd md ops n calls free = true)
    (hK : ∀ a w, J [] [] a w → K a w) (h1 : ∀ c rc pd a w, c :: rc ∈ sufs calls → pd ∈ subsL free → waitB nd c pd = false → S w → J (c :: rc) pd a w → opW P ops Q S c (J rc pd) a w)
    (h2 : ∀ q rc pd a w, rc ∈ sufs calls → pd ∈ subsL free → q ∈ pd → S w → J rc pd a w → opW P ops Q S q (J rc (pd.erase q)) a w) :
    ∀ (k : Nat) (rc pd : List Nat) (a : Act) (w : World), k = rc.length + pd.length → rc ∈ sufs calls → pd ∈ subsL free → deadB nd rc pd = false → S w → J rc pd a w →
      wpAnyS P md ops Q S n (fun listed a w => Region.seqB md ops (ops.size - n) n listed = true ∧ K a w) k (lstd ops.size n rc pd) a w := by
  simp only [invN, Bool.and_eq_true, decide_eq_true_eq, List.all_eq_true] at hB
  obtain ⟨⟨hnd, hlt⟩, hst⟩ := hB
  intro k
  induction k with
  | zero =>
    intro rc pd a w hk hrc hpd hdd hS hJ
    obtain rfl : rc = [] := List.length_eq_zero_iff.1 (by omega)
    obtain rfl : pd = [] := List.length_eq_zero_iff.1 (by omega)
    exact ⟨by have h := hst [] hrc [] hpd; rw [hdd, Bool.false_or] at h; exact h, hK a w hJ⟩
  | succ k ih =>
    intro rc pd a w hk hrc hpd hdd hS hJ
    have hs : stateN nd md ops n rc pd = true := by have h := hst rc hrc pd hpd; rw [hdd, Bool.false_or] at h; exact h
    have hrs := sufs_sub _ _ hrc
    have hps := subsL_sub _ _ hpd
    have hnd2 := List.nodup_append.1 hnd
    have hpn : pd.Nodup := hps.nodup hnd2.2.1
    have hrn : rc.Nodup := hrs.nodup hnd2.1
    have stepq : ∀ q, q ∈ pd → q < n ∧ wpOp P ops Q q (fun a' w' => S w' ∧ wpAnyS P md ops Q S n (fun listed a w => Region.seqB md ops (ops.size - n) n listed = true ∧ K a w) k ((lstd ops.size n rc pd).setIfInBounds q true) a' w') a w := fun q hq => by
      have hqn : q < n := hlt q (List.mem_append.2 (.inr (hps.subset hq)))
      refine ⟨hqn, wpOp_opW (fun a' w' hS' hk' => ?_) (h2 q rc pd a w hrc hpd hq hS hJ)⟩
      have hqr : q ∉ rc := fun h => hnd2.2.2 q (hrs.subset h) q (hps.subset hq) rfl
      rw [lstd_set (rc' := rc) (pd' := pd.erase q) hqn (by simpa using hqr) (by simpa using fun h => (hpn.mem_erase_iff.1 h).1 rfl) (fun _ _ => rfl) (fun i hi => by rw [Bool.eq_iff_iff]; simp [hpn.mem_erase_iff, hi])]
      exact ih rc (pd.erase q) a' w' (by rw [List.length_erase, if_pos hq]; have := List.length_pos_of_mem hq; omega) hrc (subsL_erase q _ _ hpd) (deadB_erase hdd) hS' hk'
    cases rc with
    | nil =>
      cases pd with
      | nil => simp at hk
      | cons x l =>
        have hmem := permL_mem hs
        exact ⟨fun h0 => (by have := (hmem x).2 (by simp); rw [h0] at this; cases this), fun j hj => stepq j ((hmem j).1 hj)⟩
    | cons c rc =>
      have hmem := permL_mem hs
      by_cases hwt : waitB nd c pd = true
      · rw [if_pos hwt] at hmem
        refine ⟨fun h0 => ?_, fun j hj => stepq j ((hmem j).1 hj)⟩
        have hne : pd ≠ [] := fun e => by rw [e] at hwt; simp [waitB] at hwt
        obtain ⟨x, hx⟩ := List.exists_mem_of_ne_nil pd hne
        have := (hmem x).2 hx
        rw [h0] at this; cases this
      · rw [if_neg hwt] at hmem
        refine ⟨fun h0 => (by have := (hmem c).2 (by simp); rw [h0] at this; cases this), fun j hj => ?_⟩
        by_cases e : j ∈ pd
        · exact stepq j e
        · obtain rfl : j = c := (List.mem_cons.1 ((hmem j).1 hj)).resolve_right e
          have hjn : j < n := hlt j (List.mem_append.2 (.inl (hrs.subset (by simp))))
          refine ⟨hjn, wpOp_opW (fun a' w' hS' hk' => ?_) (h1 j rc pd a w hrc hpd (eq_false_of_ne_true hwt) hS hJ)⟩
          have hjr : j ∉ rc := (List.nodup_cons.1 hrn).1
          rw [lstd_set (rc' := rc) (pd' := pd) hjn (by simpa using hjr) (by simpa using e) (fun i hi => by rw [Bool.eq_iff_iff]; simp [hi]) (fun _ _ => rfl)]
          exact ih rc pd a' w' (by simp only [List.length_cons] at hk; omega) (sufs_tail _ _ _ hrc) hpd (deadB_tail hdd (eq_false_of_ne_true hwt)) hS' hk'
def preN (nd : List (Nat × Nat)) (md : Region.Mode) (ops : Array Oper) (n : Nat) (calls free : List Nat) : List (Bool × Nat) → Array Bool → Bool
  | [], listed => decide (listed = lstd ops.size n calls free) && !deadB nd calls free && invN nd md ops n calls free
  | (b, i) :: l, listed => b && (Region.ready md ops listed).contains i && Region.free md ops listed i && decide (i < n) && preN nd md ops n calls free l (listed.setIfInBounds i true)
theorem wpAnyS_preN {nd : List (Nat × Nat)} {J : List Nat → List Nat → Act → World → Prop} {K : Act → World → Prop} {calls free : List Nat} (hsel : Region.noSelect ops = true) (hQ : ∀ c a d v w, Q (.panic c) (Act.put a d v) w → Q (.panic c) a w)
    (hs : Region.sinkB md ops n = true) (hc : Region.chainB md ops n = true) (hn : n < ops.size)
    (hK : ∀ a w, J [] [] a w → K a w) (h1 : ∀ c rc pd a w, c :: rc ∈ sufs calls → pd ∈ subsL free → waitB nd c pd = false → S w → J (c :: rc) pd a w → opW P ops Q S c (J rc pd) a w)
    (h2 : ∀ q rc pd a w, rc ∈ sufs calls → pd ∈ subsL free → q ∈ pd → S w → J rc pd a w → opW P ops Q S q (J rc (pd.erase q)) a w) :
    ∀ (l : List (Bool × Nat)) (listed : Array Bool) (a : Act) (w : World), HeadInv md ops n listed → preN nd md ops n calls free l listed = true → S w →
    iW P ops Q S (J calls free) l a w → wpAnyS P md ops Q S n (fun listed a w => Region.seqB md ops (ops.size - n) n listed = true ∧ K a w) (l.length + (calls.length + free.length)) listed a w
  | [], listed, a, w, _, hB, hS, h => by
    simp only [preN, Bool.and_eq_true, decide_eq_true_eq] at hB
    obtain ⟨⟨rfl, hdd⟩, hB⟩ := hB
    rw [List.length_nil, Nat.zero_add]
    exact wpAnyS_invN hB hK h1 h2 _ calls free a w rfl (sufs_self _) (subsL_self _) (by simpa using hdd) hS h
  | (false, p) :: l, listed, a, w, inv, hB, hS, h => by simp [preN] at hB
  | (true, p) :: l, listed, a, w, inv, hB, hS, h => by
    simp only [preN, Bool.true_and, Bool.and_eq_true, decide_eq_true_eq] at hB
    obtain ⟨⟨⟨hr, hf⟩, hpn⟩, hB⟩ := hB
    obtain ⟨o, ho', v, hy, hK'⟩ := h
    have ho : ops[p]? = some o := by simpa using ho'
    have hr' : p ∈ Region.ready md ops listed := by simpa using hr
    rw [List.length_cons, show l.length + 1 + (calls.length + free.length) = l.length + (calls.length + free.length) + 1 by omega]
    exact wpAnyS_first ho (Region.noSelect_spec hsel) (fun c a w => hQ c a _ _ w) hs hc hn hpn (fun listed' a' w' hL => seqB_ready hL.1) _ listed a w inv (Region.free_spec ho hf) hr' hy hS
      (wpAnyS_preN hsel hQ hs hc hn hK h1 h2 l _ _ w (inv.set hr' hpn) hB hS hK')
def itemsN (nd : List (Nat × Nat)) (l : List Oper) (n : Nat) (is : List (Bool × Nat)) (calls free : List Nat) : Bool :=
  Region.noSelect l.toArray && decide (n < l.toArray.size) && decide (n = is.length + (calls.length + free.length)) && Region.sinkB .any l.toArray n && Region.chainB .any l.toArray n && preN nd .any l.toArray n calls free is (Array.replicate l.toArray.size false)
/-- **THE REGION.** -/
theorem wp_region_invN {id : Nat} {a : Act} {w : World} {l : List Oper} (n : Nat) (is : List (Bool × Nat)) (calls free : List Nat) (nd : List (Nat × Nat)) (S : World → Prop) (J : List Nat → List Nat → Act → World → Prop) (hm : P.follows .mixedOrders = true) (hB : itemsN nd l n is calls free = true) (hS : S w.drew)
    (h : iW P l.toArray (NoPanic Q) S (J calls free) is a w.drew)
    (h1 : ∀ c rc pd a w, c :: rc ∈ sufs calls → pd ∈ subsL free → waitB nd c pd = false → S w → J (c :: rc) pd a w → opW P l.toArray (NoPanic Q) S c (J rc pd) a w)
    (h2 : ∀ q rc pd a w, rc ∈ sufs calls → pd ∈ subsL free → q ∈ pd → S w → J rc pd a w → opW P l.toArray (NoPanic Q) S q (J rc (pd.erase q)) a w)
    (hK : ∀ a w, J [] [] a w → wpList P l.toArray (NoPanic Q) (l.drop n) a w) : (Code.region id l.toArray true).wp P Q a w := by
  refine wp_region_noPanic ?_
  simp only [itemsN, Bool.and_eq_true, decide_eq_true_eq] at hB
  obtain ⟨⟨⟨⟨⟨hsel, hn⟩, hlen⟩, hs⟩, hc⟩, hH⟩ := hB
  refine wp_region_any hm ?_
  have hsz : l.toArray.size = (is.length + (calls.length + free.length)) + (l.toArray.size - n) := by omega
  have inv : HeadInv .any l.toArray n (Array.replicate l.toArray.size false) :=
    ⟨by simp, fun j oj _ hl => (by rw [getD_replicate_false] at hl; cases hl), fun t _ ht => getD_in (by rw [Array.size_replicate]; exact ht) (getD_replicate_false _ _)⟩
  have hW := wpAnyS_preN (K := fun a w => wpList P l.toArray (NoPanic Q) (l.drop n) a w) hsel (fun _ _ _ _ _ h => h) hs hc hn hK h1 h2 is _ a w.drew inv hH hS h
  refine (congrArg (fun k => wpAny P .any l.toArray (NoPanic Q) k (Array.replicate l.toArray.size false) a w.drew) hsz).mpr ?_
  refine wpAny_of_S (fun listed a w hL => ?_) _ _ _ _ hW
  have hd : (l.drop n).length = l.toArray.size - n := by simp
  have := wpAny_of_seq (Q' := NoPanic Q) (l.drop n) n listed a w (fun j => by simp) (by rw [hd]; exact hL.1) hL.2
  rw [hd] at this
  exact this
end
end Go.Proofs.Ytbcdpibcieadlaa

/- Layer 8: what a drawn region's parts are while they are made, in whatever order; two vectors and their variables. No condition but on lengths. -/
namespace Go.Proofs.Ytbcdpibcieadlaa
open Go Go.RowKit
set_option maxRecDepth 1000000

structure FamJ (w W : World) (Φ : Nat → World → Value → Nat → Nat → Prop) (ids rc pd : List Nat) (s : Nat → Value) (K0 K1 : Nat → Nat) : Prop where
  below : Below w.heap.size w W
  fact : ∀ i ∈ ids, i ∉ rc → i ∉ pd → Φ i W (s i) (K0 i) (K1 i)
  lo : ∀ i ∈ ids, i ∉ rc → i ∉ pd → (w.heap.size ≤ K0 i ∧ w.heap.size ≤ K1 i) ∧ K0 i < W.heap.size ∧ K1 i < W.heap.size
  ne : ∀ i ∈ ids, ∀ j ∈ ids, i ∉ rc → i ∉ pd → j ∉ rc → j ∉ pd → i ≠ j → K0 i ≠ K0 j ∧ K0 i ≠ K1 j ∧ K1 i ≠ K1 j
section
variable {w W W' : World} {Φ : Nat → World → Value → Nat → Nat → Prop} {ids rc pd rc' pd' : List Nat} {s : Nat → Value} {K0 K1 : Nat → Nat}
theorem FamJ.start (w : World) (Φ : Nat → World → Value → Nat → Nat → Prop) (no : ∀ i ∈ ids, i ∉ rc → i ∉ pd → False) (s : Nat → Value) (K0 K1 : Nat → Nat) : FamJ w w Φ ids rc pd s K0 K1 :=
  ⟨Below.refl _ _, fun i hi h1 h2 => (no i hi h1 h2).elim, fun i hi h1 h2 => (no i hi h1 h2).elim, fun i hi _ _ h1 h2 => (no i hi h1 h2).elim⟩
theorem FamJ.step (h : FamJ w W Φ ids rc pd s K0 K1) (hΦ : ∀ i W W' v a b, Φ i W v a b → Below W.heap.size W W' → Φ i W' v a b) {c : Nat} (hx : ∀ i ∈ ids, i ≠ c → i ∉ rc' → i ∉ pd' → i ∉ rc ∧ i ∉ pd) {v : Value} {k0 k1 : Nat} (h0 : W.heap.size ≤ k0) (h1 : W.heap.size ≤ k1) (g0 : k0 < W'.heap.size) (g1 : k1 < W'.heap.size) (hf : Φ c W' v k0 k1) (hb : Below W.heap.size W W') :
    FamJ w W' Φ ids rc' pd' (upd s c v) (upd K0 c k0) (upd K1 c k1) := by
  have hsz := hb.size
  have hwz := h.below.size
  refine ⟨below_step h.below h.below.size hb, fun i hi hr hp => ?_, fun i hi hr hp => ?_, fun i hi j hj hr hp hr' hp' hij => ?_⟩
  · by_cases e : i = c
    · subst e
      simp only [upd_same]
      exact hf
    · simp only [upd_ne _ _ e]
      obtain ⟨a, b⟩ := hx i hi e hr hp
      exact hΦ _ _ _ _ _ _ (h.fact i hi a b) hb
  · by_cases e : i = c
    · subst e
      simp only [upd_same]
      omega
    · simp only [upd_ne _ _ e]
      obtain ⟨a, b⟩ := hx i hi e hr hp
      have := h.lo i hi a b
      omega
  · by_cases e : i = c
    · subst e
      have e2 : j ≠ i := fun h => hij h.symm
      simp only [upd_same, upd_ne _ _ e2]
      obtain ⟨a, b⟩ := hx j hj e2 hr' hp'
      have := h.lo j hj a b
      omega
    · by_cases e2 : j = c
      · subst e2
        simp only [upd_same, upd_ne _ _ e]
        obtain ⟨a, b⟩ := hx i hi e hr hp
        have := h.lo i hi a b
        omega
      · simp only [upd_ne _ _ e, upd_ne _ _ e2]
        obtain ⟨a, b⟩ := hx i hi e hr hp
        obtain ⟨a', b'⟩ := hx j hj e2 hr' hp'
        exact h.ne i hi j hj a b a' b' hij
end
/-- A vector as a view: floats of its own. -/
theorem newV_of {st r c : Nat} {l : List Nat} (hw : Words l) (hr : r ≤ 512) (hc : c ≤ 512) (hl : l.length = r * c) : OfP (newV st r c) st r c l l :=
  ⟨rfl, rfl, rfl, hw, fun i j hi hj => newV_at st r c l hi hj, fun W sb h => newV_ok h hr hc hl⟩
theorem make_n (r : Nat) (h : r ≤ 512) (w : World) : (Instr.makeSlice 22 (.int .i64 (r : Int)) (.int .i64 (r : Int))).run Try.prog w = .ok (.slice (some ⟨w.heap.size, 0, none⟩) r r) (w.alloc (.cells (List.replicate r (Value.float .f64 0)).toArray 31)) := by
  have h1 := run_New r 1 (by omega) w
  simpa using h1
/-- KernelsMeans, region 4: what is made. -/
def MnF (r : Nat) (i : Nat) (W : World) (v : Value) (k0 k1 : Nat) : Prop :=
  if i = 2 ∨ i = 6 then v = .slice (some ⟨k0, 0, none⟩) r r ∧ Box W k0 ((List.replicate r 0).map (Value.float .f64)) ∧ k1 = k0
  else if i = 3 ∨ i = 7 then v = (newV k0 r 1).val ∧ Sto W (some ⟨k0, 0, none⟩) k1 (List.replicate r 0)
  else v = .pointer (some ⟨k0, 0, none⟩) ∧ Box W k0 [.pointer none, .int .i64 0, .int .i64 0, .int .i64 0, .int .i64 0, .int .i64 0] ∧ k1 = k0
theorem MnF.below (r : Nat) (i : Nat) (W W' : World) (v : Value) (a b : Nat) (h : MnF r i W v a b) (hb : Below W.heap.size W W') : MnF r i W' v a b := by
  unfold MnF at h ⊢
  split
  · rename_i h1
    rw [if_pos h1] at h
    exact ⟨h.1, h.2.1.below hb, h.2.2⟩
  · rename_i h1
    rw [if_neg h1] at h
    split
    · rename_i h2
      rw [if_pos h2] at h
      exact ⟨h.1, h.2.below hb⟩
    · rename_i h2
      rw [if_neg h2] at h
      exact ⟨h.1, h.2.1.below hb, h.2.2⟩
theorem zeros_words (r : Nat) : Words (List.replicate r 0) := fun x hx => by
  rw [(List.mem_replicate.1 hx).2]
  decide
/-- Region 4's end. -/
theorem MnF.done {w0 w W : World} {r : Nat} {s : Nat → Value} {K0 K1 : Nat → Nat} {B : Nat} {MX : List Value} (hr : r ≤ 512) (h : FamJ w W (MnF r) [2, 3, 6, 7, 8, 9] [] [] s K0 K1) (h0 : Below w0.heap.size w0 w) (hB : B < w.heap.size) (x0 : Box W B MX) :
    AhW w0 (six (six W (K0 8) (newV (K0 3) r 1)) (K0 9) (newV (K0 7) r 1))
      [(B, MX), (K0 8, [.pointer (newV (K0 3) r 1).p, .int .i64 (newV (K0 3) r 1).r, .int .i64 (newV (K0 3) r 1).c, .int .i64 (newV (K0 3) r 1).o, .int .i64 (newV (K0 3) r 1).d, .int .i64 (newV (K0 3) r 1).u]), (K0 9, [.pointer (newV (K0 7) r 1).p, .int .i64 (newV (K0 7) r 1).r, .int .i64 (newV (K0 7) r 1).c, .int .i64 (newV (K0 7) r 1).o, .int .i64 (newV (K0 7) r 1).d, .int .i64 (newV (K0 7) r 1).u])]
      [(newV (K0 3) r 1, K1 3, List.replicate r 0), (newV (K0 7) r 1, K1 7, List.replicate r 0)] [] := by
  have f3 : MnF r 3 W (s 3) (K0 3) (K1 3) := h.fact 3 (by simp) (by simp) (by simp)
  have f7 : MnF r 7 W (s 7) (K0 7) (K1 7) := h.fact 7 (by simp) (by simp) (by simp)
  have f8 : MnF r 8 W (s 8) (K0 8) (K1 8) := h.fact 8 (by simp) (by simp) (by simp)
  have f9 : MnF r 9 W (s 9) (K0 9) (K1 9) := h.fact 9 (by simp) (by simp) (by simp)
  unfold MnF at f3 f7 f8 f9
  simp at f3 f7 f8 f9
  have n := fun i hi j hj => h.ne i hi j hj (by simp) (by simp) (by simp) (by simp)
  have n38 := n 3 (by simp) 8 (by simp) (by decide)
  have n39 := n 3 (by simp) 9 (by simp) (by decide)
  have n78 := n 7 (by simp) 8 (by simp) (by decide)
  have n79 := n 7 (by simp) 9 (by simp) (by decide)
  have n89 := n 8 (by simp) 9 (by simp) (by decide)
  have n37 := n 3 (by simp) 7 (by simp) (by decide)
  have n73 := n 7 (by simp) 3 (by simp) (by decide)
  have n83 := n 8 (by simp) 3 (by simp) (by decide)
  have n93 := n 9 (by simp) 3 (by simp) (by decide)
  have n87 := n 8 (by simp) 7 (by simp) (by decide)
  have n97 := n 9 (by simp) 7 (by simp) (by decide)
  have l := fun i hi => h.lo i hi (by simp) (by simp)
  have l3 := l 3 (by simp)
  have l7 := l 7 (by simp)
  have l8 := l 8 (by simp)
  have l9 := l 9 (by simp)
  have hz0 := h0.size
  have hw : w.heap.size ≤ W.heap.size := h.below.size
  obtain ⟨V3, hV3⟩ : ∃ V, V = newV (K0 3) r 1 := ⟨_, rfl⟩
  obtain ⟨V7, hV7⟩ : ∃ V, V = newV (K0 7) r 1 := ⟨_, rfl⟩
  have P3 : OfP V3 (K0 3) r 1 (List.replicate r 0) (List.replicate r 0) := hV3 ▸ newV_of (zeros_words r) hr (by decide) (by simp)
  have P7 : OfP V7 (K0 7) r 1 (List.replicate r 0) (List.replicate r 0) := hV7 ▸ newV_of (zeros_words r) hr (by decide) (by simp)
  rw [← hV3, ← hV7]
  have hsz : (six (six W (K0 8) V3) (K0 9) V7).heap.size = W.heap.size := by simp [six]
  have s3 : Sto (six (six W (K0 8) V3) (K0 9) V7) (some ⟨K0 3, 0, none⟩) (K1 3) (List.replicate r 0) := Sto.bel (Sto.bel f3.2 n38.1 (by omega) (six_bel _ _ _ _)) n39.1 (by omega) (six_bel _ _ _ _)
  have s7 : Sto (six (six W (K0 8) V3) (K0 9) V7) (some ⟨K0 7, 0, none⟩) (K1 7) (List.replicate r 0) := Sto.bel (Sto.bel f7.2 n78.1 (by omega) (six_bel _ _ _ _)) n79.1 (by omega) (six_bel _ _ _ _)
  refine ⟨⟨fun p hp => ?_, fun x hx => ?_, fun x hx => ?_, fun p hp x hx => ?_, ?_, fun x hx => ?_, ?_⟩, fun p hp => (by cases hp), fun x hx => ?_⟩
  · simp only [List.mem_cons, List.not_mem_nil, or_false] at hp
    rcases hp with rfl | rfl | rfl
    · exact six_other (six_other x0 (by omega) _) (by omega) _
    · exact six_other (six_box (u := ⟨none, 0, 0, 0, 0, 0⟩) f8.2.1 _) n89.1 _
    · exact six_box (u := ⟨none, 0, 0, 0, 0, 0⟩) (six_other f9.2.1 (fun e => n89.1 e.symm) _) _
  · simp only [List.mem_cons, List.not_mem_nil, or_false] at hx
    rcases hx with rfl | rfl
    · exact P3.ok _ _ s3
    · exact P7.ok _ _ s7
  · simp only [List.mem_cons, List.not_mem_nil, or_false] at hx
    rcases hx with rfl | rfl
    · exact zeros_words r
    · exact zeros_words r
  · simp only [List.mem_cons, List.not_mem_nil, or_false] at hp hx
    have e3 := P3.ep
    have e7 := P7.ep
    have key : ∀ (a b c : Nat) (v : Vw), v.p = some ⟨b, 0, none⟩ → a ≠ c → a ≠ b → a ≠ c ∧ ∀ st, v.p = some ⟨st, 0, none⟩ → a ≠ st := by
      intro a b c v e h1 h2
      refine ⟨h1, fun st hs => ?_⟩
      rw [e] at hs
      obtain rfl : b = st := by simpa using hs
      exact h2
    rcases hp with rfl | rfl | rfl <;> rcases hx with rfl | rfl
    · exact key B (K0 3) (K1 3) V3 e3 (by omega) (by omega)
    · exact key B (K0 7) (K1 7) V7 e7 (by omega) (by omega)
    · exact key (K0 8) (K0 3) (K1 3) V3 e3 (by omega) (by omega)
    · exact key (K0 8) (K0 7) (K1 7) V7 e7 (by omega) (by omega)
    · exact key (K0 9) (K0 3) (K1 3) V3 e3 (by omega) (by omega)
    · exact key (K0 9) (K0 7) (K1 7) V7 e7 (by omega) (by omega)
  · refine List.pairwise_cons.2 ⟨fun y hy => ?_, List.pairwise_cons.2 ⟨fun y hy => (by cases hy), List.Pairwise.nil⟩⟩
    simp only [List.mem_cons, List.not_mem_nil, or_false] at hy
    subst hy
    refine ⟨n37.2.2, fun st e => ?_, fun st e => ?_⟩
    · have e' : V3.p = some ⟨st, 0, none⟩ := e
      rw [P3.ep] at e'
      obtain rfl : K0 3 = st := by simpa using e'
      exact n37.2.1
    · have e' : V7.p = some ⟨st, 0, none⟩ := e
      rw [P7.ep] at e'
      obtain rfl : K0 7 = st := by simpa using e'
      exact n73.2.1
  · simp only [List.mem_cons, List.not_mem_nil, or_false] at hx
    rcases hx with rfl | rfl
    · show w0.heap.size ≤ K1 3
      omega
    · show w0.heap.size ≤ K1 7
      omega
  · exact six_below (six_below (below_step h0 h0.size h.below) (by omega) _) (by omega) _
  · simp only [List.mem_cons, List.not_mem_nil, or_false] at hx
    rcases hx with rfl | rfl
    · show K1 3 < _
      omega
    · show K1 7 < _
      omega
end Go.Proofs.Ytbcdpibcieadlaa
