/- Layer 12: values, and columns, sorted: what is finite is. No condition but on lengths. -/
import Derived.Test.YtdljnhdhigbefaaZz10
import Derived.Test.YtdljnhdhigbefaaZz6
import Derived.Test.YtdljnhdhigbefaaZz13
import Derived.Test.YtdljnhdhigbefaaZz2
import Derived.Test.YtdljnhdhigbefaaUyZ
namespace Go.Proofs.Ytdljnhdhigbefaa
open Go Go.RowKit
set_option maxRecDepth 1000000

/-- What the sorting holds on to. -/
structure SoSt (w W : World) (n rows : Nat) (a za : Option Addr) (wb zb c zc N M : Nat) (l z : List Nat) : Prop where
  f : FS W a wb l
  g : FS W za zb z
  bz : Box W w.heap.size [.int .i64 rows, .int .i64 n, .slice za M zc]
  br : Box W (w.heap.size + 1) [.int .i64 0, .int .i64 0, .slice none 0 0]
  bel : Below w.heap.size w W
  fl : l.length = N
  gl : z.length = M
section
variable {w W W' : World} {n rows wb zb c zc N M : Nat} {a za : Option Addr} {l z : List Nat}
theorem SoSt.below (h : SoSt w W n rows a za wb zb c zc N M l z) (hb : Below W.heap.size W W') : SoSt w W' n rows a za wb zb c zc N M l z :=
  ⟨h.f.below hb, h.g.below hb, h.bz.below hb, h.br.below hb, below_step h.bel h.bel.size hb, h.fl, h.gl⟩
theorem FS.other {b m : Nat} {a : Option Addr} {l : List Nat} (h : FS W a b l) (hm : b ≠ m) (j : Nat) (u : Value) : FS (W.setCell ⟨m, j, none⟩ u) a b l := h.imp id (fun ⟨h1, h2⟩ => ⟨h1, h2.other hm j u⟩)
theorem FS.put3 {b m : Nat} {a : Option Addr} {l : List Nat} (h : FS W a b l) (hm : b ≠ m) (v0 v1 v2 : Value) : FS (((W.setCell ⟨m, 0, none⟩ v0).setCell ⟨m, 1, none⟩ v1).setCell ⟨m, 2, none⟩ v2) a b l := ((h.other hm 0 v0).other hm 1 v1).other hm 2 v2
theorem FS.set {b : Nat} {a : Option Addr} {l : List Nat} (h : FS W a b l) (j v s : Nat) : FS (W.setCell ⟨b, j, none⟩ (.float .f64 (raw v s))) a b (l.set j v) := by
  rcases h with rfl | ⟨h1, h2⟩
  · exact .inl (by simp)
  · exact .inr ⟨h1, h2.set j v s⟩
theorem SoSt.setW (h : SoSt w W n rows a za wb zb c zc N M l z) (h1 : w.heap.size + 1 < wb) (h2 : zb ≠ wb) (j v s : Nat) : SoSt w (W.setCell ⟨wb, j, none⟩ (.float .f64 (raw v s))) n rows a za wb zb c zc N M (l.set j v) z :=
  ⟨h.f.set j v s, h.g.other h2 _ _, h.bz.set_other (by omega) _ _, h.br.set_other (by omega) _ _, below_set h.bel (by omega) _ _, by rw [List.length_set]; exact h.fl, h.gl⟩
theorem SoSt.setZ (h : SoSt w W n rows a za wb zb c zc N M l z) (h1 : w.heap.size + 1 < zb) (h2 : wb ≠ zb) (j v s : Nat) : SoSt w (W.setCell ⟨zb, j, none⟩ (.float .f64 (raw v s))) n rows a za wb zb c zc N M l (z.set j v) :=
  ⟨h.f.other h2 _ _, h.g.set j v s, h.bz.set_other (by omega) _ _, h.br.set_other (by omega) _ _, below_set h.bel (by omega) _ _, h.fl, by rw [List.length_set]; exact h.gl⟩
end
def SortedP (w : World) (l zl : List Nat) (rows : Nat) (e : Ending) (w' : World) : Prop :=
  ∃ a cap za zc b zb, e = .returned (.tuple #[.slice a l.length cap, .agg #[.int .i64 rows, .int .i64 l.length, .slice za zl.length zc], .int .i64 0]) ∧ FS w' a b (sortQ l.length rows l zl l.length).1 ∧ FS w' za zb (sortQ l.length rows l zl l.length).2 ∧ Below w.heap.size w w' ∧ w.heap.size ≤ b ∧ w.heap.size ≤ zb
end Go.Proofs.Ytdljnhdhigbefaa

/- Layer 12: what can't be solved is refused. No condition but on lengths. -/
namespace Go.Proofs.Ytdljnhdhigbefaa
open Go Go.RowKit
set_option maxRecDepth 1000000

/-- Why a tridiagonal, with a matrix, can't be solved. -/
def wrongQ (d e : List Nat) (r c : Int) (z : List Nat) : Int := if mayT d.length e.length = false then 2 else if mayB r c z.length = false then 2 else if decide (c = (d.length : Int)) = false then 8 else if d.all ffin = false then 10 else if e.all ffin = false then 10 else if z.all ffin = false then 10 else 0
def SolveE (w : World) (code : Int) (e : Ending) (w' : World) : Prop := e = .returned (.tuple #[.slice none 0 0, .agg #[.int .i64 0, .int .i64 0, .slice none 0 0], .int .i64 0, .int .i64 code]) ∧ Below w.heap.size w w'
end Go.Proofs.Ytdljnhdhigbefaa

/- Layer 12: what a solving holds on to, from call to call. No condition but on lengths. -/
namespace Go.Proofs.Ytdljnhdhigbefaa
open Go Go.RowKit
set_option maxRecDepth 1000000

theorem Words.set {l : List Nat} (h : Words l) (i : Nat) {v : Nat} (hv : v < 18446744073709551616) : Words (l.set i v) := fun x hx => by
  rcases List.mem_or_eq_of_mem_set hx with h1 | h1
  · exact h x h1
  · rw [h1]; exact hv
theorem swN_words {n rows : Nat} {x : SwS} (hd : Words x.d) (he : Words x.e) (i : Nat) : Words (swN n rows x i).d ∧ Words (swN n rows x i).e ∧ (swN n rows x i).g < 18446744073709551616 :=
  ⟨hd.set _ (fadd_lt _ _), he.set _ (hypW_lt _ _), fsub_lt _ _⟩
theorem swL_words {n rows l m : Nat} : ∀ (k : Nat) {x : SwS}, Words x.d → Words x.e → x.g < 18446744073709551616 → Words (swL n rows l m k x).1.d ∧ Words (swL n rows l m k x).1.e ∧ (swL n rows l m k x).1.g < 18446744073709551616
  | 0, x, hd, he, hg => ⟨hd, he, hg⟩
  | k + 1, x, hd, he, hg => by
    rw [swL]
    split
    · exact ⟨hd.set _ (fsub_lt _ _), (he.set _ (hypW_lt _ _)).set _ (by decide), hg⟩
    · obtain ⟨h1, h2, h3⟩ := swN_words (n := n) (rows := rows) hd he (l + k)
      exact swL_words k h1 h2 h3
theorem sweepL_words {n rows : Nat} {x : QlS} (hd : Words x.d) (he : Words x.e) (l m : Nat) : Words (sweepL n rows x l m).d ∧ Words (sweepL n rows x l m).e := by
  obtain ⟨h1, h2, h3⟩ := swL_words (n := n) (rows := rows) (l := l) (m := m) (m - l) (x := sw0 x.d x.e x.z l m) hd he (fadd_lt _ _)
  unfold sweepL swE
  split
  · exact ⟨h1, h2⟩
  · exact ⟨h1.set _ (fsub_lt _ _), (h2.set _ h3).set _ (by decide)⟩

/-- What is held: the struct, its three slices; all in blocks of the call's own. -/
structure QlW (w W : World) (X : Nat) (da ea za : Option Addr) (bd be zb cd ce zc rows n ne M : Nat) (S : QlS) : Prop where
  box : Box W X [.slice da n cd, .slice ea ne ce, .int .i64 rows, .int .i64 n, .slice za M zc]
  d : FS W da bd S.d
  e : FS W ea be S.e
  z : FS W za zb S.z
  dl : S.d.length = n
  el : S.e.length = ne
  zl : S.z.length = M
  wd : Words S.d
  we : Words S.e
  bel : Below w.heap.size w W
/-- What is known of the places. -/
structure QlD (w : World) (X bd be zb zc rows n ne M : Nat) : Prop where
  hne : 0 < n → ne = n
  hM : M = rows * n
  cap : M ≤ zc ∧ zc ≤ maxLen
  hn : n ≤ 512
  hr : rows ≤ 512
  xd : 0 < n → X ≠ bd
  xe : X ≠ be
  xz : X ≠ zb
  de : 0 < n → bd ≠ be
  dz : 0 < n → bd ≠ zb
  ez : be ≠ zb
  X0 : w.heap.size + 1 + 1 < X
  d0 : 0 < n → w.heap.size + 1 + 1 < bd
  e0 : w.heap.size + 1 + 1 < be
  z0 : w.heap.size + 1 + 1 < zb
section
variable {w W W' : World} {X bd be zb cd ce zc rows n ne M l m : Nat} {da ea za : Option Addr} {S : QlS}
theorem QlW.below (h : QlW w W X da ea za bd be zb cd ce zc rows n ne M S) (hb : Below W.heap.size W W') : QlW w W' X da ea za bd be zb cd ce zc rows n ne M S :=
  ⟨h.box.below hb, h.d.below hb, h.e.below hb, h.z.below hb, h.dl, h.el, h.zl, h.wd, h.we, below_step h.bel h.bel.size hb⟩
end
end Go.Proofs.Ytdljnhdhigbefaa

/- Layer 12: what may be solved is solved, or takes too many sweeps. No condition but on lengths. -/
namespace Go.Proofs.Ytdljnhdhigbefaa
open Go Go.RowKit
set_option maxRecDepth 1000000

theorem FS.belowB {W W' : World} {B b : Nat} {a : Option Addr} {l : List Nat} (h : FS W a b l) (hb : l ≠ [] → b < B) (hk : Below B W W') : FS W' a b l := by
  by_cases h0 : l = []
  · exact .inl h0
  · rcases h with h1 | ⟨h1, cs, ⟨T, h2⟩, h3⟩
    · exact absurd h1 h0
    · exact .inr ⟨h1, cs, ⟨T, by rw [hk.block b (hb h0)]; exact h2⟩, h3⟩
theorem Box.belowB {W W' : World} {B n : Nat} {cs : List Value} (h : Box W n cs) (hn : n < B) (hk : Below B W W') : Box W' n cs := by
  obtain ⟨T, h⟩ := h
  exact ⟨T, by rw [hk.block n hn]; exact h⟩
theorem Fls.one (w : World) (T : TypeId) (v : Nat) (hv : isnan v = false) : Fls (w.alloc (.cells #[.float .f64 v] T)) (some ⟨w.heap.size, 0, none⟩) [v] :=
  (Flb.ofBox (zs := [v]) (Box.newA w [_] T rfl) (fun x hx => by rw [List.mem_singleton] at hx; rw [hx]; exact hv)).fls
/-- What the solving comes to. -/
def SolveQ (w : World) (n M rows : Nat) (y : QlS × Nat × Bool) (r : Ending) (w' : World) : Prop :=
  if y.2.2 = true ∧ y.1.d.all ffin = true then
    ∃ a cap za zc, r = .returned (.tuple #[.slice a n cap, .agg #[.int .i64 rows, .int .i64 n, .slice za M zc], .int .i64 (y.2.1 : Nat), .int .i64 0]) ∧ Fls w' a (sortQ n rows y.1.d y.1.z n).1 ∧ Fls w' za (sortQ n rows y.1.d y.1.z n).2 ∧ Below w.heap.size w w'
  else r = .returned (.tuple #[.slice none 0 0, .agg #[.int .i64 0, .int .i64 0, .slice none 0 0], .int .i64 (y.2.1 : Nat), .int .i64 7]) ∧ Below w.heap.size w w'
def SolveP (w : World) (d e z : List Nat) (rows : Nat) (r : Ending) (w' : World) : Prop := SolveQ w d.length z.length rows (solQ d.length rows d.length ⟨d, e ++ [0], z⟩ 0) r w'
theorem Box.put3o {w : World} {n m : Nat} {cs : List Value} (h : Box w n cs) (hne : n ≠ m) (v0 v1 v2 : Value) : Box (((w.setCell ⟨m, 0, none⟩ v0).setCell ⟨m, 1, none⟩ v1).setCell ⟨m, 2, none⟩ v2) n cs := ((h.set_other hne 0 v0).set_other hne 1 v1).set_other hne 2 v2
theorem valQ_done {n rows l f : Nat} {T : QlS} (h : endL T.d T.e T.d.length l = l) : valQ n rows l f T = (T, 0, true) := by cases f <;> rw [valQ, if_pos h]
theorem valQ_zero {n rows l : Nat} {T : QlS} (h : ¬ endL T.d T.e T.d.length l = l) : valQ n rows l 0 T = (T, 0, false) := by rw [valQ, if_neg h]
theorem valQ_succ {n rows l f : Nat} {T : QlS} (h : ¬ endL T.d T.e T.d.length l = l) : valQ n rows l (f + 1) T = ((valQ n rows l f (sweepL n rows T l (endL T.d T.e T.d.length l))).1, (valQ n rows l f (sweepL n rows T l (endL T.d T.e T.d.length l))).2.1 + 1, (valQ n rows l f (sweepL n rows T l (endL T.d T.e T.d.length l))).2.2) := by rw [valQ, if_neg h]
theorem solQ_step {n rows l s : Nat} {S : QlS} (hl : l < n) : solQ n rows (n - l) S s = if (valQ n rows l 30 S).2.2 then solQ n rows (n - (l + 1)) (valQ n rows l 30 S).1 (s + (valQ n rows l 30 S).2.1) else ((valQ n rows l 30 S).1, s + (valQ n rows l 30 S).2.1, false) := by
  rw [show n - l = (n - (l + 1)) + 1 by omega, solQ, show n - ((n - (l + 1)) + 1) = l by omega]
end Go.Proofs.Ytdljnhdhigbefaa

/- A float's difference to itself is nought just if it is finite. -/
namespace Go.Proofs.Ytdljnhdhigbefaa
open Go Go.RowKit
set_option maxRecDepth 100000
/-- Is its difference to itself nought? -/
def fnS (x : Nat) : Bool := feq (fsub x x) 0
theorem fnS_raw (v s : Nat) : fnS (raw v s) = fnS v := by
  unfold fnS
  rw [← fsub_nm (raw v s) (raw v s), nm_raw, fsub_nm]
theorem fsub_self_fin {x : Nat} (h : ffin x = true) : fsub x x = 0 := by
  unfold ffin at h
  simp only [decide_eq_true_eq] at h
  obtain ⟨m, i, hr, _, _⟩ := read_fin x h
  unfold fsub Ieee.Format.sub
  rw [hr]
  generalize (x / 9223372036854775808 % 2 == 1) = s
  have e : Ieee.signed (!s) m (i - min i i).toNat = - Ieee.signed s m (i - min i i).toNat := by unfold Ieee.signed; cases s <;> simp
  have hs : (Ieee.Datum.number s m i).sum (Ieee.Datum.number s m i).opposite = some (.number false 0 (min i i)) := by
    show some (Ieee.Datum.number (if Ieee.signed s m (i - min i i).toNat + Ieee.signed (!s) m (i - min i i).toNat = 0 then s && !s else decide (Ieee.signed s m (i - min i i).toNat + Ieee.signed (!s) m (i - min i i).toNat < 0)) (Ieee.signed s m (i - min i i).toNat + Ieee.signed (!s) m (i - min i i).toNat).natAbs (min i i)) = _
    rw [e, Int.add_right_neg, if_pos rfl]
    cases s <;> rfl
  rw [hs]
  show Ieee.double.write (.number false 0 (min i i)) = 0
  show Ieee.double.nearest false 0 (min i i) = 0
  rw [nearest_zero]
  rfl
theorem fnS_ffin (x : Nat) : fnS x = ffin x := by
  cases h : ffin x
  · cases hx : isnan x
    · have hi : x % 9223372036854775808 = 9218868437227405312 := by
        unfold ffin at h
        unfold isnan at hx
        simp only [decide_eq_false_iff_not] at h hx
        omega
      unfold fnS
      have e : fsub x x = qnan := by
        unfold fsub Ieee.Format.sub
        rw [read_inf x hi]
        generalize (x / 9223372036854775808 % 2 == 1) = s
        cases s <;> rfl
      rw [e]
      exact (show feq qnan 0 = false from by kernel_rfl)
    · unfold fnS
      have e : fsub x x = qnan := by
        unfold fsub Ieee.Format.sub
        rw [sum_nan_left _ (by rw [read_nan]; exact hx)]
        rfl
      rw [e]
      exact (show feq qnan 0 = false from by kernel_rfl)
  · unfold fnS
    rw [fsub_self_fin h]
    exact (show feq 0 0 = true from by kernel_rfl)
end Go.Proofs.Ytdljnhdhigbefaa

/- The document's layers 6, 9, 10, 12: when floats, lists, matrices are the same; copies; what may be; what is finite. No condition but on lengths. -/
namespace Go.Proofs.Ytdljnhdhigbefaa
open Go Go.RowKit
set_option maxRecDepth 1000000
theorem Same06_any (x y : Nat) (w : World) : Calls Try.prog 66 #[.float .f64 x, .float .f64 y] w fun e w' => e = .returned (.bool (sameF x y)) ∧ w = w' := by
  have hx := feq_self x
  have hy := feq_self y
  have e1 : ((x : Int) == (y : Int)) = decide (x = y) := by rw [Bool.eq_iff_iff]; simp; omega
  have e0 : sameF x y = (decide (x = y) || (isnan x && isnan y)) := rfl
  rw [e0]
  clear e0
  generalize decide (x = y) = q at *
  cases h1 : isnan x
  · rw [h1] at hx
    go_enter Try.func66, Try.ntmps66
    go_wp2
    go_ret
    exact ⟨by simp, rfl⟩
  · rw [h1] at hx
    cases h2 : isnan y
    · rw [h2] at hy
      go_enter Try.func66, Try.ntmps66
      go_wp2
      go_ret
      exact ⟨by simp, rfl⟩
    · rw [h2] at hy
      go_enter Try.func66, Try.ntmps66
      go_wp2
      go_ret
      exact ⟨by simp, rfl⟩
theorem sameF_refl (x : Nat) : sameF x x = true := by unfold sameF; simp
theorem sameF_raw (x s t : Nat) : sameF (raw x s) (raw x t) = true := by
  cases h : isnan x
  · rw [raw_of_not h, raw_of_not h, sameF_refl]
  · unfold sameF
    rw [isnan_raw, isnan_raw, h]
    simp
set_option maxHeartbeats 2000000 in
theorem SameAllF (w : World) (a b : Option Addr) (xs : List Nat) (ca cb : Nat) (hX : Fls w a xs) (hY : Fls w b xs) (hlx : xs.length ≤ 262144) :
    Calls Try.prog 20 #[.slice a xs.length ca, .slice b xs.length cb] w fun e w' => e = .returned (.bool true) ∧ Below w.heap.size w w' := by
  have t1 : ((xs.length : Int) != (xs.length : Int)) = false := bne_self_eq_false _
  go_enter Try.func20, Try.ntmps20
  go_wp2
  clear t1
  go_loopw [5] (fun s wr => ∃ k : Nat, k ≤ xs.length ∧ s = .int .i64 k ∧ Below w.heap.size w wr) (fun s _ => xs.length - (intOf s).toNat)
  case atStart => exact ⟨0, Nat.zero_le _, rfl, Below.refl _ _⟩
  case round =>
    obtain ⟨k, hk, rfl, hB⟩ := hrel
    by_cases hlt : k < xs.length
    · obtain ⟨ba, oa, s1, rfl, hba, c1⟩ := (hX.below hB).at hlt
      obtain ⟨bb, ob, s2, rfl, hbb, c2⟩ := (hY.below hB).at hlt
      have HS := Lib.hid (fun W => sameF_raw (xs.getD k 0) s1 s2 ▸ Same06_any (raw (xs.getD k 0) s1) (raw (xs.getD k 0) s2) W)
      clear hX hY
      generalize raw (xs.getD k 0) s1 = x at *
      generalize raw (xs.getD k 0) s2 = y at *
      have i1 : (0 : Int) ≤ (k : Int) := by omega
      have i2 : (k : Int) < (xs.length : Int) := by omega
      have hkl : k + 1 ≤ 262144 := by omega
      go_wp2
      refine wp_region_nqd 9  (by kernel_rfl) (by kernel_rfl) ?_
      intro Cw Rw hc hb' hb2 hd hRw
      simp only [List.take_succ_cons, List.take_zero]
      repeat (
        first
          | (refine nqW_skip rfl (fun K hK => ?_); go_frame; refine hK _ ?_; clear hK K)
          | ((first | (refine nqW_plain (fun K hK => ?_)) | (refine nqW_want rfl (fun K hK => ?_)) | (refine nqW_step (fun K hK => ?_); go_simp))
             first
               | (refine nq_move rfl ?_; go_simp; refine hK _ ?_; clear hK K)
               | (refine nq_assign rfl ?_; go_simp; refine hK _ ?_; clear hK K)
               | (refine nq_flt rfl rfl rfl rfl hd ?_; intro _; go_frame; refine hK _ ?_; clear hK K)
               | (refine nq_inC rfl ?_; intro w' hw'; go_simp; refine fd_both (V := (.bool true)) (by kernel_rfl) (fun w2 hw2 => ?_) ?_; (next => (go_at_call 66; exact (((HS.out w2).mono fun e w' (⟨h1, h2⟩ : e = Ending.returned (.bool true) ∧ w2 = w') => (⟨h1, h2 ▸ Below.refl _ _⟩ : e = Ending.returned (.bool true) ∧ Below w2.heap.size w2 w'))).mono (fun e w3 ⟨he, hb⟩ => ⟨he, hb2 _ _ hw2 hb⟩))); (try go_simp); refine hK _ ?_; clear hK K hw' w')
               | (refine nq_same ?_; intro w' hw'; go_simp; (try go_bits); refine hK _ ?_; clear hK K hw' w')
               | (refine nq_same ?_; intro w' hw'; go_simp; rw [if_pos (by omega)]; go_simp; (try go_bits); refine hK _ ?_; clear hK K hw' w')
               | (go_simp; refine hK _ ?_; clear hK K)))
      refine nqW_nil (hRw _ ?_)
      clear hc hb' hb2 hd hRw
      intro w' hw'
      simp only [List.drop]
      clear c1 c2 i1 i2
      go_wp2
      go_roundw
      case rel => exact ⟨k + 1, by omega, by go_num, below_step hB hB.size hw'⟩
      case measure => simp [intOf]; omega
    · obtain rfl : k = xs.length := by omega
      go_wp2
      go_ret
      exact ⟨rfl, hB⟩
set_option maxHeartbeats 2000000 in
theorem Same9F (w : World) (r c : Int) (a b : Option Addr) (xs : List Nat) (ca cb : Nat) (hX : Fls w a xs) (hY : Fls w b xs) (hlx : xs.length ≤ 262144) :
    Calls Try.prog 17 #[.agg #[.int .i64 r, .int .i64 c, .slice a xs.length ca], .agg #[.int .i64 r, .int .i64 c, .slice b xs.length cb]] w fun e w' => e = .returned (.bool true) ∧ Below w.heap.size w w' := by
  have hB0 : Below w.heap.size w ((w.alloc (.cells #[.int .i64 r, .int .i64 c, .slice a xs.length ca] 26)).alloc (.cells #[.int .i64 r, .int .i64 c, .slice b xs.length cb] 26)) := ((Below.refl _ _).alloc (Nat.le_refl _) _).alloc (by simp) _
  have HS := Lib.hid (SameAllF _ a b xs ca cb (hX.below hB0) (hY.below hB0) hlx)
  have HB := Lib.hid hB0
  have t1 : (r == r) = true := beq_self_eq_true _
  have t2 : (c == c) = true := beq_self_eq_true _
  clear hX hY hB0
  go_enter Try.func17, Try.ntmps17
  go_wp2_with fail
  refine HS.out.mono ?_
  rintro e w' ⟨rfl, hb⟩
  go_wp2
  go_ret
  exact ⟨rfl, below_step HB.out HB.out.size hb⟩
/-- A copy. -/
def CopyP (w : World) (r c : Int) (l : List Nat) (e : Ending) (w' : World) : Prop := ∃ a b cap, e = .returned (.agg #[.int .i64 r, .int .i64 c, .slice a l.length cap]) ∧ FS w' a b l ∧ w.heap.size ≤ b ∧ (l ≠ [] → b < w'.heap.size) ∧ l.length ≤ cap ∧ cap ≤ maxLen ∧ Below w.heap.size w w'
set_option maxHeartbeats 4000000 in
theorem Copy9 (w : World) (r c : Int) (a : Option Addr) (l : List Nat) (cap : Nat) (hZ : Fls w a l) (hl : l.length ≤ 262144) (hn : a = none → l = [] ∧ cap = 0) :
    Calls Try.prog 15 #[.agg #[.int .i64 r, .int .i64 c, .slice a l.length cap]] w (CopyP w r c l) := by
  obtain ⟨W0, hW0⟩ : ∃ W0, W0 = ((w.alloc (.cells #[.int .i64 r, .int .i64 c, .slice a l.length cap] 26)).alloc (.cells #[.int .i64 0, .int .i64 0, .slice none 0 0] 26)) := ⟨_, rfl⟩
  have hB0 : Below w.heap.size w W0 := hW0 ▸ ((Below.refl _ _).alloc (Nat.le_refl _) _).alloc (by simp) _
  have x1 : Box W0 w.heap.size [.int .i64 r, .int .i64 c, .slice a l.length cap] := hW0 ▸ (Box.newA w [_, _, _] _ rfl).alloc _
  have x2 : Box W0 (w.heap.size + 1) [.int .i64 0, .int .i64 0, .slice none 0 0] := hW0 ▸ Box.newA _ [_, _, _] _ (by simp)
  have HX := Lib.hid (show _ ∧ _ ∧ _ ∧ _ from ⟨hB0, x1, x2, hZ.below hB0⟩)
  clear hB0 x1 x2 hZ
  go_enter Try.func15, Try.ntmps15
  go_wp2_with fail
  rw [← hW0]
  clear hW0
  obtain ⟨hB0, x1, x2, hZ⟩ := HX.out
  have hdr : Below W0.heap.size W0 W0.drew := below_drewN 1 (Below.refl _ W0)
  have hx1 := x1.below hdr
  have hx2 := x2.below hdr
  have HZ := Lib.hid (hZ.below hdr)
  have hBd := below_step hB0 hB0.size hdr
  have hsz := hx2.lt
  refine wp_region_items 7 [(true, 0), (true, 1), (true, 2), (true, 3), (true, 4), (true, 5), (false, 6)] (fun W => ∀ i, W.cell? ⟨w.heap.size, i, none⟩ = ([.int .i64 r, .int .i64 c, .slice a l.length cap] : List Value)[i]?) (by kernel_rfl) (by kernel_rfl) hx1.cell ?_
  generalize W0.drew = W1 at *
  clear HX x1 x2 hZ hdr hB0
  iterate 6 (refine iW_take (v := ?_) rfl rfl ?_ ?_; rotate_left; (next => (intro w' hSw; (try dsimp only at hSw); go_simp; (try with_reducible rfl))); (simp only [Act.put, List.setIfInBounds_toArray, List.set_cons_zero, List.set_cons_succ]))
  refine iW_mid rfl rfl ?_
  refine wp_append_anyF (.const (.slice none 0 0)) (.tmp 8) rfl W1.heap.size (.slice none 0 0) [] rfl (OwnF.nil _ _) a l cap rfl HZ.out hn (by simpa using hl) (Nat.le_refl _) ?_
  rintro v W2 hO hb
  refine ⟨(hx1.below hb).cell, ?_⟩
  refine iW_nil ?_
  have hy2 := hx2.below hb
  have hBw := below_step hBd hBd.size hb
  obtain ⟨a1, b1, cap1, rfl, k1, k2, k3, hF, k4⟩ := hO.fs
  have HE := Lib.hid (show _ ∧ _ ∧ _ from ⟨hy2, hBw, hF⟩)
  have hs0 := hBd.size
  have hs2 := hb.size
  obtain ⟨q1, q2, q3⟩ := hy2.facts
  clear hy2 hBw hF hb hO HZ hx1 hx2 hBd
  go_simp
  go_wp2
  refine NoPanic.normal ?_
  go_wp2
  have hne : w.heap.size ≤ w.heap.size + 1 := Nat.le_succ _
  refine bodyPost_ret (results_one rfl (rv_cell (g := w.heap.size + 1) rfl (HE.out.1.put3 _ _ _) rfl Try.underlying26 (by kernel_rfl))) rfl ⟨a1, b1, cap1, rfl, FS.put3 HE.out.2.2 (by omega) _ _ _, by omega, fun h => by simp; exact k4 h, k1, k2, below_put3 HE.out.2.1 hne _ _ _⟩
set_option maxHeartbeats 4000000 in
theorem RMay9_any (w : World) (r c : Int) (a : Option Addr) (n ac : Nat) (hn : n ≤ maxLen) :
    Calls Try.prog 61 #[.agg #[.int .i64 r, .int .i64 c, .slice a n ac]] w fun e w' => e = .returned (.bool (mayB r c n)) ∧ Below w.heap.size w w' := by
  unfold maxLen at hn
  have hB0 : Below w.heap.size w (w.alloc (.cells #[.int .i64 r, .int .i64 c, .slice a n ac] 26)) := (Below.refl _ _).alloc (Nat.le_refl _) _
  unfold mayB
  cases hs : szB r c
  · unfold szB at hs
    cases d1 : decide (0 ≤ r)
    · go_enter Try.func61, Try.ntmps61
      go_wp2
      go_ret
      exact ⟨rfl, hB0⟩
    · cases d2 : decide (r ≤ 512)
      · go_enter Try.func61, Try.ntmps61
        go_wp2
        go_ret
        exact ⟨rfl, hB0⟩
      · cases d3 : decide (0 ≤ c)
        · go_enter Try.func61, Try.ntmps61
          go_wp2
          go_ret
          exact ⟨rfl, hB0⟩
        · cases d4 : decide (c ≤ 512)
          · go_enter Try.func61, Try.ntmps61
            go_wp2
            go_ret
            exact ⟨rfl, hB0⟩
          · rw [d1, d2, d3, d4] at hs
            cases hs
  · have hsz : ∃ p q : Nat, r = p ∧ c = q ∧ p ≤ 512 ∧ q ≤ 512 := by
      unfold szB at hs
      simp only [Bool.and_eq_true, decide_eq_true_eq] at hs
      exact ⟨r.toNat, c.toNat, by omega, by omega, by omega, by omega⟩
    obtain ⟨p, q, rfl, rfl, hp, hq⟩ := hsz
    have hpq : p * q ≤ 512 * 512 := Nat.mul_le_mul hp hq
    have e1 : (p : Int) * (q : Int) = ((p * q : Nat) : Int) := (Int.natCast_mul _ _).symm
    generalize p * q = z at *
    have e2 : ((n : Int) == (z : Int)) = decide ((n : Int) = (p : Int) * (q : Int)) := by rw [Bool.eq_iff_iff, e1]; simp
    have d1 : decide (0 ≤ (p : Int)) = true := decide_eq_true (by omega)
    have d2 : decide ((p : Int) ≤ 512) = true := decide_eq_true (by omega)
    have d3 : decide (0 ≤ (q : Int)) = true := decide_eq_true (by omega)
    have d4 : decide ((q : Int) ≤ 512) = true := decide_eq_true (by omega)
    clear hs
    have HE := Lib.hid e2
    clear e2
    go_enter Try.func61, Try.ntmps61
    go_wp2
    go_ret
    refine ⟨?_, hB0⟩
    rw [← HE.out]
    rfl
end Go.Proofs.Ytdljnhdhigbefaa

/- The document's layers 10, 12: what may be, what is finite, why not; ones on a diagonal. No condition but on lengths. -/
namespace Go.Proofs.Ytdljnhdhigbefaa
open Go Go.RowKit
set_option maxRecDepth 1000000

theorem all_ofQ {zs : List Nat} {p : Nat → Bool} (h : ∀ j, j < zs.length → p (zs.getD j 0) = true) : zs.all p = true := by
  rw [List.all_eq_true]
  intro x hx
  obtain ⟨j, hj, rfl⟩ := List.getElem_of_mem hx
  have := h j hj
  simpa [hj] using this
theorem all_notQ {zs : List Nat} {p : Nat → Bool} {j : Nat} (hj : j < zs.length) (h : p (zs.getD j 0) = false) : zs.all p = false := by
  rw [List.all_eq_false]
  exact ⟨zs.getD j 0, by simp [hj], by rw [h]; decide⟩
set_option maxHeartbeats 2000000 in
theorem RFin12 (w : World) (za : Option Addr) (zs : List Nat) (zc : Nat) (hZ : Fls w za zs) (hl : zs.length ≤ maxLen) :
    Calls Try.prog 24 #[.slice za zs.length zc] w fun e w' => e = .returned (.bool (zs.all ffin)) ∧ Below w.heap.size w w' := by
  have hl' := hl
  unfold maxLen at hl'
  have hln : zs.length ≤ 9223372036854775807 := by omega
  obtain ⟨R, hR⟩ : ∃ R, R = zs.all ffin := ⟨_, rfl⟩
  rw [← hR]
  have HR := Lib.hid hR
  clear hR hl
  go_enter Try.func24, Try.ntmps24
  go_wp2_with fail
  go_loopw [3] (fun i wr => ∃ k : Nat, k ≤ zs.length ∧ i = .int .i64 k ∧ (∀ j, j < k → ffin (zs.getD j 0) = true) ∧ Below w.heap.size w wr) (fun i _ => zs.length - (intOf i).toNat)
  case atStart => exact ⟨0, Nat.zero_le _, rfl, fun _ h => absurd h (Nat.not_lt_zero _), Below.refl _ _⟩
  case round =>
    obtain ⟨k, hk, rfl, hno, hB⟩ := hrel
    have HNO := Lib.hid hno
    clear hno
    by_cases hlt : k < zs.length
    · obtain ⟨b, o, s1, rfl, hb, hc1⟩ := (hZ.below hB).at hlt
      have hf0 := fnS_ffin (zs.getD k 0)
      unfold fnS at hf0
      cases hf : ffin (zs.getD k 0)
      · rw [hf] at hf0
        have HRf := Lib.hid (HR.out.trans (all_notQ hlt hf))
        clear hf hZ
        generalize zs.getD k 0 = z at *
        go_wp2_with fail
        refine wp_region_nqb 9 (fun _ _ _ => False) (by kernel_rfl) (by kernel_rfl) ?_
        intro C R hc hb' hb2 hd hR
        simp only [List.take_succ_cons, List.take_zero]
        repeat (
          first
            | (refine nqW_plain (fun K hK => ?_))
            | (refine nqW_step (fun K hK => ?_); go_simp)
          first
            | (refine nq_move rfl ?_; go_simp; refine hK _ ?_; clear hK K)
            | (refine nq_assign rfl ?_; go_simp; refine hK _ ?_; clear hK K)
            | (refine nq_flt rfl rfl rfl rfl hd ?_; intro _; go_frame; refine hK _ ?_; clear hK K)
            | (refine nq_same ?_; intro w' hw'; go_simp; (try go_bits); refine hK _ ?_; clear hK K hw' w')
            | (refine nq_same ?_; intro w' hw'; go_simp; rw [if_pos (by omega)]; go_simp; (try go_bits); refine hK _ ?_; clear hK K hw' w')
            | (go_simp; refine hK _ ?_; clear hK K))
        refine nqW_nil (hR _ ?_)
        clear hc hb' hb2 hd hR
        intro w' hw'
        simp only [List.drop]
        have hw := below_step hB hB.size hw'
        clear hw' hc1
        go_wp2
        go_ret
        exact ⟨by rw [HRf.out]; rfl, hw⟩
      · rw [hf] at hf0
        have HFk := Lib.hid hf
        clear hf
        generalize hz : zs.getD k 0 = z at *
        have HZk := Lib.hid hz
        clear hz
        go_wp2_with fail
        refine wp_region_nqb 9 (fun _ _ _ => False) (by kernel_rfl) (by kernel_rfl) ?_
        intro C R hc hb' hb2 hd hR
        simp only [List.take_succ_cons, List.take_zero]
        repeat (
          first
            | (refine nqW_plain (fun K hK => ?_))
            | (refine nqW_step (fun K hK => ?_); go_simp)
          first
            | (refine nq_move rfl ?_; go_simp; refine hK _ ?_; clear hK K)
            | (refine nq_assign rfl ?_; go_simp; refine hK _ ?_; clear hK K)
            | (refine nq_flt rfl rfl rfl rfl hd ?_; intro _; go_frame; refine hK _ ?_; clear hK K)
            | (refine nq_same ?_; intro w' hw'; go_simp; (try go_bits); refine hK _ ?_; clear hK K hw' w')
            | (refine nq_same ?_; intro w' hw'; go_simp; rw [if_pos (by omega)]; go_simp; (try go_bits); refine hK _ ?_; clear hK K hw' w')
            | (go_simp; refine hK _ ?_; clear hK K))
        refine nqW_nil (hR _ ?_)
        clear hc hb' hb2 hd hR
        intro w' hw'
        simp only [List.drop]
        have hw := below_step hB hB.size hw'
        clear hw' hc1
        go_wp2
        go_roundw
        case rel => exact ⟨k + 1, by omega, by go_num, fun j hj => (by
          by_cases hjk : j = k
          · subst hjk; rw [HZk.out]; exact HFk.out
          · exact HNO.out j (by omega)), hw⟩
        case measure => simp [intOf]; omega
    · obtain rfl : k = zs.length := by omega
      have HRf := Lib.hid (HR.out.trans (all_ofQ HNO.out))
      go_wp2
      go_ret
      exact ⟨by rw [HRf.out]; rfl, hB⟩
end Go.Proofs.Ytdljnhdhigbefaa

/- The document's layers 10, 12: ones on a diagonal; values, and columns, sorted. No condition but on lengths. -/
namespace Go.Proofs.Ytdljnhdhigbefaa
open Go Go.RowKit
set_option maxRecDepth 1000000

/-- Ones on a diagonal. -/
def OneP (w : World) (n : Nat) (e : Ending) (w' : World) : Prop := ∃ a b cap, e = .returned (.agg #[.int .i64 n, .int .i64 n, .slice a (n * n) cap]) ∧ FS w' a b (oneL n n) ∧ a ≠ none ∧ Below w.heap.size w w'
set_option maxHeartbeats 4000000 in
theorem One10 (w : World) (n : Nat) (hn : n ≤ 512) : Calls Try.prog 23 #[.int .i64 n] w (OneP w n) := by
  have hnn : n * n ≤ 262144 := Nat.mul_le_mul hn hn
  have qM := fun W => run_New n n hnn W
  have e1 : (n : Int) * (n : Int) = ((n * n : Nat) : Int) := (Int.natCast_mul _ _).symm
  have hw1 : wrap64 ((n : Int) * (n : Int)) = (n : Int) * (n : Int) := by rw [e1]; unfold wrap64; omega
  obtain ⟨W0, hW0⟩ : ∃ W0, W0 = (((w.alloc (.cells #[.int .i64 0, .int .i64 0, .slice none 0 0] 26)).alloc (.cells (List.replicate (n * n) (Value.float .f64 0)).toArray 40)).alloc (.cells #[.int .i64 n, .int .i64 n, .slice (some ⟨w.heap.size + 1, 0, none⟩) (n * n) (n * n)] 26)) := ⟨_, rfl⟩
  have hB0 : Below w.heap.size w W0 := hW0 ▸ (((Below.refl _ _).alloc (Nat.le_refl _) _).alloc (by simp) _).alloc (by simp; omega) _
  have x2 : Box W0 w.heap.size [.int .i64 0, .int .i64 0, .slice none 0 0] := hW0 ▸ ((Box.newA w [_, _, _] _ rfl).alloc _).alloc _
  have xg : Flb W0 (w.heap.size + 1) (oneL n 0) := by
    have h1 : Box W0 (w.heap.size + 1) ((List.replicate (n * n) 0).map (Value.float .f64)) := by
      rw [List.map_replicate]
      exact hW0 ▸ (Box.newA _ _ _ (by simp)).alloc _
    exact Flb.ofBox h1 (fun v hv => by rw [(List.mem_replicate.1 hv).2]; kernel_rfl)
  have x3 : Box W0 (w.heap.size + 1 + 1) [.int .i64 n, .int .i64 n, .slice (some ⟨w.heap.size + 1, 0, none⟩) (n * n) (n * n)] := hW0 ▸ Box.newA _ [_, _, _] _ (by simp)
  have HX := Lib.hid (show _ ∧ _ ∧ _ ∧ _ from ⟨hB0, x2, xg, x3⟩)
  clear hB0 x2 xg e1 x3
  go_enter Try.func23, Try.ntmps23
  go_wp2_with fail
  simp only [List.toArray_replicate] at hW0
  rw [← hW0]
  clear hW0 qM hw1
  go_loopw [4] (fun s4 wr => ∃ i : Nat, s4 = .int .i64 i ∧ i ≤ n ∧ Below w.heap.size w wr ∧ Box wr w.heap.size [.int .i64 0, .int .i64 0, .slice none 0 0] ∧ Flb wr (w.heap.size + 1) (oneL n i) ∧ Box wr (w.heap.size + 1 + 1) [.int .i64 n, .int .i64 n, .slice (some ⟨w.heap.size + 1, 0, none⟩) (n * n) (n * n)]) (fun s4 _ => n - (intOf s4).toNat)
  case atStart => exact ⟨0, rfl, Nat.zero_le _, HX.out⟩
  case round =>
    obtain ⟨i, rfl, hi, hB, h2, hg, h3⟩ := hrel
    obtain ⟨q1, q2, q3⟩ := h3.facts
    by_cases hlt : i < n
    · have hpl := place_ltq hlt hlt
      have hgl : i * n + i < (oneL n i).length := by rw [oneL_len]; exact hpl
      obtain ⟨s1, c1⟩ := hg.at hgl
      have hglt := hg.lt
      have hgfz := hg.frozen
      have hm1 : (i : Int) * (n : Int) = ((i * n : Nat) : Int) := (Int.natCast_mul _ _).symm
      have hin : i * n ≤ 262144 := Nat.mul_le_mul (show i ≤ 512 by omega) hn
      have hm2 : ((i : Int) * (n : Int) + (i : Int)).toNat = i * n + i := by rw [hm1]; omega
      have hm3 : 0 ≤ (i : Int) * (n : Int) + (i : Int) := by rw [hm1]; omega
      have hm4 : (i : Int) * (n : Int) + (i : Int) < ((n * n : Nat) : Int) := by rw [hm1]; omega
      have hm5 : i * n + i < n * n := hpl
      have hw2 : wrap64 ((i : Int) * (n : Int)) = (i : Int) * (n : Int) := by rw [hm1]; unfold wrap64; omega
      have hw3 : wrap64 ((i : Int) * (n : Int) + (i : Int)) = (i : Int) * (n : Int) + (i : Int) := by rw [hm1]; unfold wrap64; omega
      have HI := Lib.hid (show _ ∧ _ ∧ _ ∧ _ from ⟨hB, h2, hg, h3⟩)
      have HG := Lib.hid (show oneL n (i + 1) = (oneL n i).set (i * n + i) 4607182418800017408 from rfl)
      clear hB h2 hg h3 hm1 hin hpl hgl
      generalize (oneL n i).getD (i * n + i) 0 = x0 at *
      go_wp2
      go_roundw
      case rel =>
        obtain ⟨hB, h2, hg, h3⟩ := HI.out
        have hg1 := hg.set (i * n + i) 4607182418800017408 0
        rw [raw_of_not (show isnan 4607182418800017408 = false by kernel_rfl)] at hg1
        exact ⟨i + 1, by go_num, hlt, below_set hB (by omega) _ _, h2.set_other (by omega) _ _, by rw [HG.out]; exact hg1, h3.set_other (by omega) _ _⟩
      case measure => simp [intOf]; omega
    · obtain rfl : i = n := by omega
      have HI := Lib.hid (show _ ∧ _ ∧ _ ∧ _ from ⟨hB, h2, hg, h3⟩)
      obtain ⟨p1, p2, p3⟩ := h2.facts
      clear hB h2 hg h3
      go_wp2
      have hne : w.heap.size ≤ w.heap.size := Nat.le_refl _
      obtain ⟨hB, h2, hg, h3⟩ := HI.out
      refine bodyPost_ret (results_one rfl (rv_cell (g := w.heap.size) rfl (h2.put3 _ _ _) rfl Try.underlying26 (by kernel_rfl))) rfl ⟨_, w.heap.size + 1, _, rfl, FS.put3 (.inr ⟨rfl, hg⟩) (by omega) _ _ _, by simp, below_put3 hB hne _ _ _⟩
end Go.Proofs.Ytdljnhdhigbefaa

/- Layer 17: the law's known rows, as gk.Solve tells them. No condition. -/
namespace Go.Proofs.Ytdljnhdhigbefaa
open Go Go.RowKit
set_option maxRecDepth 1000000

theorem kn17a : (let y := solG 2 2 2 (bigG [4607182418800017408, 13837309855095848960] (0 :: [0]) 2) 2 ⟨[4607182418800017408, 13837309855095848960], 0 :: [0], oneL 2 2, oneL 2 2⟩ 0; let s := sortG 2 2 2 y.1.d y.1.u y.1.v 2; y.2.2 && y.1.d.all ffin && (s.1 == [4613937818241073152, 4607182418800017408]) && decide (s.2.2.length = 4) && feq (s.2.2.getD 2 0) 13830554455654793216 && feq (s.2.2.getD 1 0) 4607182418800017408) = true := by kernel_rfl
theorem kn17b : solG 0 0 0 (bigG [] (0 :: []) 0) 0 ⟨[], 0 :: [], [], []⟩ 0 = (⟨[], [0], [], []⟩, 0, true) := by kernel_rfl
theorem kn17c : (let y := solG 2 2 2 (bigG [4607182418800017408, 4607182418800017408] (0 :: [4607182418800017408]) 2) 2 ⟨[4607182418800017408, 4607182418800017408], 0 :: [4607182418800017408], oneL 2 2, oneL 2 2⟩ 0; let s := sortG 2 2 2 y.1.d y.1.u y.1.v 2; y.2.2 && y.1.d.all ffin && decide (0 < y.2.1) && decide (y.2.1 ≤ 60) && decide (s.1.length = 2) && flt 4609965643369732375 (s.1.getD 0 0) && flt (s.1.getD 0 0) 4609966093729695112 && flt 4603741668684706349 (s.1.getD 1 0) && flt (s.1.getD 1 0) 4603742569404631823) = true := by kernel_rfl
theorem WordsU.ofB {l : List Nat} (h : (l.all fun x => decide (x < 18446744073709551616)) = true) : Words l := fun v hv => by simpa using List.all_eq_true.1 h v hv
theorem FlsU.lit (w : World) (T : TypeId) (l : List Nat) (hl : (l.all fun x => !isnan x) = true) : Fls (w.alloc (.cells (l.map (Value.float .f64)).toArray T)) (some ⟨w.heap.size, 0, none⟩) l :=
  (Flb.ofBox (zs := l) (Box.newA w _ T rfl) (fun x hx => by simpa using List.all_eq_true.1 hl x hx)).fls
theorem gs_a (w : World) (a b : Addr) (ua va : Option Addr) (uc vc : Nat) (hd : Fls w (some a) [4607182418800017408, 13837309855095848960]) (he : Fls w (some b) [0]) (hu : Fls w ua (oneL 2 2)) (hv : Fls w va (oneL 2 2)) (hua : ua ≠ none) (hva : va ≠ none) :
    Calls Try.prog 16 #[.agg #[.slice (some a) 2 2, .slice (some b) 1 1], .agg #[.int .i64 2, .int .i64 2, .slice ua 4 uc], .agg #[.int .i64 2, .int .i64 2, .slice va 4 vc]] w fun r w' => (∃ (a : Option Addr) (cap : Nat) (a1 : Option Addr) (c1 : Nat) (a2 : Option Addr) (c2 k : Nat) (v : List Nat), r = .returned (.tuple #[.slice a 2 cap, .agg #[.int .i64 2, .int .i64 2, .slice a1 4 c1], .agg #[.int .i64 2, .int .i64 2, .slice a2 4 c2], .int .i64 k, .int .i64 0]) ∧ Fls w' a [4613937818241073152, 4607182418800017408] ∧ Fls w' a2 v ∧ v.length = 4 ∧ feq (v.getD 2 0) 13830554455654793216 = true ∧ feq (v.getD 1 0) 4607182418800017408 = true) ∧ Below w.heap.size w w' := by
  refine (gsolve_ok w (some a) (some b) ua va _ _ _ _ 2 1 uc vc 2 2 hd he hu hv (fun h => by cases h) (fun h => by cases h) (fun h => absurd h hua) (fun h => absurd h hva) (WordsU.ofB (by kernel_rfl)) (WordsU.ofB (by kernel_rfl)) (WordsU.ofB (by kernel_rfl)) (WordsU.ofB (by kernel_rfl)) (by decide) (by kernel_rfl) (by decide) (by decide) rfl rfl (by kernel_rfl) (by kernel_rfl) (by kernel_rfl) (by kernel_rfl)).mono ?_
  intro r w' h
  unfold SolveGP SolveGQ at h
  have hk := kn17a
  simp only [List.length_cons, List.length_nil, Nat.zero_add, Nat.reduceAdd] at h
  generalize solG 2 2 2 (bigG [4607182418800017408, 13837309855095848960] (0 :: [0]) 2) 2 ⟨[4607182418800017408, 13837309855095848960], 0 :: [0], oneL 2 2, oneL 2 2⟩ 0 = y at *
  simp only [Bool.and_eq_true, decide_eq_true_eq, beq_iff_eq] at hk
  obtain ⟨⟨⟨⟨⟨h1, h2⟩, h3⟩, h4⟩, h5⟩, h6⟩ := hk
  rw [if_pos ⟨h1, h2⟩] at h
  obtain ⟨a', cap, a1, c1, a2, c2, rfl, hF, _, hG, hb⟩ := h
  rw [h3] at hF
  exact ⟨⟨a', cap, a1, c1, a2, c2, _, _, rfl, hF, hG, h4, h5, h6⟩, hb⟩
theorem gs_b (w : World) :
    Calls Try.prog 16 #[.agg #[.slice none 0 0, .slice none 0 0], .agg #[.int .i64 0, .int .i64 0, .slice none 0 0], .agg #[.int .i64 0, .int .i64 0, .slice none 0 0]] w fun r w' => (∃ (a : Option Addr) (cap : Nat) (a1 : Option Addr) (c1 : Nat) (a2 : Option Addr) (c2 : Nat), r = .returned (.tuple #[.slice a 0 cap, .agg #[.int .i64 0, .int .i64 0, .slice a1 0 c1], .agg #[.int .i64 0, .int .i64 0, .slice a2 0 c2], .int .i64 0, .int .i64 0])) ∧ Below w.heap.size w w' := by
  refine (gsolve_ok w none none none none [] [] [] [] 0 0 0 0 0 0 (fun h => absurd rfl h) (fun h => absurd rfl h) (fun h => absurd rfl h) (fun h => absurd rfl h) (fun _ => rfl) (fun _ => ⟨rfl, rfl⟩) (fun _ => rfl) (fun _ => rfl) (WordsU.ofB (by kernel_rfl)) (WordsU.ofB (by kernel_rfl)) (WordsU.ofB (by kernel_rfl)) (WordsU.ofB (by kernel_rfl)) (by decide) (by kernel_rfl) (by decide) (by decide) rfl rfl (by kernel_rfl) (by kernel_rfl) (by kernel_rfl) (by kernel_rfl)).mono ?_
  intro r w' h
  unfold SolveGP SolveGQ at h
  have hk := kn17b
  simp only [List.length_nil] at h hk
  rw [hk] at h
  rw [if_pos ⟨rfl, by kernel_rfl⟩] at h
  obtain ⟨a', cap, a1, c1, a2, c2, rfl, _, _, _, hb⟩ := h
  exact ⟨⟨a', cap, a1, c1, a2, c2, rfl⟩, hb⟩
theorem gs_c (w : World) (a b : Addr) (ua va : Option Addr) (uc vc : Nat) (hd : Fls w (some a) [4607182418800017408, 4607182418800017408]) (he : Fls w (some b) [4607182418800017408]) (hu : Fls w ua (oneL 2 2)) (hv : Fls w va (oneL 2 2)) (hua : ua ≠ none) (hva : va ≠ none) :
    Calls Try.prog 16 #[.agg #[.slice (some a) 2 2, .slice (some b) 1 1], .agg #[.int .i64 2, .int .i64 2, .slice ua 4 uc], .agg #[.int .i64 2, .int .i64 2, .slice va 4 vc]] w fun r w' => (∃ (a : Option Addr) (cap : Nat) (a1 : Option Addr) (c1 : Nat) (a2 : Option Addr) (c2 k x y : Nat), r = .returned (.tuple #[.slice a 2 cap, .agg #[.int .i64 2, .int .i64 2, .slice a1 4 c1], .agg #[.int .i64 2, .int .i64 2, .slice a2 4 c2], .int .i64 k, .int .i64 0]) ∧ 0 < k ∧ k ≤ 60 ∧ Fls w' a [x, y] ∧ flt 4609965643369732375 x = true ∧ flt x 4609966093729695112 = true ∧ flt 4603741668684706349 y = true ∧ flt y 4603742569404631823 = true) ∧ Below w.heap.size w w' := by
  refine (gsolve_ok w (some a) (some b) ua va _ _ _ _ 2 1 uc vc 2 2 hd he hu hv (fun h => by cases h) (fun h => by cases h) (fun h => absurd h hua) (fun h => absurd h hva) (WordsU.ofB (by kernel_rfl)) (WordsU.ofB (by kernel_rfl)) (WordsU.ofB (by kernel_rfl)) (WordsU.ofB (by kernel_rfl)) (by decide) (by kernel_rfl) (by decide) (by decide) rfl rfl (by kernel_rfl) (by kernel_rfl) (by kernel_rfl) (by kernel_rfl)).mono ?_
  intro r w' h
  unfold SolveGP SolveGQ at h
  have hk := kn17c
  simp only [List.length_cons, List.length_nil, Nat.zero_add, Nat.reduceAdd] at h
  generalize solG 2 2 2 (bigG [4607182418800017408, 4607182418800017408] (0 :: [4607182418800017408]) 2) 2 ⟨[4607182418800017408, 4607182418800017408], 0 :: [4607182418800017408], oneL 2 2, oneL 2 2⟩ 0 = y at *
  simp only [Bool.and_eq_true, decide_eq_true_eq] at hk
  obtain ⟨⟨⟨⟨⟨⟨⟨⟨h1, h2⟩, h3⟩, h4⟩, h5⟩, h6⟩, h7⟩, h8⟩, h9⟩ := hk
  rw [if_pos ⟨h1, h2⟩] at h
  obtain ⟨a', cap, a1, c1, a2, c2, rfl, hF, _, hG, hb⟩ := h
  generalize (sortG 2 2 2 y.1.d y.1.u y.1.v 2).1 = l at *
  obtain ⟨x, y', rfl⟩ : ∃ x y', l = [x, y'] := by
    cases l with
    | nil => simp at h5
    | cons x l => cases l with
      | nil => simp at h5
      | cons y' l => cases l with
        | nil => exact ⟨x, y', rfl⟩
        | cons _ _ => simp at h5
  exact ⟨⟨a', cap, a1, c1, a2, c2, _, x, y', rfl, h3, h4, hF, h6, h7, h8, h9⟩, hb⟩
end Go.Proofs.Ytdljnhdhigbefaa
