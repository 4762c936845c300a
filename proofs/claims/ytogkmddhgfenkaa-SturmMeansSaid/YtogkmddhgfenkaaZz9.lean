/- Package sturm: a value is found by halving. -/
import Derived.Test.YtogkmddhgfenkaaZz8
namespace Go.Proofs.Ytogkmddhgfenkaa
open Go Go.RowKit Go.Shelf
set_option maxRecDepth 100000

theorem i64_and1 (n : Int) : bits .and .i64 n 1 = n % 2 := by
  have h1 : (BitVec.ofInt 64 1).toNat = 2 ^ 1 - 1 := by decide
  have key : (BitVec.ofInt 64 n &&& BitVec.ofInt 64 1).toNat = (n % ((2 ^ 64 : Nat) : Int)).toNat % 2 ^ 1 := by
    rw [BitVec.toNat_and, BitVec.toNat_ofInt, h1, Nat.and_two_pow_sub_one_eq_mod]
  show IntKind.i64.wrap ((BitVec.ofInt 64 n &&& BitVec.ofInt 64 1).toNat : Nat) = n % 2
  rw [key, IntKind.wrap_i64]
  omega
theorem nat_and2 (x y : Nat) : (x &&& y) % 2 = (x % 2) * (y % 2) := by
  have := Nat.and_mod_two_pow (a := x) (b := y) (n := 1)
  simp only [Nat.pow_one] at this
  rw [this]
  rcases Nat.mod_two_eq_zero_or_one x with h | h <;> rcases Nat.mod_two_eq_zero_or_one y with k | k <;> rw [h, k] <;> rfl
theorem i64_and_mod2 (a b : Int) : (bits .and .i64 a b) % 2 = (a % 2) * (b % 2) := by
  have key : (BitVec.ofInt 64 a &&& BitVec.ofInt 64 b).toNat = (a % ((2 ^ 64 : Nat) : Int)).toNat &&& (b % ((2 ^ 64 : Nat) : Int)).toNat := by
    rw [BitVec.toNat_and, BitVec.toNat_ofInt, BitVec.toNat_ofInt]
  rw [show ((2 ^ 64 : Nat) : Int) = 18446744073709551616 from by decide] at key
  have h2 := nat_and2 (a % 18446744073709551616).toNat (b % 18446744073709551616).toNat
  have ha : (((a % 18446744073709551616).toNat % 2 : Nat) : Int) = a % 2 := by omega
  have hb : (((b % 18446744073709551616).toNat % 2 : Nat) : Int) = b % 2 := by omega
  rw [← ha, ← hb, ← Int.natCast_mul, ← h2, ← key]
  show IntKind.i64.wrap ((BitVec.ofInt 64 a &&& BitVec.ofInt 64 b).toNat : Nat) % 2 = _
  rw [IntKind.wrap_i64]
  clear key h2 ha hb
  generalize (BitVec.ofInt 64 a &&& BitVec.ofInt 64 b).toNat = z
  omega
def midI (a b : Int) : Int := (a + b) / 2
theorem mid_bits (a b : Int) : a / 2 + b / 2 + bits .and .i64 (bits .and .i64 a b) 1 = midI a b := by
  rw [i64_and1, i64_and_mod2]
  unfold midI
  have ha : a % 2 = 0 ∨ a % 2 = 1 := by omega
  have hb : b % 2 = 0 ∨ b % 2 = 1 := by omega
  rcases ha with h | h <;> rcases hb with k | k <;> rw [h, k] <;> omega

/-- The place that is found, and how many halvings. -/
def fndS (c : Nat → Nat) (k : Int) : Nat → Int → Int → Nat → Int × Nat
  | 0, a, _, n => (a, n)
  | f + 1, a, b, n => if a < b - 1 then (if k < (c (atN (midI a b)) : Int) then fndS c k f a (midI a b) (n + 1) else fndS c k f (midI a b) b (n + 1)) else (a, n)
theorem fndS_end {c : Nat → Nat} {k : Int} {a b : Int} (h : ¬ a < b - 1) : ∀ (f n : Nat), fndS c k f a b n = (a, n)
  | 0, _ => rfl
  | f + 1, n => by rw [fndS, if_neg h]

theorem belc {w w' : World} {s b o : Nat} (h : Bel w.heap.size s w w') (hb : b < w.heap.size) (hn : b ≠ s) : w'.cell? ⟨b, o, none⟩ = w.cell? ⟨b, o, none⟩ := by
  unfold World.cell?
  rw [show w'.heap[(⟨b, o, none⟩ : Addr).block]? = w'.heap[b]? from rfl, h.block b hb hn]
theorem Fls.bel {w w' : World} {da : Option Addr} {ds : List Nat} {s : Nat} (h : Fls w da ds) (hn : ds ≠ [] → ∀ b o, da = some ⟨b, o, none⟩ → b ≠ s) (hb : Bel w.heap.size s w w') : Fls w' da ds := fun hz => by
  obtain ⟨b, o, e, hlt, hc⟩ := h hz
  refine ⟨b, o, e, Nat.lt_of_lt_of_le hlt hb.size, fun i v hi => ?_⟩
  obtain ⟨s', h1⟩ := hc i v hi
  exact ⟨s', by rw [belc hb hlt (hn hz b o e)]; exact h1⟩

/-- What a search holds on to. -/
structure SK (ds es : List Nat) (da ea : Option Addr) (dc ec mb Bm Bt n : Nat) (W : World) : Prop where
  map : ∃ D, W.ownsMap (H := Unit) Try.prog 111 (plainElem Try.prog 3) mb n D ∧ Kept (cntN ds es) D
  bm : Box W Bm [.map (some mb)]
  bt : Box W Bt [.slice da ds.length dc, .slice ea es.length ec]
  fd : Fls W da ds
  fe : Fls W ea es
  ne : Bm ≠ mb ∧ Bt ≠ mb ∧ (ds ≠ [] → ∀ b o, da = some ⟨b, o, none⟩ → b ≠ mb) ∧ (es ≠ [] → ∀ b o, ea = some ⟨b, o, none⟩ → b ≠ mb)
section
variable {ds es : List Nat} {da ea : Option Addr} {dc ec mb Bm Bt n m : Nat} {W W' : World}
theorem SK.mono (h : SK ds es da ea dc ec mb Bm Bt n W) (hn : n ≤ m) : SK ds es da ea dc ec mb Bm Bt m W :=
  ⟨by obtain ⟨D, h1, h2⟩ := h.map; exact ⟨D, h1.mono hn, h2⟩, h.bm, h.bt, h.fd, h.fe, h.ne⟩
theorem SK.below (h : SK ds es da ea dc ec mb Bm Bt n W) (hb : Below W.heap.size W W') : SK ds es da ea dc ec mb Bm Bt n W' :=
  ⟨by obtain ⟨D, h1, h2⟩ := h.map; exact ⟨D, ownsMap_below h1 hb, h2⟩, h.bm.below hb, h.bt.below hb, h.fd.below hb, h.fe.below hb, h.ne⟩
theorem SK.kept (h : SK ds es da ea dc ec mb Bm Bt n W) (hn : n < maxLen) (hl : ds.length ≤ 1000) (hl' : es.length ≤ 1000) (p : Int) :
    Calls Try.prog 97 #[.int .i64 p, .pointer (some ⟨Bm, 0, none⟩), .pointer (some ⟨Bt, 0, none⟩)] W fun e w' => e = .returned (.int .i64 (cntN ds es (atN p))) ∧ SK ds es da ea dc ec mb Bm Bt (n + 1) w' ∧ Bel W.heap.size mb W w' := by
  obtain ⟨D, h1, h2⟩ := h.map
  refine (kept_any W da ea ds es dc ec mb Bm Bt n D p h.fd h.fe hl hl' h1 h2 hn h.bm h.bt).mono ?_
  rintro e w' ⟨rfl, h3, hb⟩
  exact ⟨rfl, ⟨h3, h.bm.bel h.ne.1 hb, h.bt.bel h.ne.2.1 hb, h.fd.bel h.ne.2.2.1 hb, h.fe.bel h.ne.2.2.2 hb, h.ne⟩, hb⟩
end

set_option maxHeartbeats 8000000 in
theorem find_any (w : World) (ds es : List Nat) (da ea : Option Addr) (dc ec mb Bm Bt n : Nat) (lo hi k : Int) (h : SK ds es da ea dc ec mb Bm Bt n w) (hn : n + 64 < maxLen) (hl : ds.length ≤ 1000) (hl' : es.length ≤ 1000) (hlo : -9218868437227405313 ≤ lo) (hhi : hi ≤ 9218868437227405313) (hlh : lo ≤ 9218868437227405313 ∧ -9218868437227405313 ≤ hi) (hml : mb < w.heap.size) :
    Calls Try.prog 81 #[.agg #[.int .i64 lo, .int .i64 hi, .func (.func 97) #[] #[.pointer (some ⟨Bm, 0, none⟩), .pointer (some ⟨Bt, 0, none⟩)]], .int .i64 k] w fun e w' => e = .returned (.tuple #[.float .f64 (atN (fndS (cntN ds es) k 64 lo hi 0).1), .int .i64 (fndS (cntN ds es) k 64 lo hi 0).2]) ∧ SK ds es da ea dc ec mb Bm Bt (n + 64) w' ∧ Bel w.heap.size mb w w' := by
  have x0 : Box (w.alloc (.cells #[.int .i64 lo, .int .i64 hi, .func (.func 97) #[] #[.pointer (some ⟨Bm, 0, none⟩), .pointer (some ⟨Bt, 0, none⟩)]] 100)) w.heap.size [.int .i64 lo, .int .i64 hi, .func (.func 97) #[] #[.pointer (some ⟨Bm, 0, none⟩), .pointer (some ⟨Bt, 0, none⟩)]] := Box.newA w [_, _, _] _ rfl
  have hB0 : Below w.heap.size w (w.alloc (.cells #[.int .i64 lo, .int .i64 hi, .func (.func 97) #[] #[.pointer (some ⟨Bm, 0, none⟩), .pointer (some ⟨Bt, 0, none⟩)]] 100)) := (Below.refl _ _).alloc (Nat.le_refl _) _
  have h0 := h.below hB0
  obtain ⟨R, hR⟩ : ∃ R, R = fndS (cntN ds es) k 64 lo hi 0 := ⟨_, rfl⟩
  rw [← hR]
  go_enter Try.func81, Try.ntmps81
  go_wp2
  generalize w.alloc (.cells #[.int .i64 lo, .int .i64 hi, .func (.func 97) #[] #[.pointer (some ⟨Bm, 0, none⟩), .pointer (some ⟨Bt, 0, none⟩)]] 100) = W0 at *
  have HR := Lib.hid hR
  have HL := Lib.hid (show ds.length ≤ 1000 ∧ es.length ≤ 1000 ∧ n + 64 < maxLen from ⟨hl, hl', hn⟩)
  have hlt0 := x0.lt
  clear hl hl' hn h hR
  obtain ⟨a1, a2, a3⟩ := x0.facts
  refine wp_region_items 6 [(true, 0), (true, 1), (true, 2), (true, 3), (true, 4), (true, 5)] (fun W => ∀ i, W.cell? ⟨w.heap.size, i, none⟩ = ([.int .i64 lo, .int .i64 hi, .func (.func 97) #[] #[.pointer (some ⟨Bm, 0, none⟩), .pointer (some ⟨Bt, 0, none⟩)]] : List Value)[i]?) (by kernel_rfl) (by kernel_rfl) a2 ?_
  iterate 6 (refine iW_take (v := ?_) rfl rfl ?_ ?_; rotate_left; (next => (intro w' hSw; (try dsimp only at hSw); go_simp; (try with_reducible rfl))); (simp only [Act.put, List.setIfInBounds_toArray, List.set_cons_zero, List.set_cons_succ]))
  refine iW_nil ?_
  (try simp only [List.drop])
  go_wp2
  refine NoPanic.normal ?_
  go_wp2
  have hd0 : Below W0.heap.size W0 W0.drew := below_drewN 1 (Below.refl _ _)
  have h1 := h0.below hd0
  have x1 := x0.below hd0
  have hB1 := below_step hB0 hB0.size hd0
  clear h0 x0 hB0 a1 a2 a3 hlt0
  have hp64 : hi - lo ≤ 2 ^ 64 := by rw [show (2 : Int) ^ 64 = 18446744073709551616 from by decide]; omega
  go_loopw [6, 7, 8] (fun s6 s7 s8 wr => ∃ (a b : Int) (f j : Nat), s6 = .int .i64 a ∧ s7 = .int .i64 b ∧ s8 = .int .i64 (j : Int) ∧ R = fndS (cntN ds es) k f a b j ∧ b - a ≤ 2 ^ f ∧ lo ≤ a ∧ b ≤ hi ∧ a ≤ 9218868437227405313 ∧ -9218868437227405313 ≤ b ∧ j + f = 64 ∧ SK ds es da ea dc ec mb Bm Bt (n + j) wr ∧ Bel w.heap.size mb w wr ∧ Box wr w.heap.size [.int .i64 lo, .int .i64 hi, .func (.func 97) #[] #[.pointer (some ⟨Bm, 0, none⟩), .pointer (some ⟨Bt, 0, none⟩)]]) (fun s6 s7 _ _ => (intOf s7 - intOf s6).toNat)
  case atStart => exact ⟨lo, hi, 64, 0, rfl, rfl, rfl, HR.out, hp64, Int.le_refl _, Int.le_refl _, hlh.1, hlh.2, rfl, h1, Bel.of hB1, x1⟩
  case round =>
    obtain ⟨a, b, f, j, rfl, rfl, rfl, hR, hf, ha, hb, ha2, hb2', hj, hS, hB, hx⟩ := hrel
    have HR2 := Lib.hid hR
    clear h1 x1 hB1 hR HR hp64
    obtain ⟨y1, y2, y3⟩ := hx.facts
    have hw1 : wrap64 (b - 1) = b - 1 := by unfold wrap64; omega
    by_cases hlt : a < b - 1
    · cases f with
      | zero => rw [Int.pow_zero] at hf; omega
      | succ f =>
        have t0 : decide (a < b - 1) = true := decide_eq_true hlt
        have hmid : a / 2 + b / 2 + bits .and .i64 (bits .and .i64 a b) 1 = midI a b := mid_bits a b
        have hw2 : wrap64 (a / 2 + b / 2) = a / 2 + b / 2 := by unfold wrap64; omega
        have hw3 : wrap64 (midI a b) = midI a b := by unfold midI wrap64; omega
        have HK := Lib.hid (hS.kept (by have := HL.out.2.2; omega) HL.out.1 HL.out.2.1 (midI a b))
        have hR3 : R = if k < (cntN ds es (atN (midI a b)) : Int) then fndS (cntN ds es) k f a (midI a b) (j + 1) else fndS (cntN ds es) k f (midI a b) b (j + 1) := by rw [HR2.out, fndS, if_pos hlt]
        have hm1 : a < midI a b ∧ midI a b < b := by unfold midI; omega
        have hp : (2 : Int) ^ (f + 1) = 2 * 2 ^ f := by rw [Int.pow_succ, Int.mul_comm]
        have hm2 : midI a b - a ≤ 2 ^ f ∧ b - midI a b ≤ 2 ^ f := by rw [hp] at hf; unfold midI; generalize (2 : Int) ^ f = z at *; omega
        have HM := Lib.hid (And.intro hm1 hm2)
        clear hm1 hm2 hp hf
        go_wp2_with fail
        refine HK.out.mono ?_
        rintro e w2 ⟨rfl, hS2, hb2⟩
        have hx2 := hx.bel (by omega) hb2
        have hBB := bel_step hB hB.size hb2
        have hjb : j + 1 ≤ 64 := by omega
        clear HK hS hx hB y1 y2 y3
        by_cases hk : k < (cntN ds es (atN (midI a b)) : Int)
        · rw [if_pos hk] at hR3
          have t1 := decide_eq_true hk
          have HR3 := Lib.hid hR3
          clear hk hR3
          generalize cntN ds es (atN (midI a b)) = cn at *
          generalize midI a b = m at *
          go_wp2
          go_roundw
          case rel => exact ⟨a, m, f, j + 1, rfl, rfl, by go_num, HR3.out, HM.out.2.1, ha, by have := HM.out.1; omega, ha2, by have := HM.out.1; omega, by omega, hS2, hBB, hx2⟩
          case measure => have := HM.out.1; simp [intOf]; omega
        · rw [if_neg hk] at hR3
          have t1 := decide_eq_false hk
          have HR3 := Lib.hid hR3
          clear hk hR3
          generalize cntN ds es (atN (midI a b)) = cn at *
          generalize midI a b = m at *
          go_wp2
          go_roundw
          case rel => exact ⟨m, b, f, j + 1, rfl, rfl, by go_num, HR3.out, HM.out.2.2, by have := HM.out.1; omega, hb, by have := HM.out.1; omega, hb2', by omega, hS2, hBB, hx2⟩
          case measure => have := HM.out.1; simp [intOf]; omega
    · have t0 : decide (a < b - 1) = false := decide_eq_false hlt
      have hR3 : R = (a, j) := by rw [HR2.out]; exact fndS_end hlt _ _
      have HR3 := Lib.hid hR3
      clear hR3 hlt
      go_wp2_with (go_at_call 45; refine (At13_any a _).mono ?_; rintro e w' ⟨rfl, rfl⟩)
      refine bodyPost_ret (results_tmp2 rfl _ _ _) rfl ⟨?_, hS.mono (by omega), hB⟩
      rw [HR3.out]; rfl
end Go.Proofs.Ytogkmddhgfenkaa

/- Package sturm: a search is opened. -/
namespace Go.Proofs.Ytogkmddhgfenkaa
open Go Go.RowKit Go.Shelf
set_option maxRecDepth 100000

theorem fnS_num {x : Nat} (h : fnS x = true) : isnan x = false := by
  cases hx : isnan x
  · rfl
  · unfold fnS at h
    have e : fsub x x = qnan := by
      unfold fsub Ieee.Format.sub
      rw [sum_nan_left _ (by rw [read_nan]; exact hx)]
      rfl
    rw [e, show feq qnan 0 = false from by kernel_rfl] at h
    cases h
theorem bndL_lt (ds es : List Nat) : ∀ k, (bndL ds es k).1 < 18446744073709551616 ∧ (bndL ds es k).2 < 18446744073709551616
  | 0 => ⟨(by decide : (0 : Nat) < 18446744073709551616), (by decide : (0 : Nat) < 18446744073709551616)⟩
  | k + 1 => by
    unfold bndL
    constructor
    · dsimp only; split
      · exact fsub_lt _ _
      · exact (bndL_lt ds es k).1
    · dsimp only; split
      · exact fadd_lt _ _
      · exact (bndL_lt ds es k).2
theorem pl_bnd {x : Nat} (hx : x < 18446744073709551616) (h : isnan x = false) : -9218868437227405312 ≤ plN x ∧ plN x ≤ 9218868437227405312 := by
  rw [pl_num hx h]
  unfold isnan at h
  simp only [decide_eq_false_iff_not] at h
  split <;> omega
theorem bndE_zero {ds es : List Nat} (h : bndE ds es = 0) : askS ds es [] = 0 ∧ ds.length ≠ 0 ∧ fnS (bndL ds es ds.length).1 = true ∧ fnS (bndL ds es ds.length).2 = true := by
  unfold bndE at h
  by_cases h1 : askS ds es [] = 0
  · rw [if_pos h1] at h
    by_cases h2 : ds.length = 0
    · rw [if_pos h2] at h; cases h
    · rw [if_neg h2] at h
      by_cases h3 : (fnS (bndL ds es ds.length).1 && fnS (bndL ds es ds.length).2) = true
      · rw [Bool.and_eq_true] at h3
        exact ⟨h1, h2, h3.1, h3.2⟩
      · rw [if_neg h3] at h; cases h
  · rw [if_neg h1] at h
    exact absurd h h1
def loS (ds es : List Nat) : Int := plN (bndL ds es ds.length).1 - 1
def hiS (ds es : List Nat) : Int := plN (bndL ds es ds.length).2 + 1

set_option maxHeartbeats 8000000 in
theorem open13_any (w : World) (da ea : Option Addr) (ds es : List Nat) (dc ec : Nat) (hD : Fls w da ds) (hE : Fls w ea es) (hW : Words es) (hl : ds.length ≤ 1000) (hl' : es.length ≤ 1000) :
    Calls Try.prog 80 #[.agg #[.slice da ds.length dc, .slice ea es.length ec]] w fun e w' => ∃ a b f mb Bm Bt, e = .returned (.tuple #[.agg #[.int .i64 a, .int .i64 b, f], .int .i64 (bndE ds es)]) ∧ (bndE ds es = 0 → a = loS ds es ∧ b = hiS ds es ∧ f = .func (.func 97) #[] #[.pointer (some ⟨Bm, 0, none⟩), .pointer (some ⟨Bt, 0, none⟩)] ∧ SK ds es da ea dc ec mb Bm Bt 0 w' ∧ w.heap.size ≤ mb ∧ mb < w'.heap.size) ∧ (bndE ds es ≠ 0 → f = .nilFunc) ∧ Below w.heap.size w w' := by
  have hmm := @run_makeMap Try.prog
  have x0 : Box ((w.alloc (.cells #[.slice da ds.length dc, .slice ea es.length ec] 51)).alloc (.cells #[.int .i64 0, .int .i64 0, .nilFunc] 100)) w.heap.size [.slice da ds.length dc, .slice ea es.length ec] := (Box.newA w [_, _] _ rfl).alloc _
  have x1 : Box ((w.alloc (.cells #[.slice da ds.length dc, .slice ea es.length ec] 51)).alloc (.cells #[.int .i64 0, .int .i64 0, .nilFunc] 100)) (w.heap.size + 1) [.int .i64 0, .int .i64 0, .nilFunc] := Box.newA _ [_, _, _] _ (by simp)
  have hB0 : Below w.heap.size w ((w.alloc (.cells #[.slice da ds.length dc, .slice ea es.length ec] 51)).alloc (.cells #[.int .i64 0, .int .i64 0, .nilFunc] 100)) := ((Below.refl _ _).alloc (Nat.le_refl _) _).alloc (by simp) _
  have HB := Lib.hid (fun (W : World) (hW' : Below w.heap.size w W) => Bounds_any W da ea ds es dc ec (hD.below hW') (hE.below hW') hW hl hl')
  go_enter Try.func80, Try.ntmps80
  go_wp2_with fail
  refine (HB.out _ hB0).mono ?_
  rintro e w1 ⟨lo, hi, s1, s2, rfl, hg0, hg1, hb1⟩
  have y0 := x0.below hb1
  have y1 := x1.below hb1
  have hB1 := below_step hB0 hB0.size hb1
  have hs1 := hb1.size
  clear x0 x1 hB0 HB
  by_cases hz : bndE ds es = 0
  case neg =>
    have t0 : (bndE ds es != 0) = true := by simp [hz]
    have HZ := Lib.hid hz
    obtain ⟨a1, a2, a3⟩ := y1.facts
    clear hg0 hg1 hz hmm
    go_wp2
    refine bodyPost_ret (results_two rfl (rv_cell (g := w.heap.size + 1) rfl (((y1.set 0 _).set 1 _).set 2 _) rfl Try.underlying100 (by kernel_rfl)) (rv_tmp rfl)) rfl ⟨0, 0, .nilFunc, 0, 0, 0, rfl, fun h => absurd h HZ.out, fun _ => rfl, ?_⟩
    exact below_set (below_set (below_set hB1 (by omega) _ _) (by omega) _ _) (by omega) _ _
  case pos =>
    obtain ⟨rfl, rfl⟩ := hg0 hz
    obtain ⟨g1, g2, g3, g4⟩ := bndE_zero hz
    have n1 := fnS_num g3
    have n2 := fnS_num g4
    have hlt := bndL_lt ds es ds.length
    have q1 := pl_bnd hlt.1 n1
    have q2 := pl_bnd hlt.2 n2
    have HLo : Hid (loS ds es = plN (bndL ds es ds.length).1 - 1 ∧ hiS ds es = plN (bndL ds es ds.length).2 + 1) := ⟨rfl, rfl⟩
    have HZ := Lib.hid hz
    rw [hz, raw_of_not n1, raw_of_not n2]
    clear hg0 hg1 g1 g2 g3 g4 n1 n2 hz
    generalize (bndL ds es ds.length).1 = l1 at *
    generalize (bndL ds es ds.length).2 = l2 at *
    have HP1 := Lib.hid (fun W => Place_any l1 hlt.1 W)
    have HP2 := Lib.hid (fun W => Place_any l2 hlt.2 W)
    generalize plN l1 = p1 at *
    generalize plN l2 = p2 at *
    have w1' : wrap64 (p1 - 1) = p1 - 1 := by unfold wrap64; omega
    have w2' : wrap64 (p2 + 1) = p2 + 1 := by unfold wrap64; omega
    clear hlt q1 q2 hl hl' hW
    have hl1 := y1.lt
    have HH := Lib.hid (show _ ∧ _ ∧ _ ∧ _ ∧ _ from ⟨hD, hE, y0, y1, hB1⟩)
    obtain ⟨a1, a2, a3⟩ := y1.facts
    clear hD hE y0 y1 hb1 hB1 hs1
    have ne1 : w.heap.size + 1 ≠ w1.heap.size := by omega
    have ne2 : w.heap.size + 1 ≠ w1.heap.size + 1 := by omega
    have ne3 : w.heap.size + 1 < w1.heap.size + 1 := by omega
    go_wp2_with fail
    refine (HP1.out _).mono ?_
    rintro e w' ⟨rfl, rfl⟩
    go_wp2_with fail
    refine (HP2.out _).mono ?_
    rintro e w' ⟨rfl, rfl⟩
    go_wp2
    obtain ⟨hD, hE, y0, y1, hB1⟩ := HH.out
    have z1 := ((y1.set 0 (.int .i64 (p1 - 1))).set 1 (.int .i64 (p2 + 1))).set 2 (.func (.func 97) #[] #[.pointer (some ⟨w1.heap.size + 1, 0, none⟩), .pointer (some ⟨w.heap.size, 0, none⟩)])
    have hset : Bel w1.heap.size (w.heap.size + 1) w1 (((w1.setCell ⟨w.heap.size + 1, 0, none⟩ (.int .i64 (p1 - 1))).setCell ⟨w.heap.size + 1, 1, none⟩ (.int .i64 (p2 + 1))).setCell ⟨w.heap.size + 1, 2, none⟩ (.func (.func 97) #[] #[.pointer (some ⟨w1.heap.size + 1, 0, none⟩), .pointer (some ⟨w.heap.size, 0, none⟩)])) := (((Bel.refl _ _ _).set _ _).set _ _).set _ _
    have hB2 := below_set (below_set (below_set hB1 (show w.heap.size ≤ w.heap.size + 1 by omega) 0 (.int .i64 (p1 - 1))) (show w.heap.size ≤ w.heap.size + 1 by omega) 1 (.int .i64 (p2 + 1))) (show w.heap.size ≤ w.heap.size + 1 by omega) 2 (.func (.func 97) #[] #[.pointer (some ⟨w1.heap.size + 1, 0, none⟩), .pointer (some ⟨w.heap.size, 0, none⟩)])
    have hszS : (((w1.setCell ⟨w.heap.size + 1, 0, none⟩ (.int .i64 (p1 - 1))).setCell ⟨w.heap.size + 1, 1, none⟩ (.int .i64 (p2 + 1))).setCell ⟨w.heap.size + 1, 2, none⟩ (.func (.func 97) #[] #[.pointer (some ⟨w1.heap.size + 1, 0, none⟩), .pointer (some ⟨w.heap.size, 0, none⟩)])).heap.size = w1.heap.size := by simp
    generalize (((w1.setCell ⟨w.heap.size + 1, 0, none⟩ (.int .i64 (p1 - 1))).setCell ⟨w.heap.size + 1, 1, none⟩ (.int .i64 (p2 + 1))).setCell ⟨w.heap.size + 1, 2, none⟩ (.func (.func 97) #[] #[.pointer (some ⟨w1.heap.size + 1, 0, none⟩), .pointer (some ⟨w.heap.size, 0, none⟩)])) = W1 at *
    have hA : Below W1.heap.size W1 ((W1.alloc (.map #[] 0)).alloc (.cells #[.map (some w1.heap.size)] 110)) := ((Below.refl _ _).alloc (Nat.le_refl _) _).alloc (by simp) _
    have xm : Box ((W1.alloc (.map #[] 0)).alloc (.cells #[.map (some w1.heap.size)] 110)) (w1.heap.size + 1) [.map (some w1.heap.size)] := Box.newA _ [_] _ (by simp [hszS])
    have hown : ((W1.alloc (.map #[] 0)).alloc (.cells #[.map (some w1.heap.size)] 110)).ownsMap (H := Unit) Try.prog 111 (plainElem Try.prog 3) w1.heap.size 0 (.map []) := by
      have := (World.ownsMap_made (H := Unit) W1 Try.prog 111 (plainElem Try.prog 3)).alloc (.cells #[.map (some w1.heap.size)] 110)
      rw [hszS] at this
      exact this
    have hsz : ((W1.alloc (.map #[] 0)).alloc (.cells #[.map (some w1.heap.size)] 110)).heap.size = w1.heap.size + 2 := by simp [hszS]
    have hne : ∀ {za : Option Addr} {zs : List Nat}, Fls w za zs → ∀ m, w.heap.size ≤ m → zs ≠ [] → ∀ b o, za = some ⟨b, o, none⟩ → b ≠ m := by
      intro za zs hZ m hm hz b o e
      obtain ⟨b', o', e', hb', _⟩ := hZ hz
      rw [e] at e'
      simp only [Option.some.injEq, Addr.mk.injEq] at e'
      omega
    refine bodyPost_ret (results_two rfl (rv_cell (g := w.heap.size + 1) rfl (z1.below hA) rfl Try.underlying100 (by kernel_rfl)) (rv_tmp rfl)) rfl ⟨p1 - 1, p2 + 1, _, w1.heap.size, w1.heap.size + 1, w.heap.size, by rw [HZ.out]; rfl, fun _ => ⟨HLo.out.1.symm, HLo.out.2.symm, rfl, ⟨⟨_, hown, Kept.nil _⟩, xm, (y0.bel (by omega) hset).below hA, (hD.below hB2).below hA, (hE.below hB2).below hA, by omega, by omega, hne hD _ (by omega), hne hE _ (by omega)⟩, by omega, by omega⟩, fun h => absurd HZ.out h, below_step hB2 (by omega) hA⟩
end Go.Proofs.Ytogkmddhgfenkaa

/- Package sturm: Find. -/
namespace Go.Proofs.Ytogkmddhgfenkaa
open Go Go.RowKit Go.Shelf
set_option maxRecDepth 100000

/-- The k-th value's place, and its halvings. -/
def valK (ds es : List Nat) (k : Int) : Int × Nat := fndS (cntN ds es) k 64 (loS ds es) (hiS ds es) 0
theorem pl_los {ds es : List Nat} (h : bndE ds es = 0) : -9218868437227405313 ≤ loS ds es ∧ loS ds es ≤ 9218868437227405311 ∧ -9218868437227405311 ≤ hiS ds es ∧ hiS ds es ≤ 9218868437227405313 := by
  obtain ⟨_, _, g3, g4⟩ := bndE_zero h
  have hlt := bndL_lt ds es ds.length
  have q1 := pl_bnd hlt.1 (fnS_num g3)
  have q2 := pl_bnd hlt.2 (fnS_num g4)
  unfold loS hiS
  omega
def outK (ds : List Nat) (k : Int) : Bool := decide (k < 0) || decide ((ds.length : Int) ≤ k)
def findE (ds es : List Nat) (k : Int) : Int := if (mayS ds.length es.length && outK ds k) = true then 2 else bndE ds es
def findX (ds es : List Nat) (k : Int) : Nat := if findE ds es k = 0 then atN (valK ds es k).1 else 0
def findM (ds es : List Nat) (k : Int) : Nat := if findE ds es k = 0 then (valK ds es k).2 else 0

set_option maxHeartbeats 8000000 in
theorem find_in (w : World) (da ea : Option Addr) (ds es : List Nat) (dc ec : Nat) (k : Int) (hD : Fls w da ds) (hE : Fls w ea es) (hW : Words es) (hl : ds.length ≤ 1000) (hl' : es.length ≤ 1000) (hin : (mayS ds.length es.length && outK ds k) = false) :
    Calls Try.prog 43 #[.agg #[.slice da ds.length dc, .slice ea es.length ec], .int .i64 k] w fun e w' => e = .returned (.tuple #[.float .f64 (findX ds es k), .int .i64 (findM ds es k), .int .i64 (findE ds es k)]) ∧ Below w.heap.size w w' := by
  have hm : ds.length ≤ maxLen := by unfold maxLen; omega
  have hm' : es.length ≤ maxLen := by unfold maxLen; omega
  have hfe : findE ds es k = bndE ds es := by unfold findE; rw [hin]; rfl
  have HFE := Lib.hid hfe
  have x0 : Box (w.alloc (.cells #[.slice da ds.length dc, .slice ea es.length ec] 51)) w.heap.size [.slice da ds.length dc, .slice ea es.length ec] := Box.newA w [_, _] _ rfl
  have hB0 : Below w.heap.size w (w.alloc (.cells #[.slice da ds.length dc, .slice ea es.length ec] 51)) := (Below.refl _ _).alloc (Nat.le_refl _) _
  have HM := Lib.hid (fun (W : World) => May13_any W da ea ds.length es.length dc ec hm hm')
  have HO := Lib.hid (fun (W : World) (hW' : Below w.heap.size w W) => open13_any W da ea ds es dc ec (hD.below hW') (hE.below hW') hW hl hl')
  have HF := Lib.hid (fun (W : World) (mb Bm Bt : Nat) (hz : bndE ds es = 0) (h : SK ds es da ea dc ec mb Bm Bt 0 W) (hmb : mb < W.heap.size) => find_any W ds es da ea dc ec mb Bm Bt 0 (loS ds es) (hiS ds es) k h (by unfold maxLen; omega) hl hl' (pl_los hz).1 (pl_los hz).2.2.2 ⟨by have := (pl_los hz).2.1; omega, by have := (pl_los hz).2.2.1; omega⟩ hmb)
  have hnn : 0 ≤ (ds.length : Int) := Int.natCast_nonneg _
  unfold outK at hin
  generalize mayS ds.length es.length = q at *
  clear hD hE hW hl hl' hm hm' hfe
  go_enter Try.func43, Try.ntmps43
  go_wp2_with fail
  refine (HM.out _).mono ?_
  rintro e w1 ⟨rfl, hb1⟩
  have y0 := x0.below hb1
  have hB1 := below_step hB0 hB0.size hb1
  clear x0 hB0 hb1
  obtain ⟨a1, a2, a3⟩ := y0.facts
  have hrest : True := trivial
  have t12 : q = true → decide (k < 0) = false ∧ decide ((ds.length : Int) ≤ k) = false := by
    rintro rfl
    simpa using hin
  cases q
  case false =>
    clear t12 hin
    go_wp2_with fail
    refine (HO.out _ hB1).mono ?_
    rintro e w2 ⟨a, b, f, mb, Bm, Bt, rfl, hS, hnf, hb2⟩
    have hs1 := hB1.size
    have hB2 := below_step hB1 hB1.size hb2
    clear a1 a2 a3 y0 hB1 hb2
    by_cases hz : bndE ds es = 0
    · obtain ⟨rfl, rfl, rfl, hS, hm1, hm2⟩ := hS hz
      have t0 : (bndE ds es != 0) = false := by simp [hz]
      have hA : Below w2.heap.size w2 (w2.alloc (.cells #[.int .i64 (loS ds es), .int .i64 (hiS ds es), .func (.func 97) #[] #[.pointer (some ⟨Bm, 0, none⟩), .pointer (some ⟨Bt, 0, none⟩)]] 100)) := (Below.refl _ _).alloc (Nat.le_refl _) _
      have HF2 := Lib.hid (HF.out _ mb Bm Bt hz (hS.below hA) (by simp; omega))
      have HBB := Lib.hid (show _ ∧ _ from ⟨below_step hB2 hB2.size hA, hm1⟩)
      have h0 : findE ds es k = 0 := by rw [HFE.out, hz]
      have e1 : findX ds es k = atN (fndS (cntN ds es) k 64 (loS ds es) (hiS ds es) 0).1 := by unfold findX valK; rw [if_pos h0]
      have e2 : findM ds es k = (fndS (cntN ds es) k 64 (loS ds es) (hiS ds es) 0).2 := by unfold findM valK; rw [if_pos h0]
      have HX := Lib.hid (show _ ∧ _ ∧ _ ∧ _ from ⟨e1, e2, h0, hz⟩)
      clear e1 e2 h0 hz hS hm1 hm2 hA hB2 HF HO HM hnf
      generalize loS ds es = lo at *
      generalize hiS ds es = hi at *
      go_wp2_with fail
      refine HF2.out.mono ?_
      rintro e w4 ⟨rfl, hS4, hb4⟩
      go_wp2
      obtain ⟨hB3, hm1⟩ := HBB.out
      obtain ⟨e1, e2, e3, e4⟩ := HX.out
      refine bodyPost_ret (results_tmp3 rfl _ _ _) rfl ⟨?_, (bel_step (Bel.of hB3) hB3.size hb4).below (Nat.le_trans hs1 hm1)⟩
      rw [e1, e2, e3]; rfl
    · have t0 : (bndE ds es != 0) = true := by simp [hz]
      obtain rfl := hnf hz
      have h0 : findE ds es k ≠ 0 := by rw [HFE.out]; exact hz
      have e1 : findX ds es k = 0 := by unfold findX; rw [if_neg h0]
      have e2 : findM ds es k = 0 := by unfold findM; rw [if_neg h0]
      have HX := Lib.hid (show _ ∧ _ from ⟨e1, e2⟩)
      have hA : Below w2.heap.size w2 (w2.alloc (.cells #[.int .i64 a, .int .i64 b, .nilFunc] 100)) := (Below.refl _ _).alloc (Nat.le_refl _) _
      have hB3 := below_step hB2 hB2.size hA
      clear e1 e2 h0 hz hS hB2 HF HO HM hA
      go_wp2
      refine bodyPost_ret (results_tmp3 rfl _ _ _) rfl ⟨?_, hB3⟩
      rw [HX.out.1, HX.out.2, HFE.out]; rfl
  case true =>
    obtain ⟨t1, t2⟩ := t12 rfl
    clear t12 hin
    go_wp2_with fail
    refine (HO.out _ hB1).mono ?_
    rintro e w2 ⟨a, b, f, mb, Bm, Bt, rfl, hS, hnf, hb2⟩
    have hs1 := hB1.size
    have hB2 := below_step hB1 hB1.size hb2
    clear a1 a2 a3 y0 hB1 hb2
    by_cases hz : bndE ds es = 0
    · obtain ⟨rfl, rfl, rfl, hS, hm1, hm2⟩ := hS hz
      have t0 : (bndE ds es != 0) = false := by simp [hz]
      have hA : Below w2.heap.size w2 (w2.alloc (.cells #[.int .i64 (loS ds es), .int .i64 (hiS ds es), .func (.func 97) #[] #[.pointer (some ⟨Bm, 0, none⟩), .pointer (some ⟨Bt, 0, none⟩)]] 100)) := (Below.refl _ _).alloc (Nat.le_refl _) _
      have HF2 := Lib.hid (HF.out _ mb Bm Bt hz (hS.below hA) (by simp; omega))
      have HBB := Lib.hid (show _ ∧ _ from ⟨below_step hB2 hB2.size hA, hm1⟩)
      have h0 : findE ds es k = 0 := by rw [HFE.out, hz]
      have e1 : findX ds es k = atN (fndS (cntN ds es) k 64 (loS ds es) (hiS ds es) 0).1 := by unfold findX valK; rw [if_pos h0]
      have e2 : findM ds es k = (fndS (cntN ds es) k 64 (loS ds es) (hiS ds es) 0).2 := by unfold findM valK; rw [if_pos h0]
      have HX := Lib.hid (show _ ∧ _ ∧ _ ∧ _ from ⟨e1, e2, h0, hz⟩)
      clear e1 e2 h0 hz hS hm1 hm2 hA hB2 HF HO HM hnf
      generalize loS ds es = lo at *
      generalize hiS ds es = hi at *
      go_wp2_with fail
      refine HF2.out.mono ?_
      rintro e w4 ⟨rfl, hS4, hb4⟩
      go_wp2
      obtain ⟨hB3, hm1⟩ := HBB.out
      obtain ⟨e1, e2, e3, e4⟩ := HX.out
      refine bodyPost_ret (results_tmp3 rfl _ _ _) rfl ⟨?_, (bel_step (Bel.of hB3) hB3.size hb4).below (Nat.le_trans hs1 hm1)⟩
      rw [e1, e2, e3]; rfl
    · have t0 : (bndE ds es != 0) = true := by simp [hz]
      obtain rfl := hnf hz
      have h0 : findE ds es k ≠ 0 := by rw [HFE.out]; exact hz
      have e1 : findX ds es k = 0 := by unfold findX; rw [if_neg h0]
      have e2 : findM ds es k = 0 := by unfold findM; rw [if_neg h0]
      have HX := Lib.hid (show _ ∧ _ from ⟨e1, e2⟩)
      have hA : Below w2.heap.size w2 (w2.alloc (.cells #[.int .i64 a, .int .i64 b, .nilFunc] 100)) := (Below.refl _ _).alloc (Nat.le_refl _) _
      have hB3 := below_step hB2 hB2.size hA
      clear e1 e2 h0 hz hS hB2 HF HO HM hA
      go_wp2
      refine bodyPost_ret (results_tmp3 rfl _ _ _) rfl ⟨?_, hB3⟩
      rw [HX.out.1, HX.out.2, HFE.out]; rfl

set_option maxHeartbeats 4000000 in
theorem find_out (w : World) (da ea : Option Addr) (ds es : List Nat) (dc ec : Nat) (k : Int) (hl : ds.length ≤ 1000) (hl' : es.length ≤ 1000) (hin : (mayS ds.length es.length && outK ds k) = true) :
    Calls Try.prog 43 #[.agg #[.slice da ds.length dc, .slice ea es.length ec], .int .i64 k] w fun e w' => e = .returned (.tuple #[.float .f64 (findX ds es k), .int .i64 (findM ds es k), .int .i64 (findE ds es k)]) ∧ Below w.heap.size w w' := by
  have hm : ds.length ≤ maxLen := by unfold maxLen; omega
  have hm' : es.length ≤ maxLen := by unfold maxLen; omega
  have h2 : findE ds es k = 2 := by unfold findE; rw [hin]; rfl
  have e1 : findX ds es k = 0 := by unfold findX; rw [if_neg (by rw [h2]; decide)]
  have e2 : findM ds es k = 0 := by unfold findM; rw [if_neg (by rw [h2]; decide)]
  rw [h2, e1, e2]
  have x0 : Box (w.alloc (.cells #[.slice da ds.length dc, .slice ea es.length ec] 51)) w.heap.size [.slice da ds.length dc, .slice ea es.length ec] := Box.newA w [_, _] _ rfl
  have hB0 : Below w.heap.size w (w.alloc (.cells #[.slice da ds.length dc, .slice ea es.length ec] 51)) := (Below.refl _ _).alloc (Nat.le_refl _) _
  have HM := Lib.hid (fun (W : World) => May13_any W da ea ds.length es.length dc ec hm hm')
  rw [Bool.and_eq_true] at hin
  rw [hin.1] at HM
  have hk := hin.2
  unfold outK at hk
  clear hin h2 e1 e2
  go_enter Try.func43, Try.ntmps43
  go_wp2_with fail
  refine (HM.out _).mono ?_
  rintro e w1 ⟨rfl, hb1⟩
  have y0 := x0.below hb1
  have hB1 := below_step hB0 hB0.size hb1
  obtain ⟨a1, a2, a3⟩ := y0.facts
  cases t1 : decide (k < 0)
  · have t2 : decide ((ds.length : Int) ≤ k) = true := by rw [t1] at hk; simpa using hk
    clear hk
    go_wp2
    exact bodyPost_ret (results_tmp3 rfl _ _ _) rfl ⟨rfl, hB1⟩
  · clear hk
    go_wp2
    exact bodyPost_ret (results_tmp3 rfl _ _ _) rfl ⟨rfl, hB1⟩
theorem Find_any (w : World) (da ea : Option Addr) (ds es : List Nat) (dc ec : Nat) (k : Int) (hD : Fls w da ds) (hE : Fls w ea es) (hW : Words es) (hl : ds.length ≤ 1000) (hl' : es.length ≤ 1000) :
    Calls Try.prog 43 #[.agg #[.slice da ds.length dc, .slice ea es.length ec], .int .i64 k] w fun e w' => e = .returned (.tuple #[.float .f64 (findX ds es k), .int .i64 (findM ds es k), .int .i64 (findE ds es k)]) ∧ Below w.heap.size w w' := by
  cases h : (mayS ds.length es.length && outK ds k)
  · exact find_in w da ea ds es dc ec k hD hE hW hl hl' h
  · exact find_out w da ea ds es dc ec k hl hl' h
end Go.Proofs.Ytogkmddhgfenkaa
