/- Package sturm: a value is found by halving. -/
import Derived.Test.YtogkmddhgfenkaaSt8
import Derived.Test.YtogkmddhgfenkaaNq6
namespace Go.Proofs.Ytogkmddhgfenkaa
open Go Go.RowKit Go.Shelf
set_option maxRecDepth 100000

theorem i64_and1 (n : Int) : bits .and .i64 n 1 = n % 2 := by
  have h1 : (BitVec.ofInt 64 1).toNat = 2 ^ 1 - 1 := by decide
  have key : (BitVec.ofInt 64 n &&& BitVec.ofInt 64 1).toNat = (n % ((2 ^ 64 : Nat) : Int)).toNat % 2 ^ 1 := by
    rw [BitVec.toNat_and, BitVec.toNat_ofInt, h1, Nat.and_two_pow_sub_one_eq_mod]
  show IntKind.i64.wrap ((BitVec.ofInt 64 n &&& BitVec.ofInt 64 1).toNat : Nat) = n % 2
  rw [key, IntKind.wrap_i64]
  omega
theorem nat_and2 (x y : Nat) : (x &&& y) % 2 = (x % 2) * (y % 2) := by
  have := Nat.and_mod_two_pow (a := x) (b := y) (n := 1)
  simp only [Nat.pow_one] at this
  rw [this]
  rcases Nat.mod_two_eq_zero_or_one x with h | h <;> rcases Nat.mod_two_eq_zero_or_one y with k | k <;> rw [h, k] <;> rfl
theorem i64_and_mod2 (a b : Int) : (bits .and .i64 a b) % 2 = (a % 2) * (b % 2) := by
  have key : (BitVec.ofInt 64 a &&& BitVec.ofInt 64 b).toNat = (a % ((2 ^ 64 : Nat) : Int)).toNat &&& (b % ((2 ^ 64 : Nat) : Int)).toNat := by
    rw [BitVec.toNat_and, BitVec.toNat_ofInt, BitVec.toNat_ofInt]
  rw [show ((2 ^ 64 : Nat) : Int) = 18446744073709551616 from by decide] at key
  have h2 := nat_and2 (a % 18446744073709551616).toNat (b % 18446744073709551616).toNat
  have ha : (((a % 18446744073709551616).toNat % 2 : Nat) : Int) = a % 2 := by omega
  have hb : (((b % 18446744073709551616).toNat % 2 : Nat) : Int) = b % 2 := by omega
  rw [← ha, ← hb, ← Int.natCast_mul, ← h2, ← key]
  show IntKind.i64.wrap ((BitVec.ofInt 64 a &&& BitVec.ofInt 64 b).toNat : Nat) % 2 = _
  rw [IntKind.wrap_i64]
  clear key h2 ha hb
  generalize (BitVec.ofInt 64 a &&& BitVec.ofInt 64 b).toNat = z
  omega
def midI (a b : Int) : Int := (a + b) / 2
theorem mid_bits (a b : Int) : a / 2 + b / 2 + bits .and .i64 (bits .and .i64 a b) 1 = midI a b := by
  rw [i64_and1, i64_and_mod2]
  unfold midI
  have ha : a % 2 = 0 ∨ a % 2 = 1 := by omega
  have hb : b % 2 = 0 ∨ b % 2 = 1 := by omega
  rcases ha with h | h <;> rcases hb with k | k <;> rw [h, k] <;> omega

/-- The place that is found, and how many halvings. -/
def fndS (c : Nat → Nat) (k : Int) : Nat → Int → Int → Nat → Int × Nat
  | 0, a, _, n => (a, n)
  | f + 1, a, b, n => if a < b - 1 then (if k < (c (atN (midI a b)) : Int) then fndS c k f a (midI a b) (n + 1) else fndS c k f (midI a b) b (n + 1)) else (a, n)
theorem fndS_end {c : Nat → Nat} {k : Int} {a b : Int} (h : ¬ a < b - 1) : ∀ (f n : Nat), fndS c k f a b n = (a, n)
  | 0, _ => rfl
  | f + 1, n => by rw [fndS, if_neg h]

theorem belc {w w' : World} {s b o : Nat} (h : Bel w.heap.size s w w') (hb : b < w.heap.size) (hn : b ≠ s) : w'.cell? ⟨b, o, none⟩ = w.cell? ⟨b, o, none⟩ := by
  unfold World.cell?
  rw [show w'.heap[(⟨b, o, none⟩ : Addr).block]? = w'.heap[b]? from rfl, h.block b hb hn]
theorem Fls.bel {w w' : World} {da : Option Addr} {ds : List Nat} {s : Nat} (h : Fls w da ds) (hn : ds ≠ [] → ∀ b o, da = some ⟨b, o, none⟩ → b ≠ s) (hb : Bel w.heap.size s w w') : Fls w' da ds := fun hz => by
  obtain ⟨b, o, e, hlt, hc⟩ := h hz
  refine ⟨b, o, e, Nat.lt_of_lt_of_le hlt hb.size, fun i v hi => ?_⟩
  obtain ⟨s', h1⟩ := hc i v hi
  exact ⟨s', by rw [belc hb hlt (hn hz b o e)]; exact h1⟩

/-- What a search holds on to. -/
structure SK (ds es : List Nat) (da ea : Option Addr) (dc ec mb Bm Bt n : Nat) (W : World) : Prop where
  map : ∃ D, W.ownsMap (H := Unit) Try.prog 111 (plainElem Try.prog 3) mb n D ∧ Kept (cntN ds es) D
  bm : Box W Bm [.map (some mb)]
  bt : Box W Bt [.slice da ds.length dc, .slice ea es.length ec]
  fd : Fls W da ds
  fe : Fls W ea es
  ne : Bm ≠ mb ∧ Bt ≠ mb ∧ (ds ≠ [] → ∀ b o, da = some ⟨b, o, none⟩ → b ≠ mb) ∧ (es ≠ [] → ∀ b o, ea = some ⟨b, o, none⟩ → b ≠ mb)
section
variable {ds es : List Nat} {da ea : Option Addr} {dc ec mb Bm Bt n m : Nat} {W W' : World}
theorem SK.mono (h : SK ds es da ea dc ec mb Bm Bt n W) (hn : n ≤ m) : SK ds es da ea dc ec mb Bm Bt m W :=
  ⟨by obtain ⟨D, h1, h2⟩ := h.map; exact ⟨D, h1.mono hn, h2⟩, h.bm, h.bt, h.fd, h.fe, h.ne⟩
theorem SK.below (h : SK ds es da ea dc ec mb Bm Bt n W) (hb : Below W.heap.size W W') : SK ds es da ea dc ec mb Bm Bt n W' :=
  ⟨by obtain ⟨D, h1, h2⟩ := h.map; exact ⟨D, ownsMap_below h1 hb, h2⟩, h.bm.below hb, h.bt.below hb, h.fd.below hb, h.fe.below hb, h.ne⟩
theorem SK.kept (h : SK ds es da ea dc ec mb Bm Bt n W) (hn : n < maxLen) (hl : ds.length ≤ 1000) (hl' : es.length ≤ 1000) (p : Int) :
    Calls Try.prog 97 #[.int .i64 p, .pointer (some ⟨Bm, 0, none⟩), .pointer (some ⟨Bt, 0, none⟩)] W fun e w' => e = .returned (.int .i64 (cntN ds es (atN p))) ∧ SK ds es da ea dc ec mb Bm Bt (n + 1) w' ∧ Bel W.heap.size mb W w' := by
  obtain ⟨D, h1, h2⟩ := h.map
  refine (kept_any W da ea ds es dc ec mb Bm Bt n D p h.fd h.fe hl hl' h1 h2 hn h.bm h.bt).mono ?_
  rintro e w' ⟨rfl, h3, hb⟩
  exact ⟨rfl, ⟨h3, h.bm.bel h.ne.1 hb, h.bt.bel h.ne.2.1 hb, h.fd.bel h.ne.2.2.1 hb, h.fe.bel h.ne.2.2.2 hb, h.ne⟩, hb⟩
end

set_option maxHeartbeats 8000000 in
theorem find_any (w : World) (ds es : List Nat) (da ea : Option Addr) (dc ec mb Bm Bt n : Nat) (lo hi k : Int) (h : SK ds es da ea dc ec mb Bm Bt n w) (hn : n + 64 < maxLen) (hl : ds.length ≤ 1000) (hl' : es.length ≤ 1000) (hlo : -9218868437227405313 ≤ lo) (hhi : hi ≤ 9218868437227405313) (hlh : lo ≤ 9218868437227405313 ∧ -9218868437227405313 ≤ hi) (hml : mb < w.heap.size) :
    Calls Try.prog 81 #[.agg #[.int .i64 lo, .int .i64 hi, .func (.func 97) #[] #[.pointer (some ⟨Bm, 0, none⟩), .pointer (some ⟨Bt, 0, none⟩)]], .int .i64 k] w fun e w' => e = .returned (.tuple #[.float .f64 (atN (fndS (cntN ds es) k 64 lo hi 0).1), .int .i64 (fndS (cntN ds es) k 64 lo hi 0).2]) ∧ SK ds es da ea dc ec mb Bm Bt (n + 64) w' ∧ Bel w.heap.size mb w w' := by
  have x0 : Box (w.alloc (.cells #[.int .i64 lo, .int .i64 hi, .func (.func 97) #[] #[.pointer (some ⟨Bm, 0, none⟩), .pointer (some ⟨Bt, 0, none⟩)]] 100)) w.heap.size [.int .i64 lo, .int .i64 hi, .func (.func 97) #[] #[.pointer (some ⟨Bm, 0, none⟩), .pointer (some ⟨Bt, 0, none⟩)]] := Box.newA w [_, _, _] _ rfl
  have hB0 : Below w.heap.size w (w.alloc (.cells #[.int .i64 lo, .int .i64 hi, .func (.func 97) #[] #[.pointer (some ⟨Bm, 0, none⟩), .pointer (some ⟨Bt, 0, none⟩)]] 100)) := (Below.refl _ _).alloc (Nat.le_refl _) _
  have h0 := h.below hB0
  obtain ⟨R, hR⟩ : ∃ R, R = fndS (cntN ds es) k 64 lo hi 0 := ⟨_, rfl⟩
  rw [← hR]
  go_enter Try.func81, Try.ntmps81
  go_wp2
  generalize w.alloc (.cells #[.int .i64 lo, .int .i64 hi, .func (.func 97) #[] #[.pointer (some ⟨Bm, 0, none⟩), .pointer (some ⟨Bt, 0, none⟩)]] 100) = W0 at *
  have HR := Lib.hid hR
  have HL := Lib.hid (show ds.length ≤ 1000 ∧ es.length ≤ 1000 ∧ n + 64 < maxLen from ⟨hl, hl', hn⟩)
  have hlt0 := x0.lt
  clear hl hl' hn h hR
  obtain ⟨a1, a2, a3⟩ := x0.facts
  refine wp_region_items 6 [(true, 0), (true, 1), (true, 2), (true, 3), (true, 4), (true, 5)] (fun W => ∀ i, W.cell? ⟨w.heap.size, i, none⟩ = ([.int .i64 lo, .int .i64 hi, .func (.func 97) #[] #[.pointer (some ⟨Bm, 0, none⟩), .pointer (some ⟨Bt, 0, none⟩)]] : List Value)[i]?) (by kernel_rfl) (by kernel_rfl) a2 ?_
  iterate 6 (refine iW_take (v := ?_) rfl rfl ?_ ?_; rotate_left; (next => (intro w' hSw; (try dsimp only at hSw); go_simp; (try with_reducible rfl))); (simp only [Act.put, List.setIfInBounds_toArray, List.set_cons_zero, List.set_cons_succ]))
  refine iW_nil ?_
  (try simp only [List.drop])
  go_wp2
  refine NoPanic.normal ?_
  go_wp2
  have hd0 : Below W0.heap.size W0 W0.drew := below_drewN 1 (Below.refl _ _)
  have h1 := h0.below hd0
  have x1 := x0.below hd0
  have hB1 := below_step hB0 hB0.size hd0
  clear h0 x0 hB0 a1 a2 a3 hlt0
  have hp64 : hi - lo ≤ 2 ^ 64 := by rw [show (2 : Int) ^ 64 = 18446744073709551616 from by decide]; omega
  go_loopw [6, 7, 8] (fun s6 s7 s8 wr => ∃ (a b : Int) (f j : Nat), s6 = .int .i64 a ∧ s7 = .int .i64 b ∧ s8 = .int .i64 (j : Int) ∧ R = fndS (cntN ds es) k f a b j ∧ b - a ≤ 2 ^ f ∧ lo ≤ a ∧ b ≤ hi ∧ a ≤ 9218868437227405313 ∧ -9218868437227405313 ≤ b ∧ j + f = 64 ∧ SK ds es da ea dc ec mb Bm Bt (n + j) wr ∧ Bel w.heap.size mb w wr ∧ Box wr w.heap.size [.int .i64 lo, .int .i64 hi, .func (.func 97) #[] #[.pointer (some ⟨Bm, 0, none⟩), .pointer (some ⟨Bt, 0, none⟩)]]) (fun s6 s7 _ _ => (intOf s7 - intOf s6).toNat)
  case atStart => exact ⟨lo, hi, 64, 0, rfl, rfl, rfl, HR.out, hp64, Int.le_refl _, Int.le_refl _, hlh.1, hlh.2, rfl, h1, Bel.of hB1, x1⟩
  case round =>
    obtain ⟨a, b, f, j, rfl, rfl, rfl, hR, hf, ha, hb, ha2, hb2', hj, hS, hB, hx⟩ := hrel
    have HR2 := Lib.hid hR
    clear h1 x1 hB1 hR HR hp64
    obtain ⟨y1, y2, y3⟩ := hx.facts
    have hw1 : wrap64 (b - 1) = b - 1 := by unfold wrap64; omega
    by_cases hlt : a < b - 1
    · cases f with
      | zero => rw [Int.pow_zero] at hf; omega
      | succ f =>
        have t0 : decide (a < b - 1) = true := decide_eq_true hlt
        have hmid : a / 2 + b / 2 + bits .and .i64 (bits .and .i64 a b) 1 = midI a b := mid_bits a b
        have hw2 : wrap64 (a / 2 + b / 2) = a / 2 + b / 2 := by unfold wrap64; omega
        have hw3 : wrap64 (midI a b) = midI a b := by unfold midI wrap64; omega
        have HK := Lib.hid (hS.kept (by have := HL.out.2.2; omega) HL.out.1 HL.out.2.1 (midI a b))
        have hR3 : R = if k < (cntN ds es (atN (midI a b)) : Int) then fndS (cntN ds es) k f a (midI a b) (j + 1) else fndS (cntN ds es) k f (midI a b) b (j + 1) := by rw [HR2.out, fndS, if_pos hlt]
        have hm1 : a < midI a b ∧ midI a b < b := by unfold midI; omega
        have hp : (2 : Int) ^ (f + 1) = 2 * 2 ^ f := by rw [Int.pow_succ, Int.mul_comm]
        have hm2 : midI a b - a ≤ 2 ^ f ∧ b - midI a b ≤ 2 ^ f := by rw [hp] at hf; unfold midI; generalize (2 : Int) ^ f = z at *; omega
        have HM := Lib.hid (And.intro hm1 hm2)
        clear hm1 hm2 hp hf
        go_wp2_with fail
        refine HK.out.mono ?_
        rintro e w2 ⟨rfl, hS2, hb2⟩
        have hx2 := hx.bel (by omega) hb2
        have hBB := bel_step hB hB.size hb2
        have hjb : j + 1 ≤ 64 := by omega
        clear HK hS hx hB y1 y2 y3
        by_cases hk : k < (cntN ds es (atN (midI a b)) : Int)
        · rw [if_pos hk] at hR3
          have t1 := decide_eq_true hk
          have HR3 := Lib.hid hR3
          clear hk hR3
          generalize cntN ds es (atN (midI a b)) = cn at *
          generalize midI a b = m at *
          go_wp2
          go_roundw
          case rel => exact ⟨a, m, f, j + 1, rfl, rfl, by go_num, HR3.out, HM.out.2.1, ha, by have := HM.out.1; omega, ha2, by have := HM.out.1; omega, by omega, hS2, hBB, hx2⟩
          case measure => have := HM.out.1; simp [intOf]; omega
        · rw [if_neg hk] at hR3
          have t1 := decide_eq_false hk
          have HR3 := Lib.hid hR3
          clear hk hR3
          generalize cntN ds es (atN (midI a b)) = cn at *
          generalize midI a b = m at *
          go_wp2
          go_roundw
          case rel => exact ⟨m, b, f, j + 1, rfl, rfl, by go_num, HR3.out, HM.out.2.2, by have := HM.out.1; omega, hb, by have := HM.out.1; omega, hb2', by omega, hS2, hBB, hx2⟩
          case measure => have := HM.out.1; simp [intOf]; omega
    · have t0 : decide (a < b - 1) = false := decide_eq_false hlt
      have hR3 : R = (a, j) := by rw [HR2.out]; exact fndS_end hlt _ _
      have HR3 := Lib.hid hR3
      clear hR3 hlt
      go_wp2_with (go_at_call 45; refine (At13_any a _).mono ?_; rintro e w' ⟨rfl, rfl⟩)
      refine bodyPost_ret (results_tmp2 rfl _ _ _) rfl ⟨?_, hS.mono (by omega), hB⟩
      rw [HR3.out]; rfl
end Go.Proofs.Ytogkmddhgfenkaa
